/-
  Blocks of one cell, known whole.
-/
import Derived.Test.YtdmijoochgmhiaaRegion
namespace Go.Proofs.Ytdmijoochgmhiaa
open Go.RowKit
set_option linter.unusedVariables false

theorem cell1 {W : World} {R : Nat} {v : Value} {t : TypeId} (h : W.heap[R]? = some (.cells #[v] t)) : W.cell? ⟨R, 0, none⟩ = some v ∧ ∀ i, W.frozen? ⟨R, i, none⟩ = false := by
  refine ⟨?_, fun i => ?_⟩ <;> simp [World.cell?, World.frozen?, h]
theorem set1 {W : World} {R : Nat} {v : Value} {t : TypeId} (h : W.heap[R]? = some (.cells #[v] t)) (u : Value) :
    GrB W R (W.setCell ⟨R, 0, none⟩ u) ∧ (W.setCell ⟨R, 0, none⟩ u).heap[R]? = some (.cells #[u] t) := by
  refine ⟨(GrB.refl W R).set (.inl rfl) _, ?_⟩
  have hlt := lt_of_block h
  have h' : W.heap[R] = .cells #[v] t := by simpa [Array.getElem?_eq_getElem hlt] using h
  show (W.heap.modify R _)[R]? = _
  rw [Array.getElem?_eq_getElem (by simpa using hlt), Array.getElem_modify_self, h']
  rfl
end Go.Proofs.Ytdmijoochgmhiaa
