/-
  Ahead of a drawn region: the cells of blocks that are known whole, in whatever world that it turns into.
-/
import Derived.Test.YtdmijoochgmhiaaGreatDoorPacketRead
import Derived.Test.YtdmijoochgmhiaaGreatDoorVec
namespace Go.Proofs.YtdmijoochgmhiaaGreatDoor
open Go.RowKit

section
variable {Rel : World → World → Prop} {W0 : World}
theorem up_two (hst : ∀ {w : World}, Rel W0.drew w → ∀ {p : Addr} {v : Value}, W0.cell? p = some v → w.cell? p = some v) {R : Nat} {v0 v1 : Value} {t : TypeId} (h : W0.heap[R]? = some (.cells #[v0, v1] t)) :
    (∀ x : Up Rel W0.drew, x.w.cell? ⟨R, 0, none⟩ = some v0) ∧ (∀ x : Up Rel W0.drew, x.w.cell? ⟨R, 1, none⟩ = some v1) := by
  obtain ⟨h0, h1, _⟩ := two_cells h
  exact ⟨fun x => hst x.rel h0, fun x => hst x.rel h1⟩
theorem up_four (hst : ∀ {w : World}, Rel W0.drew w → ∀ {p : Addr} {v : Value}, W0.cell? p = some v → w.cell? p = some v) {R : Nat} {v0 v1 v2 v3 : Value} {t : TypeId} (h : W0.heap[R]? = some (.cells #[v0, v1, v2, v3] t)) :
    (∀ x : Up Rel W0.drew, x.w.cell? ⟨R, 0, none⟩ = some v0) ∧ (∀ x : Up Rel W0.drew, x.w.cell? ⟨R, 1, none⟩ = some v1) ∧ (∀ x : Up Rel W0.drew, x.w.cell? ⟨R, 2, none⟩ = some v2) ∧ (∀ x : Up Rel W0.drew, x.w.cell? ⟨R, 3, none⟩ = some v3) := by
  obtain ⟨h0, h1, h2, h3⟩ := p_four_cells h
  exact ⟨fun x => hst x.rel h0, fun x => hst x.rel h1, fun x => hst x.rel h2, fun x => hst x.rel h3⟩
theorem up_seven (hst : ∀ {w : World}, Rel W0.drew w → ∀ {p : Addr} {v : Value}, W0.cell? p = some v → w.cell? p = some v) {R : Nat} {v0 v1 v2 v3 v4 v5 v6 : Value} {t : TypeId} (h : W0.heap[R]? = some (.cells #[v0, v1, v2, v3, v4, v5, v6] t)) :
    (∀ x : Up Rel W0.drew, x.w.cell? ⟨R, 0, none⟩ = some v0) ∧ (∀ x : Up Rel W0.drew, x.w.cell? ⟨R, 1, none⟩ = some v1) ∧ (∀ x : Up Rel W0.drew, x.w.cell? ⟨R, 2, none⟩ = some v2) ∧ (∀ x : Up Rel W0.drew, x.w.cell? ⟨R, 3, none⟩ = some v3) ∧
      (∀ x : Up Rel W0.drew, x.w.cell? ⟨R, 4, none⟩ = some v4) ∧ (∀ x : Up Rel W0.drew, x.w.cell? ⟨R, 5, none⟩ = some v5) ∧ (∀ x : Up Rel W0.drew, x.w.cell? ⟨R, 6, none⟩ = some v6) := by
  obtain ⟨h0, h1, h2, h3, h4, h5, h6, _⟩ := seven_cells h
  exact ⟨fun x => hst x.rel h0, fun x => hst x.rel h1, fun x => hst x.rel h2, fun x => hst x.rel h3, fun x => hst x.rel h4, fun x => hst x.rel h5, fun x => hst x.rel h6⟩
end
theorem gr_st {W0 : World} {w : World} (h : Gr W0.drew w) {p : Addr} {v : Value} (hp : W0.cell? p = some v) : w.cell? p = some v := Gr.cell h hp
end Go.Proofs.YtdmijoochgmhiaaGreatDoor
