/-
  append of many slices of bytes to a slice of such slices of one's own.
-/
import Derived.Test.YtddopoojmadpjaaGreatDoorRelay
namespace Go.Proofs.YtddopoojmadpjaaGreatDoor
open Go.RowKit
set_option linter.unusedVariables false

theorem run_append_rowsM {w1 w : World} (ty : TypeId) {v : Value} {ls : List (List UInt8)} (h : RowsB w1 w v ls) {a : Option Addr} {m c : Nat} {ms : List (List UInt8)} (hb : Bss w1 a m c ms) (hg : Gr w1 w) (hp : ∀ l, l ∈ ms → 0 < l.length)
    (hlen : (ls.length + m) * 24 ≤ 140737488355328) :
    ∃ v' w', (Builtin.append_ #[25, 25] ty #[v, .slice a m c]).run Tryz.prog w = .ok v' w' ∧ RowsB w1 w' v' (ls ++ ms) ∧ w.grownBy w' v.ownBlock ∧ (v'.ownBlock = v.ownBlock ∨ v'.ownBlock = some w.heap.size) := by
  obtain ⟨i, hi, hz0, hz1, hz2⟩ := info_parts infoSlice
  obtain ⟨xs, h1, h2⟩ := h
  have hml := hb.1
  cases a with
  | none =>
    have hc : c = 0 := hb.2.2.2.1 rfl
    have hm : m = 0 := by have := hb.2.1; omega
    subst hc; subst hm
    obtain rfl : ms = [] := List.eq_nil_of_length_eq_zero hml
    exact ⟨v, w, run_append_owned_none (P := Tryz.prog) w _ _ ty _ i 1 Tryz.underlying25 hi v _ _ h1, by rw [List.append_nil]; exact ⟨xs, h1, h2⟩, World.grownBy.refl _ _, .inl rfl⟩
  | some ad =>
    -- the cells of the source
    have hcell : ∀ j l, ms[j]? = some l → ∃ a' n' c', w1.cell? (ad.add j) = some (.slice a' n' c') ∧ Bs w1 a' n' c' l := fun j l hl => hb.2.2.2.2 ad rfl j l hl
    obtain ⟨ys, hyl, hy⟩ : ∃ ys : List Value, ys.length = ms.length ∧ ∀ j l, ms[j]? = some l → ∃ a' n' c', ys[j]? = some (.slice a' n' c') ∧ w1.cell? (ad.add j) = some (.slice a' n' c') ∧ Bs w1 a' n' c' l := by
      refine ⟨(List.range ms.length).map fun j => (w1.cell? (ad.add j)).getD (.slice none 0 0), by simp, fun j l hl => ?_⟩
      obtain ⟨a', n', c', hc, hbs⟩ := hcell j l hl
      have hj := (List.getElem?_eq_some_iff.1 hl).1
      exact ⟨a', n', c', by rw [List.getElem?_map, List.getElem?_range hj]; simp [hc], hc, hbs⟩
    have hget : ∀ j u, ys[j]? = some u → ∃ l, ms[j]? = some l := fun j u hu => by
      have := (List.getElem?_eq_some_iff.1 hu).1
      exact ⟨ms[j]'(by omega), List.getElem?_eq_getElem _⟩
    obtain ⟨v', w', hr, h3, h4, _, h5⟩ := run_append_own_at (P := Tryz.prog) w w1.heap.size _ ty _ i (.slice none 0 0) 1 24 Tryz.underlying25 hi hz0 hz1 hz2 rfl (by decide) v _ _ h1 ad m c ys (by omega)
      (fun j u hu => by
        obtain ⟨l, hl⟩ := hget j u hu
        obtain ⟨a', n', c', e1, e2, _⟩ := hy j l hl
        rw [e1] at hu; cases hu
        exact hg.cell e2) (fun u hu => by
        obtain ⟨j, hj, rfl⟩ := List.getElem_of_mem hu
        obtain ⟨l, hl⟩ := hget j ys[j] (by simp)
        obtain ⟨a', n', c', e1, _⟩ := hy j l hl
        rw [List.getElem?_eq_getElem hj] at e1
        rw [Option.some.inj e1]; rfl) (by unfold maxLen; omega) hlen hg.size
    have hxl : xs.length = ls.length := by simpa using h1.1
    refine ⟨v', w', hr, ⟨xs ++ ys, by rw [List.length_append, hml]; exact h3, fun j l' hl' => ?_⟩, h4, h5⟩
    by_cases hj : j < ls.length
    · rw [List.getElem?_append_left hj] at hl'
      obtain ⟨a', n', c', e, r⟩ := h2 j l' hl'
      exact ⟨a', n', c', by rw [List.getElem?_append_left (by omega)]; exact e, r⟩
    · rw [List.getElem?_append_right (by omega)] at hl'
      obtain ⟨a', n', c', e1, _, e3⟩ := hy _ l' hl'
      have hpos := hp l' (List.mem_of_getElem? hl')
      exact ⟨a', n', c', by rw [List.getElem?_append_right (by omega), hxl]; exact e1, e3, e3.lt_ (by rw [← e3.1]; exact hpos)⟩
end Go.Proofs.YtddopoojmadpjaaGreatDoor
