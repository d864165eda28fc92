/-
  elim.Elim.Put in general.
-/
import Derived.Test.YtddopoojmadpjaaGreatDoorInsert
namespace Go.Proofs.YtddopoojmadpjaaGreatDoor
open Go.RowKit
set_option linter.unusedVariables false

/-- The place that the search finds is the plain law's. -/
theorem insAt_place {V : List (List UInt8)} {n : List UInt8} {i : Nat} (hi : i ≤ V.length) (h1 : Place V (leadL n) i) (h2 : PlaceUp V (leadL n) i) : insAt n V = i := by
  unfold insAt
  rcases Nat.lt_or_eq_of_le hi with hlt | rfl
  · exact (List.findIdx_eq hlt).2 ⟨decide_eq_true (h2 i hlt (Nat.le_refl _)), fun j hj => decide_eq_false (h1 j (by omega) hj)⟩
  · refine List.findIdx_eq_length.2 fun x hx => ?_
    obtain ⟨j, hj, rfl⟩ := List.getElem_of_mem hx
    exact decide_eq_false (h1 j hj hj)

theorem Bs.apart {w w' : World} {S : Nat → Prop} {R : Nat} {rv : Value} {a : Option Addr} {n c : Nat} {l : List UInt8} (h : Bs w a n c l) (hp : Apt S rv a) (hrv : rv.ownBlock = some R) (hb : ∀ b, b ≠ R → w'.heap[b]? = w.heap[b]?) : Bs w' a n c l := by
  refine ⟨h.1, h.2.1, h.2.2.1, h.2.2.2.1, fun x hx i u hu => ?_⟩
  have hc := h.2.2.2.2 x hx i u hu
  have hne : (x.add i).block ≠ R := by
    have := (hp x hx).1
    rw [hrv] at this
    rw [Addr.add_block]
    exact fun h => this (by rw [h])
  rw [World.cell?_of_block (hb _ hne)]
  exact hc

/-- one row turns. -/
theorem PrV.set {w : World} {S : Nat → Prop} {k t : Nat} {rv : Value} {V : List (List UInt8)} {D : List UInt8 → List UInt8} (h : PrV w S rv V D k t) {j : Nat} (hj : j < V.length) {R n cap : Nat} (hrv : rv = .slice (some ⟨R, 0, none⟩) n cap) (v' : List UInt8) {a1 : Option Addr} {c1 : Nat} {a2 : Option Addr} {c2 : Nat} (b1 : Bs w a1 k c1 v') (b2 : Bs w a2 t c2 (D v')) (p1 : Apt S rv a1) (p2 : Apt S rv a2) :
    PrV ((w.setCell ⟨R, j * 2, none⟩ (.slice a1 k c1)).setCell ⟨R, j * 2 + 1, none⟩ (.slice a2 t c2)) S rv (V.set j v') D k t := by
  obtain ⟨xs, h1, h0, h2⟩ := h
  rcases h1.2 with ⟨rfl, _⟩ | ⟨g, cap', cur, hv, hg, hh, hn, hm, hs, ht⟩
  · cases hrv
  · rw [hrv] at hv
    cases hv
    have hw : (w.setCell ⟨R, j * 2, none⟩ (.slice a1 k c1)).setCell ⟨R, j * 2 + 1, none⟩ (.slice a2 t c2) = w.setRow R ((cur.setIfInBounds (j * 2) (.slice a1 k c1)).setIfInBounds (j * 2 + 1) (.slice a2 t c2)) := by
      rw [setCell_eq_setRow w R (j * 2) cur _ _ _ hh, setCell_eq_setRow _ R (j * 2 + 1) _ _ _ _ (setRow_heap w R cur _ _ _ hh), setRow_setRow]
    rw [hw]
    have hb : ∀ b, b ≠ R → (w.setRow R ((cur.setIfInBounds (j * 2) (.slice a1 k c1)).setIfInBounds (j * 2 + 1) (.slice a2 t c2))).heap[b]? = w.heap[b]? := fun b hb => setRow_other _ _ _ _ hb
    have hob : rv.ownBlock = some R := by rw [hrv]; rfl
    refine ⟨(xs.set (j * 2) (.slice a1 k c1)).set (j * 2 + 1) (.slice a2 t c2), ⟨by simp [h1.1], .inr ⟨R, cap, _, by rw [hrv]; simp, hg, setRow_heap w R cur _ _ _ hh, by simpa using hn, hm, by simpa using hs, ?_⟩⟩, h0, ?_⟩
    · simp only [Array.toList_setIfInBounds, List.length_set]
      rw [List.take_set, List.take_set, ht]
    · intro i v hv
      rw [List.getElem?_set] at hv
      have hxl := h1.1
      split at hv
      · next he =>
        subst he
        cases hv
        exact ⟨a1, c1, a2, c2, by rw [List.getElem?_set_ne (by omega), List.getElem?_set_self (by omega)], by rw [List.getElem?_set_self (by rw [List.length_set]; omega)], b1.apart p1 hob hb, b2.apart p2 hob hb, p1, p2⟩
      · next he =>
        obtain ⟨a1', c1', a2', c2', e1, e2, q1, q2, r1, r2⟩ := h2 i v hv
        exact ⟨a1', c1', a2', c2', by rw [List.getElem?_set_ne (by omega), List.getElem?_set_ne (by omega)]; exact e1, by rw [List.getElem?_set_ne (by omega), List.getElem?_set_ne (by omega)]; exact e2, q1.apart r1 hob hb, q2.apart r2 hob hb, r1, r2⟩

/-- one row comes in: what Insert did (`Ins`), read as rows. -/
theorem PrV.ins {w w' : World} {S : Nat → Prop} {k t : Nat} {rv rv' : Value} {V : List (List UInt8)} {D : List UInt8 → List UInt8} {xs : List Value} {i : Nat} (hi : i ≤ V.length) (hx : xs.length = 2 * V.length)
    (h2 : ∀ j v, V[j]? = some v → ∃ (a1 : Option Addr) (c1 : Nat) (a2 : Option Addr) (c2 : Nat), xs[j * 2]? = some (.slice a1 k c1) ∧ xs[j * 2 + 1]? = some (.slice a2 t c2) ∧ Bs w' a1 k c1 v ∧ Bs w' a2 t c2 (D v) ∧ Apt S rv' a1 ∧ Apt S rv' a2)
    (u : List UInt8) {a1 : Option Addr} {c1 : Nat} {a2 : Option Addr} {c2 : Nat} (b1 : Bs w' a1 k c1 u) (b2 : Bs w' a2 t c2 (D u)) (p1 : Apt S rv' a1) (p2 : Apt S rv' a2) (h0 : ∀ b, rv'.ownBlock = some b → S b)
    (ho : w'.ownsRow 0 113 2 rv' (V.length + 1) (xs.take (2 * i) ++ [.slice a1 k c1, .slice a2 t c2] ++ xs.drop (2 * i))) : PrV w' S rv' (V.take i ++ u :: V.drop i) D k t := by
  have hl : (V.take i ++ u :: V.drop i).length = V.length + 1 := by simp only [List.length_append, List.length_take, List.length_cons, List.length_drop]; omega
  have ht2 : (xs.take (2 * i)).length = 2 * i := by rw [List.length_take]; omega
  have ht : (V.take i).length = i := by rw [List.length_take]; omega
  refine ⟨_, by rw [hl]; exact ho, h0, fun j v hv => ?_⟩
  rcases Nat.lt_trichotomy j i with hlt | rfl | hgt
  · rw [List.getElem?_append_left (by omega), List.getElem?_take_of_lt hlt] at hv
    obtain ⟨q1, d1, q2, d2, e1, e2, r⟩ := h2 j v hv
    refine ⟨q1, d1, q2, d2, ?_, ?_, r⟩
    · rw [List.append_assoc, List.getElem?_append_left (by omega), List.getElem?_take_of_lt (by omega)]; exact e1
    · rw [List.append_assoc, List.getElem?_append_left (by omega), List.getElem?_take_of_lt (by omega)]; exact e2
  · rw [List.getElem?_append_right (by omega), ht, Nat.sub_self] at hv
    cases hv
    refine ⟨a1, c1, a2, c2, ?_, ?_, b1, b2, p1, p2⟩
    · rw [List.append_assoc, List.getElem?_append_right (by omega), ht2, show j * 2 - 2 * j = 0 by omega]; rfl
    · rw [List.append_assoc, List.getElem?_append_right (by omega), ht2, show j * 2 + 1 - 2 * j = 1 by omega]; rfl
  · rw [List.getElem?_append_right (by omega), ht, show j - i = (j - i - 1) + 1 by omega, List.getElem?_cons_succ, List.getElem?_drop, show i + (j - i - 1) = j - 1 by omega] at hv
    obtain ⟨q1, d1, q2, d2, e1, e2, r⟩ := h2 (j - 1) v hv
    refine ⟨q1, d1, q2, d2, ?_, ?_, r⟩
    · rw [List.append_assoc, List.getElem?_append_right (by omega), ht2, List.getElem?_append_right (by simp; omega), List.getElem?_drop, show 2 * i + (j * 2 - 2 * i - [Value.slice a1 k c1, .slice a2 t c2].length) = (j - 1) * 2 by simp; omega]; exact e1
    · rw [List.append_assoc, List.getElem?_append_right (by omega), ht2, List.getElem?_append_right (by simp; omega), List.getElem?_drop, show 2 * i + (j * 2 + 1 - 2 * i - [Value.slice a1 k c1, .slice a2 t c2].length) = (j - 1) * 2 + 1 by simp; omega]; exact e2
end Go.Proofs.YtddopoojmadpjaaGreatDoor
