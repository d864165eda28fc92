/-
  Which equations packets tell: those that are sent, and those that a relay says; what a relay says is in the span of what it heard.
-/
import Derived.Test.YtddopoojmadpjaaGreatDoorSpeaks
namespace Go.Proofs.YtddopoojmadpjaaGreatDoor
open Go.RowKit
set_option linter.unusedVariables false

theorem Goods.nil (n s q id : Nat) (D : List UInt8 → List UInt8) : Goods n s q id D [] [] := ⟨rfl, fun i l v h _ => by simp at h⟩
theorem Goods.append {n s q id : Nat} {D : List UInt8 → List UInt8} {ls vs ls' vs' : List (List UInt8)} (h : Goods n s q id D ls vs) (h' : Goods n s q id D ls' vs') : Goods n s q id D (ls ++ ls') (vs ++ vs') := by
  refine ⟨by rw [List.length_append, List.length_append, h.1, h'.1], fun i l v hl hv => ?_⟩
  by_cases hi : i < ls.length
  · rw [List.getElem?_append_left hi] at hl
    rw [List.getElem?_append_left (by rw [h.1]; exact hi)] at hv
    exact h.2 i l v hl hv
  · rw [List.getElem?_append_right (by omega)] at hl
    rw [List.getElem?_append_right (by rw [h.1]; omega), h.1] at hv
    exact h'.2 _ l v hl hv
theorem Goods.one {n s q id : Nat} {D : List UInt8 → List UInt8} {l v : List UInt8} (h : Goodp n s q id D l v) (hl : l.length ≤ 1000000) : Goods n s q id D [l] [v] :=
  ⟨rfl, fun i l' v' h1 h2 => by
    match i, h1, h2 with
    | 0, h1, h2 => simp at h1 h2; subst h1 h2; exact ⟨h, hl⟩
    | i + 1, h1, _ => simp at h1⟩
theorem Goods.vec {n s q id : Nat} {D : List UInt8 → List UInt8} {ls vs : List (List UInt8)} (h : Goods n s q id D ls vs) : ∀ v, v ∈ vs → v.length = q := fun v hv => by
  obtain ⟨i, hi, rfl⟩ := List.getElem_of_mem hv
  obtain ⟨⟨_, _, _, _, _, _, _, _, _, _, h2⟩, _⟩ := h.2 i (ls[i]'(by rw [← h.1]; exact hi)) vs[i] (by simp) (by simp)
  exact h2

/-- the symbols' data. -/
abbrev dat (obj : List UInt8) (s q : Nat) : List UInt8 → List UInt8 := fun v => combL v (cutL obj s q) s
theorem lin_dat (obj : List UInt8) (s q : Nat) : Lin (dat obj s q) q s := lin_comb cut_same

theorem sentL_short {n s q id : Nat} {obj : List UInt8} {next m : Nat} {l : List UInt8} {sd : Nat} (hs : s ≤ 65535) (hl : l.length ≤ 5000) : (sentL n s q id obj next m l sd).length ≤ 1000000 := by
  have hLP : (combL (rowVec m l sd q) (cutL obj s q) s).length = s := combL_length cut_same
  rw [sentL, packText_length, hLP]
  have : (rowText m l sd).length ≤ 5000 := by unfold rowText; split; omega; exact (by decide : 8 ≤ 5000)
  omega

/-- what is sent from number k on; the vectors of it. -/
def sentFr (n s q id : Nat) (obj : List UInt8) (k : Nat) (ss : List Src) : Nat → List (List UInt8)
  | 0 => []
  | j + 1 => if okSrc q (ss.getD j dSrc) = true then sentFr n s q id obj k ss j ++ [sentL n s q id obj (k + nextTo q ss j) (ss.getD j dSrc).m (ss.getD j dSrc).l (ss.getD j dSrc).sd] else sentFr n s q id obj k ss j
def vecTo (q : Nat) (ss : List Src) : Nat → List (List UInt8)
  | 0 => []
  | j + 1 => if okSrc q (ss.getD j dSrc) = true then vecTo q ss j ++ [rowVec (ss.getD j dSrc).m (ss.getD j dSrc).l (ss.getD j dSrc).sd q] else vecTo q ss j
theorem sentFr_zero (n s q id : Nat) (obj : List UInt8) (ss : List Src) : ∀ j, sentFr n s q id obj 0 ss j = sentTo n s q id obj ss j
  | 0 => rfl
  | j + 1 => by rw [sentFr, sentTo, sentFr_zero n s q id obj ss j, Nat.zero_add]
theorem sentFr_len (n s q id : Nat) (obj : List UInt8) (k : Nat) (ss : List Src) : ∀ j, (sentFr n s q id obj k ss j).length = nextTo q ss j
  | 0 => rfl
  | j + 1 => by rw [sentFr, nextTo]; split <;> simp [sentFr_len n s q id obj k ss j]
theorem Srcs.sd {w : World} {a : Option Addr} {len cap : Nat} {ss : List Src} (h : Srcs w a len cap ss) : ∀ s, s ∈ ss → s.sd < 18446744073709551616 := fun s hs => by
  obtain ⟨i, hi, rfl⟩ := List.getElem_of_mem hs
  have hl := h.1
  cases a with
  | none => have := h.2.2.2.1 rfl; omega
  | some x =>
    obtain ⟨_, _, _, _, _, _, _, hsd⟩ := h.2.2.2.2 x rfl i ss[i] (by simp)
    exact hsd
theorem goods_fr {n s q id : Nat} {obj : List UInt8} {k : Nat} {ss : List Src} (hP : planErr n s q = 0) (hid : id < 4294967296) (hk : k + 20 ≤ 4294967296) (hf : fewOk ss) (hsd : ∀ s, s ∈ ss → s.sd < 18446744073709551616) : ∀ j, j ≤ ss.length → Goods n s q id (dat obj s q) (sentFr n s q id obj k ss j) (vecTo q ss j)
  | 0, _ => Goods.nil _ _ _ _ _
  | j + 1, h => by
    have ih := goods_fr (obj := obj) hP hid hk hf hsd j (by omega)
    obtain ⟨_, hs2, _, _⟩ := plan_bounds hP
    rw [sentFr, vecTo]
    by_cases hok : okSrc q (ss.getD j dSrc) = true
    · rw [if_pos hok, if_pos hok]
      have hx : ss.getD j dSrc = ss[j]'(by omega) := by rw [List.getD_eq_getElem?_getD, List.getElem?_eq_getElem (by omega)]; rfl
      have hm : ss[j]'(by omega) ∈ ss := List.getElem_mem _
      rw [hx] at hok ⊢
      have hl := hf.1 _ hm
      have hnx := nextTo_le q ss j
      have hE : rowErr (ss[j]'(by omega)).m (ss[j]'(by omega)).l.length q = 0 := of_decide_eq_true hok
      have := hf.2
      exact ih.append (Goods.one (goodp_sent rfl (by omega) hid (by omega) (hsd _ hm) hP hE) (sentL_short hs2 (by omega)))
    · rw [if_neg hok, if_neg hok]; exact ih

/-- what a relay says, as vectors. -/
def wvTo (q : Nat) (V ds : List (List UInt8)) (j : Nat) : List (List UInt8) := (List.range j).map fun i => combL (padTo V.length (ds.getD i [])) V q
theorem wvTo_succ (q : Nat) (V ds : List (List UInt8)) (j : Nat) : wvTo q V ds (j + 1) = wvTo q V ds j ++ [combL (padTo V.length (ds.getD j [])) V q] := by simp [wvTo, List.range_succ]
theorem goods_said {n s q id : Nat} {obj : List UInt8} {V : List (List UInt8)} {first : Nat} {ds : List (List UInt8)} (hP : planErr n s q = 0) (hid : id < 4294967296) (hV : Red V q) : ∀ j, first + j ≤ 4294967296 → Goods n s q id (dat obj s q) (saidTo n s q id obj V first ds j) (wvTo q V ds j)
  | 0, _ => Goods.nil _ _ _ _ _
  | j + 1, h => by
    have ih := goods_said (obj := obj) (ds := ds) (first := first) hP hid hV j (by omega)
    obtain ⟨_, hs2, hq1, hq2⟩ := plan_bounds hP
    rw [saidTo_succ, wvTo_succ]
    have hvl : (combL (padTo V.length (ds.getD j [])) V q).length = q := combL_length hV.len
    have hrv : rowVec 0 (combL (padTo V.length (ds.getD j [])) V q) 0 q = combL (padTo V.length (ds.getD j [])) V q := by unfold rowVec; rw [if_pos rfl]
    have hE : rowErr 0 q q = 0 := by
      have h : widthE 0 (q : Int) = 0 := by unfold widthE; rw [if_neg (by omega), if_neg (by omega)]
      unfold rowErr; rw [if_neg (by rw [h]; simp), if_neg (by simp)]
    have hg := goodp_sent (n := n) (s := s) (obj := obj) (next := first + j) (sd := 0) (m := 0) (l := combL (padTo V.length (ds.getD j [])) V q) hvl (by omega) hid (by omega) (by decide) hP hE
    rw [hrv] at hg
    exact ih.append (Goods.one hg (sentL_short hs2 (by omega)))
/-- .. in the span of what it heard. -/
theorem said_span {q : Nat} {V ds : List (List UInt8)} (hV : ∀ v, v ∈ V → v.length = q) (j : Nat) : ∀ x, In (wvTo q V ds j) x → Sp (In V) x := by
  rintro x ⟨v, hv, rfl⟩
  obtain ⟨i, _, rfl⟩ := List.mem_map.1 hv
  rw [fn_combL hV]
  exact cf_sp V _ V.length (Nat.le_refl _)
end Go.Proofs.YtddopoojmadpjaaGreatDoor
