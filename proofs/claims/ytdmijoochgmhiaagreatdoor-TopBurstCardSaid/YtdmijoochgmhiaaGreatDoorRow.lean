/-
  The walks of package row: Width, Explicit, Seeded, fits, Vector, Write, Same; and of the document's Width.
-/
import Derived.Test.YtdmijoochgmhiaaGreatDoorHead
import Derived.Test.YtdmijoochgmhiaaGreatDoorSeed
namespace Go.Proofs.YtdmijoochgmhiaaGreatDoor
open Go.RowKit

/-- with how many bytes a source is written; what is wrong. -/
def widthN (mode : Nat) (k : Int) : Int := if 1 < mode then 0 else if k < 1 ∨ 4096 < k then 0 else if mode = 1 then 8 else k
def widthE (mode : Nat) (k : Int) : Nat := if 1 < mode then 8 else if k < 1 ∨ 4096 < k then 2 else 0
def rowErr (mode len : Nat) (k : Int) : Nat := if widthE mode k ≠ 0 then widthE mode k else if mode = 0 ∧ (len : Int) ≠ k then 4 else 0
theorem widthE_zero {mode : Nat} {k : Int} (h : widthE mode k = 0) : mode ≤ 1 ∧ 1 ≤ k ∧ k ≤ 4096 := by
  unfold widthE at h
  by_cases a : 1 < mode
  · rw [if_pos a] at h; cases h
  rw [if_neg a] at h
  by_cases b : k < 1 ∨ 4096 < k
  · rw [if_pos b] at h; cases h
  omega
theorem widthE_ok {mode : Nat} {k : Int} (h : mode ≤ 1) (h1 : 1 ≤ k) (h2 : k ≤ 4096) : widthE mode k = 0 := by
  unfold widthE; rw [if_neg (by omega), if_neg (by omega)]
theorem rowErr_zero {mode len : Nat} {k : Int} (h : rowErr mode len k = 0) : widthE mode k = 0 ∧ (mode = 0 → (len : Int) = k) := by
  unfold rowErr at h
  by_cases a : widthE mode k ≠ 0
  · rw [if_pos a] at h; exact absurd h a
  rw [if_neg a] at h
  by_cases b : mode = 0 ∧ (len : Int) ≠ k
  · rw [if_pos b] at h; cases h
  exact ⟨by omega, fun hm => by by_cases c : (len : Int) = k; exact c; exact absurd ⟨hm, c⟩ b⟩

set_option maxHeartbeats 1000000 in
theorem width_any (mode : Nat) (k : Int) (w : World) :
    Calls Tryz.prog 91 #[.int .u8 (mode : Int), .int .i64 k] w fun e w' => e = .returned (.tuple #[.int .i64 (widthN mode k), .int .i64 (widthE mode k : Nat)]) ∧ w = w' := by
  by_cases a : 1 < mode
  · have hn : Hid (widthN mode k = 0) := by show _ = _; rw [widthN, if_pos a]
    have he : Hid (widthE mode k = 8) := by show _ = _; rw [widthE, if_pos a]
    have t0 : ((mode : Int) != 0) = true := by rw [bne_iff_ne]; omega
    have t1 : ((mode : Int) != 1) = true := by rw [bne_iff_ne]; omega
    clear a
    go_enter Tryz.func91, Tryz.ntmps91
    go_wp2
    go_ret2
    exact ⟨by rw [hn.out, he.out]; rfl, rfl⟩
  have hmm : mode = 0 ∨ mode = 1 := by omega
  by_cases b : k < 1
  · have hn : Hid (widthN mode k = 0) := by show _ = _; rw [widthN, if_neg a, if_pos (.inl b)]
    have he : Hid (widthE mode k = 2) := by show _ = _; rw [widthE, if_neg a, if_pos (.inl b)]
    clear a
    rcases hmm with rfl | rfl
    all_goals
      go_enter Tryz.func91, Tryz.ntmps91
      go_wp2
      go_ret2
      exact ⟨by rw [hn.out, he.out]; rfl, rfl⟩
  by_cases c : 4096 < k
  · have hn : Hid (widthN mode k = 0) := by show _ = _; rw [widthN, if_neg a, if_pos (.inr c)]
    have he : Hid (widthE mode k = 2) := by show _ = _; rw [widthE, if_neg a, if_pos (.inr c)]
    clear a
    rcases hmm with rfl | rfl
    all_goals
      go_enter Tryz.func91, Tryz.ntmps91
      go_wp2
      go_ret2
      exact ⟨by rw [hn.out, he.out]; rfl, rfl⟩
  have he : Hid (widthE mode k = 0) := by show _ = _; rw [widthE, if_neg a, if_neg (by omega)]
  have hn : Hid (widthN mode k = if mode = 1 then 8 else k) := by show _ = _; rw [widthN, if_neg a, if_neg (by omega)]
  clear a
  rcases hmm with rfl | rfl
  · go_enter Tryz.func91, Tryz.ntmps91
    go_wp2
    go_ret2
    exact ⟨by rw [hn.out, he.out]; rfl, rfl⟩
  · go_enter Tryz.func91, Tryz.ntmps91
    go_wp2
    go_ret2
    exact ⟨by rw [hn.out, he.out]; rfl, rfl⟩
set_option maxRecDepth 100000 in
set_option maxHeartbeats 1000000 in
theorem explicit_any (a : Option Addr) (len cap : Nat) (l : List UInt8) (w : World) (hs : Bs w a len cap l) (hm : len ≤ 140737488355328) :
    Calls Tryz.prog 56 #[.slice a len cap] w fun e w' => ∃ a' cap', e = .returned (.agg #[.int .u8 0, .slice a' len cap', .int .u64 0]) ∧ Bs w' a' len cap' l ∧ (∀ y, a' = some y → w.heap.size ≤ y.block) ∧ Gr w w' := by
  go_enter Tryz.func56, Tryz.ntmps56
  go_wp2_with fail
  refine (sliceClone_own a len cap l _ (hs.below ((Gr.refl w).alloc _)) hm).mono ?_
  rintro e w1 ⟨v, rfl, ho, hg⟩
  obtain ⟨a1, cap1, rfl, _⟩ := ho.slice
  obtain ⟨hb, ha⟩ := ho.bs'
  rw [hs.1] at hb ⊢
  have hA := hg.heap (heap_alloc_new w _)
  have hgw : Gr w w1 := ((Gr.refl w).alloc _).trans hg
  obtain ⟨c0, c1, c2, f0⟩ := three_cells hA
  obtain ⟨hgb, hh⟩ := three_set hA (.int .u8 0) (.slice a1 len cap1) (.int .u64 0)
  have hg3 := hgw.grb hgb (Nat.le_refl _)
  have hb3 := hb.grb hgb (fun y hy => by have := ha y hy; simp at this; omega)
  obtain ⟨d0, d1, d2, _⟩ := three_cells hh
  have H3 := Lib.hid hg3
  have HB3 := Lib.hid hb3
  have HA3 := Lib.hid (fun y (hy : a1 = some y) => Nat.le_trans ((Gr.refl w).alloc (.cells #[.int .u8 0, .slice none 0 0, .int .u64 0] 41)).size (ha y hy))
  clear hA hgb hh hg3 hb3 ho hb ha hg
  go_wp2
  refine bodyPost_ret (v := .agg #[.int .u8 0, .slice a1 len cap1, .int .u64 0]) ?_ rfl ⟨a1, cap1, rfl, HB3.out, HA3.out, H3.out⟩
  simp [results, Tryz.results56, go_sem, c0, c1, c2]
set_option maxHeartbeats 1000000 in
theorem seeded_any (n : Int) (w : World) :
    Calls Tryz.prog 96 #[.int .u64 n] w fun e w' => e = .returned (.agg #[.int .u8 1, .slice none 0 0, .int .u64 n]) ∧ Gr w w' := by
  go_enter Tryz.func96, Tryz.ntmps96
  go_wp2
  refine bodyPost_ret (v := .agg #[.int .u8 1, .slice none 0 0, .int .u64 n]) ?_ rfl ⟨rfl, (Gr.refl w).alloc _⟩
  simp [results, Tryz.results96, go_sem]

set_option maxHeartbeats 1000000 in
theorem rowFits_any (mode : Nat) (a : Option Addr) (len cap : Nat) (seed : Int) (k : Int) (_ : len ≤ 9223372036854775807) (w : World) :
    Calls Tryz.prog 61 #[.agg #[.int .u8 (mode : Int), .slice a len cap, .int .u64 seed], .int .i64 k] w fun e w' => e = .returned (.int .i64 (rowErr mode len k : Nat)) ∧ Gr w w' := by
  by_cases hE : widthE mode k = 0
  · have hz := widthE_zero hE
    have HE := Lib.hid hE
    have hr : Hid (rowErr mode len k = if mode = 0 ∧ (len : Int) ≠ k then 4 else 0) := by show _ = _; rw [rowErr, if_neg (by simpa using hE)]
    by_cases h0 : mode = 0
    · subst h0
      by_cases hk : (len : Int) = k
      · have ht : ((len : Int) != k) = false := by simpa using hk
        have hr2 : Hid (rowErr 0 len k = 0) := by show _ = _; rw [hr.out, if_neg (by simpa using hk)]
        clear hk hE
        go_enter Tryz.func61, Tryz.ntmps61
        go_wp2_with fail
        refine (width_any 0 k _).mono ?_
        rintro e w1 ⟨rfl, rfl⟩
        rw [HE.out]
        go_wp2
        go_ret
        exact ⟨by rw [hr2.out]; rfl, (Gr.refl w).alloc _⟩
      · have ht : ((len : Int) != k) = true := by simpa using hk
        have hr2 : Hid (rowErr 0 len k = 4) := by show _ = _; rw [hr.out, if_pos ⟨rfl, hk⟩]
        clear hk hE
        go_enter Tryz.func61, Tryz.ntmps61
        go_wp2_with fail
        refine (width_any 0 k _).mono ?_
        rintro e w1 ⟨rfl, rfl⟩
        rw [HE.out]
        go_wp2
        go_ret
        exact ⟨by rw [hr2.out]; rfl, (Gr.refl w).alloc _⟩
    · have h1 : mode = 1 := by omega
      subst h1
      have hr2 : Hid (rowErr 1 len k = 0) := by show _ = _; rw [hr.out, if_neg (by omega)]
      clear hE
      go_enter Tryz.func61, Tryz.ntmps61
      go_wp2_with fail
      refine (width_any 1 k _).mono ?_
      rintro e w1 ⟨rfl, rfl⟩
      rw [HE.out]
      go_wp2
      go_ret
      exact ⟨by rw [hr2.out]; rfl, (Gr.refl w).alloc _⟩
  · have hr : Hid (rowErr mode len k = widthE mode k) := by show _ = _; rw [rowErr, if_pos hE]
    have CW := Lib.hid (width_any mode k)
    obtain ⟨q, hq⟩ : ∃ q, widthE mode k = q := ⟨_, rfl⟩
    rw [hq] at hr CW hE
    have ht : ((q : Int) != 0) = true := by rw [bne_iff_ne]; omega
    clear hq hE
    go_enter Tryz.func61, Tryz.ntmps61
    go_wp2_with fail
    refine (CW.out _).mono ?_
    rintro e w1 ⟨rfl, rfl⟩
    go_wp2
    go_ret
    exact ⟨by rw [hr.out]; rfl, (Gr.refl w).alloc _⟩

set_option maxHeartbeats 1000000 in
theorem rowVector_bad (mode : Nat) (a : Option Addr) (len cap : Nat) (seed : Int) (k : Int) (hm : len ≤ 9223372036854775807) (hE : rowErr mode len k ≠ 0) (w : World) :
    Calls Tryz.prog 32 #[.agg #[.int .u8 (mode : Int), .slice a len cap, .int .u64 seed], .int .i64 k] w fun e w' => e = .returned (.tuple #[.slice none 0 0, .int .i64 (rowErr mode len k : Nat)]) ∧ Gr w w' := by
  have CF := Lib.hid (rowFits_any mode a len cap seed k hm)
  obtain ⟨q, hq⟩ : ∃ q, rowErr mode len k = q := ⟨_, rfl⟩
  rw [hq] at CF hE ⊢
  have ht : ((q : Int) != 0) = true := by rw [bne_iff_ne]; omega
  clear hq hE
  go_enter Tryz.func32, Tryz.ntmps32
  go_wp2_with fail
  refine (CF.out _).mono ?_
  rintro e w1 ⟨rfl, hg⟩
  go_wp2
  go_ret2
  exact ⟨rfl, ((Gr.refl w).alloc _).trans hg⟩
set_option maxHeartbeats 1000000 in
theorem rowWrite_bad (mode : Nat) (a : Option Addr) (len cap : Nat) (seed : Int) (k : Int) (hm : len ≤ 9223372036854775807) (hE : rowErr mode len k ≠ 0) (w : World) :
    Calls Tryz.prog 68 #[.agg #[.int .u8 (mode : Int), .slice a len cap, .int .u64 seed], .int .i64 k] w fun e w' => e = .returned (.tuple #[.slice none 0 0, .int .i64 (rowErr mode len k : Nat)]) ∧ Gr w w' := by
  have CF := Lib.hid (rowFits_any mode a len cap seed k hm)
  obtain ⟨q, hq⟩ : ∃ q, rowErr mode len k = q := ⟨_, rfl⟩
  rw [hq] at CF hE ⊢
  have ht : ((q : Int) != 0) = true := by rw [bne_iff_ne]; omega
  clear hq hE
  go_enter Tryz.func68, Tryz.ntmps68
  go_wp2_with fail
  refine (CF.out _).mono ?_
  rintro e w1 ⟨rfl, hg⟩
  go_wp2
  go_ret2
  exact ⟨rfl, ((Gr.refl w).alloc _).trans hg⟩

/-- what a source is as a vector, and as it is written. -/
def rowVec (mode : Nat) (l : List UInt8) (seed : Nat) (k : Nat) : List UInt8 := if mode = 0 then l else mixList seed k
def rowText (mode : Nat) (l : List UInt8) (seed : Nat) : List UInt8 := if mode = 0 then l else put8 seed
set_option maxHeartbeats 1000000 in
theorem rowVector_ok (mode : Nat) (a : Option Addr) (len cap : Nat) (l : List UInt8) (seed : Nat) (hseed : seed < 18446744073709551616) (k : Nat) (w : World) (hs : Bs w a len cap l) (hm : len ≤ 140737488355328) (hE : rowErr mode len k = 0) :
    Calls Tryz.prog 32 #[.agg #[.int .u8 (mode : Int), .slice a len cap, .int .u64 (seed : Int)], .int .i64 (k : Int)] w fun e w' => ∃ v, e = .returned (.tuple #[v, .int .i64 0]) ∧ Fresh w w' v (rowVec mode l seed k) ∧ (rowVec mode l seed k).length = k := by
  have CF := Lib.hid (rowFits_any mode a len cap seed k (by omega))
  have hz := rowErr_zero hE
  have hw := widthE_zero hz.1
  have HE := Lib.hid hE
  have HS := Lib.hid hseed
  have hz2 := Lib.hid hz.2
  clear hE hseed hz
  have hmm : mode = 0 ∨ mode = 1 := by omega
  rcases hmm with rfl | rfl
  · have hk : Hid (len = k) := by have := hz2.out rfl; show len = k; omega
    have hv : Hid (rowVec 0 l seed k = l) := rfl
    go_enter Tryz.func32, Tryz.ntmps32
    go_wp2_with fail
    refine (CF.out _).mono ?_
    rintro e w1 ⟨rfl, hg⟩
    rw [HE.out]
    have hA := hg.heap (heap_alloc_new w _)
    obtain ⟨c0, c1, c2, _⟩ := three_cells hA
    have hgw : Gr w w1 := ((Gr.refl w).alloc _).trans hg
    clear hA hg
    go_wp2_with fail
    refine (sliceClone_any a len cap l w1 (hs.below hgw) hm).mono ?_
    rintro e w2 ⟨v, rfl, a2, cap2, rfl, hb2, ha2, hg2⟩
    go_wp2
    go_ret2
    exact ⟨_, rfl, ⟨a2, cap2, by rw [hv.out]; rfl, by rw [hv.out]; exact hb2, fun x hx => Nat.le_trans hgw.size (ha2 x hx), hgw.trans hg2⟩, by rw [hv.out, hs.1, hk.out]⟩
  · have hv : Hid (rowVec 1 l seed k = mixList seed k) := rfl
    go_enter Tryz.func32, Tryz.ntmps32
    go_wp2_with fail
    refine (CF.out _).mono ?_
    rintro e w1 ⟨rfl, hg⟩
    rw [HE.out]
    have hA := hg.heap (heap_alloc_new w _)
    obtain ⟨c0, c1, c2, _⟩ := three_cells hA
    have hgw : Gr w w1 := ((Gr.refl w).alloc _).trans hg
    clear hA hg
    go_wp2_with fail
    refine (mixRow_any seed HS.out k (by omega) w1).mono ?_
    rintro e w2 ⟨g, hgl, rfl, hg2, hb2⟩
    go_wp2
    go_ret2
    have hln := mixList_length seed k
    exact ⟨_, rfl, ⟨some ⟨g, 0, none⟩, k, by rw [hv.out, hln]; rfl, by rw [hv.out, hln]; exact hb2, (fun x hx => by cases hx; exact Nat.le_trans hgw.size hgl), hgw.trans hg2⟩, by rw [hv.out, hln]⟩
set_option maxHeartbeats 1000000 in
theorem rowWrite_ok (mode : Nat) (a : Option Addr) (len cap : Nat) (l : List UInt8) (seed : Nat) (k : Nat) (w : World) (hs : Bs w a len cap l) (hm : len ≤ 140737488355328) (hE : rowErr mode len k = 0) :
    Calls Tryz.prog 68 #[.agg #[.int .u8 (mode : Int), .slice a len cap, .int .u64 (seed : Int)], .int .i64 (k : Int)] w fun e w' => ∃ v, e = .returned (.tuple #[v, .int .i64 0]) ∧ Fresh w w' v (rowText mode l seed) ∧ ((rowText mode l seed).length : Int) = widthN mode k := by
  have CF := Lib.hid (rowFits_any mode a len cap seed k (by omega))
  have hz := rowErr_zero hE
  have hw := widthE_zero hz.1
  have HE := Lib.hid hE
  have hz2 := Lib.hid hz.2
  have hwn : Hid (widthN mode k = if mode = 1 then 8 else (k : Int)) := by show _ = _; rw [widthN, if_neg (by omega), if_neg (by omega)]
  clear hE hz
  have hmm : mode = 0 ∨ mode = 1 := by omega
  rcases hmm with rfl | rfl
  · have hk : Hid (len = k) := by have := hz2.out rfl; show len = k; omega
    have hv : Hid (rowText 0 l seed = l) := rfl
    go_enter Tryz.func68, Tryz.ntmps68
    go_wp2_with fail
    refine (CF.out _).mono ?_
    rintro e w1 ⟨rfl, hg⟩
    rw [HE.out]
    have hA := hg.heap (heap_alloc_new w _)
    obtain ⟨c0, c1, c2, _⟩ := three_cells hA
    have hgw : Gr w w1 := ((Gr.refl w).alloc _).trans hg
    clear hA hg
    go_wp2_with fail
    refine (sliceClone_any a len cap l w1 (hs.below hgw) hm).mono ?_
    rintro e w2 ⟨v, rfl, a2, cap2, rfl, hb2, ha2, hg2⟩
    go_wp2
    go_ret2
    exact ⟨_, rfl, ⟨a2, cap2, by rw [hv.out]; rfl, by rw [hv.out]; exact hb2, fun x hx => Nat.le_trans hgw.size (ha2 x hx), hgw.trans hg2⟩, by rw [hv.out, hs.1, hk.out, hwn.out]; simp⟩
  · have hv : Hid (rowText 1 l seed = put8 seed) := rfl
    go_enter Tryz.func68, Tryz.ntmps68
    go_wp2_with fail
    refine (CF.out _).mono ?_
    rintro e w1 ⟨rfl, hg⟩
    rw [HE.out]
    have hA := hg.heap (heap_alloc_new w _)
    obtain ⟨c0, c1, c2, _⟩ := three_cells hA
    have hgw : Gr w w1 := ((Gr.refl w).alloc _).trans hg
    clear hA hg
    go_wp2_with fail
    refine (mixPut_any seed w1).mono ?_
    rintro e w2 ⟨g, hgl, rfl, hb2, hg2⟩
    go_wp2
    go_ret2
    exact ⟨_, rfl, ⟨some ⟨g, 0, none⟩, 8, by rw [hv.out]; rfl, by rw [hv.out]; exact hb2, (fun x hx => by cases hx; exact Nat.le_trans hgw.size hgl), hgw.trans hg2⟩, by rw [hv.out, hwn.out]; rfl⟩
end Go.Proofs.YtdmijoochgmhiaaGreatDoor
