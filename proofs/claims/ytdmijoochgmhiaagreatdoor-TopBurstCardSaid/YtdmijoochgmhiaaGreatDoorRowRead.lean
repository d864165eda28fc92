/-
  The walk of row.Read.
-/
import Derived.Test.YtdmijoochgmhiaaGreatDoorRow
namespace Go.Proofs.YtdmijoochgmhiaaGreatDoor
open Go.RowKit

/-- what is wrong with bytes that are read as a source. -/
def readErr (mode len : Nat) (k : Int) : Nat := if widthE mode k ≠ 0 then widthE mode k else if (len : Int) ≠ widthN mode k then 4 else 0
set_option maxRecDepth 100000 in
set_option maxHeartbeats 1000000 in
theorem rowRead_bad (mode : Nat) (k : Int) (a : Option Addr) (len cap : Nat) (_ : len ≤ 9223372036854775807) (hE : readErr mode len k ≠ 0) (w : World) :
    Calls Tryz.prog 52 #[.int .u8 (mode : Int), .int .i64 k, .slice a len cap] w fun e w' => e = .returned (.tuple #[.agg #[.int .u8 0, .slice none 0 0, .int .u64 0], .int .i64 (readErr mode len k : Nat)]) ∧ Gr w w' := by
  have CW := Lib.hid (width_any mode k)
  by_cases h : widthE mode k = 0
  · have hr : Hid (readErr mode len k = 4) := by
      show _ = _
      by_cases c : (len : Int) ≠ widthN mode k
      · rw [readErr, if_neg (by simpa using h), if_pos c]
      · exact absurd (by rw [readErr, if_neg (by simpa using h), if_neg c]) hE
    have hn : ((len : Int) != widthN mode k) = true := by
      rw [bne_iff_ne]
      intro c
      exact hE (by rw [readErr, if_neg (by simpa using h), if_neg (by simpa using c)])
    rw [h] at CW
    obtain ⟨q, hq⟩ : ∃ q, widthN mode k = q := ⟨_, rfl⟩
    rw [hq] at CW hn
    clear hq h hE
    go_enter Tryz.func52, Tryz.ntmps52
    go_wp2_with fail
    refine (CW.out _).mono ?_
    rintro e w1 ⟨rfl, rfl⟩
    go_wp2
    refine bodyPost_ret (v := .tuple #[.agg #[.int .u8 0, .slice none 0 0, .int .u64 0], .int .i64 4]) ?_ rfl ⟨by rw [hr.out]; rfl, (Gr.refl w).alloc _⟩
    simp [results, Tryz.results52, go_sem]
  · have hr : Hid (readErr mode len k = widthE mode k) := by show _ = _; rw [readErr, if_pos h]
    obtain ⟨q, hq⟩ : ∃ q, widthE mode k = q := ⟨_, rfl⟩
    rw [hq] at hr CW h
    have ht : ((q : Int) != 0) = true := by rw [bne_iff_ne]; omega
    clear hq h hE
    go_enter Tryz.func52, Tryz.ntmps52
    go_wp2_with fail
    refine (CW.out _).mono ?_
    rintro e w1 ⟨rfl, rfl⟩
    go_wp2
    refine bodyPost_ret (v := .tuple #[.agg #[.int .u8 0, .slice none 0 0, .int .u64 0], .int .i64 (q : Int)]) ?_ rfl ⟨by rw [hr.out], (Gr.refl w).alloc _⟩
    simp [results, Tryz.results52, go_sem]

/-- the source that bytes are. -/
def readBytes (mode : Nat) (l : List UInt8) : List UInt8 := if mode = 0 then l else []
def readSeed (mode : Nat) (l : List UInt8) : Nat := if mode = 0 then 0 else seedTo l
theorem readErr_zero {mode len : Nat} {k : Int} (h : readErr mode len k = 0) : mode ≤ 1 ∧ 1 ≤ k ∧ k ≤ 4096 ∧ widthE mode k = 0 ∧ (len : Int) = widthN mode k ∧ (mode = 0 → (len : Int) = k) ∧ (mode = 1 → len = 8) := by
  unfold readErr at h
  by_cases a : widthE mode k ≠ 0
  · rw [if_pos a] at h; exact absurd h a
  rw [if_neg a] at h
  have a' : widthE mode k = 0 := by omega
  by_cases b : (len : Int) ≠ widthN mode k
  · rw [if_pos b] at h; cases h
  obtain ⟨h1, h2, h3⟩ := widthE_zero a'
  have b' : (len : Int) = widthN mode k := by omega
  refine ⟨h1, h2, h3, a', b', fun hm => ?_, fun hm => ?_⟩
  · rw [b', widthN, if_neg (by omega), if_neg (by omega), if_neg (by omega)]
  · rw [widthN, if_neg (by omega), if_neg (by omega), if_pos hm] at b'; omega
theorem readSeed_lt {mode : Nat} {l : List UInt8} {k : Int} (h : readErr mode l.length k = 0) : readSeed mode l < 18446744073709551616 := by
  obtain ⟨h1, _, _, _, _, _, h8⟩ := readErr_zero h
  unfold readSeed
  split
  · decide
  · exact seedTo_lt 8 l (h8 (by omega))
set_option maxRecDepth 100000 in
set_option maxHeartbeats 2000000 in
theorem rowRead_ok (mode : Nat) (k : Int) (a : Option Addr) (len cap : Nat) (l : List UInt8) (w : World) (hs : Bs w a len cap l) (hm : len ≤ 140737488355328) (hE : readErr mode len k = 0) :
    Calls Tryz.prog 52 #[.int .u8 (mode : Int), .int .i64 k, .slice a len cap] w fun e w' => ∃ a' len' cap', e = .returned (.tuple #[.agg #[.int .u8 (mode : Int), .slice a' len' cap', .int .u64 (readSeed mode l : Nat)], .int .i64 0]) ∧ Bs w' a' len' cap' (readBytes mode l) ∧ Gr w w' := by
  obtain ⟨h1, h2, h3, h4, h5, h6, h7⟩ := readErr_zero hE
  have CW := width_any mode k
  rw [h4] at CW
  have hn : ((len : Int) != widthN mode k) = false := by simpa using h5
  have H7 := Lib.hid h7
  obtain ⟨q, hq⟩ : ∃ q, widthN mode k = q := ⟨_, rfl⟩
  rw [hq] at CW hn
  have HCW := Lib.hid CW
  clear hE h2 h3 h4 h5 h6 h7 hq CW
  have hmm : mode = 0 ∨ mode = 1 := by omega
  rcases hmm with rfl | rfl
  · go_enter Tryz.func52, Tryz.ntmps52
    go_wp2_with fail
    refine (HCW.out _).mono ?_
    rintro e w1 ⟨rfl, rfl⟩
    go_wp2_with fail
    refine (explicit_any a len cap l _ (hs.below ((Gr.refl w).alloc _)) hm).mono ?_
    rintro e w1 ⟨a1, cap1, rfl, hb, ha, hg⟩
    have hA := hg.heap (heap_alloc_new w _)
    have hgw : Gr w w1 := ((Gr.refl w).alloc _).trans hg
    obtain ⟨c0, c1, c2, f0⟩ := three_cells hA
    obtain ⟨hgb, hh⟩ := three_set hA (.int .u8 0) (.slice a1 len cap1) (.int .u64 0)
    have hg3 := hgw.grb hgb (Nat.le_refl _)
    have hb3 := hb.grb hgb (fun y hy => by have := ha y hy; simp at this; omega)
    have H3 := Lib.hid hg3
    have HB3 := Lib.hid hb3
    clear hA hgb hh hg3 hb3 hb ha hg
    go_wp2
    refine bodyPost_ret (v := .tuple #[.agg #[.int .u8 0, .slice a1 len cap1, .int .u64 0], .int .i64 0]) ?_ rfl ⟨a1, len, cap1, rfl, HB3.out, H3.out⟩
    simp [results, Tryz.results52, go_sem, c0, c1, c2]
  · have h8 : len = 8 := H7.out rfl
    subst h8
    go_enter Tryz.func52, Tryz.ntmps52
    go_wp2_with fail
    refine (HCW.out _).mono ?_
    rintro e w1 ⟨rfl, rfl⟩
    go_wp2_with fail
    refine (mixSeed_any a cap l _ (hs.below ((Gr.refl w).alloc _))).mono ?_
    rintro e w1 ⟨rfl, rfl⟩
    go_wp2_with fail
    refine (seeded_any (seedTo l : Nat) _).mono ?_
    rintro e w1 ⟨rfl, hg⟩
    have hA := hg.heap (heap_alloc_new w _)
    have hgw : Gr w w1 := ((Gr.refl w).alloc _).trans hg
    obtain ⟨c0, c1, c2, f0⟩ := three_cells hA
    obtain ⟨hgb, hh⟩ := three_set hA (.int .u8 1) (.slice none 0 0) (.int .u64 (seedTo l : Nat))
    have hg3 := hgw.grb hgb (Nat.le_refl _)
    have H3 := Lib.hid hg3
    clear hA hgb hh hg3 hg
    go_wp2
    refine bodyPost_ret (v := .tuple #[.agg #[.int .u8 1, .slice none 0 0, .int .u64 (seedTo l : Nat)], .int .i64 0]) ?_ rfl ⟨none, 0, 0, rfl, Bs.nil _, H3.out⟩
    simp [results, Tryz.results52, go_sem, c0, c1, c2]
end Go.Proofs.YtdmijoochgmhiaaGreatDoor
