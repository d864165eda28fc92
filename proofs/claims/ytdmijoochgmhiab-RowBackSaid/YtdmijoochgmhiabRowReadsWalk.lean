/-
  The walk of law RowReads.
-/
import Derived.Test.YtdmijoochgmhiabRowAwake
namespace Go.Proofs.Ytdmijoochgmhiab
open Go.RowKit

theorem rowSame_zero : rowSame 0 0 [] [] 0 0 = true := by decide
theorem rowText_read {mode : Nat} {l : List UInt8} {k : Int} (h : readErr mode l.length k = 0) : rowText mode (readBytes mode l) (readSeed mode l) = l := by
  obtain ⟨h1, _, _, _, _, _, h8⟩ := readErr_zero h
  unfold rowText readBytes readSeed
  by_cases h0 : mode = 0
  · simp [h0]
  · simp only [if_neg h0]
    exact put8_seedTo l (h8 (by omega))

set_option maxRecDepth 100000 in
set_option maxHeartbeats 4000000 in
theorem rowReads_walk (w : World) (mode : Nat) (_ : mode < 256) (k : Int) (hk1 : -9223372036854775808 ≤ k) (hk2 : k ≤ 9223372036854775807) (a : Option Addr) (len cap : Nat) (l : List UInt8) (hl : Bs w a len cap l) :
    Calls Try.prog 9 #[.int .u8 (mode : Int), .int .i64 k, .slice a len cap] w fun e w' => e = .returned (.bool true) ∧ Gr w w' := by
  have hmx : len ≤ 9223372036854775807 := by have h1 := hl.2.1; have h2 := hl.2.2.1; unfold maxLen at h2; omega
  by_cases h300 : 300 < len
  · have h300' : (300 : Int) < (len : Int) := by omega
    go_enter Try.func9, Try.ntmps9
    go_wp2_with fail
    refine (rowAwake_any _).mono ?_
    rintro e w1 ⟨rfl, hg1⟩
    go_wp2
    go_ret
    exact ⟨rfl, hg1⟩
  have h300' : ¬ (300 : Int) < (len : Int) := by omega
  have hlen := hl.1
  by_cases hE : readErr mode len k = 0
  · obtain ⟨h1, h2, h3, h4, h5, h6, h7⟩ := readErr_zero hE
    have hlt := readSeed_lt (mode := mode) (l := l) (k := k) (by rw [hlen]; exact hE)
    have htx := rowText_read (mode := mode) (l := l) (k := k) (by rw [hlen]; exact hE)
    obtain ⟨k', rfl⟩ : ∃ k' : Nat, k = k' := ⟨k.toNat, by omega⟩
    have CW := refWidth_any mode k'
    rw [h4] at CW
    have hn : ((len : Int) != widthN mode k') = false := by simpa using h5
    have CR := fun w' (hg : Gr w w') => rowRead_ok mode k' a len cap l w' (hl.below hg) (by omega) hE
    have HRE : Hid (∀ len', (mode = 0 → len' = len) → rowErr mode len' k' = 0) := by
      intro len' hlen'
      unfold rowErr
      rw [if_neg (by simpa using h4), if_neg]
      rintro ⟨hm0, hne⟩
      exact hne (by rw [hlen' hm0]; exact h6 hm0)
    obtain ⟨q, hq⟩ : ∃ q, widthN mode k' = q := ⟨_, rfl⟩
    rw [hq] at CW hn
    have HCW := Lib.hid CW
    have HCR := Lib.hid CR
    have HLT := Lib.hid hlt
    have HTX := Lib.hid htx
    have HL := Lib.hid hlen
    have hst := sameB_self l
    clear hE h2 h3 h4 h5 h6 h7 hq CW CR hlt htx hlen
    have hmm : mode = 0 ∨ mode = 1 := by omega
    clear h1
    rcases hmm with rfl | rfl
    · go_enter Try.func9, Try.ntmps9
      go_wp2_with fail
      refine (rowAwake_any _).mono ?_
      rintro e w1 ⟨rfl, hg1⟩
      go_wp2_with fail
      refine (HCR.out w1 hg1).mono ?_
      rintro e w2 ⟨a2, len2, cap2, rfl, hb2, hg2⟩
      have e0 : readSeed 0 l = 0 := rfl
      have e1 : readBytes 0 l = l := rfl
      have hz2 : len2 = len := by rw [← hb2.1, e1, HL.out]
      subst hz2
      go_wp2_with fail
      refine (HCW.out _).mono ?_
      rintro e w3 ⟨rfl, rfl⟩
      go_wp2_with fail
      have hg12 := hg1.trans hg2
      refine (rowWrite_ok 0 a2 len2 cap2 (readBytes 0 l) (readSeed 0 l) k' _ (hb2.below ((Gr.refl _).alloc _)) (by omega) (HRE.out _ (fun _ => rfl))).mono ?_
      rintro e w4 ⟨v, rfl, ⟨a4, cap4, rfl, hb4, _, hg4⟩, _⟩
      rw [HTX.out] at hb4 ⊢
      have hB := hg4.heap (heap_alloc_new w2 _)
      obtain ⟨c0, c1, c2, _⟩ := three_cells hB
      have hgw4 := (hg12.alloc _).trans hg4
      clear hB hg4 hb2
      go_wp2_with fail
      refine (same_any a4 a _ cap4 _ cap l l _ hb4 (hl.below hgw4)).mono ?_
      rintro e w5 ⟨rfl, hg5⟩
      have d2 := hg5.cell c2
      have d1 := hg5.cell c1
      have d0 := hg5.cell c0
      clear e0 e1
      go_wp2
      go_ret
      exact ⟨rfl, hgw4.trans hg5⟩
    · go_enter Try.func9, Try.ntmps9
      go_wp2_with fail
      refine (rowAwake_any _).mono ?_
      rintro e w1 ⟨rfl, hg1⟩
      go_wp2_with fail
      refine (HCR.out w1 hg1).mono ?_
      rintro e w2 ⟨a2, len2, cap2, rfl, hb2, hg2⟩
      have hz2 : len2 = 0 := hb2.1.symm
      subst hz2
      go_wp2_with fail
      refine (HCW.out _).mono ?_
      rintro e w3 ⟨rfl, rfl⟩
      go_wp2_with fail
      have hg12 := hg1.trans hg2
      refine (rowWrite_ok 1 a2 0 cap2 (readBytes 1 l) (readSeed 1 l) k' _ (hb2.below ((Gr.refl _).alloc _)) (by omega) (HRE.out _ (fun h => by cases h))).mono ?_
      rintro e w4 ⟨v, rfl, ⟨a4, cap4, rfl, hb4, _, hg4⟩, _⟩
      rw [HTX.out] at hb4 ⊢
      have hB := hg4.heap (heap_alloc_new w2 _)
      obtain ⟨c0, c1, c2, _⟩ := three_cells hB
      have hgw4 := (hg12.alloc _).trans hg4
      clear hB hg4 hb2
      go_wp2_with fail
      refine (same_any a4 a _ cap4 _ cap l l _ hb4 (hl.below hgw4)).mono ?_
      rintro e w5 ⟨rfl, hg5⟩
      have d2 := hg5.cell c2
      have d1 := hg5.cell c1
      have d0 := hg5.cell c0
      go_wp2
      go_ret
      exact ⟨rfl, hgw4.trans hg5⟩
  · have CR := fun w' => rowRead_bad mode k a len cap hmx hE w'
    have CW := refWidth_any mode k
    have hrs := rowSame_zero
    by_cases h4 : widthE mode k = 0
    · have hr : readErr mode len k = 4 := by
        by_cases c : (len : Int) ≠ widthN mode k
        · rw [readErr, if_neg (by simpa using h4), if_pos c]
        · exact absurd (by rw [readErr, if_neg (by simpa using h4), if_neg c]) hE
      have hn : ((len : Int) != widthN mode k) = true := by
        rw [bne_iff_ne]
        intro c
        exact hE (by rw [readErr, if_neg (by simpa using h4), if_neg (by simpa using c)])
      rw [h4] at CW
      rw [hr] at CR
      obtain ⟨q, hq⟩ : ∃ q, widthN mode k = q := ⟨_, rfl⟩
      rw [hq] at CW hn
      have HCW := Lib.hid CW
      have HCR := Lib.hid CR
      clear hE h4 hr hq CR CW hlen
      go_enter Try.func9, Try.ntmps9
      go_wp2_with fail
      refine (rowAwake_any _).mono ?_
      rintro e w1 ⟨rfl, hg1⟩
      go_wp2_with fail
      refine (HCR.out w1).mono ?_
      rintro e w2 ⟨rfl, hg2⟩
      have hg12 := hg1.trans hg2
      go_wp2_with fail
      refine (HCW.out _).mono ?_
      rintro e w3 ⟨rfl, rfl⟩
      go_wp2_with fail
      refine (rowSame_any 0 0 none none 0 0 0 0 [] [] 0 0 _ (Bs.nil _) (Bs.nil _)).mono ?_
      rintro e w4 ⟨rfl, hg4⟩
      go_wp2
      go_ret
      exact ⟨rfl, (hg12.alloc _).trans hg4⟩
    · have hr : readErr mode len k = widthE mode k := by rw [readErr, if_pos h4]
      rw [hr] at CR
      obtain ⟨q, hq⟩ : ∃ q, widthE mode k = q := ⟨_, rfl⟩
      rw [hq] at CW CR h4
      have t0 : ((q : Int) != 0) = true := by rw [bne_iff_ne]; omega
      have t1 : ((q : Int) == 0) = false := by rw [beq_eq_false_iff_ne]; omega
      have HCW := Lib.hid CW
      have HCR := Lib.hid CR
      clear hE h4 hr hq CR CW hlen
      go_enter Try.func9, Try.ntmps9
      go_wp2_with fail
      refine (rowAwake_any _).mono ?_
      rintro e w1 ⟨rfl, hg1⟩
      go_wp2_with fail
      refine (HCR.out w1).mono ?_
      rintro e w2 ⟨rfl, hg2⟩
      have hg12 := hg1.trans hg2
      go_wp2_with fail
      refine (HCW.out _).mono ?_
      rintro e w3 ⟨rfl, rfl⟩
      go_wp2_with fail
      refine (rowSame_any 0 0 none none 0 0 0 0 [] [] 0 0 _ (Bs.nil _) (Bs.nil _)).mono ?_
      rintro e w4 ⟨rfl, hg4⟩
      go_wp2
      go_ret
      exact ⟨rfl, (hg12.alloc _).trans hg4⟩
end Go.Proofs.Ytdmijoochgmhiab
