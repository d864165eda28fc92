/-
  The walk of law CutCuts.
-/
import Derived.Test.YtdmijoochgmhiabCutSym
namespace Go.Proofs.Ytdmijoochgmhiab
open Go.RowKit

theorem four_cells {W : World} {R : Nat} {v0 v1 v2 v3 : Value} {t : TypeId} (h : W.heap[R]? = some (.cells #[v0, v1, v2, v3] t)) :
    W.cell? ⟨R, 0, none⟩ = some v0 ∧ W.cell? ⟨R, 1, none⟩ = some v1 ∧ W.cell? ⟨R, 2, none⟩ = some v2 ∧ W.cell? ⟨R, 3, none⟩ = some v3 := by
  refine ⟨?_, ?_, ?_, ?_⟩ <;> simp [World.cell?, h]
theorem cutErr_zero {len size sym : Int} {n : Nat} (h : cutErr len size sym n = 0) : planErr len size sym = 0 ∧ (n : Int) = len := by
  unfold cutErr at h
  by_cases a : planErr len size sym ≠ 0
  · rw [if_pos a] at h; exact absurd h a
  rw [if_neg a] at h
  by_cases b : (n : Int) ≠ len
  · rw [if_pos b] at h; cases h
  exact ⟨by simpa using a, by simpa using b⟩

set_option maxRecDepth 100000 in
set_option maxHeartbeats 4000000 in
theorem cutCuts_walk (w : World) (len : Int) (hl1 : -9223372036854775808 ≤ len) (hl2 : len ≤ 9223372036854775807) (size : Int) (hs1 : -9223372036854775808 ≤ size) (hs2 : size ≤ 9223372036854775807) (sym : Int) (hy1 : -9223372036854775808 ≤ sym) (hy2 : sym ≤ 9223372036854775807) (id : Nat) (_ : id < 4294967296)
    (a : Option Addr) (n cap : Nat) (obj : List UInt8) (hb : Bs w a n cap obj) (i : Int) (hi1 : -9223372036854775808 ≤ i) (hi2 : i ≤ 9223372036854775807) :
    Calls Try.prog 5 #[.agg #[.int .i64 len, .int .i64 size, .int .i64 sym, .int .u32 (id : Int)], .slice a n cap, .int .i64 i] w fun e w' => e = .returned (.bool true) ∧ Gr w w' := by
  have hmx : n ≤ 9223372036854775807 := by have h1 := hb.2.1; have h2 := hb.2.2.1; unfold maxLen at h2; omega
  by_cases hbig : 2000 < n
  · have hbig' : (2000 : Int) < (n : Int) := by omega
    go_enter Try.func5, Try.ntmps5
    go_wp2_with fail
    refine (cutAwake_any _).mono ?_
    rintro e w1 ⟨rfl, hg1⟩
    have hB := hg1.heap (heap_alloc_new w _)
    obtain ⟨c0, c1, c2, c3⟩ := four_cells hB
    have hgw := ((Gr.refl w).alloc _).trans hg1
    clear hB hg1
    go_wp2
    go_ret
    exact ⟨rfl, hgw⟩
  have hbig' : ¬ (2000 : Int) < (n : Int) := by omega
  by_cases hsz : 2000 < size ∧ size ≤ 65535
  · obtain ⟨hsz1, hsz2⟩ := hsz
    go_enter Try.func5, Try.ntmps5
    go_wp2_with fail
    refine (cutAwake_any _).mono ?_
    rintro e w1 ⟨rfl, hg1⟩
    have hB := hg1.heap (heap_alloc_new w _)
    obtain ⟨c0, c1, c2, c3⟩ := four_cells hB
    have hgw := ((Gr.refl w).alloc _).trans hg1
    clear hB hg1
    go_wp2
    go_ret
    exact ⟨rfl, hgw⟩
  have hsz' : decide (2000 < size) = false ∨ (decide (2000 < size) = true ∧ decide (size ≤ 65535) = false) := by
    by_cases h : 2000 < size
    · exact .inr ⟨decide_eq_true h, decide_eq_false fun h2 => hsz ⟨h, h2⟩⟩
    · exact .inl (decide_eq_false h)
  clear hsz
  by_cases hE : cutErr len size sym n = 0
  · obtain ⟨hP, hN⟩ := cutErr_zero hE
    obtain ⟨hF, hQ⟩ := planErr_zero hP
    obtain ⟨_, hsp, hsp2, _⟩ := planFit_zero hF
    have hqp := planNeed_pos (len := len) (size := size) (by omega) hsp
    obtain ⟨s, rfl⟩ : ∃ s : Nat, size = s := ⟨size.toNat, by omega⟩
    obtain ⟨q, rfl⟩ : ∃ q : Nat, sym = q := ⟨sym.toNat, by omega⟩
    obtain rfl : len = (n : Int) := hN.symm
    have HP := Lib.hid hP
    clear hE hP hN hF hQ hqp
    have hz : decide (2000 < (s : Int)) = false := by
      rcases hsz' with hz | ⟨_, hz2⟩
      · exact hz
      · have := of_decide_eq_false hz2; omega
    clear hsz'
    focus
      go_enter Try.func5, Try.ntmps5
      go_wp2_with fail
      refine (cutAwake_any _).mono ?_
      rintro e w1 ⟨rfl, hg1⟩
      have hB1 := hg1.heap (heap_alloc_new w _)
      obtain ⟨c0, c1, c2, c3⟩ := four_cells hB1
      have hgw := ((Gr.refl w).alloc _).trans hg1
      have HB1 := Lib.hid hB1
      clear hB1 hg1
      go_wp2_with fail
      refine (cutCut_ok n s q id HP.out a cap obj w1 (hb.below hgw) (by omega)).mono ?_
      rintro e w2 ⟨S, _, rfl, hb2, hg2⟩
      have HB2 := Lib.hid (hg2.heap HB1.out)
      obtain ⟨c0, c1, c2, c3⟩ := four_cells HB2.out
      have hgw2 := hgw.trans hg2
      go_wp2_with fail
      refine (refCut_ok n s q id HP.out a cap obj w2 (hb.below hgw2) (by omega)).mono ?_
      rintro e w3 ⟨a3, cap3, rfl, hb3, hg3⟩
      have HB3 := Lib.hid (hg3.heap HB2.out)
      obtain ⟨c0, c1, c2, c3⟩ := four_cells HB3.out
      have hgw3 := hgw2.trans hg3
      by_cases hin : 0 ≤ i ∧ i < (q : Int)
      · obtain ⟨hi0, hiq⟩ := hin
        obtain ⟨j, rfl⟩ : ∃ j : Nat, i = j := ⟨i.toNat, by omega⟩
        have hjq : j < q := by omega
        go_wp2_with fail
        refine (cutSymbol_ok n s q j id HP.out a cap obj w3 (hb.below hgw3) (by omega) hjq).mono ?_
        rintro e w4 ⟨a4, cap4, rfl, hb4, hg4⟩
        go_wp2_with fail
        refine (sameRows_eq _ a3 q q cap3 _ w4 (hb2.below (hg3.trans hg4)) (hb3.below hg4)).mono ?_
        rintro e w5 ⟨rfl, hg5⟩
        have hst := sameB_self (pieceL obj s j)
        have hb35 := (hb3.below hg4).below hg5
        obtain ⟨b3, off3, rfl, hbl⟩ := hb35.at_ (by omega)
        obtain ⟨l, a6, n6, c6, hl6, hc6, hb6⟩ := hb35.get hjq
        obtain rfl : l = pieceL obj s j := Option.some.inj (hl6.symm.trans (cutL_get obj s q j hjq))
        have hb45 := hb4.below hg5
        have hgw5 := (hgw3.trans hg4).trans hg5
        clear hl6 hb35 hb4 hb3 hb2 c0 c1 c2 c3
        go_wp2_with fail
        refine (same_any a4 a6 s cap4 n6 c6 _ _ w5 hb45 hb6).mono ?_
        rintro e w6 ⟨rfl, hg6⟩
        go_wp2
        go_ret
        exact ⟨rfl, hgw5.trans hg6⟩
      · have hout : i < 0 ∨ (q : Int) ≤ i := by omega
        have ho2 : decide (i < 0) = true ∨ (decide (i < 0) = false ∧ decide ((q : Int) ≤ i) = true) := by
          by_cases h : i < 0
          · exact .inl (decide_eq_true h)
          · exact .inr ⟨decide_eq_false h, decide_eq_true (by omega)⟩
        have HO := Lib.hid hout
        clear hin hout
        go_wp2_with fail
        refine (cutSymbol_out n s q id HP.out a cap (by omega) i HO.out w3).mono ?_
        rintro e w4 ⟨rfl, hg4⟩
        go_wp2_with fail
        refine (sameRows_eq _ a3 q q cap3 _ w4 (hb2.below (hg3.trans hg4)) (hb3.below hg4)).mono ?_
        rintro e w5 ⟨rfl, hg5⟩
        have hgw5 := (hgw3.trans hg4).trans hg5
        clear hb3 hb2 c0 c1 c2 c3
        rcases ho2 with h | ⟨h, h'⟩
        all_goals
          go_wp2
          go_ret
          exact ⟨rfl, hgw5⟩
  · have C1 := Lib.hid (cutCut_bad len size sym id hl1 hl2 hs1 hs2 a n cap hmx hE)
    have C2 := Lib.hid (refCut_bad len size sym id hl2 hs2 a n cap hmx hE)
    have C3 := Lib.hid (cutSymbol_bad len size sym id hl1 hl2 hs1 hs2 a n cap hmx i hE)
    obtain ⟨q, hq⟩ : ∃ q, cutErr len size sym n = q := ⟨_, rfl⟩
    rw [hq] at C1 C2 C3 hE
    have ht : ((q : Int) != 0) = true := by rw [bne_iff_ne]; omega
    clear hq hE
    rcases hsz' with hz | ⟨hz1, hz2⟩
    all_goals
      go_enter Try.func5, Try.ntmps5
      go_wp2_with fail
      refine (cutAwake_any _).mono ?_
      rintro e w1 ⟨rfl, hg1⟩
      have hB1 := hg1.heap (heap_alloc_new w _)
      obtain ⟨c0, c1, c2, c3⟩ := four_cells hB1
      have hgw := ((Gr.refl w).alloc _).trans hg1
      have HB1 := Lib.hid hB1
      clear hB1 hg1
      go_wp2_with fail
      refine (C1.out w1).mono ?_
      rintro e w2 ⟨rfl, hg2⟩
      have HB2 := Lib.hid (hg2.heap HB1.out)
      obtain ⟨c0, c1, c2, c3⟩ := four_cells HB2.out
      go_wp2_with fail
      refine (C2.out w2).mono ?_
      rintro e w3 ⟨rfl, hg3⟩
      have HB3 := Lib.hid (hg3.heap HB2.out)
      obtain ⟨c0, c1, c2, c3⟩ := four_cells HB3.out
      go_wp2_with fail
      refine (C3.out w3).mono ?_
      rintro e w4 ⟨rfl, hg4⟩
      go_wp2_with fail
      refine (sameRows_eq none none 0 0 0 [] w4 (Bss.nil _) (Bss.nil _)).mono ?_
      rintro e w5 ⟨rfl, hg5⟩
      have hfin := (((hgw.trans hg2).trans hg3).trans hg4).trans hg5
      clear c0 c1 c2 c3
      go_wp2
      go_ret
      exact ⟨rfl, hfin⟩
end Go.Proofs.Ytdmijoochgmhiab
