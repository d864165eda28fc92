/-
  The walk of packet.Read.
-/
import Derived.Test.YtdmijoochgmhiaaGreatDoorPacket
import Derived.Test.YtdmijoochgmhiaaGreatDoorSum
namespace Go.Proofs.YtdmijoochgmhiaaGreatDoor
open Go.RowKit
set_option linter.unusedVariables false

/-- what is wrong with the bytes of a packet. -/
def packErr (n s q : Int) (id : Nat) (l : List UInt8) : Nat :=
  if planErr n s q ≠ 0 then planErr n s q else if headErr l ≠ 0 then headErr l else if (l.length : Int) ≠ 14 + widthN (headM l) q + s then 4
  else if get4 (l.drop (l.length - 4)) ≠ crc (l.take (l.length - 4)) then 10 else if headO l ≠ id then 9 else 0

theorem seven_cells {W : World} {R : Nat} {v0 v1 v2 v3 v4 v5 v6 : Value} {t : TypeId} (h : W.heap[R]? = some (.cells #[v0, v1, v2, v3, v4, v5, v6] t)) :
    W.cell? ⟨R, 0, none⟩ = some v0 ∧ W.cell? ⟨R, 1, none⟩ = some v1 ∧ W.cell? ⟨R, 2, none⟩ = some v2 ∧ W.cell? ⟨R, 3, none⟩ = some v3 ∧ W.cell? ⟨R, 4, none⟩ = some v4 ∧ W.cell? ⟨R, 5, none⟩ = some v5 ∧ W.cell? ⟨R, 6, none⟩ = some v6 ∧ ∀ i, W.frozen? ⟨R, i, none⟩ = false := by
  refine ⟨?_, ?_, ?_, ?_, ?_, ?_, ?_, fun i => ?_⟩ <;> simp [World.cell?, World.frozen?, h]
/-- seven cells written anew. -/
theorem gr_seven {w W : World} {R : Nat} (h : Gr w W) (hR : w.heap.size ≤ R) (v0 v1 v2 v3 v4 v5 v6 : Value) :
    Gr w (((((((W.setCell ⟨R, 0, none⟩ v0).setCell ⟨R, 1, none⟩ v1).setCell ⟨R, 2, none⟩ v2).setCell ⟨R, 3, none⟩ v3).setCell ⟨R, 4, none⟩ v4).setCell ⟨R, 5, none⟩ v5).setCell ⟨R, 6, none⟩ v6) :=
  ((((((h.setCell hR _).setCell hR _).setCell hR _).setCell hR _).setCell hR _).setCell hR _).setCell hR _

theorem seven_set {W : World} {R : Nat} {v0 v1 v2 v3 v4 v5 v6 : Value} {t : TypeId} (h : W.heap[R]? = some (.cells #[v0, v1, v2, v3, v4, v5, v6] t)) (u0 u1 u2 u3 u4 u5 u6 : Value) :
    (((((((W.setCell ⟨R, 0, none⟩ u0).setCell ⟨R, 1, none⟩ u1).setCell ⟨R, 2, none⟩ u2).setCell ⟨R, 3, none⟩ u3).setCell ⟨R, 4, none⟩ u4).setCell ⟨R, 5, none⟩ u5).setCell ⟨R, 6, none⟩ u6).heap[R]? = some (.cells #[u0, u1, u2, u3, u4, u5, u6] t) := by
  have h7 := heap_set (i := 6) (heap_set (i := 5) (heap_set (i := 4) (heap_set (i := 3) (heap_set (i := 2) (heap_set (i := 1) (heap_set (i := 0) h u0) u1) u2) u3) u4) u5) u6
  simpa only [List.setIfInBounds_toArray, List.set_cons_zero, List.set_cons_succ] using h7

/-- a packet without anything. -/
abbrev packZ : Value := .agg #[.int .u8 0, .int .u32 0, .int .u32 0, .int .u8 0, .slice none 0 0, .int .u64 0, .slice none 0 0]

set_option maxRecDepth 100000 in
set_option maxHeartbeats 2000000 in
theorem packRead_plan (n s q : Int) (id : Nat) (hlo : -9223372036854775808 ≤ n) (hm : n ≤ 9223372036854775807) (hsl : -9223372036854775808 ≤ s) (hsm : s ≤ 9223372036854775807) (a : Option Addr) (len cap : Nat) (w : World) (hP : planErr n s q ≠ 0) :
    Calls Tryz.prog 23 #[.agg #[.int .i64 n, .int .i64 s, .int .i64 q, .int .u32 (id : Int)], .slice a len cap] w fun e w' => e = .returned (.tuple #[packZ, .int .i64 (planErr n s q : Nat)]) ∧ Gr w w' := by
  have CC := planCheck_any n s q id hlo hm hsl hsm
  obtain ⟨E, hE⟩ : ∃ E, planErr n s q = E := ⟨_, rfl⟩
  rw [hE] at CC hP ⊢
  have HC := Lib.hid CC
  have ht : ((E : Int) != 0) = true := by rw [bne_iff_ne]; omega
  clear CC hP hE
  go_enter Tryz.func23, Tryz.ntmps23
  go_wp2_with fail
  refine (HC.out _).mono ?_
  rintro e w1 ⟨rfl, hg⟩
  have hgw := (((Gr.refl w).alloc _).alloc _).trans hg
  have hB := hg.heap (heap_alloc_new _ _)
  simp only [World.alloc, Array.size_push] at hB
  obtain ⟨cc0, cc1, cc2, cc3, cc4, cc5, cc6, ff⟩ := seven_cells hB
  clear hg hB
  have hG7 := gr_seven hgw (R := w.heap.size + 1) (Nat.le_succ _) (.int .u8 0) (.int .u32 0) (.int .u32 0) (.int .u8 0) (.slice none 0 0) (.int .u64 0) (.slice none 0 0)
  go_wp2
  refine bodyPost_ret (v := .tuple #[packZ, .int .i64 (E : Int)]) ?_ rfl ⟨rfl, hG7⟩
  simp [results, Tryz.results23, go_sem, packZ, cc0, cc1, cc2, cc3, cc4, cc5, cc6]

set_option maxRecDepth 100000 in
set_option maxHeartbeats 2000000 in
theorem packRead_head (n s q : Int) (id : Nat) (hlo : -9223372036854775808 ≤ n) (hm : n ≤ 9223372036854775807) (hsl : -9223372036854775808 ≤ s) (hsm : s ≤ 9223372036854775807) (a : Option Addr) (len cap : Nat) (l : List UInt8) (w : World) (hs : Bs w a len cap l) (hP : planErr n s q = 0) (hH : headErr l ≠ 0) :
    Calls Tryz.prog 23 #[.agg #[.int .i64 n, .int .i64 s, .int .i64 q, .int .u32 (id : Int)], .slice a len cap] w fun e w' => e = .returned (.tuple #[packZ, .int .i64 (headErr l : Nat)]) ∧ Gr w w' := by
  have CC := planCheck_any n s q id hlo hm hsl hsm
  rw [hP] at CC
  have HC := Lib.hid CC
  have HS := Lib.hid hs
  have HR := Lib.hid fun w hs => headRead_bad a len cap l w hs hH
  obtain ⟨E, hE⟩ : ∃ E, headErr l = E := ⟨_, rfl⟩
  rw [hE] at HR hH ⊢
  have ht : ((E : Int) != 0) = true := by rw [bne_iff_ne]; omega
  clear CC hP hE hs
  go_enter Tryz.func23, Tryz.ntmps23
  go_wp2_with fail
  refine (HC.out _).mono ?_
  rintro e w1 ⟨rfl, hg⟩
  have hgw := (((Gr.refl w).alloc _).alloc _).trans hg
  have hB := hg.heap (heap_alloc_new _ _)
  simp only [World.alloc, Array.size_push] at hB
  have HB := Lib.hid hB
  clear hg hB
  go_wp2_with fail
  refine (HR.out _ (HS.out.below hgw)).mono ?_
  rintro e w2 ⟨rfl, hg2⟩
  have hB2 := hg2.heap HB.out
  have hz := lt_of_block hB2
  have hgw2 := hgw.trans hg2
  have hne : ¬ w2.heap.size = w.heap.size + 1 := by omega
  have hne' : ¬ w.heap.size + 1 = w2.heap.size := by omega
  obtain ⟨cc0, cc1, cc2, cc3, cc4, cc5, cc6, ff⟩ := seven_cells hB2
  have h7 := seven_set hB2 (.int .u8 0) (.int .u32 0) (.int .u32 0) (.int .u8 0) (.slice none 0 0) (.int .u64 0) (.slice none 0 0)
  have h8 := ((Gr.refl _).alloc (.cells #[.int .u8 0, .int .u32 0, .int .u32 0] 68)).heap h7
  have D := Lib.hid (seven_cells h8)
  clear h7 h8
  clear hg2 hB2 hgw HB
  have hG7 := gr_seven hgw2 (R := w.heap.size + 1) (Nat.le_succ _) (.int .u8 0) (.int .u32 0) (.int .u32 0) (.int .u8 0) (.slice none 0 0) (.int .u64 0) (.slice none 0 0)
  have hG8 := hG7.alloc (.cells #[.int .u8 0, .int .u32 0, .int .u32 0] 68)
  clear hG7
  go_wp2
  obtain ⟨dd0, dd1, dd2, dd3, dd4, dd5, dd6, _⟩ := D.out
  refine bodyPost_ret (v := .tuple #[packZ, .int .i64 (E : Int)]) ?_ rfl ⟨rfl, hG8⟩
  simp [results, Tryz.results23, go_sem, packZ, dd0, dd1, dd2, dd3, dd4, dd5, dd6]

theorem pack_len {n s q : Int} {l : List UInt8} (hP : planErr n s q = 0) (hH : headErr l = 0) : lenE n s q (headM l) = 0 ∧ lenN n s q (headM l) = 14 + widthN (headM l) q + s ∧ 1 ≤ widthN (headM l) q ∧ 1 ≤ s ∧ s ≤ 65535 ∧ 1 ≤ q ∧ q ≤ 4096 := by
  obtain ⟨h1, h2⟩ := planErr_zero hP
  obtain ⟨f1, f2, f3, f4⟩ := planFit_zero h1
  have hp := planNeed_pos f1 f2
  have hw : widthE (headM l) q = 0 := widthE_ok (headErr_zero hH).2.2 (by omega) (by omega)
  have he : lenE n s q (headM l) = 0 := by rw [lenE, if_neg (by simpa using hP), hw]
  refine ⟨he, ?_, ?_, f2, f3, by omega, by omega⟩
  · rw [lenN, if_neg (by simpa using he)]
  · have h3 := (headErr_zero hH).2.2
    unfold headM at *
    unfold widthN
    rw [if_neg (by omega), if_neg (by omega)]
    split <;> omega

set_option maxRecDepth 100000 in
set_option maxHeartbeats 4000000 in
theorem packRead_rest (n s q : Int) (id : Nat) (hlo : -9223372036854775808 ≤ n) (hm : n ≤ 9223372036854775807) (hsl : -9223372036854775808 ≤ s) (hsm : s ≤ 9223372036854775807) (a : Option Addr) (len cap : Nat) (l : List UInt8) (w : World) (htab : Tab w) (hs : Bs w a len cap l) (hmx : len ≤ 140737488355328) (hP : planErr n s q = 0) (hH : headErr l = 0) (h0 : packErr n s q id l ≠ 0) :
    Calls Tryz.prog 23 #[.agg #[.int .i64 n, .int .i64 s, .int .i64 q, .int .u32 (id : Int)], .slice a len cap] w fun e w' => e = .returned (.tuple #[packZ, .int .i64 (packErr n s q id l : Nat)]) ∧ Gr w w' := by
  have hcap : len ≤ cap ∧ (cap : Int) ≤ 9223372036854775807 := ⟨hs.2.1, by have h2 := hs.2.2.1; unfold maxLen at h2; omega⟩
  obtain ⟨hcap1, hcap2⟩ := hcap
  obtain ⟨L1, L2, L3, L4, L5, L6, L7⟩ := pack_len hP hH
  have HE : Hid (packErr n s q id l = if (l.length : Int) ≠ 14 + widthN (headM l) q + s then 4 else if get4 (l.drop (l.length - 4)) ≠ crc (l.take (l.length - 4)) then 10 else if headO l ≠ id then 9 else 0) := by
    show _ = _
    rw [packErr, if_neg (by simpa using hP), if_neg (by simpa using hH)]
  have hll := hs.1
  have CC := planCheck_any n s q id hlo hm hsl hsm
  rw [hP] at CC
  have HC := Lib.hid CC
  have HS := Lib.hid hs
  have HT := Lib.hid htab
  have HR := Lib.hid fun w hs => headRead_ok a len cap l w hs hH hmx
  have CN := packLength_any n s q id (headM l) hlo hm hsl hsm
  rw [L1, L2] at CN
  have hN : 14 + widthN (headM l) q + s ≤ 9223372036854775807 := by have := (widthN_le (mode := headM l) (k := q)).2; omega
  obtain ⟨N, eN⟩ : ∃ N, 14 + widthN (headM l) q + s = N := ⟨_, rfl⟩
  obtain ⟨M, eM⟩ : ∃ M, headM l = M := ⟨_, rfl⟩
  obtain ⟨O, eO⟩ : ∃ O, headO l = O := ⟨_, rfl⟩
  rw [eN] at CN HE hN
  rw [eM] at CN HR
  rw [eO] at HR HE
  have HN := Lib.hid CN
  rw [hll] at HE
  clear CC CN hs htab
  have h15 : 15 < N := by omega
  clear L1 L2 L3 eN eM hP hH
  by_cases hL : (len : Int) ≠ N
  · have ht : ((len : Int) != N) = true := by rw [bne_iff_ne]; exact hL
    have he : Hid (packErr n s q id l = 4) := by show _ = _; rw [HE.out, if_pos hL]
    clear h0 hL HE
    go_enter Tryz.func23, Tryz.ntmps23
    go_wp2_with fail
    refine (HC.out _).mono ?_
    rintro e w1 ⟨rfl, hg⟩
    have hgw := (((Gr.refl w).alloc _).alloc _).trans hg
    have hA := hg.heap (Gr.heap (Gr.alloc (Gr.refl _) _) (heap_alloc_new _ _))
    have hB := hg.heap (heap_alloc_new _ _)
    simp only [World.alloc, Array.size_push] at hB
    have HA := Lib.hid hA
    have HB := Lib.hid hB
    clear hg hB hA
    go_wp2_with fail
    refine (HR.out _ (HS.out.below hgw)).mono ?_
    rintro e w2 ⟨a2, cap2, rfl, hb2, hg2⟩
    have hA2 := hg2.heap HA.out
    have hB2 := hg2.heap HB.out
    have hz := lt_of_block hB2
    have hgw2 := hgw.trans hg2
    obtain ⟨p0, p1, p2, p3⟩ := p_four_cells (Gr.heap (Gr.alloc (Gr.refl _) (.cells #[.int .u8 (M : Int), .int .u32 (O : Int), .int .u32 (headN l : Int)] 68)) hA2)
    have HB2 := Lib.hid hB2
    clear hg2 hA2 hB2 hgw HB HA hb2
    go_wp2_with fail
    refine (HN.out _).mono ?_
    rintro e w3 ⟨rfl, hg3⟩
    have hB3 := hg3.heap (Gr.heap (Gr.alloc (Gr.refl _) _) HB2.out)
    have hgw3 := (hgw2.alloc _).trans hg3
    obtain ⟨cc0, cc1, cc2, cc3, cc4, cc5, cc6, ff⟩ := seven_cells hB3
    have h7 := seven_set hB3 (.int .u8 0) (.int .u32 0) (.int .u32 0) (.int .u8 0) (.slice none 0 0) (.int .u64 0) (.slice none 0 0)
    have D := Lib.hid (seven_cells h7)
    have hG7 := gr_seven hgw3 (R := w.heap.size + 1) (Nat.le_succ _) (.int .u8 0) (.int .u32 0) (.int .u32 0) (.int .u8 0) (.slice none 0 0) (.int .u64 0) (.slice none 0 0)
    clear h7 hg3 hB3 hgw2 hgw3 HB2
    go_wp2
    obtain ⟨dd0, dd1, dd2, dd3, dd4, dd5, dd6, _⟩ := D.out
    refine bodyPost_ret (v := .tuple #[packZ, .int .i64 4]) ?_ rfl ⟨by rw [he.out]; rfl, hG7⟩
    simp [results, Tryz.results23, go_sem, packZ, dd0, dd1, dd2, dd3, dd4, dd5, dd6]
  have hL' : N = (len : Int) := by omega
  subst hL'
  obtain ⟨m, rfl⟩ : ∃ m, len = m + 4 := ⟨len - 4, by omega⟩
  have HE2 : Hid (packErr n s q id l = if get4 (l.drop m) ≠ crc (l.take m) then 10 else if O ≠ id then 9 else 0) := by
    show _ = _
    rw [HE.out, if_neg (by omega), Nat.add_sub_cancel]
  clear HE
  obtain ⟨b, off, rfl, hb, _⟩ := HS.out.at_ (by omega)
  have hs1 := HS.out.drop (k := m) (by omega)
  have hs2 := HS.out.take (k := m) (by omega)
  rw [Nat.add_sub_cancel_left] at hs1
  obtain ⟨ld, eld⟩ : ∃ x, l.drop m = x := ⟨_, rfl⟩
  obtain ⟨lt, elt⟩ : ∃ x, l.take m = x := ⟨_, rfl⟩
  rw [eld] at hs1 HE2
  rw [elt] at hs2 HE2
  have H1 := Lib.hid hs1
  have H2 := Lib.hid hs2
  have hcm : ¬ cap = m := by omega
  have hm4 : ¬ ((m : Int) + 4 < 4) := by omega
  have hmc : m ≤ cap := by omega
  have hmc' : (m : Int) ≤ (cap : Int) := by omega
  have hg4 := get4_lt ld
  have hcl := crc_lt lt
  obtain ⟨G, eG⟩ : ∃ G, get4 ld = G := ⟨_, rfl⟩
  obtain ⟨C, eC⟩ : ∃ C, crc lt = C := ⟨_, rfl⟩
  rw [eG, eC] at HE2
  have EG := Lib.hid eG
  have EC := Lib.hid eC
  clear hs1 hs2 eld elt eG eC hg4 hcl hL
  go_enter Tryz.func23, Tryz.ntmps23
  go_wp2_with fail
  refine (HC.out _).mono ?_
  rintro e w1 ⟨rfl, hg⟩
  have hgw := (((Gr.refl w).alloc _).alloc _).trans hg
  have hA := hg.heap (Gr.heap (Gr.alloc (Gr.refl _) _) (heap_alloc_new _ _))
  have hB := hg.heap (heap_alloc_new _ _)
  simp only [World.alloc, Array.size_push] at hB
  have HA := Lib.hid hA
  have HB := Lib.hid hB
  clear hg hB hA
  go_wp2_with fail
  refine (HR.out _ (HS.out.below hgw)).mono ?_
  rintro e w2 ⟨a2, cap2, rfl, hb2, hg2⟩
  have hA2 := hg2.heap HA.out
  have hB2 := hg2.heap HB.out
  have hz := lt_of_block hB2
  have hgw2 := hgw.trans hg2
  have hA3 := Gr.heap (Gr.alloc (Gr.refl _) (.cells #[.int .u8 (M : Int), .int .u32 (O : Int), .int .u32 (headN l : Int)] 68)) hA2
  obtain ⟨p0, p1, p2, p3⟩ := p_four_cells hA3
  have HA3 := Lib.hid hA3
  have HB2 := Lib.hid hB2
  clear hg2 hA2 hB2 hgw HB HA hb2 hA3
  go_wp2_with fail
  refine (HN.out _).mono ?_
  rintro e w3 ⟨rfl, hg3⟩
  have hB3 := hg3.heap (Gr.heap (Gr.alloc (Gr.refl _) _) HB2.out)
  have hgw3 := (hgw2.alloc _).trans hg3
  have hA4 := hg3.heap HA3.out
  have hT4 := hg3.heap (heap_alloc_new _ _)
  have HA4 := Lib.hid hA4
  have HB4 := Lib.hid hB3
  have HT4 := Lib.hid hT4
  clear hg3 hB3 hgw2 HB2 HA3 hA4 hT4 p0 p1 p2 p3
  go_wp2_with fail
  refine (sumGet_four _ (cap - m) ld _ (H1.out.below hgw3)).mono ?_
  rintro e w5 ⟨rfl, hg5⟩
  rw [EG.out]
  have hgw5 := hgw3.trans hg5
  have HA5 := Lib.hid (hg5.heap HA4.out)
  have HB5 := Lib.hid (hg5.heap HB4.out)
  have HT5 := Lib.hid (hg5.heap HT4.out)
  clear hg5 HA4 HB4 HT4 hgw3
  go_wp2_with fail
  refine (of_any (some ⟨w5.heap.size, 0, none⟩) 1 1 [lt] _ (HT.out.below (hgw5.alloc _)) (Bss.of_alloc1 (H2.out.below hgw5) rfl)).mono ?_
  rintro e w6 ⟨rfl, hg6⟩
  rw [show ([lt] : List (List UInt8)).flatten = lt by simp, EC.out]
  have hgw6 := (hgw5.alloc _).trans hg6
  by_cases hC : G ≠ C
  · have he : Hid (packErr n s q id l = 10) := by show _ = _; rw [HE2.out, if_pos hC]
    have ht : ((G : Int) != (C : Int)) = true := by rw [bne_iff_ne]; omega
    have hB6 := hg6.heap (Gr.heap (Gr.alloc (Gr.refl _) _) HB5.out)
    obtain ⟨cc0, cc1, cc2, cc3, cc4, cc5, cc6, ff⟩ := seven_cells hB6
    have h7 := seven_set hB6 (.int .u8 0) (.int .u32 0) (.int .u32 0) (.int .u8 0) (.slice none 0 0) (.int .u64 0) (.slice none 0 0)
    have D := Lib.hid (seven_cells h7)
    have hG7 := gr_seven hgw6 (R := w.heap.size + 1) (Nat.le_succ _) (.int .u8 0) (.int .u32 0) (.int .u32 0) (.int .u8 0) (.slice none 0 0) (.int .u64 0) (.slice none 0 0)
    clear h7 hg6 hB6 hgw6 HB5
    go_wp2
    obtain ⟨dd0, dd1, dd2, dd3, dd4, dd5, dd6, _⟩ := D.out
    refine bodyPost_ret (v := .tuple #[packZ, .int .i64 10]) ?_ rfl ⟨by rw [he.out]; rfl, hG7⟩
    simp [results, Tryz.results23, go_sem, packZ, dd0, dd1, dd2, dd3, dd4, dd5, dd6]
  · have hC' : G = C := by omega
    subst hC'
    have hO : O ≠ id := fun c => h0 (by rw [HE2.out, if_neg hC, if_neg (by simpa using c)])
    have he : Hid (packErr n s q id l = 9) := by show _ = _; rw [HE2.out, if_neg hC, if_pos hO]
    have ht : ((O : Int) != (id : Int)) = true := by rw [bne_iff_ne]; omega
    obtain ⟨p0, p1, p2, p3⟩ := p_four_cells (hg6.heap (Gr.heap (Gr.alloc (Gr.refl _) _) HA5.out))
    obtain ⟨q0, q1, q2, _⟩ := three_cells (hg6.heap (Gr.heap (Gr.alloc (Gr.refl _) _) HT5.out))
    have hB6 := hg6.heap (Gr.heap (Gr.alloc (Gr.refl _) _) HB5.out)
    obtain ⟨cc0, cc1, cc2, cc3, cc4, cc5, cc6, ff⟩ := seven_cells hB6
    have h7 := seven_set hB6 (.int .u8 0) (.int .u32 0) (.int .u32 0) (.int .u8 0) (.slice none 0 0) (.int .u64 0) (.slice none 0 0)
    have D := Lib.hid (seven_cells h7)
    have hG7 := gr_seven hgw6 (R := w.heap.size + 1) (Nat.le_succ _) (.int .u8 0) (.int .u32 0) (.int .u32 0) (.int .u8 0) (.slice none 0 0) (.int .u64 0) (.slice none 0 0)
    clear h7 hg6 hB6 hgw6 HB5
    go_wp2
    obtain ⟨dd0, dd1, dd2, dd3, dd4, dd5, dd6, _⟩ := D.out
    refine bodyPost_ret (v := .tuple #[packZ, .int .i64 9]) ?_ rfl ⟨by rw [he.out]; rfl, hG7⟩
    simp [results, Tryz.results23, go_sem, packZ, dd0, dd1, dd2, dd3, dd4, dd5, dd6]

theorem packRead_bad (n s q : Int) (id : Nat) (hlo : -9223372036854775808 ≤ n) (hm : n ≤ 9223372036854775807) (hsl : -9223372036854775808 ≤ s) (hsm : s ≤ 9223372036854775807) (a : Option Addr) (len cap : Nat) (l : List UInt8) (w : World) (htab : Tab w) (hs : Bs w a len cap l) (hmx : len ≤ 140737488355328) (h0 : packErr n s q id l ≠ 0) :
    Calls Tryz.prog 23 #[.agg #[.int .i64 n, .int .i64 s, .int .i64 q, .int .u32 (id : Int)], .slice a len cap] w fun e w' => e = .returned (.tuple #[packZ, .int .i64 (packErr n s q id l : Nat)]) ∧ Gr w w' := by
  by_cases hP : planErr n s q = 0
  · by_cases hH : headErr l = 0
    · exact packRead_rest n s q id hlo hm hsl hsm a len cap l w htab hs hmx hP hH h0
    · rw [show packErr n s q id l = headErr l by rw [packErr, if_neg (by simpa using hP), if_pos hH]]
      exact packRead_head n s q id hlo hm hsl hsm a len cap l w hs hP hH
  · rw [show packErr n s q id l = planErr n s q by rw [packErr, if_pos hP]]
    exact packRead_plan n s q id hlo hm hsl hsm a len cap w hP
end Go.Proofs.YtdmijoochgmhiaaGreatDoor
