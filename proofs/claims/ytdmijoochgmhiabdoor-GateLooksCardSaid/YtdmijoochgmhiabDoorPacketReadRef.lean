/-
  The walk of the document's Read of a packet.
-/
import Derived.Test.YtdmijoochgmhiabDoorPacketRead
import Derived.Test.YtdmijoochgmhiabDoorPacketLenRef
import Derived.Test.YtdmijoochgmhiabDoorHeadAllRef
namespace Go.Proofs.YtdmijoochgmhiabDoor
open Go.RowKit
set_option linter.unusedVariables false

set_option maxRecDepth 100000 in
set_option maxHeartbeats 2000000 in
theorem refPack_plan (n s q : Int) (id : Nat) (hlo : -9223372036854775808 ≤ n) (hm : n ≤ 9223372036854775807) (hsl : -9223372036854775808 ≤ s) (hsm : s ≤ 9223372036854775807) (a : Option Addr) (len cap : Nat) (w : World) (hP : planErr n s q ≠ 0) :
    Calls Tryd.prog 9 #[.agg #[.int .i64 n, .int .i64 s, .int .i64 q, .int .u32 (id : Int)], .slice a len cap] w fun e w' => e = .returned (.tuple #[packZ, .int .i64 (planErr n s q : Nat)]) ∧ Gr w w' := by
  have CC := refCheck_any n s q id hm hsm
  obtain ⟨E, hE⟩ : ∃ E, planErr n s q = E := ⟨_, rfl⟩
  rw [hE] at CC hP ⊢
  have HC := Lib.hid CC
  have ht : ((E : Int) != 0) = true := by rw [bne_iff_ne]; omega
  clear CC hP hE
  go_enter Tryd.func9, Tryd.ntmps9
  go_wp2_with fail
  refine (HC.out _).mono ?_
  rintro e w1 ⟨rfl, hg⟩
  have hgw := (((Gr.refl w).alloc _).alloc _).trans hg
  have hB := hg.heap (heap_alloc_new _ _)
  simp only [World.alloc, Array.size_push] at hB
  obtain ⟨cc0, cc1, cc2, cc3, cc4, cc5, cc6, ff⟩ := seven_cells hB
  clear hg hB
  have hG7 := gr_seven hgw (R := w.heap.size + 1) (Nat.le_succ _) (.int .u8 0) (.int .u32 0) (.int .u32 0) (.int .u8 0) (.slice none 0 0) (.int .u64 0) (.slice none 0 0)
  go_wp2
  refine bodyPost_ret (v := .tuple #[packZ, .int .i64 (E : Int)]) ?_ rfl ⟨rfl, hG7⟩
  simp [results, Tryd.results9, go_sem, packZ, cc0, cc1, cc2, cc3, cc4, cc5, cc6]

set_option maxRecDepth 100000 in
set_option maxHeartbeats 2000000 in
theorem refPack_head (n s q : Int) (id : Nat) (hlo : -9223372036854775808 ≤ n) (hm : n ≤ 9223372036854775807) (hsl : -9223372036854775808 ≤ s) (hsm : s ≤ 9223372036854775807) (a : Option Addr) (len cap : Nat) (l : List UInt8) (w : World) (hs : Bs w a len cap l) (hP : planErr n s q = 0) (hH : headErr l ≠ 0) :
    Calls Tryd.prog 9 #[.agg #[.int .i64 n, .int .i64 s, .int .i64 q, .int .u32 (id : Int)], .slice a len cap] w fun e w' => e = .returned (.tuple #[packZ, .int .i64 (headErr l : Nat)]) ∧ Gr w w' := by
  have CC := refCheck_any n s q id hm hsm
  rw [hP] at CC
  have HC := Lib.hid CC
  have HS := Lib.hid hs
  have HR := Lib.hid fun w hs => refHeadRead_bad a len cap l w hs hH
  obtain ⟨E, hE⟩ : ∃ E, headErr l = E := ⟨_, rfl⟩
  rw [hE] at HR hH ⊢
  have ht : ((E : Int) != 0) = true := by rw [bne_iff_ne]; omega
  clear CC hP hE hs
  go_enter Tryd.func9, Tryd.ntmps9
  go_wp2_with fail
  refine (HC.out _).mono ?_
  rintro e w1 ⟨rfl, hg⟩
  have hgw := (((Gr.refl w).alloc _).alloc _).trans hg
  have hB := hg.heap (heap_alloc_new _ _)
  simp only [World.alloc, Array.size_push] at hB
  have HB := Lib.hid hB
  clear hg hB
  go_wp2_with fail
  refine (HR.out _ (HS.out.below hgw)).mono ?_
  rintro e w2 ⟨rfl, hg2⟩
  have hB2 := hg2.heap HB.out
  have hz := lt_of_block hB2
  have hgw2 := hgw.trans hg2
  have hne : ¬ w2.heap.size = w.heap.size + 1 := by omega
  have hne' : ¬ w.heap.size + 1 = w2.heap.size := by omega
  obtain ⟨cc0, cc1, cc2, cc3, cc4, cc5, cc6, ff⟩ := seven_cells hB2
  have h7 := seven_set hB2 (.int .u8 0) (.int .u32 0) (.int .u32 0) (.int .u8 0) (.slice none 0 0) (.int .u64 0) (.slice none 0 0)
  have h8 := ((Gr.refl _).alloc (.cells #[.int .u8 0, .int .u32 0, .int .u32 0] 38)).heap h7
  have D := Lib.hid (seven_cells h8)
  clear h7 h8
  clear hg2 hB2 hgw HB
  have hG7 := gr_seven hgw2 (R := w.heap.size + 1) (Nat.le_succ _) (.int .u8 0) (.int .u32 0) (.int .u32 0) (.int .u8 0) (.slice none 0 0) (.int .u64 0) (.slice none 0 0)
  have hG8 := hG7.alloc (.cells #[.int .u8 0, .int .u32 0, .int .u32 0] 38)
  clear hG7
  go_wp2
  obtain ⟨dd0, dd1, dd2, dd3, dd4, dd5, dd6, _⟩ := D.out
  refine bodyPost_ret (v := .tuple #[packZ, .int .i64 (E : Int)]) ?_ rfl ⟨rfl, hG8⟩
  simp [results, Tryd.results9, go_sem, packZ, dd0, dd1, dd2, dd3, dd4, dd5, dd6]

set_option maxRecDepth 100000 in
set_option maxHeartbeats 4000000 in
theorem refPack_len (n s q : Int) (id : Nat) (hlo : -9223372036854775808 ≤ n) (hm : n ≤ 9223372036854775807) (hsl : -9223372036854775808 ≤ s) (hsm : s ≤ 9223372036854775807) (a : Option Addr) (len cap : Nat) (l : List UInt8) (w : World) (htab : Tab w) (hs : Bs w a len cap l) (hmx : len ≤ 140737488355328) (hP : planErr n s q = 0) (hH : headErr l = 0) (h0 : packErr n s q id l ≠ 0) (hL0 : (l.length : Int) ≠ 14 + widthN (headM l) q + s) :
    Calls Tryd.prog 9 #[.agg #[.int .i64 n, .int .i64 s, .int .i64 q, .int .u32 (id : Int)], .slice a len cap] w fun e w' => e = .returned (.tuple #[packZ, .int .i64 (packErr n s q id l : Nat)]) ∧ Gr w w' := by
  have hcap : len ≤ cap ∧ (cap : Int) ≤ 9223372036854775807 := ⟨hs.2.1, by have h2 := hs.2.2.1; unfold maxLen at h2; omega⟩
  obtain ⟨hcap1, hcap2⟩ := hcap
  obtain ⟨L1, L2, L3, L4, L5, L6, L7⟩ := pack_len hP hH
  have HE : Hid (packErr n s q id l = if (l.length : Int) ≠ 14 + widthN (headM l) q + s then 4 else if get4 (l.drop (l.length - 4)) ≠ crc (l.take (l.length - 4)) then 10 else if headO l ≠ id then 9 else 0) := by
    show _ = _
    rw [packErr, if_neg (by simpa using hP), if_neg (by simpa using hH)]
  have hll := hs.1
  have CC := refCheck_any n s q id hm hsm
  rw [hP] at CC
  have HC := Lib.hid CC
  have HS := Lib.hid hs
  have HT := Lib.hid htab
  have HR := Lib.hid fun w hs => refHeadRead_ok a len cap l w hs hH
  have CN := refLength_any n s q id (headM l) hlo hm hsl hsm
  rw [L1, L2] at CN
  have hN : 14 + widthN (headM l) q + s ≤ 9223372036854775807 := by have := (widthN_le (mode := headM l) (k := q)).2; omega
  obtain ⟨N, eN⟩ : ∃ N, 14 + widthN (headM l) q + s = N := ⟨_, rfl⟩
  obtain ⟨M, eM⟩ : ∃ M, headM l = M := ⟨_, rfl⟩
  obtain ⟨O, eO⟩ : ∃ O, headO l = O := ⟨_, rfl⟩
  rw [eN] at CN HE hN hL0
  rw [eM] at CN HR
  rw [eO] at HR HE
  have HN := Lib.hid CN
  rw [hll] at HE hL0
  clear CC CN hs htab
  have h15 : 15 < N := by omega
  clear L1 L2 L3 eN eM hP hH
  by_cases hL : (len : Int) ≠ N
  · have ht : ((len : Int) != N) = true := by rw [bne_iff_ne]; exact hL
    have he : Hid (packErr n s q id l = 4) := by show _ = _; rw [HE.out, if_pos hL]
    clear h0 hL HE
    go_enter Tryd.func9, Tryd.ntmps9
    go_wp2_with fail
    refine (HC.out _).mono ?_
    rintro e w1 ⟨rfl, hg⟩
    have hgw := (((Gr.refl w).alloc _).alloc _).trans hg
    have hA := hg.heap (Gr.heap (Gr.alloc (Gr.refl _) _) (heap_alloc_new _ _))
    have hB := hg.heap (heap_alloc_new _ _)
    simp only [World.alloc, Array.size_push] at hB
    have HA := Lib.hid hA
    have HB := Lib.hid hB
    clear hg hB hA
    go_wp2_with fail
    refine (HR.out _ (HS.out.below hgw)).mono ?_
    rintro e w2 ⟨a2, cap2, rfl, hb2, hg2⟩
    have hA2 := hg2.heap HA.out
    have hB2 := hg2.heap HB.out
    have hz := lt_of_block hB2
    have hgw2 := hgw.trans hg2
    obtain ⟨p0, p1, p2, p3⟩ := p_four_cells (Gr.heap (Gr.alloc (Gr.refl _) (.cells #[.int .u8 (M : Int), .int .u32 (O : Int), .int .u32 (headN l : Int)] 38)) hA2)
    have HB2 := Lib.hid hB2
    clear hg2 hA2 hB2 hgw HB HA hb2
    go_wp2_with fail
    refine (HN.out _).mono ?_
    rintro e w3 ⟨rfl, hg3⟩
    have hB3 := hg3.heap (Gr.heap (Gr.alloc (Gr.refl _) _) HB2.out)
    have hgw3 := (hgw2.alloc _).trans hg3
    obtain ⟨cc0, cc1, cc2, cc3, cc4, cc5, cc6, ff⟩ := seven_cells hB3
    have h7 := seven_set hB3 (.int .u8 0) (.int .u32 0) (.int .u32 0) (.int .u8 0) (.slice none 0 0) (.int .u64 0) (.slice none 0 0)
    have D := Lib.hid (seven_cells h7)
    have hG7 := gr_seven hgw3 (R := w.heap.size + 1) (Nat.le_succ _) (.int .u8 0) (.int .u32 0) (.int .u32 0) (.int .u8 0) (.slice none 0 0) (.int .u64 0) (.slice none 0 0)
    clear h7 hg3 hB3 hgw2 hgw3 HB2
    go_wp2
    obtain ⟨dd0, dd1, dd2, dd3, dd4, dd5, dd6, _⟩ := D.out
    refine bodyPost_ret (v := .tuple #[packZ, .int .i64 4]) ?_ rfl ⟨by rw [he.out]; rfl, hG7⟩
    simp [results, Tryd.results9, go_sem, packZ, dd0, dd1, dd2, dd3, dd4, dd5, dd6]
  · exact absurd hL0 hL
end Go.Proofs.YtdmijoochgmhiabDoor
