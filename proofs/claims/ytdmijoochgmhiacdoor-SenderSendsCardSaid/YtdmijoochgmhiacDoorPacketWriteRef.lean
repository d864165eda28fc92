/-
  The walk of the document's Write of a packet.
-/
import Derived.Test.YtdmijoochgmhiacDoorPacketWrite
import Derived.Test.YtdmijoochgmhiacDoorPacketCheckRef
import Derived.Test.YtdmijoochgmhiacDoorRefRow
import Derived.Test.YtdmijoochgmhiacDoorHeadRef
namespace Go.Proofs.YtdmijoochgmhiacDoor
open Go.RowKit
set_option linter.unusedVariables false

set_option maxRecDepth 100000 in
set_option maxHeartbeats 2000000 in
theorem refWrite_bad (n s q : Int) (id m o md k k' : Nat) (nn sd : Int) (hm : n ≤ 9223372036854775807) (hsm : s ≤ 9223372036854775807) (hk : k ≤ 9223372036854775807) (hk' : k' ≤ 9223372036854775807) (a a' : Option Addr) (c c' : Nat) (w : World) (h0 : fitErr n s q id m o md k k' ≠ 0) :
    Calls Tryd.prog 30 #[.agg #[.int .i64 n, .int .i64 s, .int .i64 q, .int .u32 (id : Int)], .agg #[.int .u8 (m : Int), .int .u32 (o : Int), .int .u32 nn, .int .u8 (md : Int), .slice a k c, .int .u64 sd, .slice a' k' c']] w fun e w' => e = .returned (.tuple #[.slice none 0 0, .int .i64 (fitErr n s q id m o md k k' : Nat)]) ∧ Gr w w' := by
  have CF := refFits_any n s q id m o md k k' nn sd hm hsm hk hk' a a' c c'
  obtain ⟨E, hE⟩ : ∃ E, fitErr n s q id m o md k k' = E := ⟨_, rfl⟩
  rw [hE] at CF h0 ⊢
  have HF := Lib.hid CF
  have ht : ((E : Int) != 0) = true := by rw [bne_iff_ne]; omega
  clear CF h0 hE
  go_enter Tryd.func30, Tryd.ntmps30
  go_wp2_with fail
  refine (HF.out _).mono ?_
  rintro e w1 ⟨rfl, hg⟩
  have hgw := (((Gr.refl w).alloc _).alloc _).trans hg
  clear hg
  go_wp2
  go_ret2
  exact ⟨rfl, hgw⟩

set_option maxRecDepth 100000 in
set_option maxHeartbeats 4000000 in
theorem refWrite_ok (n s : Int) (q : Nat) (id m nn k k' seed : Nat) (ho : id < 4294967296) (hn : nn < 4294967296) (hsd : seed < 18446744073709551616) (hm : n ≤ 9223372036854775807) (hsm : s ≤ 9223372036854775807) (a a' : Option Addr) (c c' : Nat) (l lp : List UInt8) (w : World)
    (hs : Bs w a k c l) (hs' : Bs w a' k' c' lp) (hk : k ≤ 1000000000) (hk' : k' ≤ 1000000000) (h0 : fitErr n s q id m id m k k' = 0) :
    Calls Tryd.prog 30 #[.agg #[.int .i64 n, .int .i64 s, .int .i64 (q : Int), .int .u32 (id : Int)], .agg #[.int .u8 (m : Int), .int .u32 (id : Int), .int .u32 (nn : Int), .int .u8 (m : Int), .slice a k c, .int .u64 (seed : Int), .slice a' k' c']] w fun e w' => ∃ a1 c1, e = .returned (.tuple #[.slice a1 (packText m id nn l seed lp).length c1, .int .i64 0]) ∧ Bs w' a1 (packText m id nn l seed lp).length c1 (packText m id nn l seed lp) ∧ Gr w w' := by
  have CF := refFits_any n s q id m id m k k' nn seed hm hsm (by omega) (by omega) a a' c c'
  rw [h0] at CF
  have HF := Lib.hid CF
  have hz := fitErr_zero h0
  have hrow := fitErr_row h0
  have HH := Lib.hid fun w => refHeadBytes_own m id nn hz.2.1 ho hn w
  have HR := Lib.hid fun w hs => refRowWrite_ok m a k c l seed hsd q w hs (by omega) hrow
  have HS := Lib.hid hs
  have HS' := Lib.hid hs'
  obtain ⟨LH, eLH⟩ : ∃ x, headL m id nn = x := ⟨_, rfl⟩
  have hLH : LH.length = 10 := by rw [← eLH]; rfl
  obtain ⟨LR, eLR⟩ : ∃ x, rowText m l seed = x := ⟨_, rfl⟩
  have hLR : LR.length ≤ 1000000000 := by
    rw [← eLR, rowText]; split
    · rw [hs.1]; exact hk
    · show (put8 seed).length ≤ _; rw [show (put8 seed).length = 8 from rfl]; omega
  have HPT : Hid (packText m id nn l seed lp = (LH ++ LR ++ lp) ++ put4 (crc (LH ++ LR ++ lp))) := by
    show _ = _; rw [packText, packBody, eLH, eLR]; simp
  have HKP := Lib.hid hs'.1
  obtain ⟨PT, ePT⟩ : ∃ x, packText m id nn l seed lp = x := ⟨_, rfl⟩
  rw [ePT] at HPT ⊢
  obtain ⟨TL, eTL⟩ : ∃ x, PT.length = x := ⟨_, rfl⟩
  rw [eTL] at ⊢
  have HTL := Lib.hid eTL
  rw [eLH] at HH
  rw [eLR] at HR
  have HLH := Lib.hid hLH
  have hcl := crc_lt (LH ++ LR ++ lp)
  obtain ⟨CR, eCR⟩ : ∃ x, crc (LH ++ LR ++ lp) = x := ⟨_, rfl⟩
  rw [eCR] at HPT hcl
  have HCR := Lib.hid eCR
  clear CF hz hrow h0 hs hs' eLH hLH ePT eTL eLR eCR
  go_enter Tryd.func30, Tryd.ntmps30
  go_wp2_with fail
  refine (HF.out _).mono ?_
  rintro e w1 ⟨rfl, hg⟩
  have hgw := (((Gr.refl w).alloc _).alloc _).trans hg
  have hB := hg.heap (heap_alloc_new _ _)
  simp only [World.alloc, Array.size_push] at hB
  obtain ⟨cc0, cc1, cc2, cc3, cc4, cc5, cc6, ff⟩ := seven_cells hB
  have hA := hg.heap (Gr.heap (Gr.alloc (Gr.refl _) _) (heap_alloc_new w _))
  have HA := Lib.hid hA
  have HB := Lib.hid hB
  have hz1 := lt_of_block hB
  clear hA hB hg
  go_wp2_with fail
  refine (HH.out _).mono ?_
  rintro e w2 ⟨a2, cap2, rfl, ho2, hg2⟩
  obtain ⟨cc0, cc1, cc2, cc3, cc4, cc5, cc6, ff⟩ := seven_cells (hg2.heap HB.out)
  obtain ⟨p0, p1, p2, p3⟩ := p_four_cells (hg2.heap HA.out)
  have HB2 := Lib.hid (hg2.heap HB.out)
  have hgw2 := hgw.trans hg2
  have hz2 := hg2.size
  clear hg2 HA HB
  go_wp2_with fail
  refine (HR.out _ (HS.out.below hgw2)).mono ?_
  rintro e w3 ⟨a3, k3, cap3, rfl, hb3, hg3⟩
  have hk3 := hb3.1
  have ho3 := ho2.gr hg3
  have HB3 := Lib.hid (hg3.heap HB2.out)
  have hgw3 := hgw2.trans hg3
  have hq3 : LH.length + k3 ≤ 140737488355328 := by rw [HLH.out]; omega
  have hz3 := hg3.size
  have hbase3 : w1.heap.size ≤ w3.heap.size := by omega
  have hC : ∀ w4, w3.grownBy w4 (Value.slice a2 10 cap2).ownBlock → w4.cell? ⟨w.heap.size + 1, 6, none⟩ = some (.slice a' k' c') ∧ Gr w w4 := by
    intro w4 hg4
    have hBo : ∀ q, (Value.slice a2 10 cap2).ownBlock = some q → w1.heap.size ≤ q := fun q hq => (ho3.lt q hq).1
    have h4 : w4.heap[w.heap.size + 1]? = some (.cells #[.int .u8 (m : Int), .int .u32 (id : Int), .int .u32 (nn : Int), .int .u8 (m : Int), .slice a k c, .int .u64 (seed : Int), .slice a' k' c'] 74) := by
      rw [hg4.block _ (lt_of_block HB3.out) (fun e => by have := hBo _ e.symm; omega)]; exact HB3.out
    exact ⟨by simp [World.cell?, h4], hgw3.grown hg4 (fun q hq => by have := hBo q hq; have := hgw.size; omega)⟩
  clear hg3 hgw2 hk3 ho2 cc0 cc1 cc2 cc3 cc4 cc5 cc6 ff p0 p1 p2 p3
  go_wp2_with (with_reducible refine wpList_hold (o := ⟨some 37, _, _, _, _, _⟩) ?_)
  change wpList _ _ _ _ _ _
  refine wpList_append_bytes rfl (.tmp 35) (.tmp 36) rfl w1.heap.size (.slice a2 10 cap2) LH rfl ho3 a3 k3 cap3 LR rfl hb3 hq3 hbase3 ?_
  intro v4 w4 ho4 hg4 hn4
  obtain ⟨c6, hgw4⟩ := hC _ hg4
  obtain ⟨a4, cap4, rfl, _⟩ := ho4.slice
  have hb4 := HS'.out.below hgw4
  obtain ⟨N4, eN4⟩ : ∃ x, (LH ++ LR).length = x := ⟨_, rfl⟩
  have hN4 : N4 ≤ 1000000010 := by rw [← eN4, List.length_append, HLH.out]; omega
  have hq4 : (LH ++ LR).length + k' ≤ 140737488355328 := by rw [eN4]; omega
  rw [eN4] at ho4 ⊢
  have hbase4 : w1.heap.size ≤ w4.heap.size := Nat.le_trans hbase3 hg4.size
  clear hC hg4 hn4 ho3 hb3 hq3 hgw3
  go_wp2_with (with_reducible refine wpList_hold (o := ⟨some 41, _, _, _, _, _⟩) ?_)
  change wpList _ _ _ _ _ _
  refine wpList_append_bytes rfl (.tmp 38) (.tmp 40) rfl w1.heap.size (.slice a4 N4 cap4) (LH ++ LR) rfl ho4 a' k' c' lp rfl hb4 hq4 hbase4 ?_
  intro v5 w5 ho5 hg5 hn5
  obtain ⟨a5, cap5, rfl, hb5⟩ := ho5.slice
  have hgw5 : Gr w w5 := hgw4.grown hg5 (fun q hq => by have := (ho4.lt q hq).1; have := hgw.size; omega)
  obtain ⟨N5, eN5⟩ : ∃ x, (LH ++ LR ++ lp).length = x := ⟨_, rfl⟩
  have hN5 : N5 ≤ 2000000010 := by rw [← eN5, List.length_append, eN4]; have := HKP.out; omega
  rw [eN5] at ho5 hb5 ⊢
  have hbase5 : w1.heap.size ≤ w5.heap.size := Nat.le_trans hbase4 hg5.size
  have HB5 := Lib.hid hb5
  have HN5 := Lib.hid eN5
  clear hg5 hn5 ho4 hb4 hq4 hgw4 c6 eN4 eN5 hb5 hN4
  go_wp2_with fail
  refine (refSum_any a5 N5 cap5 _ w5 HB5.out).mono ?_
  rintro e w6 ⟨rfl, rfl⟩
  rw [HCR.out]
  go_wp2_with fail
  refine (refPut4_any CR hcl w5).mono ?_
  rintro e w6 ⟨a6, cap6, rfl, hb6, hg6⟩
  have ho6 := ho5.gr hg6
  have hq6 : (LH ++ LR ++ lp).length + 4 ≤ 140737488355328 := by rw [HN5.out]; omega
  have hbase6 : w1.heap.size ≤ w6.heap.size := Nat.le_trans hbase5 hg6.size
  have hgw6 := hgw5.trans hg6
  have HG1 := Lib.hid hgw.size
  clear hg6 ho5 hgw5 HB5 hgw
  go_wp2_with (with_reducible refine wpList_hold (o := ⟨some 46, _, _, _, _, _⟩) ?_)
  change wpList _ _ _ _ _ _
  refine wpList_append_bytes rfl (.tmp 42) (.tmp 45) rfl w1.heap.size (.slice a5 N5 cap5) (LH ++ LR ++ lp) rfl ho6 a6 4 cap6 (put4 CR) rfl hb6 hq6 hbase6 ?_
  intro v7 w7 ho7 hg7 hn7
  have hgw7 : Gr w w7 := hgw6.grown hg7 (fun q hq => by have := (ho6.lt q hq).1; have := HG1.out; omega)
  rw [← HPT.out] at ho7
  obtain ⟨a7, cap7, rfl, hb7⟩ := ho7.slice
  rw [HTL.out] at hb7 ⊢
  clear hg7 hn7 ho6 hq6 hgw6
  go_wp2
  go_ret2
  exact ⟨a7, cap7, rfl, hb7, hgw7⟩
end Go.Proofs.YtdmijoochgmhiacDoor
