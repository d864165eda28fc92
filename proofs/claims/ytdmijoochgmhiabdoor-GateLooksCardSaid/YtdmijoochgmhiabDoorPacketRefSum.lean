/-
  The document's Read of a packet: the sum is another one.
-/
import Derived.Test.YtdmijoochgmhiabDoorPacketReadRef
import Derived.Test.YtdmijoochgmhiabDoorRefPut4
namespace Go.Proofs.YtdmijoochgmhiabDoor
open Go.RowKit
set_option linter.unusedVariables false

set_option maxRecDepth 100000 in
set_option maxHeartbeats 4000000 in
theorem refPack_sum (n s q : Int) (id : Nat) (hlo : -9223372036854775808 ≤ n) (hm : n ≤ 9223372036854775807) (hsl : -9223372036854775808 ≤ s) (hsm : s ≤ 9223372036854775807) (a : Option Addr) (len cap : Nat) (l : List UInt8) (w : World) (htab : Tab w) (hs : Bs w a len cap l) (hmx : len ≤ 140737488355328) (hP : planErr n s q = 0) (hH : headErr l = 0) (hL0 : (l.length : Int) = 14 + widthN (headM l) q + s) (h0 : get4 (l.drop (l.length - 4)) ≠ crc (l.take (l.length - 4))) :
    Calls Tryd.prog 9 #[.agg #[.int .i64 n, .int .i64 s, .int .i64 q, .int .u32 (id : Int)], .slice a len cap] w fun e w' => e = .returned (.tuple #[packZ, .int .i64 (packErr n s q id l : Nat)]) ∧ Gr w w' := by
  have hcap : len ≤ cap ∧ (cap : Int) ≤ 9223372036854775807 := ⟨hs.2.1, by have h2 := hs.2.2.1; unfold maxLen at h2; omega⟩
  obtain ⟨hcap1, hcap2⟩ := hcap
  obtain ⟨L1, L2, L3, L4, L5, L6, L7⟩ := pack_len hP hH
  have HE : Hid (packErr n s q id l = if (l.length : Int) ≠ 14 + widthN (headM l) q + s then 4 else if get4 (l.drop (l.length - 4)) ≠ crc (l.take (l.length - 4)) then 10 else if headO l ≠ id then 9 else 0) := by
    show _ = _
    rw [packErr, if_neg (by simpa using hP), if_neg (by simpa using hH)]
  have hll := hs.1
  have CC := refCheck_any n s q id hm hsm
  rw [hP] at CC
  have HC := Lib.hid CC
  have HS := Lib.hid hs
  have HT := Lib.hid htab
  have HR := Lib.hid fun w hs => refHeadRead_ok a len cap l w hs hH
  have CN := refLength_any n s q id (headM l) hlo hm hsl hsm
  rw [L1, L2] at CN
  have hN : 14 + widthN (headM l) q + s ≤ 9223372036854775807 := by have := (widthN_le (mode := headM l) (k := q)).2; omega
  obtain ⟨N, eN⟩ : ∃ N, 14 + widthN (headM l) q + s = N := ⟨_, rfl⟩
  obtain ⟨M, eM⟩ : ∃ M, headM l = M := ⟨_, rfl⟩
  obtain ⟨O, eO⟩ : ∃ O, headO l = O := ⟨_, rfl⟩
  rw [eN] at CN HE hN hL0
  rw [eM] at CN HR
  rw [eO] at HR HE
  have HN := Lib.hid CN
  rw [hll] at HE hL0 h0
  clear CC CN hs htab
  have h15 : 15 < N := by omega
  clear L1 L2 L3 eN eM hP hH
  have hL' : N = (len : Int) := by omega
  clear hL0
  subst hL'
  obtain ⟨m, rfl⟩ : ∃ m, len = m + 4 := ⟨len - 4, by omega⟩
  rw [Nat.add_sub_cancel] at h0
  have HE2 : Hid (packErr n s q id l = if get4 (l.drop m) ≠ crc (l.take m) then 10 else if O ≠ id then 9 else 0) := by
    show _ = _
    rw [HE.out, if_neg (by omega), Nat.add_sub_cancel]
  clear HE
  obtain ⟨b, off, rfl, hb, _⟩ := HS.out.at_ (by omega)
  have hs1 := HS.out.drop (k := m) (by omega)
  have hs2 := HS.out.take (k := m) (by omega)
  rw [Nat.add_sub_cancel_left] at hs1
  obtain ⟨ld, eld⟩ : ∃ x, l.drop m = x := ⟨_, rfl⟩
  obtain ⟨lt, elt⟩ : ∃ x, l.take m = x := ⟨_, rfl⟩
  rw [eld] at hs1 HE2 h0
  rw [elt] at hs2 HE2 h0
  have H1 := Lib.hid hs1
  have H2 := Lib.hid hs2
  have hcm : ¬ cap = m := by omega
  have hm4 : ¬ ((m : Int) + 4 < 4) := by omega
  have hmc : m ≤ cap := by omega
  have hmc' : (m : Int) ≤ (cap : Int) := by omega
  have hg4 := get4_lt ld
  have hcl := crc_lt lt
  have he : Hid (packErr n s q id l = 10) := by show _ = _; rw [HE2.out, if_pos h0]
  obtain ⟨G, eG⟩ : ∃ G, get4 ld = G := ⟨_, rfl⟩
  obtain ⟨C, eC⟩ : ∃ C, crc lt = C := ⟨_, rfl⟩
  rw [eC] at hcl
  rw [eG, eC] at h0
  have EG := Lib.hid eG
  have EC := Lib.hid eC
  clear hs1 hs2 eld elt eG eC hg4
  go_enter Tryd.func9, Tryd.ntmps9
  go_wp2_with fail
  refine (HC.out _).mono ?_
  rintro e w1 ⟨rfl, hg⟩
  have hgw := (((Gr.refl w).alloc _).alloc _).trans hg
  have hA := hg.heap (Gr.heap (Gr.alloc (Gr.refl _) _) (heap_alloc_new _ _))
  have hB := hg.heap (heap_alloc_new _ _)
  simp only [World.alloc, Array.size_push] at hB
  have HA := Lib.hid hA
  have HB := Lib.hid hB
  clear hg hB hA
  go_wp2_with fail
  refine (HR.out _ (HS.out.below hgw)).mono ?_
  rintro e w2 ⟨a2, cap2, rfl, hb2, hg2⟩
  have hA2 := hg2.heap HA.out
  have hB2 := hg2.heap HB.out
  have hz := lt_of_block hB2
  have hgw2 := hgw.trans hg2
  have hA3 := Gr.heap (Gr.alloc (Gr.refl _) (.cells #[.int .u8 (M : Int), .int .u32 (O : Int), .int .u32 (headN l : Int)] 38)) hA2
  obtain ⟨p0, p1, p2, p3⟩ := p_four_cells hA3
  have HA3 := Lib.hid hA3
  have HB2 := Lib.hid hB2
  clear hg2 hA2 hB2 hgw HB HA hb2 hA3
  go_wp2_with fail
  refine (HN.out _).mono ?_
  rintro e w3 ⟨rfl, hg3⟩
  have hB3 := hg3.heap (Gr.heap (Gr.alloc (Gr.refl _) _) HB2.out)
  have hgw3 := (hgw2.alloc _).trans hg3
  have hA4 := hg3.heap HA3.out
  have hT4 := hg3.heap (heap_alloc_new _ _)
  have HA4 := Lib.hid hA4
  have HB4 := Lib.hid hB3
  have HT4 := Lib.hid hT4
  clear hg3 hB3 hgw2 HB2 HA3 hA4 hT4 p0 p1 p2 p3
  go_wp2_with fail
  refine (refSum_any _ m cap lt _ (H2.out.below hgw3)).mono ?_
  rintro e w5 ⟨rfl, rfl⟩
  rw [EC.out]
  go_wp2_with fail
  refine (refPut_any C hcl _).mono ?_
  rintro e w5 ⟨v, rfl, a6, c6, rfl, hb6, ha6, hg6⟩
  have hne : ld ≠ put4 C := fun c => h0 (by rw [← EG.out, c, get4_put4 C hcl])
  have hp4 : (put4 C).length = 4 := rfl
  obtain ⟨pt, ept⟩ : ∃ x, put4 C = x := ⟨_, rfl⟩
  rw [ept] at hb6 hne hp4 ⊢
  rw [hp4] at hb6 ⊢
  have hgw5 := hgw3.trans hg6
  have hB5 := hg6.heap HB4.out
  have hl5 := H1.out.below hgw5
  have NE := Lib.hid hne
  have HB5 := Lib.hid hB5
  have HL5 := Lib.hid hl5
  have HP5 := Lib.hid hb6
  have hld := H1.out.1
  have HLD := Lib.hid hld
  have HPT := Lib.hid hp4
  clear hg6 HB4 HT4 HA4 hgw3 h0 ept hne hB5 hl5 hb6 hld hp4 ha6 hcl
  go_wp2
  go_loopw [13] (fun i wr => ∃ k : Nat, k ≤ 4 ∧ i = .int .i64 k ∧ ld.take k = pt.take k ∧ ∃ n, wr = w5.drewN n) (fun i _ => 4 - (intOf i).toNat)
  case atStart => exact ⟨0, Nat.zero_le _, rfl, rfl, 0, rfl⟩
  case round =>
    obtain ⟨k, hk, rfl, hke, nn, hw⟩ := hrel
    have HE := Lib.hid hke
    have hb : Gr w5 wr := by rw [hw]; exact (Gr.refl _).drewN _
    have HW := Lib.hid hw
    clear hke hw
    have h15b : (m : Int) ≤ 140737488355324 := by omega
    clear h15 hm4 hmc hmc' hcm hll hmx hN hcap1 hcap2 L4 L5 L6 L7
    by_cases hlt : k < 4
    · obtain ⟨x, hx, hcx⟩ := (HL5.out.below hb).get hlt
      obtain ⟨b', off', rfl, _, _⟩ := HP5.out.at_ (by omega)
      obtain ⟨y, hy, hcy⟩ := (HP5.out.below hb).get hlt
      rw [Nat.add_assoc] at hcx
      have HX := Lib.hid hx
      have HY := Lib.hid hy
      clear hx hy
      by_cases hxy : x = y
      · subst hxy
        have ht : ((x.toNat : Int) != (x.toNat : Int)) = false := by simp
        go_wp2
        go_quiet (fail)
        go_wp2
        go_roundw
        case rel => exact ⟨k + 1, by omega, by go_num, by rw [List.take_add_one, List.take_add_one, HE.out, HX.out, HY.out], nn + nq, by rw [HW.out]; exact World.drewN_drewN _ _ _⟩
        case measure => simp [intOf]; omega
      · have hxn : x.toNat ≠ y.toNat := fun h => hxy (UInt8.toNat_inj.1 h)
        have ht : ((x.toNat : Int) != (y.toNat : Int)) = true := by rw [bne_iff_ne]; omega
        have hBr := hb.heap HB5.out
        obtain ⟨cc0, cc1, cc2, cc3, cc4, cc5, cc6, ff⟩ := seven_cells hBr
        have hgr := hgw5.trans hb
        have HBR := Lib.hid hBr
        clear hBr
        go_wp2
        go_quiet (fail)
        have hB7 := ((Gr.refl wr).drewN nq).heap HBR.out
        have h7 := seven_set hB7 (.int .u8 0) (.int .u32 0) (.int .u32 0) (.int .u8 0) (.slice none 0 0) (.int .u64 0) (.slice none 0 0)
        have D := Lib.hid (seven_cells h7)
        have hG7 := gr_seven (hgr.drewN nq) (R := w.heap.size + 1) (Nat.le_succ _) (.int .u8 0) (.int .u32 0) (.int .u32 0) (.int .u8 0) (.slice none 0 0) (.int .u64 0) (.slice none 0 0)
        clear hB7 h7
        go_wp2
        obtain ⟨dd0, dd1, dd2, dd3, dd4, dd5, dd6, _⟩ := D.out
        refine bodyPost_ret (v := .tuple #[packZ, .int .i64 10]) ?_ rfl ⟨by rw [he.out]; rfl, hG7⟩
        simp [results, Tryd.results9, go_sem, packZ, dd0, dd1, dd2, dd3, dd4, dd5, dd6]
    · exact absurd (by
        have h := HE.out
        obtain rfl : k = 4 := by omega
        rwa [List.take_of_length_le (by rw [HLD.out]; exact Nat.le_refl _), List.take_of_length_le (by rw [HPT.out]; exact Nat.le_refl _)] at h) NE.out
end Go.Proofs.YtdmijoochgmhiabDoor
