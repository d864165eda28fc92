/-
  The walk of law SenderHolds.
-/
import Derived.Test.YtdmijoochgmhiacDoorHolds
import Derived.Test.YtdmijoochgmhiacDoorActs
import Derived.Test.YtdmijoochgmhiacDoorSenderSpent
import Derived.Test.YtdmijoochgmhiacDoorPacketPlain
import Derived.Test.YtdmijoochgmhiacDoorPacketAll
import Derived.Test.YtdmijoochgmhiacDoorRowSame
namespace Go.Proofs.YtdmijoochgmhiacDoor
open Go.RowKit
set_option linter.unusedVariables false

/-- the source, as it is read. -/
def gotB (m : Nat) (l : List UInt8) : List UInt8 := if m = 0 then l else []
def gotS (m sd : Nat) : Nat := if m = 0 then 0 else sd
theorem got_vec (m : Nat) (l : List UInt8) (sd q : Nat) : rowVec m (gotB m l) (gotS m sd) q = rowVec m l sd q := by
  unfold rowVec gotB gotS; by_cases h : m = 0
  · simp [h]
  · simp [h]
theorem got_same {m : Nat} (hm : m ≤ 1) (l : List UInt8) (sd : Nat) : rowSame m m (gotB m l) l (gotS m sd) sd = true := by
  unfold rowSame gotB gotS
  rw [if_neg (by simp)]
  by_cases h : m = 1
  · rw [if_pos h, if_neg (by omega)]; simp
  · rw [if_neg h, if_pos (by omega)]; exact sameB_self l
theorem got_le (m : Nat) (l : List UInt8) : (gotB m l).length ≤ l.length := by unfold gotB; split <;> simp
theorem gotS_lt {m sd : Nat} (h : sd < 18446744073709551616) : gotS m sd < 18446744073709551616 := by unfold gotS; split <;> omega
theorem got_fit {n s q id m len : Nat} {l : List UInt8} (hl : l.length = len) (hP : planErr n s q = 0) (hE : rowErr m len q = 0) : fitErr n s q id m id m (gotB m l).length s = 0 := by
  obtain ⟨h1, h2⟩ := rowErr_zero hE
  have h3 := (widthE_zero h1).1
  unfold fitErr
  rw [if_neg (by simpa using hP), if_neg (by omega), if_neg (by omega), if_neg (by omega), if_neg (fun h => h.2 (by rw [gotB, if_pos h.1, hl]; exact h2 h.1)), if_neg (by omega)]

/-- what the sent bytes are read as. -/
theorem sent_read {n s q id m len next sd : Nat} {l obj : List UInt8} (hl : l.length = len) (hid : id < 4294967296) (hnx : next < 4294967296) (hsd : sd < 18446744073709551616) (hP : planErr n s q = 0) (hE : rowErr m len q = 0) :
    packErr n s q id (sentL n s q id obj next m l sd) = 0 ∧ packGot n s q id (sentL n s q id obj next m l sd) = ⟨m, id, next, m, gotS m sd, gotB m l, combL (rowVec m l sd q) (cutL obj s q) s⟩ :=
  text_read hid hnx hsd (by rw [hl, combL_length cut_same]; exact sendFit hP hE)

theorem Bss.pastSend {w w' : World} {B n s q id SS c k : Nat} {obj : List UInt8} {next : Nat} {ls : List (List UInt8)} (hsa : SendAt w B n s q id obj next) (h : Bss w (some ⟨SS, 0, none⟩) k c ls) (hne : SS ≠ B) (g : GrB w B w') : Bss w' (some ⟨SS, 0, none⟩) k c ls := by
  obtain ⟨S, h1, _, _, _⟩ := hsa
  exact h.gap g h1 (fun j u => by match j with | 0 => simp | 1 => simp | 2 => simp | 3 => simp | 4 => simp | 5 => simp | j + 6 => simp) (fun y hy => by cases hy; exact hne)

set_option maxRecDepth 100000 in
set_option maxHeartbeats 8000000 in
theorem holdsLoop_ok (n s q : Nat) (id : Nat) (hP : planErr n s q = 0) (hid : id < 4294967296) (hnm : n ≤ 140737488355328) (ao : Option Addr) (co : Nat) (obj : List UInt8) (a : Option Addr) (len cap : Nat) (kf : Nat → Nat) (w : World) (htab : Tab w) (ho : Bs w ao n co obj) (h : Acts w a len cap kf)
    (CO : ∀ w, Calls Tryd.prog 32 #[.int .i64 (n : Int), .int .i64 (s : Int), .int .u32 (id : Int)] w fun e w' => e = .returned (.tuple #[.agg #[.int .i64 (n : Int), .int .i64 (s : Int), .int .i64 (q : Int), .int .u32 (id : Int)], .int .i64 0]) ∧ Gr w w') :
    Calls Tryd.prog 7 #[.slice ao n co, .int .i64 (s : Int), .int .u32 (id : Int), .slice a len cap] w fun e w' => e = .returned (.bool true) ∧ Gr w w' := by
  obtain ⟨hs1, hs2, hq1, hq2⟩ := plan_bounds hP
  have CF := Lib.hid fun w h => actFew_any n s q id (by omega) (by omega) (by omega) (by omega) ao n co a len cap kf w h
  have HCO := Lib.hid CO
  have H := Lib.hid h
  have HT := Lib.hid htab
  have HO := Lib.hid ho
  have HPE := Lib.hid hP
  have hlm : len ≤ 9223372036854775807 := by have h1 := h.1; have h2 := h.2.1; unfold maxLen at h2; omega
  clear h htab ho hP CO
  go_enter Tryd.func7, Tryd.ntmps7
  go_wp2_with fail
  refine (sendAwake _ HT.out).mono ?_
  rintro e w1 ⟨rfl, hg⟩
  have HW1 := Lib.hid hg
  clear hg
  go_wp2_with fail
  refine (HCO.out w1).mono ?_
  rintro e w2 ⟨rfl, hg⟩
  have hal := (Gr.refl w2).alloc (.cells #[.int .i64 (n : Int), .int .i64 (s : Int), .int .i64 (q : Int), .int .u32 (id : Int)] 24)
  have HP := Lib.hid (heap_alloc_new w2 (.cells #[.int .i64 (n : Int), .int .i64 (s : Int), .int .i64 (q : Int), .int .u32 (id : Int)] 24))
  have HW2 := Lib.hid ((HW1.out.trans hg).trans hal)
  clear hg hal HCO
  go_wp2_with fail
  refine (CF.out _ (H.out.below HW2.out)).mono ?_
  rintro e w3 ⟨b, rfl, hf, hg⟩
  have HF := Lib.hid hf
  have HW3 := Lib.hid (HW2.out.trans hg)
  have HP3 := Lib.hid (hg.heap HP.out)
  obtain ⟨p0, p1, p2, p3⟩ := p_four_cells HP3.out
  clear hg HP hf CF
  cases b with
  | false =>
    go_wp2
    first | go_ret | go_ret2
    exact ⟨rfl, HW3.out⟩
  | true =>
    obtain ⟨hkf, hn3, hl2, _⟩ := HF.out rfl
    have HKF := Lib.hid hkf
    have CN := Lib.hid fun w h => senderNew_ok n s q id HPE.out ao co obj w h (by omega)
    have CC := Lib.hid fun w h => cutCut_ok n s q id HPE.out ao co obj w h (by omega)
    clear HF hkf
    go_wp2_with fail
    refine (CN.out _ (HO.out.below HW3.out)).mono ?_
    rintro e w4 ⟨B, hB, rfl, hsa, hg⟩
    have hPB : w2.heap.size < B := by have := lt_of_block HP3.out; omega
    have HSA := Lib.hid hsa
    have HW4 := Lib.hid (HW3.out.trans hg)
    have HP4 := Lib.hid (hg.heap HP3.out)
    obtain ⟨p0, p1, p2, p3⟩ := p_four_cells HP4.out
    have hwB : w.heap.size ≤ B := by have := HW3.out.size; omega
    clear hg hsa hB HP3
    go_wp2_with fail
    refine (CC.out _ (HO.out.below HW4.out)).mono ?_
    rintro e w5 ⟨SS, hSS, rfl, hss, hg⟩
    have HW5 := Lib.hid (HW4.out.trans hg)
    have HP5 := Lib.hid (hg.heap HP4.out)
    have HSA5 := Lib.hid (HSA.out.gr hg)
    have hSB : B < SS := by obtain ⟨_, h1, _⟩ := HSA.out; have := lt_of_block h1; omega
    have HSY : Hid (∀ W, GrB w5 B W → Bss W (some ⟨SS, 0, none⟩) q q (cutL obj s q)) := fun W hG => Bss.pastSend HSA5.out hss (by omega) hG
    clear hg p0 p1 p2 p3 HP4 HSA hss hSS CN CC
    go_wp2
    go_loopw [14, 56] (fun nx i wr => ∃ j next : Nat, j ≤ len ∧ i = .int .i64 j ∧ nx = .int .u32 (next : Int) ∧ next ≤ j ∧ SendAt wr B n s q id obj next ∧ GrB w5 B wr) (fun _ i _ => len - (intOf i).toNat)
    case atStart => exact ⟨0, 0, Nat.zero_le _, rfl, rfl, Nat.le_refl _, HSA5.out, GrB.refl _ _⟩
    case round =>
      obtain ⟨j, next, hj, rfl, rfl, hnj, hsa, hgr⟩ := hrel
      have HSA := Lib.hid hsa
      have HGR := Lib.hid hgr
      have HWR := Lib.hid (HW5.out.grb hgr hwB)
      have HPR := Lib.hid (hgr.heap HP5.out (by omega))
      have hlt4 : next < 4294967296 := by omega
      have HL4 := Lib.hid hlt4
      have hnx20 : (next : Int) ≤ 20 := by omega
      clear hsa hgr HSA5
      by_cases hlt : j < len
      · obtain ⟨b, off, rfl, _⟩ := H.out.at_ (by omega)
        obtain ⟨d, m, a', c, l, sd, nn, c0, c1, c2, c3, c4, hd, hm', hb, hsd, hnn⟩ := H.out.get hlt
        replace c0 := HWR.out.cell c0
        replace c1 := HWR.out.cell c1
        replace c2 := HWR.out.cell c2
        replace c3 := HWR.out.cell c3
        replace c4 := HWR.out.cell c4
        have hk := HKF.out j hlt
        obtain ⟨kj, ekj⟩ : ∃ k, kf j = k := ⟨_, rfl⟩
        rw [ekj] at c2 hk hb
        clear ekj
        have hal := (Gr.refl wr).alloc (.cells #[.int .u8 (d : Int), .int .u8 (m : Int), .slice a' kj c, .int .u64 (sd : Int), .int .u64 (nn : Int)] 68)
        have HA := Lib.hid (heap_alloc_new wr (.cells #[.int .u8 (d : Int), .int .u8 (m : Int), .slice a' kj c, .int .u64 (sd : Int), .int .u64 (nn : Int)] 68))
        obtain ⟨x0, x1, x2, x3, x4, _⟩ := five_cells HA.out
        have HBW := Lib.hid hb
        have HB := Lib.hid (hb.below (HWR.out.trans hal))
        have HSA1 := Lib.hid (HSA.out.gr hal)
        have HG1 := Lib.hid (HGR.out.gr hal)
        have HW1 := Lib.hid (HWR.out.trans hal)
        have HP1 := Lib.hid (hal.heap HPR.out)
        have hAB : wr.heap.size ≠ B := by obtain ⟨_, h1, _⟩ := HSA.out; have := lt_of_block h1; omega
        have hlti : (j : Int) < (len : Int) := by omega
        have HNJ := Lib.hid hnj
        have hll := hb.1
        clear hal hb HSA HGR HWR HPR hnj
        by_cases hE : rowErr m kj q = 0
        · have CS := Lib.hid fun w ht h1 h2 => send_ok B n s q id HPE.out hid (by omega) obj next hlt4 m a' kj c sd hsd l (by omega) hE w ht h1 h2
          obtain ⟨t1, t2⟩ := sent_read (n := n) (s := s) (q := q) (id := id) (next := next) (obj := obj) hll hid hlt4 hsd HPE.out hE
          have hm1 : m ≤ 1 := (widthE_zero (rowErr_zero hE).1).1
          have HRS := Lib.hid (got_same hm1 l sd)
          have hfit := got_fit (id := id) hll HPE.out hE
          have hLPl : (combL (rowVec m l sd q) (cutL obj s q) s).length = s := combL_length cut_same
          have hTXl : (sentL n s q id obj next m l sd).length ≤ 1000000 := by
            rw [sentL, packText_length, hLPl]
            have : (rowText m l sd).length ≤ 100 := by unfold rowText; split; omega; exact (by decide : 8 ≤ 100)
            omega
          have hVl : (rowVec m l sd q).length = q := by
            unfold rowVec
            split
            · rename_i h0; rw [hll]; have := (rowErr_zero hE).2 h0; omega
            · exact mixList_length sd q
          have hgl := got_le m l
          have HGV := Lib.hid (got_vec m l sd q)
          obtain ⟨VV, eVV⟩ : ∃ V, rowVec m l sd q = V := ⟨_, rfl⟩
          rw [eVV] at t2 hLPl hVl HGV
          have HR : Hid (∀ a k c w, Tab w → Bs w a k c (sentL n s q id obj next m l sd) → Calls Tryd.prog 19 #[.agg #[.int .i64 (n : Int), .int .i64 (s : Int), .int .i64 (q : Int), .int .u32 (id : Int)], .slice a k c] w fun e w' =>
              ∃ a1 k1 c1 a2 k2 c2, e = .returned (.tuple #[.agg #[.int .u8 (m : Int), .int .u32 (id : Int), .int .u32 (next : Int), .int .u8 (m : Int), .slice a1 k1 c1, .int .u64 (gotS m sd : Int), .slice a2 k2 c2], .int .i64 0]) ∧ Bs w' a1 k1 c1 (gotB m l) ∧ Bs w' a2 k2 c2 (combL VV (cutL obj s q) s) ∧ Gr w w') := by
            show ∀ a k c w, _
            intro a k c w ht hb
            refine (packRead_all n s q id (by omega) (by omega) (by omega) (by omega) a k c _ w ht hb (by have := hb.1; omega)).mono ?_
            rintro e w' ⟨a1, k1, c1, a2, k2, c2, he, h1, h2, hg⟩
            rw [t1, t2] at he
            rw [t2] at h1 h2
            exact ⟨a1, k1, c1, a2, k2, c2, he, h1, h2, hg⟩
          have HQ : Hid (∀ a1 k1 c1 a2 k2 c2 w, Bs w a1 k1 c1 (gotB m l) → Bs w a2 k2 c2 (combL VV (cutL obj s q) s) → Calls Tryd.prog 36 #[.agg #[.int .u8 (m : Int), .int .u32 (id : Int), .int .u32 (next : Int), .int .u8 (m : Int), .slice a1 k1 c1, .int .u64 (gotS m sd : Int), .slice a2 k2 c2], .agg #[.int .i64 (n : Int), .int .i64 (s : Int), .int .i64 (q : Int), .int .u32 (id : Int)]] w fun e w' =>
              ∃ a3 c3 a4 c4, e = .returned (.tuple #[.agg #[.slice a3 q c3, .slice a4 s c4], .int .i64 0]) ∧ Bs w' a3 q c3 VV ∧ Bs w' a4 s c4 (combL VV (cutL obj s q) s) ∧ Gr w w') := by
            show ∀ a1 k1 c1 a2 k2 c2 w, _
            intro a1 k1 c1 a2 k2 c2 w h1 h2
            have e1 := h1.1
            have e2 := h2.1
            rw [hLPl] at e2
            subst e2
            have hfit' : fitErr n s q id m id m k1 s = 0 := by rw [← e1]; exact hfit
            refine (packEq_all n s q id m id next m k1 s (gotS m sd) (gotS_lt hsd) (by omega) (by omega) (by omega) (by omega) a1 a2 c1 c2 _ _ w h1 h2 (by omega) (by omega)).mono ?_
            rintro e w' ⟨a3, k3, c3, a4, k4, c4, he, ho3, ho4, hg⟩
            rw [hfit'] at he
            rw [wVec, if_pos (by rw [hLPl]; exact hfit), Int.toNat_natCast, HGV.out] at ho3
            rw [wData, if_pos (by rw [hLPl]; exact hfit)] at ho4
            have b3 := ho3.bs2.1
            have b4 := ho4.bs2.1
            obtain rfl : k3 = q := by rw [← b3.1, hVl]
            obtain rfl : k4 = s := by rw [← b4.1, hLPl]
            exact ⟨a3, c3, a4, c4, he, b3, b4, hg⟩
          obtain ⟨TX, eTX⟩ : ∃ T, sentL n s q id obj next m l sd = T := ⟨_, rfl⟩
          rw [eTX] at CS HR
          obtain ⟨LP, eLP⟩ : ∃ T, combL VV (cutL obj s q) s = T := ⟨_, rfl⟩
          have HLP := Lib.hid eLP
          rw [eLP] at HR HQ
          obtain ⟨GB, eGB⟩ : ∃ T, gotB m l = T := ⟨_, rfl⟩
          rw [eGB] at HR HQ HRS
          obtain ⟨GS, eGS⟩ : ∃ T, gotS m sd = T := ⟨_, rfl⟩
          rw [eGS] at HR HQ HRS
          clear hE t1 t2 hfit hLPl hTXl hVl hgl HGV eVV eTX eLP eGB eGS hm1 hlt4 hll
          have tnn : ((next : Int) != (next : Int)) = false := by simp
          have tid : ((id : Int) != (id : Int)) = false := by simp
          have tmm : ((m : Int) != (m : Int)) = false := by simp
          go_wp2_with fail
          refine (CS.out _ (HT.out.below HW1.out) HB.out HSA1.out).mono ?_
          rintro e w6 ⟨a7, k7, c7, rfl, hb7, hf7, hsa, hg⟩
          have HSA2 := Lib.hid hsa
          have HG2 := Lib.hid (HG1.out.trans hg)
          have HW2 := Lib.hid (HW1.out.grb hg hwB)
          have HA2 := Lib.hid (hg.heap HA.out hAB)
          have HP2 := Lib.hid (hg.heap HP1.out (by omega))
          have HB7 := Lib.hid hb7
          obtain ⟨x0, x1, x2, x3, x4, _⟩ := five_cells HA2.out
          obtain ⟨p0, p1, p2, p3⟩ := p_four_cells HP2.out
          clear hsa hg hb7 hf7 HSA1 HG1 HW1 HP1 CS HB
          go_wp2_with fail
          refine (HR.out a7 k7 c7 w6 (HT.out.below HW2.out) HB7.out).mono ?_
          rintro e w7 ⟨a1, k1, c1, a2, k2, c2', rfl, hb1, hb2, hg⟩
          have hal := hg.alloc (.cells #[.int .u8 (m : Int), .int .u32 (id : Int), .int .u32 (next : Int), .int .u8 (m : Int), .slice a1 k1 c1, .int .u64 (GS : Int), .slice a2 k2 c2'] 42)
          have hal1 := (Gr.refl w7).alloc (.cells #[.int .u8 (m : Int), .int .u32 (id : Int), .int .u32 (next : Int), .int .u8 (m : Int), .slice a1 k1 c1, .int .u64 (GS : Int), .slice a2 k2 c2'] 42)
          have HK7 := Lib.hid (heap_alloc_new w7 (.cells #[.int .u8 (m : Int), .int .u32 (id : Int), .int .u32 (next : Int), .int .u8 (m : Int), .slice a1 k1 c1, .int .u64 (GS : Int), .slice a2 k2 c2'] 42))
          have HSA3 := Lib.hid (HSA2.out.gr hal)
          have HG3 := Lib.hid (HG2.out.gr hal)
          have HW3 := Lib.hid (HW2.out.trans hal)
          have HA3 := Lib.hid (hal.heap HA2.out)
          have HP3 := Lib.hid (hal.heap HP2.out)
          have HB1 := Lib.hid (hb1.below hal1)
          have HB2 := Lib.hid (hb2.below hal1)
          obtain ⟨p0, p1, p2, p3⟩ := p_four_cells HP3.out
          obtain ⟨y0, y1, y2, y3, y4, y5, y6, _⟩ := seven_cells HK7.out
          clear hg hal hal1 hb1 hb2 HSA2 HG2 HW2 HA2 HP2 HB7 HR x0 x1 x2 x3 x4
          go_wp2_with fail
          refine (HQ.out a1 k1 c1 a2 k2 c2' _ HB1.out HB2.out).mono ?_
          rintro e w8 ⟨a3, c3, a4, c4, rfl, hb3, hb4, hg⟩
          have hal := hg.alloc (.cells #[.slice a3 q c3, .slice a4 s c4] 88)
          have hal1 := (Gr.refl w8).alloc (.cells #[.slice a3 q c3, .slice a4 s c4] 88)
          have HE8 := Lib.hid (heap_alloc_new w8 (.cells #[.slice a3 q c3, .slice a4 s c4] 88))
          have HSA4 := Lib.hid (HSA3.out.gr hal)
          have HG4 := Lib.hid (HG3.out.gr hal)
          have HW4' := Lib.hid (HW3.out.trans hal)
          have HB14 := Lib.hid (HB1.out.below hal)
          have HB3 := Lib.hid (hb3.below hal1)
          have HB4 := Lib.hid (hb4.below hal1)
          obtain ⟨x0, x1, x2, x3, x4, _⟩ := five_cells (hal.heap HA3.out)
          obtain ⟨y0, y1, y2, y3, y4, y5, y6, _⟩ := seven_cells (hal.heap HK7.out)
          obtain ⟨z0, z1⟩ := cells_two HE8.out
          clear hg hal hal1 hb3 hb4 HSA3 HG3 HW3 HA3 HP3 HB1 HB2 HK7 HQ p0 p1 p2 p3
          go_wp2_with fail
          refine (rowSame_any m m a1 a' k1 c1 kj c GB l GS sd _ HB14.out (HBW.out.below HW4'.out)).mono ?_
          rintro e w9 ⟨rfl, hg⟩
          rw [HRS.out]
          have HSA5 := Lib.hid (HSA4.out.gr hg)
          have HG5 := Lib.hid (HG4.out.gr hg)
          have HW5' := Lib.hid (HW4'.out.trans hg)
          have HB3' := Lib.hid (HB3.out.below hg)
          have HB4' := Lib.hid (HB4.out.below hg)
          obtain ⟨z0, z1⟩ := cells_two (hg.heap HE8.out)
          clear hg HSA4 HG4 HW4' HB3 HB4 HB14 HE8 HRS
          go_wp2_with fail
          have hal := (Gr.refl w9).alloc (.cells #[.slice a3 q c3, .slice a4 s c4] 88)
          have hA9 := heap_alloc_new w9 (.cells #[.slice a3 q c3, .slice a4 s c4] 88)
          obtain ⟨r0, r1⟩ := cells_two hA9
          refine (solveHolds_ok w9.heap.size SS 0 q q s (cutL obj s q) a3 q c3 VV a4 c4 _ (HSY.out _ (HG5.out.gr hal)) hq1 cut_same hs1 (by omega) (HB3'.out.below hal) rfl (by rw [HLP.out]; exact HB4'.out.below hal) r0 r1).mono ?_
          rintro e w10 ⟨rfl, hg⟩
          have HSA6 := Lib.hid (HSA5.out.gr (hal.trans hg))
          have HG6 := Lib.hid (HG5.out.gr (hal.trans hg))
          clear hg hal hA9 r0 r1 z0 z1 HSA5 HG5 HW5' HB3' HB4' x0 x1 x2 x3 x4 y0 y1 y2 y3 y4 y5 y6
          go_wp2
          go_roundw
          case rel => exact ⟨j + 1, next + 1, by omega, by go_num, by go_num, Nat.succ_le_succ HNJ.out, HSA6.out, HG6.out⟩
          case measure => simp [intOf]; omega
        · have CS := Lib.hid fun w h => send_bad B n s q id obj next hlt4 m a' kj c sd (by omega) hE w h
          obtain ⟨E, eE⟩ : ∃ E, rowErr m kj q = E := ⟨_, rfl⟩
          rw [eE] at CS hE
          have hE0 : ((E : Int) != 0) = true := by rw [bne_iff_ne]; omega
          clear eE hE hlt4 hll
          go_wp2_with fail
          refine (CS.out _ HSA1.out).mono ?_
          rintro e w6 ⟨rfl, hg⟩
          have HSA2 := Lib.hid (HSA1.out.gr hg)
          have HG2 := Lib.hid (HG1.out.gr hg)
          clear hg HSA1 HG1 HW1 HP1 HB x0 x1 x2 x3 x4
          go_wp2
          go_roundw
          case rel => exact ⟨j + 1, next, by omega, by go_num, rfl, Nat.le_succ_of_le HNJ.out, HSA2.out, HG2.out⟩
          case measure => simp [intOf]; omega
      · have hge : (len : Int) ≤ (j : Int) := by omega
        have hnw : (next : Int) % 18446744073709551616 = (next : Int) := by omega
        clear hlt4
        go_wp2_with fail
        refine (sendNext B n s q id obj next _ HSA.out).mono ?_
        rintro e w6 ⟨rfl, rfl⟩
        go_wp2
        first | go_ret | go_ret2
        exact ⟨rfl, HWR.out⟩
end Go.Proofs.YtdmijoochgmhiacDoor

namespace Go.Proofs.YtdmijoochgmhiacDoor
open Go.RowKit
set_option linter.unusedVariables false

set_option maxRecDepth 100000 in
set_option maxHeartbeats 2000000 in
theorem holdsLoop_bad (n : Nat) (s : Int) (hsl : -9223372036854775808 ≤ s) (hsm : s ≤ 9223372036854775807) (id : Nat) (hE : planFit n s ≠ 0) (hnm : n ≤ 9223372036854775807) (ao : Option Addr) (co : Nat) (a : Option Addr) (len cap : Nat) (w : World) (htab : Tab w) :
    Calls Tryd.prog 7 #[.slice ao n co, .int .i64 s, .int .u32 (id : Int), .slice a len cap] w fun e w' => e = .returned (.bool true) ∧ Gr w w' := by
  have CO := Lib.hid fun w => planOf_bad n s id (by omega) (by omega) hsl hsm hE w
  have HT := Lib.hid htab
  obtain ⟨E, eE⟩ : ∃ E, planFit n s = E := ⟨_, rfl⟩
  rw [eE] at CO hE
  have ht : ((E : Int) != 0) = true := by rw [bne_iff_ne]; omega
  clear eE hE htab
  go_enter Tryd.func7, Tryd.ntmps7
  go_wp2_with fail
  refine (sendAwake _ HT.out).mono ?_
  rintro e w1 ⟨rfl, hg1⟩
  go_wp2_with fail
  refine (CO.out w1).mono ?_
  rintro e w2 ⟨rfl, hg2⟩
  have hG := (hg1.trans hg2).alloc (.cells #[.int .i64 0, .int .i64 0, .int .i64 0, .int .u32 0] 24)
  clear hg1 hg2
  go_wp2
  first | go_ret | go_ret2
  exact ⟨rfl, hG⟩

theorem senderHolds_walk (w : World) (htab : Tab w) (ao : Option Addr) (ko co : Nat) (obj : List UInt8) (ho : Bs w ao ko co obj) (s : Int) (hsl : -9223372036854775808 ≤ s) (hsm : s ≤ 9223372036854775807) (id : Nat) (hid : id < 4294967296) (a : Option Addr) (len cap : Nat) (kf : Nat → Nat) (h : Acts w a len cap kf) :
    Calls Tryd.prog 7 #[.slice ao ko co, .int .i64 s, .int .u32 (id : Int), .slice a len cap] w fun e w' => e = .returned (.bool true) ∧ Gr w w' := by
  have hkm : ko ≤ 9223372036854775807 := by have h1 := ho.2.1; have h2 := ho.2.2.1; unfold maxLen at h2; omega
  by_cases hE : planFit ko s = 0
  · obtain ⟨f1, f2, f3, f4⟩ := planFit_zero hE
    have hp := planNeed_pos f1 f2
    obtain ⟨s', rfl⟩ := Int.eq_ofNat_of_zero_le (show 0 ≤ s by omega)
    obtain ⟨q', eq⟩ := Int.eq_ofNat_of_zero_le (show 0 ≤ planNeed ko s' by omega)
    have hP : planErr ko s' q' = 0 := by unfold planErr; rw [if_neg (by simpa using hE), if_neg (by simpa using eq.symm)]
    exact holdsLoop_ok ko s' q' id hP hid (by
      have h4 := f4; unfold planNeed at h4
      by_cases h0 : (ko : Int) = 0
      · omega
      · rw [if_neg h0] at h4
        have h5 : ((ko : Int) - 1) / s' < 4096 := by omega
        have h6 := Int.lt_mul_of_ediv_lt (by omega) h5
        have h7 : (4096 : Int) * s' ≤ 4096 * 65535 := by omega
        omega) ao co obj a len cap kf w htab ho h fun w => by
      have := planOf_ok ko s' id (by omega) hE w
      rw [eq] at this
      exact this
  · exact holdsLoop_bad ko s hsl hsm id hE hkm ao co a len cap w htab
end Go.Proofs.YtdmijoochgmhiacDoor
