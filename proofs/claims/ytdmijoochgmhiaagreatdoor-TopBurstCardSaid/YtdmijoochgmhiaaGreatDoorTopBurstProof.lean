/-
  The walk of law TopBurst.
  The proof's frame of 'TopBurst': the given statement, out of the walk.
-/
import Derived.Test.YtdmijoochgmhiaaGreatDoorTopAwake
import Derived.Test.YtdmijoochgmhiaaGreatDoorTopSent
import Derived.Test.YtdmijoochgmhiaaGreatDoorWayApply
import Derived.Test.YtdmijoochgmhiaaGreatDoorPacketGot
import Derived.Test.YtdmijoochgmhiaaGreatDoorGateAny
import Derived.Test.YtdmijoochgmhiaaGreatDoorCards
import Derived.Test.YtdmijoochgmhiaaGreatDoorTie
import Derived.Deep.DeepHandedRow
import Derived.Lib.LaidTab
import Derived.Test.YtdmijoochgmhiaaGreatDoorOpenSource
namespace Go.Proofs.YtdmijoochgmhiaaGreatDoor
open Go.RowKit
set_option linter.unusedVariables false

theorem packErr_other {n s q : Int} {id other : Nat} {l : List UInt8} (h : packErr n s q id l = 0) (hne : other ≠ id) : packErr n s q other l ≠ 0 := fun h2 => by
  have e1 := (packErr_zero h).2.2.2.2
  have e2 := (packErr_zero h2).2.2.2.2
  omega
/-- what an act makes of a packet: it is as it was, or no packet. -/
theorem act_case {n s q : Int} {id d J p : Nat} {l : List UInt8} (h : packErr n s q id l = 0) (hf : actFits d J l.length) :
    (actFrom d J p l = 0 ∧ actOut d J p l = l) ∨ (actFrom d J p l = -1 ∧ packErr n s q id (actOut d J p l) ≠ 0) := by
  rcases hf with ⟨rfl, hJ⟩ | ⟨rfl, hJ⟩
  · unfold actFrom actOut
    rw [if_pos rfl, if_pos rfl]
    cases ht : turned (8 * l.length) J p 32 with
    | false => exact .inl ⟨rfl, burst_none l J p 32 ht⟩
    | true =>
      refine .inr ⟨rfl, fun h0 => ?_⟩
      have := (packErr_burst h J p hJ).1 h0
      rw [ht] at this; cases this
  · unfold actFrom actOut
    rw [if_neg (by decide), if_neg (by decide)]
    exact .inr ⟨rfl, packErr_cut h J hJ⟩
theorem act_len (d J p : Nat) (l : List UInt8) : (actOut d J p l).length ≤ l.length := by
  unfold actOut; split
  · rw [burst_length]; exact Nat.le_refl _
  · rw [List.length_take]; exact Nat.min_le_right _ _
theorem srcs_one {W : World} {b len cap m sd : Nat} {a : Option Addr} {l : List UInt8} {t : TypeId} (h : W.heap[b]? = some (.cells #[.int .u8 (m : Int), .slice a len cap, .int .u64 (sd : Int)] t)) (hm : m < 256) (hb : Bs W a len cap l) (hsd : sd < 18446744073709551616) : Srcs W (some ⟨b, 0, none⟩) 1 1 [⟨m, l, sd⟩] := by
  obtain ⟨x0, x1, x2, -⟩ := three_cells h
  refine ⟨rfl, Nat.le_refl _, by decide, (fun h => by cases h), fun x hx i s hs => ?_⟩
  cases hx
  match i with
  | 0 =>
    simp at hs; subst hs
    have e := hb.1
    refine ⟨a, cap, by rw [show 0 * 3 = 0 from rfl, Addr.add_zero']; exact x0, ?_, ?_, hm, by show Bs W a l.length cap l; rw [e]; exact hb, hsd⟩
    · show W.cell? _ = some (.slice a l.length cap); rw [e]; exact x1
    · exact x2
  | i + 1 => simp at hs

set_option maxRecDepth 100000 in
set_option maxHeartbeats 4000000 in
theorem topBurst_bad (ko : Nat) (s : Int) (hsl : -9223372036854775808 ≤ s) (hsm : s ≤ 9223372036854775807) (id : Nat) (hE : planFit ko s ≠ 0) (hkm : ko ≤ 9223372036854775807) (ao : Option Addr) (co m : Nat) (a : Option Addr) (len cap sd place bits cut other : Nat) (w : World) (htab : Tab w) :
    Calls Tryz.prog 4 #[.slice ao ko co, .int .i64 s, .int .u32 (id : Int), .agg #[.int .u8 (m : Int), .slice a len cap, .int .u64 (sd : Int)], .int .u16 (place : Int), .int .u32 (bits : Int), .int .u8 (cut : Int), .int .u32 (other : Int)] w fun e w' => e = .returned (.bool true) ∧ Gr w w' := by
  have CO := Lib.hid fun w => small_bad ko s hsl hsm id hE hkm ao co w
  have hal := (Gr.refl w).alloc (.cells #[.int .u8 (m : Int), .slice a len cap, .int .u64 (sd : Int)] 41)
  have HT := Lib.hid (htab.below hal)
  have HAL := Lib.hid hal
  clear hE htab hal
  go_enter Tryz.func4, Tryz.ntmps4
  go_wp2_with fail
  refine (topAwake _ HT.out).mono ?_
  rintro e w1 ⟨rfl, hg1⟩
  go_wp2_with fail
  refine (CO.out w1).mono ?_
  rintro e w2 ⟨rfl, hg2⟩
  have hG := (HAL.out.trans (hg1.trans hg2)).alloc (.cells #[.int .i64 0, .int .i64 0, .int .i64 0, .int .u32 0] 28)
  clear hg1 hg2
  go_wp2
  first | go_ret | go_ret2
  exact ⟨rfl, hG⟩

set_option maxRecDepth 100000 in
set_option maxHeartbeats 8000000 in
theorem topBurst_ok (n s q : Nat) (id : Nat) (hP : planErr n s q = 0) (hid : id < 4294967296) (hnm : n ≤ 1000000000) (ao : Option Addr) (co : Nat) (obj : List UInt8) (m : Nat) (hm256 : m < 256) (a : Option Addr) (len cap sd : Nat) (hsd : sd < 18446744073709551616) (lb : List UInt8) (place bits cut other : Nat) (hpl : place < 65536) (hbits : bits < 4294967296) (hcut : cut < 256) (hoth : other < 4294967296) (w : World) (htab : Tab w) (ho : Bs w ao n co obj) (hb : Bs w a len cap lb)
    (CO : ∀ w, Calls Tryz.prog 27 #[.int .i64 (n : Int), .int .i64 (s : Int), .int .u32 (id : Int)] w fun e w' => e = .returned (.tuple #[.agg #[.int .i64 (n : Int), .int .i64 (s : Int), .int .i64 (q : Int), .int .u32 (id : Int)], .int .i64 0]) ∧ Gr w w') :
    Calls Tryz.prog 4 #[.slice ao n co, .int .i64 (s : Int), .int .u32 (id : Int), .agg #[.int .u8 (m : Int), .slice a len cap, .int .u64 (sd : Int)], .int .u16 (place : Int), .int .u32 (bits : Int), .int .u8 (cut : Int), .int .u32 (other : Int)] w fun e w' => e = .returned (.bool true) ∧ Gr w w' := by
  obtain ⟨hs1, hs2, hq1, hq2⟩ := plan_bounds hP
  have CS := Lib.hid fun w => small_ok n s q id hP (by omega) ao co w CO
  have HPE := Lib.hid hP
  have hal := (Gr.refl w).alloc (.cells #[.int .u8 (m : Int), .slice a len cap, .int .u64 (sd : Int)] 41)
  have HBY := Lib.hid (heap_alloc_new w (.cells #[.int .u8 (m : Int), .slice a len cap, .int .u64 (sd : Int)] 41))
  have HT := Lib.hid htab
  have HAL := Lib.hid hal
  have HO := Lib.hid ho
  have HB := Lib.hid hb
  clear hP htab ho hb hal CO
  go_enter Tryz.func4, Tryz.ntmps4
  go_wp2_with fail
  refine (topAwake _ (HT.out.below HAL.out)).mono ?_
  rintro e w1 ⟨rfl, hg1⟩
  have HW1 := Lib.hid (HAL.out.trans hg1)
  have HBY1 := Lib.hid (hg1.heap HBY.out)
  clear hg1
  go_wp2_with fail
  refine (CS.out w1).mono ?_
  rintro e w2 ⟨rfl, hg⟩
  have hal := (Gr.refl w2).alloc (.cells #[.int .i64 (n : Int), .int .i64 (s : Int), .int .i64 (q : Int), .int .u32 (id : Int)] 28)
  have HP := Lib.hid (heap_alloc_new w2 (.cells #[.int .i64 (n : Int), .int .i64 (s : Int), .int .i64 (q : Int), .int .u32 (id : Int)] 28))
  have HW2 := Lib.hid ((HW1.out.trans hg).trans hal)
  have HBY2 := Lib.hid (hal.heap (hg.heap HBY1.out))
  obtain ⟨x0, x1, x2, -⟩ := three_cells HBY2.out
  clear hg hal CS
  cases hsb : smallB s q with
  | false =>
    go_wp2
    first | go_ret | go_ret2
    exact ⟨rfl, HW2.out⟩
  | true =>
    have hsml : q ≤ 12 ∧ s ≤ 20 := of_decide_eq_true hsb
    obtain ⟨hq12, hs20⟩ := hsml
    clear hsb
    go_wp2_with fail
    have hal := (Gr.refl (w2.alloc (.cells #[.int .i64 (n : Int), .int .i64 (s : Int), .int .i64 (q : Int), .int .u32 (id : Int)] 28))).alloc (.cells #[.int .u8 (m : Int), .slice a len cap, .int .u64 (sd : Int)] 41)
    have hSB := heap_alloc_new (w2.alloc (.cells #[.int .i64 (n : Int), .int .i64 (s : Int), .int .i64 (q : Int), .int .u32 (id : Int)] 28)) (.cells #[.int .u8 (m : Int), .slice a len cap, .int .u64 (sd : Int)] 41)
    rw [World.size_alloc] at hSB
    refine (few_any _ 1 1 [⟨m, lb, sd⟩] _ (srcs_one hSB hm256 (HB.out.below (HW2.out.trans hal)) hsd)).mono ?_
    rintro e w3 ⟨b, rfl, hf, hg⟩
    have HF := Lib.hid hf
    have HW3 := Lib.hid (HW2.out.trans (hal.trans hg))
    have HBY3 := Lib.hid (hg.heap (hal.heap HBY2.out))
    have HP3 := Lib.hid (hg.heap (hal.heap HP.out))
    obtain ⟨x0, x1, x2, -⟩ := three_cells HBY3.out
    obtain ⟨p0, p1, p2, p3⟩ := p_four_cells HP3.out
    clear hf hg hal hSB HP HBY2 HW2
    cases b with
    | false =>
      go_wp2
      first | go_ret | go_ret2
      exact ⟨rfl, HW3.out⟩
    | true =>
      have hfew := HF.out rfl
      have hl60 : lb.length ≤ 60 := hfew.1 ⟨m, lb, sd⟩ (by simp)
      have HFEW := Lib.hid hfew
      clear hfew HF
      go_wp2_with fail
      have hal := (Gr.refl w3).alloc (.cells #[.int .u8 (m : Int), .slice a len cap, .int .u64 (sd : Int)] 41)
      have hSB := heap_alloc_new w3 (.cells #[.int .u8 (m : Int), .slice a len cap, .int .u64 (sd : Int)] 41)
      refine (sent_ok n s q id HPE.out hid hnm ao co obj _ 1 1 [⟨m, lb, sd⟩] _ (HT.out.below (HW3.out.trans hal)) (HO.out.below (HW3.out.trans hal)) (srcs_one hSB hm256 (HB.out.below (HW3.out.trans hal)) hsd) HFEW.out).mono ?_
      rintro e w4 ⟨v, rfl, hrow, hg⟩
      obtain ⟨al, cl, rfl, hbss, _⟩ := hrow.bss
      have HW4 := Lib.hid (HW3.out.trans (hal.trans hg))
      have HBY4 := Lib.hid (hg.heap (hal.heap HBY3.out))
      have HP4 := Lib.hid (hg.heap (hal.heap HP3.out))
      obtain ⟨p0, p1, p2, p3⟩ := p_four_cells HP4.out
      have HL4 := Lib.hid hbss
      clear hrow hg hal hSB hbss HBY3 HP3 HW3 x0 x1 x2
      have CN := Lib.hid fun w => takerNew_ok n s q id HPE.out (by omega) w
      go_wp2_with fail
      refine (CN.out w4).mono ?_
      rintro e w5 ⟨T, E, rfl, hE1, hET, hta, hee, hg⟩
      have HTA := Lib.hid hta
      have HEE := Lib.hid hee
      have HW5 := Lib.hid (HW4.out.trans hg)
      have HG5 := Lib.hid hg
      have HP5 := Lib.hid (hg.heap HP4.out)
      have hw4 := HW4.out.size
      clear hta hee hg p0 p1 p2 p3
      by_cases hok : rowErr m lb.length q = 0
      · have hst : sentTo n s q id obj [⟨m, lb, sd⟩] 1 = [sentL n s q id obj 0 m lb sd] := by
          have e1 : okSrc q (([⟨m, lb, sd⟩] : List Src).getD 0 dSrc) = true := decide_eq_true hok
          rw [sentTo, if_pos e1]; rfl
        have hL5 : Bss w4 al 1 cl [sentL n s q id obj 0 m lb sd] := by
          have := HL4.out
          rw [hst] at this; exact this
        rw [hst, show ([sentL n s q id obj 0 m lb sd] : List (List UInt8)).length = 1 from rfl]
        clear hst HL4
        obtain ⟨t1, _⟩ := sent_read (n := n) (s := s) (q := q) (id := id) (next := 0) (obj := obj) (m := m) (l := lb) (len := lb.length) (sd := sd) rfl hid (by decide) hsd HPE.out hok
        have hLP : (combL (rowVec m lb sd q) (cutL obj s q) s).length = s := combL_length cut_same
        have hTXl : (sentL n s q id obj 0 m lb sd).length ≤ 1000 := by
          rw [sentL, packText_length, hLP]
          have : (rowText m lb sd).length ≤ 60 := by unfold rowText; split; omega; exact (by decide : 8 ≤ 60)
          omega
        have hTX1 := sentL_pos n s q id obj 0 m lb sd
        have HTK : Hid (∀ (g : Option Nat) (es : List Nat) (a : Option Addr) (k c : Nat) (w : World), es.length ≤ 1000 → Tab w → Bs w a k c (sentL n s q id obj 0 m lb sd) → TakAt w T E n s q id g 0 → GateAt w g es → w.heap[E]? = some (.cells #[.int .i64 (q : Int), .int .i64 (s : Int), .slice none 0 0] 144) →
            Calls Tryz.prog 15 #[.pointer (some ⟨T, 0, none⟩), .slice a k c] w fun e w' => ∃ g' st, e = .returned (.int .i64 0) ∧ TakAt w' T E n s q id (some g') st ∧ GateAt w' (some g') (0 :: es) ∧ GrC w T E w') := by
          show ∀ g es a k c w, _
          intro g es a k c w hes ht hb2 hta hga hee
          refine (take_sent T E n s q id (by omega) HPE.out hid hnm obj 0 (by decide) m lb.length sd hsd lb rfl (by omega) hok g es hes a k c w ht hb2 hta hga hee).mono ?_
          rintro e w' ⟨g', he, h1, h2, _, h4⟩
          exact ⟨g', _, he, h1, h2, h4⟩
        obtain ⟨TX, eTX⟩ : ∃ T, sentL n s q id obj 0 m lb sd = T := ⟨_, rfl⟩
        rw [eTX] at hL5 t1 hTXl hTX1 HTK
        obtain ⟨bl, offl, rfl, _⟩ := hL5.at_ (by omega)
        obtain ⟨tx, at', kt, ct, htx, hct, hbt⟩ := hL5.get (i := 0) (by omega)
        obtain rfl : TX = tx := by simpa using htx
        have hktl := hbt.1
        rw [Nat.add_zero] at hct
        rw [hktl] at hTXl hTX1
        have HL5 := Lib.hid hL5
        have HBT := Lib.hid hbt
        have HCT := Lib.hid hct
        have HKT := Lib.hid hktl
        have HT1 := Lib.hid t1
        obtain ⟨J, eJ⟩ : ∃ J, place % (8 * kt) = J := ⟨_, rfl⟩
        have hJl : J < 8 * kt := by rw [← eJ]; exact Nat.mod_lt _ (by omega)
        have hJm : (place : Int).tmod (8 * (kt : Int)) = (J : Int) := by rw [← eJ]; simp [Int.tmod_eq_emod_of_nonneg]
        obtain ⟨C, eC⟩ : ∃ J, cut % kt = J := ⟨_, rfl⟩
        have hCl : C < kt := by rw [← eC]; exact Nat.mod_lt _ (by omega)
        have hCm : (cut : Int).tmod (kt : Int) = (C : Int) := by rw [← eC]; simp [Int.tmod_eq_emod_of_nonneg]
        clear hLP eTX htx hL5 hbt t1 hktl eJ eC
        have hct5 := HG5.out.cell hct
        go_wp2
        have hA6 := heap_alloc_new w5 (.cells #[.int .i64 4, .int .i64 0, .int .i64 (J : Int), .int .u32 (bits : Int), .slice none 0 0, .int .i64 3, .int .i64 0, .int .i64 (C : Int), .int .u32 0, .slice none 0 0] 61)
        have hal := (Gr.refl w5).alloc (.cells #[.int .i64 4, .int .i64 0, .int .i64 (J : Int), .int .u32 (bits : Int), .slice none 0 0, .int .i64 3, .int .i64 0, .int .i64 (C : Int), .int .u32 0, .slice none 0 0] 61)
        obtain ⟨A, eA⟩ : ∃ A, w5.heap.size = A := ⟨_, rfl⟩
        obtain ⟨W6, eW⟩ : ∃ W, w5.alloc (.cells #[.int .i64 4, .int .i64 0, .int .i64 (J : Int), .int .u32 (bits : Int), .slice none 0 0, .int .i64 3, .int .i64 0, .int .i64 (C : Int), .int .u32 0, .slice none 0 0] 61) = W := ⟨_, rfl⟩
        have hTA : T < A := by rw [← eA]; exact lt_of_block HTA.out
        rw [eA] at hA6 ⊢
        rw [eW] at hA6 hal ⊢
        have HA6 := Lib.hid hA6
        have HG46 := Lib.hid (HG5.out.trans hal)
        have HW6 := Lib.hid (HW5.out.trans hal)
        have HTA6 := Lib.hid (HTA.out.gr hal)
        have HEE6 := Lib.hid (hal.heap HEE.out)
        have hw4T : w4.heap.size ≤ T := by omega
        have hwT : w.heap.size ≤ T := by omega
        have hTE' : E ≠ T := by omega
        clear eA eW hA6 hal hct5 HTA HEE HW5 HP5
        go_loopw [97] (fun i wr => ∃ (i' : Nat) (g : Option Nat) (es : List Nat), i' ≤ 2 ∧ i = .int .i64 i' ∧ es.length ≤ i' ∧ es.count 0 = 0 ∧ TakAt wr T E n s q id g 0 ∧ GateAt wr g es ∧ GrB W6 T wr) (fun i _ => 2 - (intOf i).toNat)
        case atStart => exact ⟨0, none, [], by omega, rfl, by decide, rfl, HTA6.out, GateAt.none _, GrB.refl _ _⟩
        case round =>
          obtain ⟨i', g, es, hi2, rfl, hesl, hesc, hta, hga, hgr⟩ := hrel
          have HTAR := Lib.hid hta
          have HGAR := Lib.hid hga
          have HGRR := Lib.hid hgr
          have HG4R := Lib.hid (HG46.out.grb hgr hw4T)
          have HESC := Lib.hid hesc
          have hctr := HG4R.out.cell HCT.out
          obtain ⟨p0, p1, p2, p3⟩ := p_four_cells (HG4R.out.heap HP4.out)
          clear hta hga hgr hesc
          by_cases hlt : i' < 2
          · have hAr := HGRR.out.heap HA6.out (by omega)
            obtain ⟨d, JJ, pp, hfit, hpp, z0, z1, z2, z3, z4⟩ : ∃ d JJ pp : Nat, actFits d JJ kt ∧ pp < 4294967296 ∧ wr.cell? ⟨A, i' * 5, none⟩ = some (.int .i64 (d : Int)) ∧ wr.cell? ⟨A, i' * 5 + 1, none⟩ = some (.int .i64 0) ∧ wr.cell? ⟨A, i' * 5 + 2, none⟩ = some (.int .i64 (JJ : Int)) ∧ wr.cell? ⟨A, i' * 5 + 3, none⟩ = some (.int .u32 (pp : Int)) ∧ wr.cell? ⟨A, i' * 5 + 4, none⟩ = some (.slice none 0 0) := by
              rcases (show i' = 0 ∨ i' = 1 by omega) with rfl | rfl
              · exact ⟨4, J, bits, .inl ⟨rfl, hJl⟩, hbits, by simp [World.cell?, hAr], by simp [World.cell?, hAr], by simp [World.cell?, hAr], by simp [World.cell?, hAr], by simp [World.cell?, hAr]⟩
              · exact ⟨3, C, 0, .inr ⟨rfl, hCl⟩, by decide, by simp [World.cell?, hAr], by simp [World.cell?, hAr], by simp [World.cell?, hAr], by simp [World.cell?, hAr], by simp [World.cell?, hAr]⟩
            have hcase := act_case (p := pp) HT1.out (by rw [HKT.out]; exact hfit)
            have HAP := Lib.hid fun W (b : Nat) hs hA => apply_one bl offl cl b d JJ pp TX W (by rw [HKT.out]; exact hfit) hpp (by rw [HKT.out]; omega) (by rw [HKT.out]; omega) hs hA
            have HWH := Lib.hid fun W (b : Nat) hs hA => whole_one bl offl cl b d JJ pp TX W (by rw [HKT.out]; exact hfit) hpp (by rw [HKT.out]; omega) (by rw [HKT.out]; omega) hs hA
            have hol := act_len d JJ pp TX
            rw [HKT.out] at hol
            obtain ⟨OUT, eO⟩ : ∃ x, actOut d JJ pp TX = x := ⟨_, rfl⟩
            obtain ⟨F, eF⟩ : ∃ x, actFrom d JJ pp TX = x := ⟨_, rfl⟩
            rw [eO] at HAP hol
            rw [eF] at HWH
            rw [eO, eF] at hcase
            have HCASE := Lib.hid hcase
            clear eO eF hcase hfit hAr
            go_wp2
            have hal := (Gr.refl wr).alloc (.cells #[.int .i64 (d : Int), .int .i64 0, .int .i64 (JJ : Int), .int .u32 (pp : Int), .slice none 0 0] 61)
            have hAB := heap_alloc_new wr (.cells #[.int .i64 (d : Int), .int .i64 0, .int .i64 (JJ : Int), .int .u32 (pp : Int), .slice none 0 0] 61)
            obtain ⟨AB, eAB⟩ : ∃ A, wr.heap.size = A := ⟨_, rfl⟩
            obtain ⟨W7, eW⟩ : ∃ W, wr.alloc (.cells #[.int .i64 (d : Int), .int .i64 0, .int .i64 (JJ : Int), .int .u32 (pp : Int), .slice none 0 0] 61) = W := ⟨_, rfl⟩
            rw [eAB] at hAB ⊢
            rw [eW] at hal hAB ⊢
            obtain ⟨x0, x1, x2, x3, x4, -⟩ := five_cells hAB
            have hup : Nonempty (Up Gr W7.drew) := ⟨⟨_, Gr.refl _⟩⟩
            have v0 : ∀ x : Up Gr W7.drew, x.w.cell? ⟨AB, 0, none⟩ = some (.int .i64 (d : Int)) := fun x => gr_st x.rel x0
            have v1 : ∀ x : Up Gr W7.drew, x.w.cell? ⟨AB, 1, none⟩ = some (.int .i64 0) := fun x => gr_st x.rel x1
            have v2 : ∀ x : Up Gr W7.drew, x.w.cell? ⟨AB, 2, none⟩ = some (.int .i64 (JJ : Int)) := fun x => gr_st x.rel x2
            have v3 : ∀ x : Up Gr W7.drew, x.w.cell? ⟨AB, 3, none⟩ = some (.int .u32 (pp : Int)) := fun x => gr_st x.rel x3
            have v4 : ∀ x : Up Gr W7.drew, x.w.cell? ⟨AB, 4, none⟩ = some (.slice none 0 0) := fun x => gr_st x.rel x4
            have HG47 := Lib.hid (HG4R.out.trans hal)
            have HAL7 := Lib.hid hal
            clear eW eAB hal hAB x0 x1 x2 x3 x4 z0 z1 z2 z3 z4
            refine wp_region_rg [.reck, .reck, .any Nat 0 (fun b => .slice (some ⟨b, 0, none⟩) 1 1) (fun b W => ActAt W b d JJ pp), .any (Option Addr × Nat) (none, 0) (fun x => .slice x.1 1 x.2) (fun x W => Bss W x.1 1 x.2 [OUT]), .reck, .reck, .any Nat 0 (fun b => .slice (some ⟨b, 0, none⟩) 1 1) (fun b W => ActAt W b d JJ pp), .any (Nat × Nat) (0, 0) (fun x => .slice (some ⟨x.1, 0, none⟩) 1 x.2) (fun x W => 1 ≤ x.2 ∧ x.2 ≤ maxLen ∧ W.cell? ⟨x.1, 0, none⟩ = some (.int .i64 F))] Gr (by kernel_rfl) (by kernel_rfl) Gr.refl (fun _ _ _ => Gr.trans) ?_
            (refine wpRG_reck rfl (fun K hK => ?_); go_big_quiet_op; refine hK _ ?_; clear hK K)
            (refine wpRG_reck rfl (fun K hK => ?_); go_big_quiet_op; refine hK _ ?_; clear hK K)
            refine wpRG_any rfl (fun x w w' hg h => hg.heap h) (fun W hw hF R hR => ?_) ?_
            · (have HF := Lib.hid hF; clear hF; unfold rgAt; go_simp)
              exact hR W.heap.size _ ((Gr.refl _).alloc _) (heap_alloc_new W _)
            rintro b1
            (simp only [Act.put, List.setIfInBounds_toArray, List.set_cons_zero, List.set_cons_succ])
            refine wpRG_any rfl (fun x w w' hg h => h.below hg) (fun W hw hF R hR => ?_) ?_
            · have hb : ActAt W b1 d JJ pp := hF 2 (by kernel_rfl)
              (have HF := Lib.hid hF; clear hF; unfold rgAt; go_simp)
              show Calls _ _ _ _ _
              refine (HAP.out W b1 (HL5.out.below (HG47.out.trans (((Gr.refl W7).drew).trans hw))) hb).mono ?_
              rintro e w6 ⟨v, rfl, hrow, hg6⟩
              obtain ⟨av, cv, rfl, hbss, _⟩ := hrow.bss
              exact ⟨_, rfl, hR (av, cv) _ hg6 hbss⟩
            rintro ⟨av, cv⟩
            (simp only [Act.put, List.setIfInBounds_toArray, List.set_cons_zero, List.set_cons_succ])
            (refine wpRG_reck rfl (fun K hK => ?_); go_big_quiet_op; refine hK _ ?_; clear hK K)
            (refine wpRG_reck rfl (fun K hK => ?_); go_big_quiet_op; refine hK _ ?_; clear hK K)
            refine wpRG_any rfl (fun x w w' hg h => hg.heap h) (fun W hw hF R hR => ?_) ?_
            · (have HF := Lib.hid hF; clear hF; unfold rgAt; go_simp)
              exact hR W.heap.size _ ((Gr.refl _).alloc _) (heap_alloc_new W _)
            rintro b2
            (simp only [Act.put, List.setIfInBounds_toArray, List.set_cons_zero, List.set_cons_succ])
            refine wpRG_any rfl (fun x w w' hg h => ⟨h.1, h.2.1, hg.cell h.2.2⟩) (fun W hw hF R hR => ?_) ?_
            · have hb : ActAt W b2 d JJ pp := hF 6 (by kernel_rfl)
              (have HF := Lib.hid hF; clear hF; unfold rgAt; go_simp)
              show Calls _ _ _ _ _
              refine (HWH.out W b2 (HL5.out.below (HG47.out.trans (((Gr.refl W7).drew).trans hw))) hb).mono ?_
              rintro e w6 ⟨Rr, cr, rfl, h1, h2, h3, hg6⟩
              exact ⟨_, rfl, hR (Rr, cr) _ hg6 ⟨h1, h2, h3⟩⟩
            rintro ⟨Rr, cr⟩
            (simp only [Act.put, List.setIfInBounds_toArray, List.set_cons_zero, List.set_cons_succ])
            refine wpRG_end fun W hw hF => ?_
            have hcm : Bss W av 1 cv [OUT] := hF 3
            have hwh : 1 ≤ cr ∧ cr ≤ maxLen ∧ W.cell? ⟨Rr, 0, none⟩ = some (.int .i64 F) := hF 7
            have hbw := HAL7.out.trans (((Gr.refl W7).drew).trans hw)
            obtain ⟨bo, oo, rfl, _⟩ := hcm.at_ (by omega)
            obtain ⟨ox, ao', ko', co', hox, hoc, hob⟩ := hcm.get (i := 0) (by omega)
            obtain rfl : OUT = ox := by simpa using hox
            rw [Nat.add_zero] at hoc
            have hkol := hob.1
            rw [hkol] at hol
            obtain ⟨-, -, hwc⟩ := hwh
            have hG4W := HG4R.out.trans hbw
            have hctw := hG4W.cell HCT.out
            have HTAW := Lib.hid (HTAR.out.gr hbw)
            have HGAW := Lib.hid (HGAR.out.gr hbw)
            have HGRW := Lib.hid (HGRR.out.gr hbw)
            have HG4W := Lib.hid hG4W
            have HOB := Lib.hid hob
            have HOC := Lib.hid hoc
            obtain ⟨p0, p1, p2, p3⟩ := p_four_cells (hG4W.heap HP4.out)
            clear hF hw hbw hcm hox hob hkol hG4W v0 v1 v2 v3 v4 hup HTAR HGAR HGRR HG4R HAP HWH
            rcases HCASE.out with ⟨hF0, hOT⟩ | ⟨hF1, hPEO⟩
            · have HBOT : Hid (Bs W ao' ko' co' TX) := by show Bs _ _ _ _ _; rw [← hOT]; exact HOB.out
              subst hF0
              have HQ := Lib.hid fun (nq : Nat) => same_q ao' at' ko' co' kt ct TX TX (W.drewN nq) (HBOT.out.below ((Gr.refl W).drewN nq)) (HBT.out.below (HG4W.out.drewN nq))
              have hst := sameB_self TX
              clear hOT
              go_wp2
              go_quiet ((go_at_call 22; refine Calls.quiet_of (HQ.out _)))
              rw [hst]
              have hg8 := (Gr.refl W).drewN nq
              have HTA8 := Lib.hid (HTAW.out.gr hg8)
              have HGA8 := Lib.hid (HGAW.out.gr hg8)
              have HGR8 := Lib.hid (HGRW.out.gr hg8)
              clear hg8
              go_wp2
              go_roundw
              case rel => exact ⟨i' + 1, g, es, by omega, by go_num, Nat.le_succ_of_le hesl, HESC.out, HTA8.out, HGA8.out, HGR8.out⟩
              case measure => simp [intOf]; omega
            · subst hF1
              have CR := Lib.hid fun w ht h => packRead_all n s q id (by omega) (by omega) (by omega) (by omega) ao' ko' co' OUT w ht h (by omega)
              have CB := Lib.hid fun w ht h hta hga => take_bad T E n s q id 0 (by omega) (by omega) g es (by omega) ao' ko' co' OUT w ht h (by omega) hta hga hPEO
              obtain ⟨PE, ePE⟩ : ∃ x, packErr n s q id OUT = x := ⟨_, rfl⟩
              rw [ePE] at CR CB hPEO
              have hPE0 : ((PE : Int) == 0) = false := by rw [beq_eq_false_iff_ne]; omega
              have HPEO := Lib.hid hPEO
              obtain ⟨⟨gm, go, gn, gd, gs, glb, glp⟩, eG⟩ : ∃ x, packGot n s q id OUT = x := ⟨_, rfl⟩
              rw [eG] at CR
              clear ePE hPEO eG
              go_wp2
              have hup : Nonempty (Up Gr W.drew) := ⟨⟨_, Gr.refl _⟩⟩
              have v0 : ∀ x : Up Gr W.drew, x.w.cell? ⟨w2.heap.size, 0, none⟩ = some (.int .i64 (n : Int)) := fun x => gr_st x.rel p0
              have v1 : ∀ x : Up Gr W.drew, x.w.cell? ⟨w2.heap.size, 1, none⟩ = some (.int .i64 (s : Int)) := fun x => gr_st x.rel p1
              have v2 : ∀ x : Up Gr W.drew, x.w.cell? ⟨w2.heap.size, 2, none⟩ = some (.int .i64 (q : Int)) := fun x => gr_st x.rel p2
              have v3 : ∀ x : Up Gr W.drew, x.w.cell? ⟨w2.heap.size, 3, none⟩ = some (.int .u32 (id : Int)) := fun x => gr_st x.rel p3
              have v4 : ∀ x : Up Gr W.drew, x.w.cell? ⟨bo, oo, none⟩ = some (.slice ao' ko' co') := fun x => gr_st x.rel hoc
              clear p0 p1 p2 p3 hoc hctw hwc hctr
              refine wp_region_rgF [.reck, .reck, .reck, .reck, .any (Option Addr × Nat × Nat × Option Addr × Nat × Nat) (none, 0, 0, none, 0, 0) (fun x => .tuple #[.agg #[.int .u8 (gm : Int), .int .u32 (go : Int), .int .u32 (gn : Int), .int .u8 (gd : Int), .slice x.1 x.2.1 x.2.2.1, .int .u64 (gs : Int), .slice x.2.2.2.1 x.2.2.2.2.1 x.2.2.2.2.2], .int .i64 (PE : Int)]) (fun x w => True), .reck, .reck, .flt,
                .any Nat 0 (fun b => .pointer (some ⟨b, 0, none⟩)) (fun b w' => W.heap.size ≤ b ∧ w'.heap[b]? = some (.cells #[.int .u8 0, .int .u32 0, .int .u32 0, .int .u8 0, .slice none 0 0, .int .u64 0, .slice none 0 0] 70))] Gr (by kernel_rfl) (by kernel_rfl) Gr.refl (fun _ _ _ => Gr.trans) ?_
              (refine wpRG_reck rfl (fun K hK => ?_); go_big_quiet_op; refine hK _ ?_; clear hK K)
              (refine wpRG_reck rfl (fun K hK => ?_); go_big_quiet_op; refine hK _ ?_; clear hK K)
              (refine wpRG_reck rfl (fun K hK => ?_); go_big_quiet_op; refine hK _ ?_; clear hK K)
              (refine wpRG_reck rfl (fun K hK => ?_); go_big_quiet_op; refine hK _ ?_; clear hK K)
              refine wpRG_any rfl (fun x w w' hg h => trivial) (fun W' hw hF R hR => ?_) ?_
              · (have HF := Lib.hid hF; clear hF; unfold rgAt; go_simp)
                show Calls _ _ _ _ _
                have hb := ((Gr.refl W).drew).trans hw
                refine (CR.out W' (HT.out.below (HW4.out.trans (HG4W.out.trans hb))) (HOB.out.below hb)).mono ?_
                rintro e w7 ⟨a1, k1, c1, a2, k2, c2, rfl, _, _, hg7⟩
                exact ⟨_, rfl, hR (a1, k1, c1, a2, k2, c2) _ hg7 trivial⟩
              rintro ⟨a1, k1, c1, a2, k2, c2⟩
              (simp only [Act.put, List.setIfInBounds_toArray, List.set_cons_zero, List.set_cons_succ])
              (refine wpRG_reck rfl (fun K hK => ?_); go_big_quiet_op; refine hK _ ?_; clear hK K)
              (refine wpRG_reck rfl (fun K hK => ?_); go_big_quiet_op; refine hK _ ?_; clear hK K)
              refine wpRG_flt rfl (fun _ => by go_simp; rfl) ?_
              (simp only [Act.put])
              refine wpRG_any rfl (fun x w w' hg h => ⟨h.1, hg.heap h.2⟩) (fun W' hw hF R hR => ?_) ?_
              · (have HF := Lib.hid hF; clear hF; unfold rgAt; go_simp)
                exact hR W'.heap.size _ ((Gr.refl _).alloc _) ⟨hw.size, heap_alloc_new _ _⟩
              intro b7
              (simp only [Act.put, List.setIfInBounds_toArray, List.set_cons_zero, List.set_cons_succ])
              refine wpRG_end fun W' hw hF => ?_
              have hx7 : W.heap.size ≤ b7 ∧ W'.heap[b7]? = some (.cells #[.int .u8 0, .int .u32 0, .int .u32 0, .int .u8 0, .slice none 0 0, .int .u64 0, .slice none 0 0] 70) := hF 8
              have hgW : Gr W W' := (Gr.refl _).drew.trans hw
              clear hw hF v0 v1 v2 v3 v4 hup
              obtain ⟨hx8, hx9⟩ := hx7
              obtain ⟨r0, r1, r2, r3, r4, r5, r6, rf⟩ := seven_cells hx9
              refine wpTl_cons rfl (fun R hR => ?_)
              unfold rgAt
              go_simp
              refine hR _ _ ?_
              have hg2 : Gr W (((((((W'.setCell ⟨b7, 0, none⟩ (.int .u8 (gm : Int))).setCell ⟨b7, 1, none⟩ (.int .u32 (go : Int))).setCell ⟨b7, 2, none⟩ (.int .u32 (gn : Int))).setCell ⟨b7, 3, none⟩ (.int .u8 (gd : Int))).setCell ⟨b7, 4, none⟩ (.slice a1 k1 c1)).setCell ⟨b7, 5, none⟩ (.int .u64 (gs : Int))).setCell ⟨b7, 6, none⟩ (.slice a2 k2 c2)) := ((((((hgW.setCell hx8 _).setCell hx8 _).setCell hx8 _).setCell hx8 _).setCell hx8 _).setCell hx8 _).setCell hx8 _
              obtain ⟨W9, eW⟩ : ∃ W9, (((((((W'.setCell ⟨b7, 0, none⟩ (.int .u8 (gm : Int))).setCell ⟨b7, 1, none⟩ (.int .u32 (go : Int))).setCell ⟨b7, 2, none⟩ (.int .u32 (gn : Int))).setCell ⟨b7, 3, none⟩ (.int .u8 (gd : Int))).setCell ⟨b7, 4, none⟩ (.slice a1 k1 c1)).setCell ⟨b7, 5, none⟩ (.int .u64 (gs : Int))).setCell ⟨b7, 6, none⟩ (.slice a2 k2 c2)) = W9 := ⟨_, rfl⟩
              rw [eW] at hg2 ⊢
              clear eW r0 r1 r2 r3 r4 r5 r6 rf hx8 hx9 hgW hR
              (simp only [Act.put])
              refine wpTl_cons rfl (fun R hR => ?_)
              unfold rgAt
              go_simp
              refine hR _ _ ?_
              (simp only [Act.put, List.setIfInBounds_toArray, List.set_cons_zero, List.set_cons_succ])
              refine wpTl_nil ?_
              clear hR
              have HG9 := Lib.hid hg2
              have hoc9 := hg2.cell HOC.out
              have HTA9 := Lib.hid (HTAW.out.gr hg2)
              have HGA9 := Lib.hid (HGAW.out.gr hg2)
              have HGR9 := Lib.hid (HGRW.out.gr hg2)
              have HG49 := Lib.hid (HG4W.out.trans hg2)
              clear hg2
              go_wp2_with fail
              refine (CB.out W9 (HT.out.below (HW4.out.trans HG49.out)) (HOB.out.below HG9.out) HTA9.out HGA9.out).mono ?_
              rintro e w10 ⟨g', rfl, hta, hga, hg10⟩
              have hgr10 := HGR9.out.trans hg10
              have hee10 := hgr10.heap HEE6.out hTE'
              have HTA10 := Lib.hid hta
              have HGA10 := Lib.hid hga
              have HGR10 := Lib.hid hgr10
              have HRK := Lib.hid (takerRank_any T E n s q id 0 (some g') q s 0 0 none w10 hta hee10)
              have HSTA := Lib.hid (takerStatus_any T E n s q id 0 (some g') w10 hta)
              clear hta hga hg10 hgr10 hee10 hoc9 HTA9 HGA9 HGR9
              go_wp2_with fail
              refine HRK.out.mono ?_
              rintro e w11 ⟨rfl, rfl⟩
              go_wp2_with fail
              refine HSTA.out.mono ?_
              rintro e w11 ⟨rfl, rfl⟩
              have hcnt : (PE :: es).count 0 = 0 := by
                rw [List.count_cons, HESC.out]
                have := HPEO.out
                simp [this]
              have HCNT := Lib.hid hcnt
              clear hcnt
              go_wp2
              go_roundw
              case rel => exact ⟨i' + 1, some g', PE :: es, by omega, by go_num, Nat.succ_le_succ hesl, HCNT.out, HTA10.out, HGA10.out, HGR10.out⟩
              case measure => simp [intOf]; omega
          · have hge : (2 : Int) ≤ (i' : Int) := by omega
            have hal := (Gr.refl wr).alloc (.cells #[.int .i64 (n : Int), .int .i64 (s : Int), .int .i64 (q : Int), .int .u32 (other : Int)] 28)
            have hQ := heap_alloc_new wr (.cells #[.int .i64 (n : Int), .int .i64 (s : Int), .int .i64 (q : Int), .int .u32 (other : Int)] 28)
            have HTX := Lib.hid (HTAR.out.gr hal)
            have HGX := Lib.hid (HGAR.out.gr hal)
            have HRX := Lib.hid (HGRR.out.gr hal)
            have HEX := Lib.hid (HRX.out.heap HEE6.out hTE')
            have HG4X := Lib.hid (HG4R.out.trans hal)
            have HWX := Lib.hid (HW6.out.grb HRX.out hwT)
            have hTw := lt_of_block HTX.out
            obtain ⟨q0, q1, q2, q3⟩ := p_four_cells hQ
            clear hctr HTAR HGAR HGRR HG4R hQ
            by_cases hoi : other = id
            · have hne : ((other : Int) != (id : Int)) = false := by rw [hoi]; simp
              clear hal
              rw [hoi] at HTX HGX HRX HEX HG4X HWX
              have hctx := HG4X.out.cell HCT.out
              go_wp2_with fail
              refine (HTK.out g es at' kt ct _ (by omega) (HT.out.below (HW4.out.trans HG4X.out)) (HBT.out.below HG4X.out) HTX.out HGX.out HEX.out).mono ?_
              rintro e wa ⟨g1, st1, rfl, hta, hga, hgc⟩
              have HGT := Lib.hid (takerGate_any T E n s q id st1 (some g1) wa hta)
              have HGA1 := Lib.hid hga
              have HWA := Lib.hid (GrC.gr HWX.out hgc hwT (by omega))
              clear hta hga hgc hctx
              go_wp2_with fail
              refine HGT.out.mono ?_
              rintro e wb ⟨rfl, hgb⟩
              have HCN : Hid (Calls Tryz.prog 26 #[.agg #[.int .i64 (n : Int), .int .i64 (s : Int), .int .i64 (q : Int), .int .u32 (id : Int), .map (some g1)], .int .i64 0] wb fun e' w' => e' = .returned (.int .i64 1) ∧ Gr wb w') := by
                show Calls _ _ _ _ _
                have h1 : (0 :: es).count 0 = 1 := by rw [List.count_cons_self, HESC.out]
                have := gateCount_any n s q id (some g1) (0 :: es) 0 (by decide) wb (HGA1.out.gr hgb)
                rw [h1] at this
                exact this
              have HWB := Lib.hid (HWA.out.trans hgb)
              clear hgb
              go_wp2_with fail
              refine HCN.out.mono ?_
              rintro e wc ⟨rfl, hgb⟩
              have hfin := HWB.out.trans hgb
              clear hgb
              go_wp2
              first | go_ret | go_ret2
              exact ⟨rfl, hfin⟩
            · have hne : ((other : Int) != (id : Int)) = true := by rw [bne_iff_ne]; omega
              have CN2 := Lib.hid fun w => takerNew_ok n s q other HPE.out (by omega) w
              have CB2 := Lib.hid fun T2 E2 w ht h hta hga => take_bad T2 E2 n s q other 0 (by omega) (by omega) none [] (by decide) at' kt ct TX w ht h (by omega) hta hga (packErr_other HT1.out hoi)
              obtain ⟨PE, ePE⟩ : ∃ x, packErr n s q other TX = x := ⟨_, rfl⟩
              have hPEn := packErr_other HT1.out hoi
              rw [ePE] at CB2 hPEn
              have hPE0 : ((PE : Int) == 0) = false := by rw [beq_eq_false_iff_ne]; omega
              clear ePE hPEn
              go_wp2_with fail
              refine (CN2.out _).mono ?_
              rintro e w12 ⟨T2, E2, rfl, hE2, hET2, hta2, hee2, hg⟩
              have hET2' : w12.heap.size ≠ 0 := by have := lt_of_block hta2; omega
              have hTT2 : T < T2 := by omega
              have HTX2 := Lib.hid (HTX.out.gr hg)
              have HGX2 := Lib.hid (HGX.out.gr hg)
              have HEX2 := Lib.hid (hg.heap HEX.out)
              have HG4X2 := Lib.hid (HG4X.out.trans hg)
              have HWX2 := Lib.hid (HWX.out.trans hg)
              have HTA2 := Lib.hid hta2
              have HEE2 := Lib.hid hee2
              have hctx2 := HG4X2.out.cell HCT.out
              have hwT2 : w.heap.size ≤ T2 := by omega
              have hw4T2 : w4.heap.size ≤ T2 := by omega
              clear hg hta2 hee2 HTX HGX HEX HG4X HWX hal q0 q1 q2 q3
              go_wp2_with fail
              refine (CB2.out T2 E2 w12 (HT.out.below (HW4.out.trans HG4X2.out)) (HBT.out.below HG4X2.out) HTA2.out (GateAt.none _)).mono ?_
              rintro e w13 ⟨g2, rfl, hta2, _, hg13⟩
              have HRK := Lib.hid (takerRank_any T2 E2 n s q other 0 (some g2) q s 0 0 none w13 hta2 (hg13.heap HEE2.out (by omega)))
              have HTX3 := Lib.hid (show TakAt w13 T E n s q id g 0 from hg13.heap HTX2.out (by omega))
              have HGX3 := Lib.hid (HGX2.out.grb hg13 (GateAt.ne HGX2.out HTA2.out))
              have HEX3 := Lib.hid (hg13.heap HEX2.out (by omega))
              have HG4X3 := Lib.hid (HG4X2.out.grb hg13 hw4T2)
              have HWX3 := Lib.hid (HWX2.out.grb hg13 hwT2)
              clear hta2 hg13 HTX2 HGX2 HEX2 HG4X2 HWX2 hctx2
              go_wp2_with fail
              refine HRK.out.mono ?_
              rintro e w14 ⟨rfl, rfl⟩
              have hctx := HG4X3.out.cell HCT.out
              go_wp2_with fail
              refine (HTK.out g es at' kt ct w13 (by omega) (HT.out.below (HW4.out.trans HG4X3.out)) (HBT.out.below HG4X3.out) HTX3.out HGX3.out HEX3.out).mono ?_
              rintro e wa ⟨g1, st1, rfl, hta, hga, hgc⟩
              have HGT := Lib.hid (takerGate_any T E n s q id st1 (some g1) wa hta)
              have HGA1 := Lib.hid hga
              have HWA := Lib.hid (GrC.gr HWX3.out hgc hwT (by omega))
              clear hta hga hgc hctx
              go_wp2_with fail
              refine HGT.out.mono ?_
              rintro e wb ⟨rfl, hgb⟩
              have HCN : Hid (Calls Tryz.prog 26 #[.agg #[.int .i64 (n : Int), .int .i64 (s : Int), .int .i64 (q : Int), .int .u32 (id : Int), .map (some g1)], .int .i64 0] wb fun e' w' => e' = .returned (.int .i64 1) ∧ Gr wb w') := by
                show Calls _ _ _ _ _
                have h1 : (0 :: es).count 0 = 1 := by rw [List.count_cons_self, HESC.out]
                have := gateCount_any n s q id (some g1) (0 :: es) 0 (by decide) wb (HGA1.out.gr hgb)
                rw [h1] at this
                exact this
              have HWB := Lib.hid (HWA.out.trans hgb)
              clear hgb
              go_wp2_with fail
              refine HCN.out.mono ?_
              rintro e wc ⟨rfl, hgb⟩
              have hfin := HWB.out.trans hgb
              clear hgb
              go_wp2
              first | go_ret | go_ret2
              exact ⟨rfl, hfin⟩
      · have hst : sentTo n s q id obj [⟨m, lb, sd⟩] 1 = [] := by
          have e1 : ¬ okSrc q (([⟨m, lb, sd⟩] : List Src).getD 0 dSrc) = true := by
            show ¬ decide (rowErr m lb.length q = 0) = true
            simpa using hok
          rw [sentTo, if_neg e1]; rfl
        rw [hst]
        clear hst HL4 hok
        go_wp2
        first | go_ret | go_ret2
        exact ⟨rfl, HW5.out⟩

theorem topBurst_walk (w : World) (htab : Tab w) (ao : Option Addr) (ko co : Nat) (obj : List UInt8) (ho : Bs w ao ko co obj) (s : Int) (hsl : -9223372036854775808 ≤ s) (hsm : s ≤ 9223372036854775807) (id : Nat) (hid : id < 4294967296) (m : Nat) (hm : m < 256) (a : Option Addr) (len cap : Nat) (lb : List UInt8) (hb : Bs w a len cap lb) (sd : Nat) (hsd : sd < 18446744073709551616)
    (place : Nat) (hpl : place < 65536) (bits : Nat) (hbits : bits < 4294967296) (cut : Nat) (hcut : cut < 256) (other : Nat) (hoth : other < 4294967296) :
    Calls Tryz.prog 4 #[.slice ao ko co, .int .i64 s, .int .u32 (id : Int), .agg #[.int .u8 (m : Int), .slice a len cap, .int .u64 (sd : Int)], .int .u16 (place : Int), .int .u32 (bits : Int), .int .u8 (cut : Int), .int .u32 (other : Int)] w fun e w' => e = .returned (.bool true) ∧ Gr w w' := by
  have hkm : ko ≤ 9223372036854775807 := by have h1 := ho.2.1; have h2 := ho.2.2.1; unfold maxLen at h2; omega
  by_cases hE : planFit ko s = 0
  · obtain ⟨f1, f2, f3, f4⟩ := planFit_zero hE
    have hp := planNeed_pos f1 f2
    obtain ⟨s', rfl⟩ := Int.eq_ofNat_of_zero_le (show 0 ≤ s by omega)
    obtain ⟨q', eq⟩ := Int.eq_ofNat_of_zero_le (show 0 ≤ planNeed ko s' by omega)
    have hP : planErr ko s' q' = 0 := by unfold planErr; rw [if_neg (by simpa using hE), if_neg (by simpa using eq.symm)]
    exact topBurst_ok ko s' q' id hP hid (by
      have h4 := f4; unfold planNeed at h4
      by_cases h0 : (ko : Int) = 0
      · omega
      · rw [if_neg h0] at h4
        have h5 : ((ko : Int) - 1) / s' < 4096 := by omega
        have h6 := Int.lt_mul_of_ediv_lt (by omega) h5
        have h7 : (4096 : Int) * s' ≤ 4096 * 65535 := by omega
        omega) ao co obj m hm a len cap sd hsd lb place bits cut other hpl hbits hcut hoth w htab ho hb fun w => by
      have := planOf_ok ko s' id (by omega) hE w
      rw [eq] at this
      exact this
  · exact topBurst_bad ko s hsl hsm id hE hkm ao co m a len cap sd place bits cut other w htab
end Go.Proofs.YtdmijoochgmhiaaGreatDoor

namespace Go.Proofs.YtdmijoochgmhiaaGreatDoor.topBurstDone
open Go.ChangeShapes Go.WideShapes Go.ChangeAt Go.RowKit
set_option linter.unusedVariables false

theorem own : ownKnob Tryz.prog.godebug = none := by kernel_rfl
theorem laidOut : laidOutB Tryz.prog = true := by kernel_rfl

theorem gTab : Tryz.prog.globalNamed "wellspring/sum.halves" = some 0 := by kernel_rfl
theorem gTabType : (Tryz.prog.globals[0]?).map (·.type) = some 187 := by kernel_rfl
theorem cellsTab : Tryz.prog.cellsOf 187 = 16 := by kernel_rfl
theorem cellsElem : Tryz.prog.cellsOf 23 = 1 := by kernel_rfl
/-- what the row's list gives: the table's cells. -/
theorem table {W : World} (h : laidMetH Tryz.prog Rows.topBurstRow.laid W) : Tab W := by
  have ht : Lib.TabIs Tryz.prog W "wellspring/sum.halves" .u32 [0, 498536548, 997073096, 651767980, 1994146192, 1802195444, 1303535960, 1342533948, 3988292384, 4027552580, 3604390888, 3412177804, 2607071920, 2262029012, 2685067896, 3183342108] :=
    Lib.tabIs_of_head (rest := []) gTab gTabType Tryz.underlying187 Tryz.underlying23 cellsElem cellsTab h
  exact tab_of_is fun k hk => ht.cell gTab k (by simpa using hk)

set_option maxRecDepth 100000 in
/-- what the walk gives, for every argument. -/
theorem contract (H : Type) (enc : TypeId × Value → H) (W : World) (base : Nat) (args : Array Value) (ds gs : List (DataW H)) (before : List MemPlace)
    (hval0 : ∀ (j : Nat) t v, Tryz.f4.params[j]? = some t → args[j]? = some v → Value.okWide Tryz.prog W .any base t v)
    (hW : DataW.Whole enc Tryz.prog Tryz.f4.params.toList Rows.topBurstSpec.vars false W args.toList ds gs before) (hL : laidMetH Tryz.prog Rows.topBurstRow.laid W) :
    Calls Tryz.prog 4 args W fun e W' => ∃ v, e = .returned v ∧ Rows.topBurstSpec.post enc Tryz.prog Tryz.f4 false true false false W args v W' := by
  have hval : ∀ (j : Nat) t v, Tryz.f4.params[j]? = some t → args[j]? = some v → Value.okWide Tryz.prog W .any base t v := hval0
  have hW' := hW
  obtain ⟨p, q, hA0, hV, rfl, hfz, hnd⟩ := hW
  have hA : DataW.TrodAll enc Tryz.prog W 0 (fun _ => true) true Tryz.f4.params.toList args.toList ds p := hA0
  rw [Tryz.params4] at hA hval
  obtain ⟨v0, vs0, d0, ds0, p0, q0, hargs, rfl, rfl, h0, r0⟩ := trodAll_cons hA
  obtain ⟨v1, vs1, d1, ds1, p1, q1, rfl, rfl, rfl, h1, r1⟩ := trodAll_cons r0
  obtain ⟨v2, vs2, d2, ds2, p2, q2, rfl, rfl, rfl, h2, r2⟩ := trodAll_cons r1
  obtain ⟨v3, vs3, d3, ds3, p3, q3, rfl, rfl, rfl, h3, r3⟩ := trodAll_cons r2
  obtain ⟨v4, vs4, d4, ds4, p4, q4, rfl, rfl, rfl, h4, r4⟩ := trodAll_cons r3
  obtain ⟨v5, vs5, d5, ds5, p5, q5, rfl, rfl, rfl, h5, r5⟩ := trodAll_cons r4
  obtain ⟨v6, vs6, d6, ds6, p6, q6, rfl, rfl, rfl, h6, r6⟩ := trodAll_cons r5
  obtain ⟨v7, vs7, d7, ds7, p7, q7, rfl, rfl, rfl, h7, r7⟩ := trodAll_cons r6
  obtain ⟨rfl, rfl, rfl⟩ := trodAll_nil r7
  obtain rfl : args = #[v0, v1, v2, v3, v4, v5, v6, v7] := by cases args; simp_all
  obtain ⟨rfl, rfl⟩ := trodVars_none hV
  have k0 := h0
  have lt0 : ∀ x ∈ p0, x.block < W.heap.size := by obtain ⟨m, hm⟩ := k0; exact DataW.trod_lt m _ _ _ hm
  obtain ⟨a0, len0, cap0, rfl⟩ := okWide_slice Tryz.underlying22 (hval 0 22 v0 rfl rfl)
  obtain ⟨l0, w0⟩ : ∃ l, Bs W a0 len0 cap0 l := by obtain ⟨fuel, hf⟩ := h0; exact Bs.of_trod Tryz.underlying22 Tryz.underlying5 (by kernel_rfl) hf
  have k1 := h1
  have lt1 : ∀ x ∈ p1, x.block < W.heap.size := by obtain ⟨m, hm⟩ := k1; exact DataW.trod_lt m _ _ _ hm
  obtain ⟨a1, rfl, rfl, rfl, z1⟩ := open_int Tryz.underlying3 (hval 1 3 v1 rfl rfl) h1
  have b1 := i64_of_wf z1
  have k2 := h2
  have lt2 : ∀ x ∈ p2, x.block < W.heap.size := by obtain ⟨m, hm⟩ := k2; exact DataW.trod_lt m _ _ _ hm
  obtain ⟨a2, rfl, rfl, rfl, z2⟩ := open_int Tryz.underlying23 (hval 2 23 v2 rfl rfl) h2
  obtain ⟨n2, rfl, b2⟩ := u32_of_wf z2
  have k3 := h3
  have lt3 : ∀ x ∈ p3, x.block < W.heap.size := by obtain ⟨m, hm⟩ := k3; exact DataW.trod_lt m _ _ _ hm
  obtain ⟨m3, a3, k3_, c3, l3, sd3, rfl, hm3, hb3, hs3⟩ := open_source (hval 3 41 v3 rfl rfl) h3
  have k4 := h4
  have lt4 : ∀ x ∈ p4, x.block < W.heap.size := by obtain ⟨m, hm⟩ := k4; exact DataW.trod_lt m _ _ _ hm
  obtain ⟨a4, rfl, rfl, rfl, z4⟩ := open_int Tryz.underlying59 (hval 4 59 v4 rfl rfl) h4
  obtain ⟨n4, rfl, b4⟩ := u16_of_wf z4
  have k5 := h5
  have lt5 : ∀ x ∈ p5, x.block < W.heap.size := by obtain ⟨m, hm⟩ := k5; exact DataW.trod_lt m _ _ _ hm
  obtain ⟨a5, rfl, rfl, rfl, z5⟩ := open_int Tryz.underlying23 (hval 5 23 v5 rfl rfl) h5
  obtain ⟨n5, rfl, b5⟩ := u32_of_wf z5
  have k6 := h6
  have lt6 : ∀ x ∈ p6, x.block < W.heap.size := by obtain ⟨m, hm⟩ := k6; exact DataW.trod_lt m _ _ _ hm
  obtain ⟨a6, rfl, rfl, rfl, z6⟩ := open_int Tryz.underlying5 (hval 6 5 v6 rfl rfl) h6
  obtain ⟨n6, rfl, b6⟩ := u8_of_wf z6
  have k7 := h7
  have lt7 : ∀ x ∈ p7, x.block < W.heap.size := by obtain ⟨m, hm⟩ := k7; exact DataW.trod_lt m _ _ _ hm
  obtain ⟨a7, rfl, rfl, rfl, z7⟩ := open_int Tryz.underlying23 (hval 7 23 v7 rfl rfl) h7
  obtain ⟨n7, rfl, b7⟩ := u32_of_wf z7
  clear hA0 hval0
  refine (topBurst_walk W (table hL) a0 len0 cap0 l0 w0 a1 b1.1 b1.2 n2 b2 m3 hm3 a3 k3_ c3 l3 hb3 sd3 hs3 n4 b4 n5 b5 n6 b6 n7 b7).mono fun e W' ⟨he, bel⟩ => ?_
  subst he
  exact ⟨_, rfl, _, _, _, [], _, [], hW', trodAll_mk1 (shut_bool Tryz.underlying4 _), (trodAll_cons_mk (Below.trod laidOut (by kernel_rfl) (of_decide_eq_true (by kernel_rfl)) k0 bel lt0) (trodAll_cons_mk (Below.trod laidOut (by kernel_rfl) (of_decide_eq_true (by kernel_rfl)) k1 bel lt1) (trodAll_cons_mk (Below.trod laidOut (by kernel_rfl) (of_decide_eq_true (by kernel_rfl)) k2 bel lt2) (trodAll_cons_mk (Below.trod laidOut (by kernel_rfl) (of_decide_eq_true (by kernel_rfl)) k3 bel lt3) (trodAll_cons_mk (Below.trod laidOut (by kernel_rfl) (of_decide_eq_true (by kernel_rfl)) k4 bel lt4) (trodAll_cons_mk (Below.trod laidOut (by kernel_rfl) (of_decide_eq_true (by kernel_rfl)) k5 bel lt5) (trodAll_cons_mk (Below.trod laidOut (by kernel_rfl) (of_decide_eq_true (by kernel_rfl)) k6 bel lt6) (trodAll_cons_mk (Below.trod laidOut (by kernel_rfl) (of_decide_eq_true (by kernel_rfl)) k7 bel lt7) trodAll_mk0)))))))), rfl, bel.frame _, fun h => by cases h⟩

/-- a world for the witness: the settled one, the table holding what its initialiser lays. -/
noncomputable def laidWorld (os : Os) : World :=
  { World.holding Tryz.prog os ⟨#[], #[], []⟩ with heap := (World.holding Tryz.prog os ⟨#[], #[], []⟩).heap.modify 0 fun
      | .cells _ t frozen => .cells #[.int .u32 0, .int .u32 498536548, .int .u32 997073096, .int .u32 651767980, .int .u32 1994146192, .int .u32 1802195444, .int .u32 1303535960, .int .u32 1342533948, .int .u32 3988292384, .int .u32 4027552580, .int .u32 3604390888, .int .u32 3412177804, .int .u32 2607071920, .int .u32 2262029012, .int .u32 2685067896, .int .u32 3183342108] t frozen
      | o => o }
theorem laid_met (os : Os) : laidMet Tryz.prog Rows.topBurstRow.laid ((laidWorld os).forCall (fun _ _ => 0) ⟨#[], #[.slice none 0 0, .int .i64 0, .int .u32 0, .agg #[.int .u8 0, .slice none 0 0, .int .u64 0], .int .u16 0, .int .u32 0, .int .u8 0, .int .u32 0], []⟩).memory :=
  laidMet_of_run' 8 (by kernel_rfl) (by kernel_rfl)

set_option maxRecDepth 100000 in
theorem lifted (os : Os) (started : os.Started) (H : Type) (enc : TypeId × Value → H) (F : Stop.Interp) :
    ReturnsInHanded {} Tryz.checked os 4 .any ((OpenSpec.ofChange Rows.topBurstSpec).preRow enc Tryz.prog Tryz.f4 Rows.topBurstRow.domain false Rows.topBurstRow.laid) (((OpenSpec.ofChange Rows.topBurstSpec).at F).post enc Tryz.prog Tryz.f4 false true false false) := by
  obtain ⟨places, hx⟩ : ∃ x, DataW.whole enc Tryz.prog ((laidWorld os).forCall (fun _ _ => 0) ⟨#[], #[.slice none 0 0, .int .i64 0, .int .u32 0, .agg #[.int .u8 0, .slice none 0 0, .int .u64 0], .int .u16 0, .int .u32 0, .int .u8 0, .int .u32 0], []⟩).memory Tryz.f4.params.toList Rows.topBurstSpec.vars false (#[.slice none 0 0, .int .i64 0, .int .u32 0, .agg #[.int .u8 0, .slice none 0 0, .int .u64 0], .int .u16 0, .int .u32 0, .int .u8 0, .int .u32 0] : Array Value).toList 8 = some ([.nil, .lit (.int .i64 0), .lit (.int .u32 0), .agg [.lit (.int .u8 0), .nil, .lit (.int .u64 0)], .lit (.int .u16 0), .lit (.int .u32 0), .lit (.int .u8 0), .lit (.int .u32 0)], [], x) := ⟨[], by kernel_rfl⟩
  refine returnsInHanded_of_row (C := Tryz.checked) (s := OpenSpec.ofChange Rows.topBurstSpec) own started (by kernel_rfl) Tryz.func4
    (witness_row_at (enc := enc) (C := Tryz.checked) false (laidWorld os) #[.slice none 0 0, .int .i64 0, .int .u32 0, .agg #[.int .u8 0, .slice none 0 0, .int .u64 0], .int .u16 0, .int .u32 0, .int .u8 0, .int .u32 0] rfl (by kernel_rfl) (by kernel_rfl) (by kernel_rfl)
      (OpenSpec.preRow_of_cond 8 hx (by kernel_rfl) (fun k hk => by cases hk) (by kernel_rfl) (laid_met os))) ?_
  intro W base args ds gs before hval hW _ _ _ hL _ _
  exact contract H enc W base args ds gs before hval hW hL

theorem said : Rows.TopBurstSaid :=
  OpenClaim.holds_of_cond 4 Tryz.f4 rfl rfl rfl rfl rfl rfl rfl ⟨rfl, rfl, rfl, rfl, rfl⟩ rfl rfl rfl rfl rfl (by kernel_rfl) Tryz.func4 (by kernel_rfl)
    (of_decide_eq_true (by kernel_rfl)) (by unfold Func.isWrapper; first | (rw [if_pos (by decide +kernel)]; kernel_rfl) | (rw [if_neg (by decide +kernel)]; exact ⟨rfl, rfl⟩))
    (fun os started H enc _ F => by rw [OpenClaim.pre_eq_preRow]; exact lifted os started H enc F)

/-- no parameter wants a stand-in; the program's own looks are off. -/
theorem plain (f : FuncId) (fn : Func) (hf : Tryz.pinned.checked.prog.funcNamed "wellspring/wellspringtop.TopBurst" = some f) (hfn : Tryz.pinned.checked.prog.funcs[f]? = some fn) :
    false = Tryz.pinned.checked.prog.looks [] ∧ ∀ (j : Nat) t, fn.params[j]? = some t → Tryz.pinned.checked.prog.wantsStandIn t = false := by
  obtain rfl : f = 4 := Option.some.inj ((show Tryz.prog.funcNamed "wellspring/wellspringtop.TopBurst" = some 4 by kernel_rfl).symm.trans hf) |>.symm
  obtain rfl : fn = Tryz.f4 := (Option.some.inj (Tryz.func4.symm.trans hfn)).symm
  refine ⟨by kernel_rfl, fun j t ht => ?_⟩
  rw [Tryz.params4] at ht
  have hm := Array.mem_of_getElem? ht
  simp only [List.mem_toArray, List.mem_cons, List.not_mem_nil, or_false] at hm
  rcases hm with rfl | rfl | rfl | rfl | rfl | rfl | rfl | rfl
  · exact (show Tryz.prog.wantsStandIn 22 = false by kernel_rfl)
  · exact (show Tryz.prog.wantsStandIn 3 = false by kernel_rfl)
  · exact (show Tryz.prog.wantsStandIn 23 = false by kernel_rfl)
  · exact (show Tryz.prog.wantsStandIn 41 = false by kernel_rfl)
  · exact (show Tryz.prog.wantsStandIn 59 = false by kernel_rfl)
  · exact (show Tryz.prog.wantsStandIn 23 = false by kernel_rfl)
  · exact (show Tryz.prog.wantsStandIn 5 = false by kernel_rfl)
  · exact (show Tryz.prog.wantsStandIn 23 = false by kernel_rfl)

/-- ████ THE CARD ████ -/
theorem card : Rows.TopBurstCardSaid :=
  Claim7.holds_tied_plain_at .later [] _ _ _ _ said (fun _ h => by cases h) (by kernel_rfl) (fun _ h => by cases h) topBurst_row_tie rfl ⟨rfl, rfl⟩ (by kernel_rfl) rfl plain (by kernel_rfl)
#print axioms card
end Go.Proofs.YtdmijoochgmhiaaGreatDoor.topBurstDone
