/-
  The walk of law TopMixed.
-/
import Derived.Test.YtddopoojmadpjaaGreatDoorMixed
namespace Go.Proofs.YtddopoojmadpjaaGreatDoor
open Go.RowKit
set_option linter.unusedVariables false

set_option maxRecDepth 100000 in
set_option maxHeartbeats 4000000 in
theorem topMixed_ok (n s q : Nat) (id : Nat) (hP : planErr n s q = 0) (hid : id < 4294967296) (hnm : n ≤ 1000000000) (ao : Option Addr) (co : Nat) (obj : List UInt8) (a3 : Option Addr) (l3 c3 : Nat) (ss : List Src) (a4 : Option Addr) (l4 c4 : Nat) (ms : List Src) (a5 : Option Addr) (l5 c5 : Nat) (ds : List (List UInt8)) (w : World) (htab : Tab w) (ho : Bs w ao n co obj) (hs3 : Srcs w a3 l3 c3 ss) (hs4 : Srcs w a4 l4 c4 ms) (hd5 : Bss w a5 l5 c5 ds)
    (CO : ∀ w, Calls Tryz.prog 28 #[.int .i64 (n : Int), .int .i64 (s : Int), .int .u32 (id : Int)] w fun e w' => e = .returned (.tuple #[.agg #[.int .i64 (n : Int), .int .i64 (s : Int), .int .i64 (q : Int), .int .u32 (id : Int)], .int .i64 0]) ∧ Gr w w') :
    Calls Tryz.prog 3 #[.slice ao n co, .int .i64 (s : Int), .int .u32 (id : Int), .slice a3 l3 c3, .slice a4 l4 c4, .slice a5 l5 c5] w fun e w' => e = .returned (.bool true) ∧ Gr w w' := by
  obtain ⟨hs1, hs2, hq1, hq2⟩ := plan_bounds hP
  have CS := Lib.hid fun w => small_ok n s q id hP (by omega) ao co w CO
  have HP := Lib.hid hP
  have HT := Lib.hid htab
  have HO := Lib.hid ho
  have HS3 := Lib.hid hs3
  have HS4 := Lib.hid hs4
  have HD5 := Lib.hid hd5
  have h5m : l5 ≤ 9223372036854775807 := by have h1 := hd5.2.1; have h2 := hd5.2.2.1; unfold maxLen at h2; omega
  have HDL : Hid (ds.length = l5) := hd5.1
  have HML : Hid (ms.length = l4) := hs4.1
  have HSL : Hid (ss.length = l3) := hs3.1
  clear hP htab ho hs3 hs4 hd5 CO
  go_enter Tryz.func3, Tryz.ntmps3
  go_wp2_with fail
  refine (topAwake _ HT.out).mono ?_
  rintro e w1 ⟨rfl, hg1⟩
  go_wp2_with fail
  refine (CS.out w1).mono ?_
  rintro e w2 ⟨rfl, hg⟩
  have hal := (Gr.refl w2).alloc (.cells #[.int .i64 (n : Int), .int .i64 (s : Int), .int .i64 (q : Int), .int .u32 (id : Int)] 28)
  have HPL := Lib.hid (heap_alloc_new w2 (.cells #[.int .i64 (n : Int), .int .i64 (s : Int), .int .i64 (q : Int), .int .u32 (id : Int)] 28))
  have HW2 := Lib.hid ((hg1.trans hg).trans hal)
  clear hg1 hg hal CS
  cases hsb : smallB s q with
  | false =>
    go_wp2
    first | go_ret | go_ret2
    exact ⟨rfl, HW2.out⟩
  | true =>
  obtain ⟨hq12, hs20⟩ : q ≤ 12 ∧ s ≤ 20 := of_decide_eq_true hsb
  clear hsb
  go_wp2_with fail
  refine (few_any a3 l3 c3 ss _ (HS3.out.below HW2.out)).mono ?_
  rintro e w3 ⟨b, rfl, hf, hg⟩
  have HF := Lib.hid hf
  have HW3 := Lib.hid (HW2.out.trans hg)
  have HP3 := Lib.hid (hg.heap HPL.out)
  clear hf hg HPL HW2
  cases b with
  | false =>
    go_wp2
    first | go_ret | go_ret2
    exact ⟨rfl, HW3.out⟩
  | true =>
  have HFEW := Lib.hid (HF.out rfl)
  have hl3 : l3 ≤ 20 := by rw [← HSL.out]; exact HFEW.out.2
  clear HF
  go_wp2_with fail
  refine (few_any a4 l4 c4 ms _ (HS4.out.below HW3.out)).mono ?_
  rintro e w4 ⟨b, rfl, hf, hg⟩
  have HF := Lib.hid hf
  have HW4 := Lib.hid (HW3.out.trans hg)
  have HP4 := Lib.hid (hg.heap HP3.out)
  obtain ⟨p0, p1, p2, p3⟩ := p_four_cells HP4.out
  clear hf hg HP3 HW3
  cases b with
  | false =>
    go_wp2
    first | go_ret | go_ret2
    exact ⟨rfl, HW4.out⟩
  | true =>
  have HFEM := Lib.hid (HF.out rfl)
  have hl4 : l4 ≤ 20 := by rw [← HML.out]; exact HFEM.out.2
  clear HF
  by_cases h20 : l5 ≤ 20
  · have h20i : ¬ (20 : Int) < (l5 : Int) := by omega
    go_wp2_with fail
    refine (sent_ok n s q id HP.out hid hnm ao co obj a3 l3 c3 ss _ (HT.out.below HW4.out) (HO.out.below HW4.out) (HS3.out.below HW4.out) HFEW.out).mono ?_
    rintro e w5 ⟨v, rfl, hrow, hg⟩
    obtain ⟨al, cl, rfl, hbss, _⟩ := hrow.bss
    have HLA := Lib.hid hbss
    have HW5 := Lib.hid (HW4.out.trans hg)
    have HP5 := Lib.hid (hg.heap HP4.out)
    clear hbss hrow hg HP4 HW4 p0 p1 p2 p3
    have hlal := sentTo_len n s q id obj ss l3
    have hlan := nextTo_le q ss l3
    have hgda := goods_fr (n := n) (s := s) (q := q) (id := id) (obj := obj) (k := 0) (ss := ss) HP.out hid (by omega) HFEW.out HS3.out.sd l3 (by rw [HSL.out]; exact Nat.le_refl _)
    rw [sentFr_zero] at hgda
    have HGA := Lib.hid hgda
    obtain ⟨la, ela⟩ : ∃ x, (sentTo n s q id obj ss l3).length = x := ⟨_, rfl⟩
    have hla : la ≤ 20 := by omega
    rw [ela] at HLA ⊢
    obtain ⟨LA, eLA⟩ : ∃ x, sentTo n s q id obj ss l3 = x := ⟨_, rfl⟩
    rw [eLA] at HLA HGA
    obtain ⟨VA, eVA⟩ : ∃ x, vecTo q ss l3 = x := ⟨_, rfl⟩
    rw [eVA] at HGA
    clear hgda ela eLA eVA hlal hlan HSL
    obtain ⟨p0, p1, p2, p3⟩ := p_four_cells HP5.out
    go_wp2_with fail
    refine (senderNew_ok n s q id HP.out ao co obj _ (HO.out.below HW5.out) (by omega)).mono ?_
    rintro e w6 ⟨B, hB, rfl, hsa, hg⟩
    have HSA := Lib.hid hsa
    have HW6 := Lib.hid (HW5.out.trans hg)
    have HG56 := Lib.hid hg
    have hw5 := HW5.out.size
    clear hsa hg p0 p1 p2 p3
    go_wp2_with fail
    refine (sendSkip_ok B n s q id obj 0 1048576 (by omega) (by omega) _ HSA.out).mono ?_
    rintro e w7 ⟨rfl, ⟨S, hc0, hss, hSB, hSl⟩, hg⟩
    have HC0 : Hid (SendCells w7 B n s q id S 1048576) := hc0
    have HSS := Lib.hid hss
    have HW7 := Lib.hid (HW6.out.grb hg (by omega))
    have HG57 := Lib.hid (HG56.out.grb hg hB)
    have HP7 := Lib.hid (HG57.out.heap HP5.out)
    have hB7 : B < w7.heap.size := lt_of_block hc0
    have hBw : w.heap.size ≤ B := by omega
    have hPB : w2.heap.size < B := Nat.lt_of_lt_of_le (lt_of_block HP5.out) hB
    clear hc0 hss hg HSA HW6 HG56 HP5 HW5 hw5
    go_wp2
    have hmsd : ∀ s, s ∈ ms → s.sd < 18446744073709551616 := HS4.out.sd
    have HMSD := Lib.hid hmsd
    clear hmsd
    go_loopw [18, 86] (fun o i wr => ∃ (j : Nat) (v : Value), j ≤ l4 ∧ i = .int .i64 j ∧ v = o ∧ RowsV wr w7.heap.size v (sentFr n s q id obj 1048576 ms j) none ∧ SendCells wr B n s q id S (1048576 + nextTo q ms j) ∧ GrB w7 B wr) (fun _ i _ => l4 - (intOf i).toNat)
    case atStart => exact ⟨0, _, Nat.zero_le _, rfl, rfl, RowsV.nil _ _ _, HC0.out, GrB.refl _ _⟩
    case round =>
      obtain ⟨j, v, hj, rfl, rfl, hrow, hsc, hgr⟩ := hrel
      have HROW := Lib.hid hrow
      have HSC := Lib.hid hsc
      have HGR := Lib.hid hgr
      have HWR := Lib.hid (HW7.out.grb hgr hBw)
      clear hrow hsc hgr
      by_cases hlt : j < l4
      · obtain ⟨b, off, rfl, _⟩ := HS4.out.at_ (by omega)
        obtain ⟨x, a', c, hx, c0, c1, c2, hm, hb, hsd⟩ := (HS4.out.below HWR.out).get hlt
        have hxd : ms.getD j dSrc = x := by rw [List.getD_eq_getElem?_getD, hx]; rfl
        have hk60 : x.l.length ≤ 60 := HFEM.out.1 x (List.mem_of_getElem? hx)
        have hnx := nextTo_le q ms j
        have hal := (Gr.refl wr).alloc (.cells #[.int .u8 (x.m : Int), .slice a' x.l.length c, .int .u64 (x.sd : Int)] 41)
        have HSA : Hid (SendAt (wr.alloc (.cells #[.int .u8 (x.m : Int), .slice a' x.l.length c, .int .u64 (x.sd : Int)] 41)) B n s q id obj (1048576 + nextTo q ms j)) := HC0.out.at_ HSS.out hSB hSl (HGR.out.gr hal) (hal.heap HSC.out)
        have HSC2 : Hid (SendCells (wr.alloc (.cells #[.int .u8 (x.m : Int), .slice a' x.l.length c, .int .u64 (x.sd : Int)] 41)) B n s q id S (1048576 + nextTo q ms j)) := hal.heap HSC.out
        have HROW2 := Lib.hid (HROW.out.gr hal)
        have HGR2 := Lib.hid (HGR.out.gr hal)
        have HT2 := Lib.hid (HT.out.below (HWR.out.trans hal))
        have HB2 := Lib.hid (hb.below hal)
        obtain ⟨x0, x1, x2, -⟩ := three_cells (heap_alloc_new wr (.cells #[.int .u8 (x.m : Int), .slice a' x.l.length c, .int .u64 (x.sd : Int)] 41))
        have hown : v.ownBlock ≠ some B := fun e => by have := (HROW.out.lt _ e).1; omega
        have hownlt : ∀ k, v.ownBlock = some k → w7.heap.size ≤ k ∧ k < wr.heap.size := HROW.out.lt
        have HOWN := Lib.hid hown
        have HOLT := Lib.hid hownlt
        by_cases hE : rowErr x.m x.l.length q = 0
        · have CS := Lib.hid fun w ht h1 h2 => send_okS B n s q id HP.out hid (by omega) obj (1048576 + nextTo q ms j) (by omega) x.m a' x.l.length c x.sd hsd x.l (by omega) hE w ht h1 h2
          have hok : okSrc q (ms.getD j dSrc) = true := by rw [hxd]; exact decide_eq_true hE
          have hst : sentFr n s q id obj 1048576 ms (j + 1) = sentFr n s q id obj 1048576 ms j ++ [sentL n s q id obj (1048576 + nextTo q ms j) x.m x.l x.sd] := by rw [sentFr, if_pos hok, hxd]
          have hnt : 1048576 + nextTo q ms (j + 1) = 1048576 + nextTo q ms j + 1 := by rw [nextTo, if_pos hok, Nat.add_assoc]
          have hpos := sentL_pos n s q id obj (1048576 + nextTo q ms j) x.m x.l x.sd
          have hll : (sentFr n s q id obj 1048576 ms j).length ≤ 20 := by rw [sentFr_len]; omega
          have HST := Lib.hid hst
          have HNT := Lib.hid hnt
          obtain ⟨TX, eTX⟩ : ∃ T, sentL n s q id obj (1048576 + nextTo q ms j) x.m x.l x.sd = T := ⟨_, rfl⟩
          rw [eTX] at CS HST hpos
          obtain ⟨LS, eLS⟩ : ∃ T, sentFr n s q id obj 1048576 ms j = T := ⟨_, rfl⟩
          rw [eLS] at HST HROW HROW2 hll
          obtain ⟨NX, eNX⟩ : ∃ T, 1048576 + nextTo q ms j = T := ⟨_, rfl⟩
          rw [eNX] at CS HNT HSA HSC HSC2
          have hnx2 : NX ≤ 1048576 + j := by omega
          obtain ⟨xl, exl⟩ : ∃ k, x.l.length = k := ⟨_, rfl⟩
          obtain ⟨xm, exm⟩ : ∃ k, x.m = k := ⟨_, rfl⟩
          obtain ⟨xd, exd⟩ : ∃ k, x.sd = k := ⟨_, rfl⟩
          rw [exl, exm, exd] at CS HSA HSC2 HROW2 HGR2 HT2 HB2 x0 x1 x2 hal
          rw [exm] at c0
          rw [exl] at c1
          rw [exd] at c2
          clear hok hst hnt eTX eLS eNX hE hxd hx hb exl exm exd hk60 hm hsd hown hownlt HROW HSC hnx
          go_wp2_with fail
          refine (CS.out _ HT2.out HB2.out HSA.out).mono ?_
          rintro e w3 ⟨a7, k7, c7', rfl, hb7, hf7, hsa7, hg7, S', e1, e2⟩
          have hk7 : 0 < k7 := by rw [← hb7.1]; exact hpos
          have hblk := hb7.blk hk7
          have hrow3 := HROW2.out.gap hg7 HSC2.out (fun j u => by match j with | 0 => simp | 1 => simp | 2 => simp | 3 => simp | 4 => simp | 5 => simp | j + 6 => simp) HOWN.out
          have hsc3 := SendCells.next HSC2.out hsa7 e1 e2
          have hgr3 := HGR2.out.trans hg7
          have hal4 := (Gr.refl w3).alloc (.cells #[.slice a7 k7 c7'] 22)
          have hcl4 := one_cell (heap_alloc_new w3 (.cells #[.slice a7 k7 c7'] 22))
          have hsz3 := hg7.size
          rw [World.size_alloc] at hsz3 hf7
          go_wp2_with (with_reducible refine wpList_hold (o := ⟨some 101, _, _, _, _, _⟩) ?_)
          change wpList _ _ _ _ _ _
          have hsz4 : w3.heap.size + 1 = (w3.alloc (.cells #[.slice a7 k7 c7'] 22)).heap.size := by simp
          obtain ⟨W4, eW⟩ : ∃ W, w3.alloc (.cells #[.slice a7 k7 c7'] 22) = W := ⟨_, rfl⟩
          rw [eW] at hal4 hcl4 hsz4 ⊢
          clear eW x0 x1 x2 c0 c1 c2
          have hgrw1 := hgr3.size
          refine wpList_append_rows rfl (.tmp 98) (.tmp 100) rfl w7.heap.size rfl (hrow3.gr hal4) rfl hcl4 (hb7.below hal4) (fun y hy => ⟨fun e => by have h1 := (HOLT.out _ e).2; have h2 := hf7 y hy; omega, by have := hblk y hy; omega⟩) (by omega) (by omega) ?_
          intro v4 w4 hr4 hg4 hn4
          have hown4 : ∀ k, v.ownBlock = some k → w7.heap.size ≤ k := fun k hk => (HOLT.out k hk).1
          have HR4 := Lib.hid hr4
          have HS4' : Hid (SendCells w4 B n s q id S (NX + 1)) := by
            show w4.heap[B]? = _
            rw [hg4.block B (by have := lt_of_block hsc3; omega) (fun e => HOWN.out e.symm)]
            exact hal4.heap hsc3
          have HG4 := Lib.hid ((hgr3.gr hal4).grown hg4 hown4)
          clear hr4 hg4 hn4 hown4 hrow3 hsc3 hgr3 hal4 hcl4 hb7 hf7 hsa7 hg7 e1 e2 hblk hsz3 hsz4 hgrw1
          go_wp2
          go_roundw
          case rel => exact ⟨j + 1, v4, by omega, by go_num, rfl, by rw [HST.out]; exact HR4.out, by rw [HNT.out]; exact HS4'.out, HG4.out⟩
          case measure => first | (simp [intOf]; done) | (simp [intOf]; omega)
        · have CS := Lib.hid fun w h => send_bad B n s q id obj (1048576 + nextTo q ms j) (by omega) x.m a' x.l.length c x.sd (by omega) hE w h
          have hok : ¬ okSrc q (ms.getD j dSrc) = true := by rw [hxd]; unfold okSrc; simpa using hE
          have HST : Hid (sentFr n s q id obj 1048576 ms (j + 1) = sentFr n s q id obj 1048576 ms j) := by show _ = _; rw [sentFr, if_neg hok]
          have HNT : Hid (nextTo q ms (j + 1) = nextTo q ms j) := by show _ = _; rw [nextTo, if_neg hok]
          obtain ⟨PE, ePE⟩ : ∃ T, rowErr x.m x.l.length q = T := ⟨_, rfl⟩
          rw [ePE] at CS hE
          obtain ⟨xl, exl⟩ : ∃ k, x.l.length = k := ⟨_, rfl⟩
          obtain ⟨xm, exm⟩ : ∃ k, x.m = k := ⟨_, rfl⟩
          obtain ⟨xd, exd⟩ : ∃ k, x.sd = k := ⟨_, rfl⟩
          rw [exl, exm, exd] at CS HSA HSC2 HROW2 HGR2 x0 x1 x2 hal
          rw [exm] at c0
          rw [exl] at c1
          rw [exd] at c2
          have hPE : ((PE : Int) == 0) = false := by rw [beq_eq_false_iff_ne]; omega
          clear hok ePE hE hxd hx hb exl exm exd hk60 hm hsd hown hownlt HROW HSC HB2 HT2
          go_wp2_with fail
          refine (CS.out _ HSA.out).mono ?_
          rintro e w3 ⟨rfl, hg7⟩
          have HR4 := Lib.hid (HROW2.out.gr hg7)
          have HS4' : Hid (SendCells w3 B n s q id S (1048576 + nextTo q ms j)) := hg7.heap HSC2.out
          have HG4 := Lib.hid (HGR2.out.gr hg7)
          clear hg7 x0 x1 x2 c0 c1 c2
          go_wp2
          go_roundw
          case rel => exact ⟨j + 1, v, by omega, by go_num, rfl, by rw [HST.out]; exact HR4.out, by rw [HNT.out]; exact HS4'.out, HG4.out⟩
          case measure => first | (simp [intOf]; done) | (simp [intOf]; omega)
      · have hjl : j = l4 := by omega
        have hge : (l4 : Int) ≤ (j : Int) := by omega
        have hgdb := goods_fr (n := n) (s := s) (q := q) (id := id) (obj := obj) (k := 1048576) (ss := ms) HP.out hid (by omega) HFEM.out HMSD.out l4 (by rw [HML.out]; exact Nat.le_refl _)
        have hlbl := sentFr_len n s q id obj 1048576 ms l4
        have hlbn := nextTo_le q ms l4
        obtain ⟨ab, cb, rfl, hbss, _⟩ := HROW.out.bss
        rw [hjl] at hbss ⊢
        have HGB := Lib.hid hgdb
        have HLB := Lib.hid hbss
        have HLA8 := Lib.hid (HLA.out.below (HG57.out.grb HGR.out hB))
        obtain ⟨lb, elb⟩ : ∃ x, (sentFr n s q id obj 1048576 ms l4).length = x := ⟨_, rfl⟩
        have hlb : lb ≤ 20 := by omega
        rw [elb] at HLB ⊢
        obtain ⟨LB, eLB⟩ : ∃ x, sentFr n s q id obj 1048576 ms l4 = x := ⟨_, rfl⟩
        rw [eLB] at HLB HGB
        obtain ⟨VB, eVB⟩ : ∃ x, vecTo q ms l4 = x := ⟨_, rfl⟩
        rw [eVB] at HGB
        have HP8 := Lib.hid (HGR.out.heap HP7.out (by omega))
        clear hgdb hbss elb eLB eVB hlbl hlbn hjl hge hlt hj HROW HSC HGR HG57 HLA HML HC0 HSS hSB hSl HP7 HW7
        go_wp2
        go_loopw [105] (fun i wr2 => ∃ (j : Nat), j ≤ l5 ∧ i = .int .i64 j ∧ wr2 = wr ∧ ∀ t d, t < j → ds[t]? = some d → d.length ≤ 60) (fun i _ => l5 - (intOf i).toNat)
        case atStart => exact ⟨0, Nat.zero_le _, rfl, rfl, fun _ _ h => by omega⟩
        case round =>
          obtain ⟨j2, hj2, rfl, rfl, hall⟩ := hrel
          have HA := Lib.hid hall
          clear hall
          by_cases hlt : j2 < l5
          · obtain ⟨b, off, rfl, _⟩ := HD5.out.at_ (by omega)
            obtain ⟨d, a', n', c', hdj, hc, hb⟩ := (HD5.out.below HWR.out).get hlt
            have hdl := hb.1
            have hn' : n' ≤ 9223372036854775807 := by have h1 := hb.2.1; have h2 := hb.2.2.1; unfold maxLen at h2; omega
            have HDJ := Lib.hid hdj
            have HDN := Lib.hid hdl
            clear hdj hb hdl
            by_cases hlong : 60 < n'
            · have ht : (60 : Int) < (n' : Int) := by omega
              go_wp2
              first | go_ret | go_ret2
              exact ⟨rfl, HWR.out⟩
            · have ht : ¬ (60 : Int) < (n' : Int) := by omega
              go_wp2
              go_roundw
              case rel =>
                refine ⟨j2 + 1, by omega, by go_num, (by first | rfl | trivial), fun t d' htj hd' => ?_⟩
                by_cases e : t = j2
                · subst e
                  obtain rfl : d' = d := Option.some.inj (hd'.symm.trans HDJ.out)
                  rw [HDN.out]; omega
                · exact HA.out t d' (by omega) hd'
              case measure => first | (simp [intOf]; done) | (simp [intOf]; omega)
          · have hge : (l5 : Int) ≤ (j2 : Int) := by omega
            have hall : ∀ d, d ∈ ds → d.length ≤ 60 := fun d hd => by
              obtain ⟨t, ht, rfl⟩ := List.getElem_of_mem hd
              exact HA.out t _ (by have := HDL.out; omega) (List.getElem?_eq_getElem ht)
            have HALL := Lib.hid hall
            obtain ⟨p0, p1, p2, p3⟩ := p_four_cells HP8.out
            clear hall HA HDL
            go_wp2_with fail
            refine (heard_ok n s q id 1073741824 (by omega) (dat obj s q) (lin_dat obj s q) HP.out hnm al la cl (by omega) LA VA wr (HT.out.below HWR.out) HLA8.out HGA.out).mono ?_
            rintro e w9 ⟨B2, T, E, S2, rfl, hT9, hB9, hSB9, hS9, hR9, hts9, hg9⟩
            have HTS9 := Lib.hid hts9
            have HR9 := Lib.hid hR9
            have HG9 := Lib.hid hg9
            have hTB9 := rel_ne hR9 hts9
            clear hts9 hR9 hg9 hT9 p0 p1 p2 p3
            -- what the relay says
            have HSPK : Hid (Calls Tryz.prog 14 #[.pointer (some ⟨B2, 0, none⟩), .slice a5 l5 c5] w9 fun e w' => ∃ (ac : Option Addr) (lc cc : Nat) (LC VC : List (List UInt8)), e = .returned (.tuple #[.slice ac lc cc, .bool true]) ∧ lc ≤ 20 ∧ Bss w' ac lc cc LC ∧ Goods n s q id (dat obj s q) LC VC ∧ (∀ x, In VC x → Sp (In VA) x) ∧ Gr wr w') := by
              show Calls _ _ _ _ _
              by_cases hV0 : putAll [] VA = []
              · have h9 := HTS9.out
                rw [hV0] at h9
                refine (speaks_none B2 T E n s q id 1073741824 la S2 (dat obj s q) a5 l5 c5 (by omega) ds w9 h9 HR9.out (HD5.out.below (HWR.out.trans HG9.out))).mono ?_
                rintro e w' ⟨rfl, hg⟩
                exact ⟨none, 0, 0, [], [], rfl, by omega, Bss.nil _, Goods.nil _ _ _ _ _, fun x ⟨v, hv, _⟩ => (by cases hv), HG9.out.trans hg⟩
              · refine (speaks_ok B2 T E n s q id 1073741824 la S2 HP.out hid hnm obj (putAll [] VA) hV0 a5 l5 c5 ds w9 (HT.out.below (HWR.out.trans HG9.out)) HTS9.out HR9.out hTB9 hSB9 (HD5.out.below (HWR.out.trans HG9.out)) HALL.out h20 (by omega)).mono ?_
                rintro e w' ⟨v, rfl, hrow, hg⟩
                obtain ⟨ac, cc, rfl, hbss, _⟩ := hrow.bss
                have hV := HTS9.out.red
                have hlen := saidTo_length n s q id obj (putAll [] VA) 1073741824 ds l5
                obtain ⟨hr, _, hi1, hi2⟩ := (red_nil q).puts HGA.out.vec
                refine ⟨ac, _, cc, _, wvTo q (putAll [] VA) ds l5, rfl, by rw [hlen]; exact h20, hbss, goods_said HP.out hid hV l5 (by omega), fun x hx => Sp.mono (fun y hy => ?_) (said_span hV.len l5 x hx), HG9.out.grb hg hB9⟩
                exact hi2 (In VA) (fun x ⟨v, hv, _⟩ => (by cases hv)) (fun x hx => Sp.mem hx) y hy
            clear HTS9 HR9 hTB9 hSB9 hS9
            go_wp2_with fail
            refine HSPK.out.mono ?_
            rintro e w10 ⟨ac, lc, cc, LC, VC, rfl, hlc, hbc, hgc, hsp, hg⟩
            have HLC := Lib.hid hbc
            have HGC := Lib.hid hgc
            have HSP := Lib.hid hsp
            have HW10 := Lib.hid (HWR.out.trans hg)
            have HLA9 := Lib.hid (HLA8.out.below hg)
            have HLB9 := Lib.hid (HLB.out.below hg)
            have HP9 := Lib.hid (hg.heap HP8.out)
            obtain ⟨p0, p1, p2, p3⟩ := p_four_cells HP9.out
            clear hbc hgc hsp hg HSPK HG9 HLA8 HLB HP8 HALL HWR
            go_wp2_with fail
            refine (takerNew_S n s q id (dat obj s q) HP.out (by omega) w10).mono ?_
            rintro e w11 ⟨Tt, Et, rfl, hE1, hET1, hts, hg⟩
            have HTT := Lib.hid hts
            have HG11 := Lib.hid hg
            obtain ⟨p0, p1, p2, p3⟩ := p_four_cells (hg.heap HP9.out)
            clear hts hg
            go_wp2_with fail
            refine (takerNew_S n s q id (dat obj s q) HP.out (by omega) w11).mono ?_
            rintro e w12 ⟨Tu, Eu, rfl, hE2, hET2, hts, hg⟩
            have hsz := HG11.out.size
            have hltt := HTT.out.lt
            have HMX : Hid (MixSt w10 w12 n s q id (dat obj s q) Tt Et Tu Eu 0 [] [] (fun _ => False)) :=
              ⟨_, _, HTT.out.gr hg, hts, fun b hb => by rw [hb]; exact hE1, fun b hb => by rw [hb]; omega, fun b hb hb2 => by rw [hb] at hb2; omega, fun hb => by omega, fun hb => by omega, by omega, by omega, by omega, HG11.out.trans hg, fun b hb => hb.elim⟩
            clear hts hg HTT HG11 p0 p1 p2 p3 hE1 hET1 hE2 hET2 hsz hltt
            go_wp2_with (with_reducible refine wpList_hold (o := ⟨some 153, _, _, _, _, _⟩) ?_)
            change wpList _ _ _ _ _ _
            refine wpList_max3 rfl (.tmp 148) (.tmp 150) (.tmp 152) 3 rfl la lb lc rfl rfl rfl ?_
            obtain ⟨M, eM⟩ : ∃ x, max (max la lb) lc = x := ⟨_, rfl⟩
            rw [eM]
            have hMa : la ≤ M := by omega
            have hMb : lb ≤ M := by omega
            have hMc : lc ≤ M := by omega
            have hM20 : M ≤ 20 := by omega
            clear eM
            have HL3 : Hid (∀ k, k < 3 → Bss w10 (tri ac ab al k) (tri lc lb la k) (tri cc cb cl k) (tri LC LB LA k) ∧ Goods n s q id (dat obj s q) (tri LC LB LA k) (tri VC VB VA k)) := by
              show ∀ k, _
              intro k hk
              match k with
              | 0 => exact ⟨HLC.out, HGC.out⟩
              | 1 => exact ⟨HLB9.out, HGB.out⟩
              | 2 => exact ⟨HLA9.out, HGA.out⟩
            have hl3s : ∀ k, k < 3 → tri lc lb la k ≤ 20 := fun k hk => by
              match k with
              | 0 => exact hlc
              | 1 => exact hlb
              | 2 => exact hla
            have HL3S := Lib.hid hl3s
            clear hl3s
            go_wp2
            go_loopw [154] (fun i wr3 => ∃ (i' m : Nat) (tv uv : List (List UInt8)), i' ≤ M ∧ i = .int .i64 i' ∧ m ≤ 6 * i' ∧ MixSt w10 wr3 n s q id (dat obj s q) Tt Et Tu Eu m tv uv (fun _ => False) ∧ Fed (tri VC VB VA) i' 0 tv uv) (fun i _ => M - (intOf i).toNat)
            case atStart => exact ⟨0, 0, [], [], Nat.zero_le _, rfl, Nat.le_refl _, HMX.out, Fed.nil _⟩
            case round =>
              obtain ⟨i', m, tv, uv, hi', rfl, hm6, hmx, hfd⟩ := hrel
              have HMX1 := Lib.hid hmx
              have HFD1 := Lib.hid hfd
              clear hmx hfd
              by_cases hltM : i' < M
              · have HMK := Lib.hid (HMX1.out.keep (.cells #[.slice ac lc cc, .slice ab lb cb, .slice al la cl] 25))
                have HXB := Lib.hid (heap_alloc_new wr (.cells #[.slice ac lc cc, .slice ab lb cb, .slice al la cl] 25))
                go_wp2
                obtain ⟨X, eX⟩ : ∃ x, wr.heap.size = x := ⟨_, rfl⟩
                obtain ⟨W3, eW⟩ : ∃ x, wr.alloc (.cells #[.slice ac lc cc, .slice ab lb cb, .slice al la cl] 25) = x := ⟨_, rfl⟩
                rw [eX] at HMK HXB ⊢
                rw [eW] at HMK HXB ⊢
                clear eW HMX1
                go_loopw [162] (fun i wr4 => ∃ (k m' : Nat) (tv uv : List (List UInt8)), k ≤ 3 ∧ i = .int .i64 k ∧ m' ≤ 6 * i' + 2 * k ∧ MixSt w10 wr4 n s q id (dat obj s q) Tt Et Tu Eu m' tv uv (fun b => b = X) ∧ Fed (tri VC VB VA) i' k tv uv ∧ wr4.heap[X]? = some (.cells #[.slice ac lc cc, .slice ab lb cb, .slice al la cl] 25)) (fun i _ => 3 - (intOf i).toNat)
                case atStart => exact ⟨0, m, tv, uv, by omega, rfl, by omega, HMK.out, HFD1.out, HXB.out⟩
                case round =>
                  clear HMK HXB HFD1 eX
                  obtain ⟨k, m', tv, uv, hk3, rfl, hm', hmx, hfd, hxb⟩ := hrel
                  have HMX1 := Lib.hid hmx
                  have HFD1 := Lib.hid hfd
                  have HXB := Lib.hid hxb
                  clear hmx hfd hxb
                  by_cases hlt : k < 3
                  · have hxc : wr.cell? ⟨X, k, none⟩ = some (.slice (tri ac ab al k) (tri lc lb la k) (tri cc cb cl k)) := by
                      obtain ⟨x0, x1, x2, -⟩ := three_all HXB.out
                      match k with
                      | 0 => exact x0
                      | 1 => exact x1
                      | 2 => exact x2
                    obtain ⟨hbk, hgk⟩ := HL3.out k hlt
                    have hlk := HL3S.out k hlt
                    obtain ⟨ak, eak⟩ : ∃ x, tri ac ab al k = x := ⟨_, rfl⟩
                    obtain ⟨lk, elk⟩ : ∃ x, tri lc lb la k = x := ⟨_, rfl⟩
                    obtain ⟨ck, eck⟩ : ∃ x, tri cc cb cl k = x := ⟨_, rfl⟩
                    rw [eak, elk, eck] at hxc hbk
                    rw [elk] at hlk
                    have hvl := hgk.1
                    have hbl := hbk.1
                    have HBK := Lib.hid hbk
                    have HGK := Lib.hid hgk
                    have HXC := Lib.hid hxc
                    clear hbk hgk eak elk eck
                    by_cases hil : i' < lk
                    · obtain ⟨bk, ok, rfl, _⟩ := HBK.out.at_ (by omega)
                      obtain ⟨l, a', n', c', hl, hc, hb⟩ := HBK.out.get hil
                      have hc4 := HMX1.out.grow.cell hc
                      obtain ⟨v, hv⟩ : ∃ v, (tri VC VB VA k)[i']? = some v := ⟨_, List.getElem?_eq_getElem (by omega)⟩
                      obtain ⟨hgd, hlm⟩ := HGK.out.2 i' l v hl hv
                      have HTK := Lib.hid (HMX1.out.take HP.out hnm (lin_dat obj s q) (by omega) (HT.out.below HW10.out) a' n' c' l v hb hgd hlm)
                      have HLB' := Lib.hid hb
                      have HV := Lib.hid hv
                      have HGD := Lib.hid hgd
                      have HLM := Lib.hid hlm
                      have HC := Lib.hid hc
                      clear hl hc hb hv hgd hlm HBK HGK HMX1 hbl hvl
                      by_cases hk0 : 0 < k
                      · have hk0i : (0 : Int) < (k : Int) := by omega
                        go_wp2_with fail
                        refine HTK.out.mono ?_
                        rintro e w13 ⟨rfl, hmx, hkp⟩
                        have HMX2 := Lib.hid hmx
                        have hxb2 := (hkp X rfl).trans HXB.out
                        have HXB2 := Lib.hid hxb2
                        have hc5 := hmx.grow.cell HC.out
                        have HTK2 := Lib.hid (hmx.swap.take HP.out hnm (lin_dat obj s q) (by omega) (HT.out.below HW10.out) a' n' c' l v HLB'.out HGD.out HLM.out)
                        clear hmx hkp hxb2 hxc hc4
                        go_wp2_with fail
                        refine HTK2.out.mono ?_
                        rintro e w14 ⟨rfl, hmx, hkp⟩
                        have HMX3 := Lib.hid hmx.swap
                        have HXB3 := Lib.hid ((hkp X rfl).trans HXB2.out)
                        clear hmx hkp hc5 HTK HTK2
                        go_wp2
                        go_roundw
                        case rel => exact ⟨k + 1, m' + 1 + 1, _, _, by omega, by go_num, by omega, HMX3.out, HFD1.out.both hlt HV.out, HXB3.out⟩
                        case measure => first | (simp [intOf]; done) | (simp [intOf]; omega)
                      · have hk0i : ¬ (0 : Int) < (k : Int) := by omega
                        obtain rfl : k = 0 := by omega
                        go_wp2_with fail
                        refine HTK.out.mono ?_
                        rintro e w13 ⟨rfl, hmx, hkp⟩
                        have HMX3 := Lib.hid hmx
                        have HXB3 := Lib.hid ((hkp X rfl).trans HXB.out)
                        clear hmx hkp hxc hc4 HTK
                        go_wp2
                        go_roundw
                        case rel => exact ⟨0 + 1, m' + 1, _, _, by omega, by go_num, by omega, HMX3.out, HFD1.out.one HV.out, HXB3.out⟩
                        case measure => first | (simp [intOf]; done) | (simp [intOf]; omega)
                    · have hili : ¬ (i' : Int) < (lk : Int) := by omega
                      have hnone : (tri VC VB VA k)[i']? = none := List.getElem?_eq_none (by omega)
                      clear HBK HGK
                      go_wp2
                      go_roundw
                      case rel => exact ⟨k + 1, m', tv, uv, by omega, by go_num, by omega, HMX1.out, HFD1.out.skip hnone, HXB.out⟩
                      case measure => first | (simp [intOf]; done) | (simp [intOf]; omega)
                  · obtain rfl : k = 3 := by omega
                    go_wp2
                    go_roundw
                    case rel => exact ⟨i' + 1, m', tv, uv, by omega, by go_num, by omega, HMX1.out.drop, HFD1.out.row⟩
                    case measure => first | (simp [intOf]; done) | (simp [intOf]; omega)
              · have hge : (M : Int) ≤ (i' : Int) := by omega
                have hlen3 : ∀ k, k < 3 → (tri VC VB VA k).length ≤ i' := fun k hk => by
                  obtain ⟨hbk, hgk⟩ := HL3.out k hk
                  have h1 := hgk.1
                  have h2 := hbk.1
                  have h3 : tri lc lb la k ≤ M := by
                    match k with
                    | 0 => exact hMc
                    | 1 => exact hMb
                    | 2 => exact hMa
                  omega
                have hVV : putAll [] tv = putAll [] uv := HFD1.out.one_set hlen3 (fun k v hk hv => (HL3.out k hk).2.vec v hv) HSP.out
                obtain ⟨St, Su, hTt, hTu, _, _, _, _, _, _, _, _, hgw, _⟩ := HMX1.out
                rw [← hVV] at hTu
                obtain ⟨V, eV⟩ : ∃ x, putAll [] tv = x := ⟨_, rfl⟩
                rw [eV] at hTt hTu
                have HTt := Lib.hid hTt
                have HTu := Lib.hid hTu
                have HGW := Lib.hid hgw
                have hV4 : V.length ≤ 4096 := by have := hTt.red.ech.rank_k; omega
                clear hVV eV HMX1 HFD1 hTt hTu hgw hlen3 HL3 HL3S hMa hMb hMc hm6 hi' hltM
                go_wp2_with fail
                refine (takerRows_S Tt Et n s q id m hs2 hq2 St V (dat obj s q) wr HTt.out).mono ?_
                rintro e w13 ⟨rv1, rfl, hr1, hg1⟩
                have HR1 := Lib.hid hr1
                have HG1 := Lib.hid hg1
                clear hr1 hg1
                go_wp2_with fail
                refine (takerRows_S Tu Eu n s q id m hs2 hq2 Su V (dat obj s q) w13 (HTu.out.gr HG1.out)).mono ?_
                rintro e w14 ⟨rv2, rfl, hr2, hg2⟩
                have HR2 := Lib.hid hr2
                have HG2 := Lib.hid hg2
                clear hr2 hg2
                go_wp2_with fail
                refine (sameRows_eq q s _ _ rv1 rv2 V (dat obj s q) hV4 w14 (HR1.out.gr HG2.out) HR2.out).mono ?_
                rintro e w15 ⟨rfl, hg3⟩
                have HG3 := Lib.hid ((HG1.out.trans HG2.out).trans hg3)
                clear hg3 HR1 HR2 HG1 HG2
                go_wp2_with fail
                refine (takerStatus_S Tt Et n s q id m St V (dat obj s q) w15 (HTt.out.gr HG3.out)).mono ?_
                rintro e w16 ⟨rfl, hw⟩
                subst hw
                obtain ⟨STA, eSTA⟩ : ∃ x, (if V.length = q then 1 else 0 : Nat) = x := ⟨_, rfl⟩
                rw [eSTA]
                go_wp2_with fail
                refine (takerStatus_S Tu Eu n s q id m Su V (dat obj s q) w15 (HTu.out.gr HG3.out)).mono ?_
                rintro e w16 ⟨rfl, hw⟩
                subst hw
                rw [eSTA]
                have hst : ((STA : Int) != (STA : Int)) = false := by simp
                have HW15 := Lib.hid ((HW10.out.trans HGW.out).trans HG3.out)
                have HG15 := Lib.hid (HGW.out.trans HG3.out)
                have HLA15 := Lib.hid (HLA9.out.below HG15.out)
                have HLB15 := Lib.hid (HLB9.out.below HG15.out)
                have HP15 := Lib.hid (HG15.out.heap HP9.out)
                clear eSTA HTt HTu HG3 HGW HLA9 HLB9 HP9 HLC HGC HSP HW10
                go_wp2
                obtain ⟨p0, p1, p2, p3⟩ := p_four_cells HP15.out
                have hHeld : (fun W : World => W.cell? ⟨w2.heap.size, 0, none⟩ = some (.int .i64 (n : Int)) ∧ W.cell? ⟨w2.heap.size, 1, none⟩ = some (.int .i64 (s : Int)) ∧ W.cell? ⟨w2.heap.size, 2, none⟩ = some (.int .i64 (q : Int)) ∧ W.cell? ⟨w2.heap.size, 3, none⟩ = some (.int .u32 (id : Int))) w15.drew := ⟨p0, p1, p2, p3⟩
                clear p0 p1 p2 p3
                refine wp_region_held_drew (S := fun W : World => W.cell? ⟨w2.heap.size, 0, none⟩ = some (.int .i64 (n : Int)) ∧ W.cell? ⟨w2.heap.size, 1, none⟩ = some (.int .i64 (s : Int)) ∧ W.cell? ⟨w2.heap.size, 2, none⟩ = some (.int .i64 (q : Int)) ∧ W.cell? ⟨w2.heap.size, 3, none⟩ = some (.int .u32 (id : Int))) (by kernel_rfl) hHeld (fun _ => ?_)
                refine wpAnyH_takeL 0 rfl (by kernel_rfl) (by kernel_rfl) (by kernel_rfl) (fun _ _ _ h => h) rfl (by assumption) (by (intro w hSw; (try dsimp only at hSw); go_simp; try with_reducible rfl)) ?_
                simp only [Act.put, List.setIfInBounds_toArray, List.set_cons_zero, List.set_cons_succ]
                refine wpAnyH_takeL 1 rfl (by kernel_rfl) (by kernel_rfl) (by kernel_rfl) (fun _ _ _ h => h) rfl (by assumption) (by (intro w hSw; (try dsimp only at hSw); go_simp; try with_reducible rfl)) ?_
                simp only [Act.put, List.setIfInBounds_toArray, List.set_cons_zero, List.set_cons_succ]
                refine wpAnyH_takeL 3 rfl (by kernel_rfl) (by kernel_rfl) (by kernel_rfl) (fun _ _ _ h => h) rfl (by assumption) (by (intro w hSw; (try dsimp only at hSw); go_simp; try with_reducible rfl)) ?_
                simp only [Act.put, List.setIfInBounds_toArray, List.set_cons_zero, List.set_cons_succ]
                refine wpAnyH_takeL 5 rfl (by kernel_rfl) (by kernel_rfl) (by kernel_rfl) (fun _ _ _ h => h) rfl (by assumption) (by (intro w hSw; (try dsimp only at hSw); go_simp; try with_reducible rfl)) ?_
                simp only [Act.put, List.setIfInBounds_toArray, List.set_cons_zero, List.set_cons_succ]
                refine wpAnyH_oneL 2 rfl (by kernel_rfl) rfl (fun K hK => ?_)
                go_simp
                have hga := ((Gr.refl w15).alloc (.cells #[] 22)).drew
                have ho0 := RowsB.empty w15 (w15.alloc (.cells #[] 22)).drew w15.heap.size (Nat.le_refl _) (heap_alloc_new w15 (.cells #[] 22))
                obtain ⟨W1, eW⟩ : ∃ x, (w15.alloc (.cells #[] 22)).drew = x := ⟨_, rfl⟩
                rw [eW] at hga ho0 ⊢
                clear eW
                have hHeld : (fun W : World => W.cell? ⟨w2.heap.size, 0, none⟩ = some (.int .i64 (n : Int)) ∧ W.cell? ⟨w2.heap.size, 1, none⟩ = some (.int .i64 (s : Int)) ∧ W.cell? ⟨w2.heap.size, 2, none⟩ = some (.int .i64 (q : Int)) ∧ W.cell? ⟨w2.heap.size, 3, none⟩ = some (.int .u32 (id : Int))) W1 := p_four_cells (hga.heap HP15.out)
                refine hK.out _ _ hHeld ?_
                clear hK K hHeld
                obtain ⟨v5, w5', hr5, ho5, hg5, hn5⟩ := run_append_rowsM 25 ho0 HLA15.out hga HGA.out.pos (by simp; omega)
                have hgw5 : Gr w15 w5' := hga.grown_ hg5 fun k hk => (ho0.lt k hk).1
                refine wpAnyH_oneL 4 rfl (by kernel_rfl) rfl (fun K hK => ?_)
                refine Lib.wp_append_run W1 (.tmp 210) (.tmp 211) 25 25 rfl _ _ rfl rfl v5 w5' hr5 ?_
                have hHeld : (fun W : World => W.cell? ⟨w2.heap.size, 0, none⟩ = some (.int .i64 (n : Int)) ∧ W.cell? ⟨w2.heap.size, 1, none⟩ = some (.int .i64 (s : Int)) ∧ W.cell? ⟨w2.heap.size, 2, none⟩ = some (.int .i64 (q : Int)) ∧ W.cell? ⟨w2.heap.size, 3, none⟩ = some (.int .u32 (id : Int))) w5' := p_four_cells (hgw5.heap HP15.out)
                refine hK.out _ _ hHeld ?_
                clear hK K hHeld hr5 hn5 hg5 hga ho0
                simp only [Act.put, List.setIfInBounds_toArray, List.set_cons_zero, List.set_cons_succ]
                have hlal : LA.length = la := HLA15.out.1
                obtain ⟨v6, w6', hr6, ho6, hg6, hn6⟩ := run_append_rowsM 25 ho5 HLB15.out hgw5 HGB.out.pos (by simp; omega)
                have hgw6 : Gr w15 w6' := hgw5.grown_ hg6 fun k hk => (ho5.lt k hk).1
                refine wpAnyH_oneL 6 rfl (by kernel_rfl) rfl (fun K hK => ?_)
                refine Lib.wp_append_run w5' (.tmp 212) (.tmp 213) 25 25 rfl _ _ rfl rfl v6 w6' hr6 ?_
                have hHeld : (fun W : World => W.cell? ⟨w2.heap.size, 0, none⟩ = some (.int .i64 (n : Int)) ∧ W.cell? ⟨w2.heap.size, 1, none⟩ = some (.int .i64 (s : Int)) ∧ W.cell? ⟨w2.heap.size, 2, none⟩ = some (.int .i64 (q : Int)) ∧ W.cell? ⟨w2.heap.size, 3, none⟩ = some (.int .u32 (id : Int))) w6' := p_four_cells (hgw6.heap HP15.out)
                refine hK.out _ _ hHeld ?_
                clear hK K hHeld hr6 hn6 hg6
                simp only [Act.put, List.setIfInBounds_toArray, List.set_cons_zero, List.set_cons_succ]
                obtain ⟨a6, c6, rfl, hb6⟩ := ho6.bss hgw6
                have hlbl : LB.length = lb := HLB15.out.1
                have hl6 : ([] ++ LA ++ LB).length = la + lb := by simp; omega
                rw [hl6] at hb6
                have HSUM := Lib.hid (summed_ok n s q id HP.out hid hnm obj ao co a6 (la + lb) c6 (by omega) ([] ++ LA ++ LB) (VA ++ VB) w6' (HT.out.below (HW15.out.trans hgw6)) (HO.out.below (HW15.out.trans hgw6)) hb6 (HGA.out.append HGB.out))
                rw [hl6]
                refine wpAnyH_oneL 7 rfl (by kernel_rfl) rfl (fun K hK => ?_)
                go_simp
                go_at_call 20
                refine HSUM.out.mono ?_
                rintro e w7' ⟨rfl, hg7⟩
                go_simp
                have hHeld : (fun W : World => W.cell? ⟨w2.heap.size, 0, none⟩ = some (.int .i64 (n : Int)) ∧ W.cell? ⟨w2.heap.size, 1, none⟩ = some (.int .i64 (s : Int)) ∧ W.cell? ⟨w2.heap.size, 2, none⟩ = some (.int .i64 (q : Int)) ∧ W.cell? ⟨w2.heap.size, 3, none⟩ = some (.int .u32 (id : Int))) w7' := p_four_cells ((hgw6.trans hg7).heap HP15.out)
                refine hK.out _ _ hHeld ?_
                clear hK K
                have HF := Lib.hid ((HW15.out.trans hgw6).trans hg7)
                clear hgw5 hgw6 hg7 ho5 ho6 hb6 hl6
                refine wpAnyH_takeL 8 rfl (by kernel_rfl) (by kernel_rfl) (by kernel_rfl) (fun _ _ _ h => h) rfl (by assumption) (by (intro w hSw; (try dsimp only at hSw); go_simp; try with_reducible rfl)) ?_
                simp only [Act.put, List.setIfInBounds_toArray, List.set_cons_zero, List.set_cons_succ]
                refine wpAnyH_done (by kernel_rfl) ?_ _
                clear hHeld
                go_wp2
                first | go_ret | go_ret2
                exact ⟨rfl, HF.out⟩
  · have h20i : (20 : Int) < (l5 : Int) := by omega
    go_wp2
    first | go_ret | go_ret2
    exact ⟨rfl, HW4.out⟩
set_option maxRecDepth 100000 in
set_option maxHeartbeats 4000000 in
theorem topMixed_bad (ko : Nat) (s : Int) (hsl : -9223372036854775808 ≤ s) (hsm : s ≤ 9223372036854775807) (id : Nat) (hE : planFit ko s ≠ 0) (hkm : ko ≤ 9223372036854775807) (ao : Option Addr) (co : Nat) (a3 : Option Addr) (l3 c3 : Nat) (a4 : Option Addr) (l4 c4 : Nat) (a5 : Option Addr) (l5 c5 : Nat) (w : World) (htab : Tab w) :
    Calls Tryz.prog 3 #[.slice ao ko co, .int .i64 s, .int .u32 (id : Int), .slice a3 l3 c3, .slice a4 l4 c4, .slice a5 l5 c5] w fun e w' => e = .returned (.bool true) ∧ Gr w w' := by
  have CO := Lib.hid fun w => small_bad ko s hsl hsm id hE hkm ao co w
  have HT := Lib.hid htab
  clear hE htab
  go_enter Tryz.func3, Tryz.ntmps3
  go_wp2_with fail
  refine (topAwake _ HT.out).mono ?_
  rintro e w1 ⟨rfl, hg1⟩
  go_wp2_with fail
  refine (CO.out w1).mono ?_
  rintro e w2 ⟨rfl, hg2⟩
  have hG := (hg1.trans hg2).alloc (.cells #[.int .i64 0, .int .i64 0, .int .i64 0, .int .u32 0] 28)
  clear hg1 hg2
  go_wp2
  first | go_ret | go_ret2
  exact ⟨rfl, hG⟩

/-- what a plan that fits has. -/
theorem plan_of_fit {ko : Nat} {s : Int} (hE : planFit ko s = 0) : ∃ s' q' : Nat, s = (s' : Int) ∧ planErr ko s' q' = 0 ∧ ko ≤ 1000000000 ∧ ∀ (id : Nat) (w : World), Calls Tryz.prog 28 #[.int .i64 (ko : Int), .int .i64 (s' : Int), .int .u32 (id : Int)] w fun e w' => e = .returned (.tuple #[.agg #[.int .i64 (ko : Int), .int .i64 (s' : Int), .int .i64 (q' : Int), .int .u32 (id : Int)], .int .i64 0]) ∧ Gr w w' := by
  obtain ⟨f1, f2, f3, f4⟩ := planFit_zero hE
  have hp := planNeed_pos f1 f2
  obtain ⟨s', rfl⟩ := Int.eq_ofNat_of_zero_le (show 0 ≤ s by omega)
  obtain ⟨q', eq⟩ := Int.eq_ofNat_of_zero_le (show 0 ≤ planNeed ko s' by omega)
  have hP : planErr ko s' q' = 0 := by unfold planErr; rw [if_neg (by simpa using hE), if_neg (by simpa using eq.symm)]
  have hk : ko ≤ 1000000000 := by
    have h4 := f4; unfold planNeed at h4
    by_cases h0 : (ko : Int) = 0
    · omega
    · rw [if_neg h0] at h4
      have h5 : ((ko : Int) - 1) / s' < 4096 := by omega
      have h6 := Int.lt_mul_of_ediv_lt (by omega) h5
      have h7 : (4096 : Int) * s' ≤ 4096 * 65535 := by omega
      omega
  refine ⟨s', q', rfl, hP, hk, fun id w => ?_⟩
  have := planOf_ok ko s' id (by omega) hE w
  rw [eq] at this
  exact this

theorem topMixed_walk (w : World) (htab : Tab w) (ao : Option Addr) (ko co : Nat) (obj : List UInt8) (ho : Bs w ao ko co obj) (s : Int) (hsl : -9223372036854775808 ≤ s) (hsm : s ≤ 9223372036854775807) (id : Nat) (hid : id < 4294967296)
    (a3 : Option Addr) (l3 c3 : Nat) (ss : List Src) (h3 : Srcs w a3 l3 c3 ss) (a4 : Option Addr) (l4 c4 : Nat) (ms : List Src) (h4 : Srcs w a4 l4 c4 ms) (a5 : Option Addr) (l5 c5 : Nat) (ds : List (List UInt8)) (h5 : Bss w a5 l5 c5 ds) :
    Calls Tryz.prog 3 #[.slice ao ko co, .int .i64 s, .int .u32 (id : Int), .slice a3 l3 c3, .slice a4 l4 c4, .slice a5 l5 c5] w fun e w' => e = .returned (.bool true) ∧ Gr w w' := by
  have hkm : ko ≤ 9223372036854775807 := by have h1 := ho.2.1; have h2 := ho.2.2.1; unfold maxLen at h2; omega
  by_cases hE : planFit ko s = 0
  · obtain ⟨s', q', rfl, hP, hk, CO⟩ := plan_of_fit hE
    exact topMixed_ok ko s' q' id hP hid hk ao co obj a3 l3 c3 ss a4 l4 c4 ms a5 l5 c5 ds w htab ho h3 h4 h5 (CO id)
  · exact topMixed_bad ko s hsl hsm id hE hkm ao co a3 l3 c3 a4 l4 c4 a5 l5 c5 w htab
end Go.Proofs.YtddopoojmadpjaaGreatDoor
