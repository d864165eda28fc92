/-
  The walk of law TopRelays.
-/
import Derived.Test.YtddopoojmadpjaaGreatDoorTopMixedWalk
import Derived.Test.YtddopoojmadpjaaGreatDoorGridRank
import Derived.Test.YtddopoojmadpjaaGreatDoorOpenMore
namespace Go.Proofs.YtddopoojmadpjaaGreatDoor
open Go.RowKit
set_option linter.unusedVariables false

/-- what goes from hand to hand. -/
def Hand (w : World) (n s q id : Nat) (obj : List UInt8) (ap : Option Addr) (lp cp rk : Nat) : Prop :=
  ∃ (LP VP : List (List UInt8)), Bss w ap lp cp LP ∧ Goods n s q id (dat obj s q) LP VP ∧ lp ≤ 20 ∧ (putAll [] VP).length ≤ rk
theorem Hand.below {w w' : World} {n s q id : Nat} {obj : List UInt8} {ap : Option Addr} {lp cp rk : Nat} (h : Hand w n s q id obj ap lp cp rk) (hg : Gr w w') : Hand w' n s q id obj ap lp cp rk := by
  obtain ⟨LP, VP, h1, h2⟩ := h; exact ⟨LP, VP, h1.below hg, h2⟩

theorem plan_room2 {n s q : Nat} (h : planErr n s q = 0) : n ≤ q * s := by
  obtain ⟨h1, h2⟩ := planErr_zero h
  obtain ⟨_, hs, _, _⟩ := planFit_zero h1
  unfold planNeed at h2
  by_cases h0 : (n : Int) = 0
  · omega
  · rw [if_neg h0] at h2
    have h3 : ((n : Int) - 1) / s < q := by omega
    have h4 := Int.lt_mul_of_ediv_lt (show (0 : Int) < s by omega) h3
    have h5 : ((q * s : Nat) : Int) = (q : Int) * s := by simp
    omega
theorem keep_le (ds : List (List UInt8)) (R : Nat) : (keepAll [] (ds.map (padTo R))).length ≤ R :=
  (keepAll_step (ech_nil R) List.Pairwise.nil (fun v hv => by obtain ⟨d, _, rfl⟩ := List.mem_map.1 hv; exact padTo_length R d)).1.rank_k
theorem wvTo_map {q : Nat} {V ds : List (List UInt8)} : wvTo q V ds ds.length = (ds.map (padTo V.length)).map fun w => combL w V q := by
  apply List.ext_getElem
  · simp [wvTo]
  · intro i h1 h2
    have hi : i < ds.length := by simpa using h2
    simp [wvTo, List.getD_eq_getElem?_getD, List.getElem?_eq_getElem hi]
theorem said_rank {q : Nat} {V ds : List (List UInt8)} (hV : Red V q) : (putAll [] (wvTo q V ds ds.length)).length = (keepAll [] (ds.map (padTo V.length))).length := by
  rw [wvTo_map]
  exact hV.rank_draws _ fun w hw => by obtain ⟨d, _, rfl⟩ := List.mem_map.1 hw; exact padTo_length _ d

set_option maxRecDepth 100000 in
set_option maxHeartbeats 4000000 in
theorem topRelays_ok (n s q : Nat) (id : Nat) (hP : planErr n s q = 0) (hid : id < 4294967296) (hnm : n ≤ 1000000000) (ao : Option Addr) (co : Nat) (obj : List UInt8) (a3 : Option Addr) (l3 c3 : Nat) (ss : List Src) (a4 : Option Addr) (l4 c4 : Nat) (dss : List (List (List UInt8))) (w : World) (htab : Tab w) (ho : Bs w ao n co obj) (hs3 : Srcs w a3 l3 c3 ss) (hd4 : Bsss w a4 l4 c4 dss)
    (CO : ∀ w, Calls Tryz.prog 28 #[.int .i64 (n : Int), .int .i64 (s : Int), .int .u32 (id : Int)] w fun e w' => e = .returned (.tuple #[.agg #[.int .i64 (n : Int), .int .i64 (s : Int), .int .i64 (q : Int), .int .u32 (id : Int)], .int .i64 0]) ∧ Gr w w') :
    Calls Tryz.prog 4 #[.slice ao n co, .int .i64 (s : Int), .int .u32 (id : Int), .slice a3 l3 c3, .slice a4 l4 c4] w fun e w' => e = .returned (.bool true) ∧ Gr w w' := by
  obtain ⟨hs1, hs2, hq1, hq2⟩ := plan_bounds hP
  have CS := Lib.hid fun w => small_ok n s q id hP (by omega) ao co w CO
  have HP := Lib.hid hP
  have HT := Lib.hid htab
  have HO := Lib.hid ho
  have HS3 := Lib.hid hs3
  have HD4 := Lib.hid hd4
  have HDL : Hid (dss.length = l4) := hd4.1
  have HSL : Hid (ss.length = l3) := hs3.1
  clear hP htab ho hs3 hd4 CO
  go_enter Tryz.func4, Tryz.ntmps4
  go_wp2_with fail
  refine (topAwake _ HT.out).mono ?_
  rintro e w1 ⟨rfl, hg1⟩
  go_wp2_with fail
  refine (CS.out w1).mono ?_
  rintro e w2 ⟨rfl, hg⟩
  have hal := (Gr.refl w2).alloc (.cells #[.int .i64 (n : Int), .int .i64 (s : Int), .int .i64 (q : Int), .int .u32 (id : Int)] 28)
  have HPL := Lib.hid (heap_alloc_new w2 (.cells #[.int .i64 (n : Int), .int .i64 (s : Int), .int .i64 (q : Int), .int .u32 (id : Int)] 28))
  have HW2 := Lib.hid ((hg1.trans hg).trans hal)
  clear hg1 hg hal CS
  cases hsb : smallB s q with
  | false =>
    go_wp2
    first | go_ret | go_ret2
    exact ⟨rfl, HW2.out⟩
  | true =>
  obtain ⟨hq12, hs20⟩ : q ≤ 12 ∧ s ≤ 20 := of_decide_eq_true hsb
  clear hsb
  go_wp2_with fail
  refine (few_any a3 l3 c3 ss _ (HS3.out.below HW2.out)).mono ?_
  rintro e w3 ⟨b, rfl, hf, hg⟩
  have HF := Lib.hid hf
  have HW3 := Lib.hid (HW2.out.trans hg)
  have HP3 := Lib.hid (hg.heap HPL.out)
  obtain ⟨p0, p1, p2, p3⟩ := p_four_cells HP3.out
  clear hf hg HPL HW2
  cases b with
  | false =>
    go_wp2
    first | go_ret | go_ret2
    exact ⟨rfl, HW3.out⟩
  | true =>
  have HFEW := Lib.hid (HF.out rfl)
  have hl3 : l3 ≤ 20 := by rw [← HSL.out]; exact HFEW.out.2
  clear HF
  by_cases h5 : l4 ≤ 5
  · have h5i : ¬ (5 : Int) < (l4 : Int) := by omega
    go_wp2_with fail
    refine (sent_ok n s q id HP.out hid hnm ao co obj a3 l3 c3 ss _ (HT.out.below HW3.out) (HO.out.below HW3.out) (HS3.out.below HW3.out) HFEW.out).mono ?_
    rintro e w5 ⟨v, rfl, hrow, hg⟩
    obtain ⟨al, cl, rfl, hbss, _⟩ := hrow.bss
    have HW5 := Lib.hid (HW3.out.trans hg)
    have HP5 := Lib.hid (hg.heap HP3.out)
    have hlal := sentTo_len n s q id obj ss l3
    have hlan := nextTo_le q ss l3
    have hgda := goods_fr (n := n) (s := s) (q := q) (id := id) (obj := obj) (k := 0) (ss := ss) HP.out hid (by omega) HFEW.out HS3.out.sd l3 (by rw [HSL.out]; exact Nat.le_refl _)
    rw [sentFr_zero] at hgda
    have hrk : (putAll [] (vecTo q ss l3)).length ≤ q := ((red_nil q).puts hgda.vec).1.ech.rank_k
    have HHA : Hid (Hand w5 n s q id obj al (sentTo n s q id obj ss l3).length cl q) := ⟨_, _, hbss, hgda, by omega, hrk⟩
    clear hbss hrow hg HP3 HW3 p0 p1 p2 p3 hrk hgda HSL
    obtain ⟨la, ela⟩ : ∃ x, (sentTo n s q id obj ss l3).length = x := ⟨_, rfl⟩
    have hla : la ≤ 20 := by omega
    rw [ela] at HHA ⊢
    clear ela hlal hlan
    obtain ⟨p0, p1, p2, p3⟩ := p_four_cells HP5.out
    go_wp2
    go_loopw [13, 14, 66] (fun pk rk i wr => ∃ (i' lp cp r : Nat) (ap : Option Addr), i' ≤ l4 ∧ i = .int .i64 i' ∧ pk = .slice ap lp cp ∧ rk = .int .i64 (r : Int) ∧ r ≤ q ∧ Hand wr n s q id obj ap lp cp r ∧ Gr w5 wr) (fun _ _ i _ => l4 - (intOf i).toNat)
    case atStart => exact ⟨0, la, cl, q, al, Nat.zero_le _, rfl, rfl, rfl, Nat.le_refl _, HHA.out, Gr.refl _⟩
    case round =>
      clear p0 p1 p2 p3 HHA hla
      obtain ⟨i', lp, cp, r, ap, hi', rfl, rfl, rfl, hrq, hhand, hgr⟩ := hrel
      obtain ⟨LP, VP, hbp, hgp, hlp, hrk⟩ := hhand
      have HBP := Lib.hid hbp
      have HGP := Lib.hid hgp
      have HGR := Lib.hid hgr
      have HWR := Lib.hid (HW5.out.trans hgr)
      have HPr := Lib.hid (hgr.heap HP5.out)
      obtain ⟨p0, p1, p2, p3⟩ := p_four_cells HPr.out
      clear hbp hgp hgr
      by_cases hlt : i' < l4
      · obtain ⟨b, off, rfl, _⟩ := HD4.out.at_ (by omega)
        obtain ⟨ds, a5, l5, c5, hdi, hc, hb⟩ := (HD4.out.below HWR.out).get hlt
        have HD5 := Lib.hid hb
        have h5m : l5 ≤ 9223372036854775807 := by have h1 := hb.2.1; have h2 := hb.2.2.1; unfold maxLen at h2; omega
        have HDL5 : Hid (ds.length = l5) := hb.1
        clear hdi hb
        by_cases h20 : l5 ≤ 20
        · have h20i : ¬ (20 : Int) < (l5 : Int) := by omega
          have hcv : ((100 : Int) * (i' : Int)) = ((100 * i' : Nat) : Int) := by simp
          obtain ⟨FI, eFI⟩ : ∃ x, 100 * i' = x := ⟨_, rfl⟩
          have hFI : FI ≤ 500 := by omega
          rw [eFI] at hcv
          go_wp2_with fail
          refine (heard_ok n s q id FI (by omega) (dat obj s q) (lin_dat obj s q) HP.out hnm ap lp cp (by omega) LP VP wr (HT.out.below HWR.out) HBP.out HGP.out).mono ?_
          rintro e w9 ⟨B2, T, E, S2, rfl, hT9, hB9, hSB9, hS9, hR9, hts9, hg9⟩
          have hTB9 := rel_ne hR9 hts9
          have hTq : (putAll [] VP).length ≤ q := hts9.red.ech.rank_k
          have hspv := ((red_nil q).puts HGP.out.vec).2.2.2 (In VP) (fun x ⟨v, hv, _⟩ => (by cases hv)) (fun x hx => Sp.mem hx)
          have hpv := ((red_nil q).puts HGP.out.vec).2.2.1
          obtain ⟨V, eV⟩ : ∃ x, putAll [] VP = x := ⟨_, rfl⟩
          rw [eV] at hts9 hrk hTq
          have HTS9 := Lib.hid hts9
          have HR9 := Lib.hid hR9
          have HG9 := Lib.hid hg9
          have HWR9 := Lib.hid (HWR.out.trans hg9)
          obtain ⟨RK, eRK⟩ : ∃ x, V.length = x := ⟨_, rfl⟩
          have HRKE := Lib.hid eRK
          have HRK := Lib.hid fun w h => takerRank_S T E n s q id lp S2 V (dat obj s q) w h
          have HSTT := Lib.hid fun w h => takerStatus_S T E n s q id lp S2 V (dat obj s q) w h
          rw [eRK] at HRK HSTT hrk hTq
          have hns : (((if RK = q then 1 else 0 : Nat) : Int) == 2) = false := by rw [beq_eq_false_iff_ne]; split <;> omega
          obtain ⟨STA, eSTA⟩ : ∃ x, (if RK = q then 1 else 0 : Nat) = x := ⟨_, rfl⟩
          rw [eSTA] at HSTT hns
          have hrki : ¬ (r : Int) < (RK : Int) := by omega
          obtain ⟨r0, r1, rf⟩ := two_cells hR9
          obtain ⟨p0, p1, p2, p3⟩ := p_four_cells (hg9.heap HPr.out)
          clear hts9 hR9 hg9 hT9 eV hspv hpv eRK eSTA hcv eFI
          go_wp2_with fail
          refine (HRK.out _ HTS9.out).mono ?_
          rintro e w10 ⟨rfl, hw⟩
          subst hw
          go_wp2_with fail
          refine (HSTT.out _ HTS9.out).mono ?_
          rintro e w10 ⟨rfl, hw⟩
          subst hw
          go_wp2_with fail
          refine (HRK.out _ HTS9.out).mono ?_
          rintro e w10 ⟨rfl, hw⟩
          subst hw
          clear p0 p1 p2 p3 r0 r1 rf
          go_wp2
          go_loopw [19, 109] (fun o i wr2 => ∃ (j : Nat) (v : Value), j ≤ l5 ∧ i = .int .i64 j ∧ v = o ∧ RowsV wr2 w9.heap.size v ((ds.take j).map (padTo RK)) none ∧ (∀ t d, t < j → ds[t]? = some d → d.length ≤ 60) ∧ Gr w9 wr2) (fun _ i _ => l5 - (intOf i).toNat)
          case atStart => exact ⟨0, _, Nat.zero_le _, rfl, rfl, RowsV.nil _ _ _, fun _ _ h => by omega, Gr.refl _⟩
          case round =>
            obtain ⟨j, v, hj, rfl, rfl, hrow, hall, hgr⟩ := hrel
            have HROW := Lib.hid hrow
            have HA := Lib.hid hall
            have HGR2 := Lib.hid hgr
            have HWR2 := Lib.hid (HWR9.out.trans hgr)
            clear hrow hall hgr
            by_cases hlt : j < l5
            · obtain ⟨b, off, rfl, _⟩ := HD5.out.at_ (by omega)
              obtain ⟨d, a', n', c', hdj, hc, hb⟩ := (HD5.out.below (HG9.out.trans HGR2.out)).get hlt
              have hn' : n' ≤ 9223372036854775807 := by have h1 := hb.2.1; have h2 := hb.2.2.1; unfold maxLen at h2; omega
              have HDJ := Lib.hid hdj
              have HDB := Lib.hid hb
              clear hdj hb
              by_cases hlong : 60 < n'
              · have ht : (60 : Int) < (n' : Int) := by omega
                go_wp2
                first | go_ret | go_ret2
                exact ⟨rfl, HWR2.out⟩
              · have ht : ¬ (60 : Int) < (n' : Int) := by omega
                have hal := (Gr.refl wr).alloc (.cells #[] 5)
                have hown : OwnV (wr.alloc (.cells #[] 5)) wr.heap.size (.slice (some ⟨wr.heap.size, 0, none⟩) 0 0) [] := OwnV.made (Nat.le_refl _) rfl rfl (Nat.zero_le _)
                have hsrc := HDB.out.below hal
                have hdl := HDB.out.1
                have hq : ([] : List UInt8).length + n' ≤ 140737488355328 := by simp; omega
                have hbase := hal.size
                have hROW0 := HROW.out.gr hal
                have hgA := HGR2.out.trans hal
                have hlenrows : ((ds.take j).map (padTo RK)).length = j := by rw [List.length_map, List.length_take, HDL5.out]; omega
                have hdl60 : ∀ k, v.ownBlock = some k → w9.heap.size ≤ k ∧ k < wr.heap.size := HROW.out.lt
                have HOLT := Lib.hid hdl60
                clear hdl60
                go_wp2_with (with_reducible refine wpList_hold (o := ⟨some 119, _, _, _, _, _⟩) ?_)
                change wpList _ _ _ _ _ _
                refine wpList_append_bytes rfl (.tmp 117) (.tmp 118) rfl wr.heap.size _ [] rfl hown a' n' c' d rfl hsrc hq hbase ?_
                intro v2 w2' ho2 hg2 hn2
                rw [List.nil_append] at ho2
                have hgB : Gr wr w2' := hal.grown hg2 fun k hk => by cases hk; exact Nat.le_refl _
                have hrowB := HROW.out.gr hgB
                obtain ⟨v3, w3', hr3, ho3, hg3, hn3⟩ := run_append_bytesZ (w := w2') 22 wr.heap.size ho2 RK (by omega) hgB.size
                have hgC : Gr wr w3' := hgB.grown hg3 fun k hk => (ho2.lt k hk).1
                have hrowC := HROW.out.gr hgC
                clear hg2 hn2 hg3 hn3 hal hown hsrc hq hbase hROW0 hgA hgB hrowB ho2
                go_wp2_with (with_reducible refine wpList_hold (o := ⟨some 121, _, _, _, _, _⟩) ?_)
                change wpList _ _ _ _ _ _
                refine Lib.wpList_append_run _ rfl (.tmp 119) (.tmp 120) 22 3 rfl _ _ rfl rfl _ _ hr3 ?_
                obtain ⟨a5', c5', rfl, hb5, hf5⟩ := ho3.bs
                have hblk5 : ∀ y, a5' = some y → y.block < w3'.heap.size := fun y hy => by
                  subst hy
                  exact (ho3.lt y.block rfl).2
                have hl5 : (d ++ List.replicate RK (0 : UInt8)).length = n' + RK := by simp [hdl]
                rw [hl5] at hb5
                have hbp : Bs w3' a5' RK c5' (padTo RK d) := hb5.take (by omega)
                have hc5' : n' + RK ≤ c5' := hb5.2.1
                rw [hl5]
                have hi1 : (RK : Int) ≤ (c5' : Int) := by omega
                have hi2 : (c5' : Int) ≤ 9223372036854775807 := by have := hb5.2.2.1; unfold maxLen at this; omega
                have hal4 := (Gr.refl w3').alloc (.cells #[.slice a5' RK c5'] 22)
                have hcl4 := one_cell (heap_alloc_new w3' (.cells #[.slice a5' RK c5'] 22))
                clear hr3 ho3 hb5 hl5 hc5'
                go_wp2_with (with_reducible refine wpList_hold (o := ⟨some 125, _, _, _, _, _⟩) ?_)
                change wpList _ _ _ _ _ _
                obtain ⟨W4, eW⟩ : ∃ W, w3'.alloc (.cells #[.slice a5' RK c5'] 22) = W := ⟨_, rfl⟩
                rw [eW] at hal4 hcl4 ⊢
                clear eW
                have hgD := hgC.trans hal4
                have hg9D := HGR2.out.trans hgD
                refine wpList_append_rows rfl (.tmp 116) (.tmp 124) rfl w9.heap.size rfl (hrowC.gr hal4) rfl hcl4 (hbp.below hal4) (fun y hy => ⟨fun e => by have h1 := (HOLT.out _ e).2; have h2 := hf5 y hy; omega, by have := hblk5 y hy; have := hal4.size; omega⟩) (by rw [hlenrows]; omega) hg9D.size ?_
                intro v4 w4 hr4 hg4 hn4
                have hrw : (ds.take (j + 1)).map (padTo RK) = (ds.take j).map (padTo RK) ++ [padTo RK d] := by rw [List.take_add_one, HDJ.out]; simp
                rw [← hrw] at hr4
                have HR4 := Lib.hid hr4
                have HG4 := Lib.hid (hg9D.grown hg4 fun k hk => (HOLT.out k hk).1)
                clear hr4 hg4 hn4 hrw hrowC hgC hgD hg9D hal4 hcl4 hbp hf5 hblk5 hi1 hi2
                go_wp2
                go_roundw
                case rel =>
                  refine ⟨j + 1, v4, by omega, by go_num, rfl, HR4.out, fun t d' htj hd' => ?_, HG4.out⟩
                  by_cases e : t = j
                  · subst e
                    obtain rfl : d' = d := Option.some.inj (hd'.symm.trans HDJ.out)
                    omega
                  · exact HA.out t d' (by omega) hd'
                case measure => first | (simp [intOf]; done) | (simp [intOf]; omega)
            · have hjl : j = l5 := by omega
              have hge : (l5 : Int) ≤ (j : Int) := by omega
              have hall : ∀ d, d ∈ ds → d.length ≤ 60 := fun d hd => by
                obtain ⟨t, ht, rfl⟩ := List.getElem_of_mem hd
                exact HA.out t _ (by have := HDL5.out; omega) (List.getElem?_eq_getElem ht)
              have HALL := Lib.hid hall
              have HROW2 : Hid (RowsV wr w9.heap.size v (ds.map (padTo RK)) none) := by
                show RowsV _ _ _ _ _
                have h1 := HROW.out
                rw [hjl, List.take_of_length_le (by rw [HDL5.out]; exact Nat.le_refl _)] at h1
                exact h1
              clear hall HA HROW hjl
              have HTS10 := Lib.hid (HTS9.out.gr HGR2.out)
              have HR10 : Hid (RelAt wr B2 T FI) := HGR2.out.heap HR9.out
              -- what the relay says
              have HSPK : Hid (Calls Tryz.prog 14 #[.pointer (some ⟨B2, 0, none⟩), .slice a5 l5 c5] wr fun e w' => ∃ (ac : Option Addr) (lc cc : Nat) (LC VC : List (List UInt8)), e = .returned (.tuple #[.slice ac lc cc, .bool true]) ∧ lc ≤ 20 ∧ Bss w' ac lc cc LC ∧ Goods n s q id (dat obj s q) LC VC ∧ (putAll [] VC).length = (keepAll [] (ds.map (padTo RK))).length ∧ (keepAll [] (ds.map (padTo RK))).length ≤ RK ∧ GrB wr B2 w') := by
                show Calls _ _ _ _ _
                have hV := HTS10.out.red
                have hle := keep_le ds RK
                by_cases hV0 : V = []
                · have h9 := HTS10.out
                  rw [hV0] at h9
                  have hRK0 : RK = 0 := by rw [← HRKE.out, hV0]; rfl
                  refine (speaks_none B2 T E n s q id FI lp S2 (dat obj s q) a5 l5 c5 (by omega) ds wr h9 HR10.out (HD5.out.below (HG9.out.trans HGR2.out))).mono ?_
                  rintro e w' ⟨rfl, hg⟩
                  exact ⟨none, 0, 0, [], [], rfl, by omega, Bss.nil _, Goods.nil _ _ _ _ _, (by show 0 = _; omega), hle, GrB.of_gr hg⟩
                · refine (speaks_ok B2 T E n s q id FI lp S2 HP.out hid hnm obj V hV0 a5 l5 c5 ds wr (HT.out.below HWR2.out) HTS10.out HR10.out hTB9 hSB9 (HD5.out.below (HG9.out.trans HGR2.out)) HALL.out h20 (by omega)).mono ?_
                  rintro e w' ⟨v, rfl, hrow, hg⟩
                  obtain ⟨ac, cc, rfl, hbss, _⟩ := hrow.bss
                  have hlen := saidTo_length n s q id obj V FI ds l5
                  have hsr := said_rank (ds := ds) hV
                  rw [HDL5.out, HRKE.out] at hsr
                  exact ⟨ac, _, cc, _, wvTo q V ds l5, rfl, by rw [hlen]; exact h20, hbss, goods_said HP.out hid hV l5 (by omega), hsr, hle, hg⟩
              have hBw9 : wr.heap.size ≤ wr.heap.size := Nat.le_refl _
              go_wp2_with fail
              refine HSPK.out.mono ?_
              rintro e w10 ⟨ac, lc, cc, LC, VC, rfl, hlc, hbc, hgc, hrank, hkle, hg⟩
              have hg10 := (HG9.out.trans HGR2.out).grb hg hB9
              have HG10 := Lib.hid (HGR.out.trans hg10)
              have HP10 := Lib.hid (hg10.heap HPr.out)
              have HW10 := Lib.hid (HWR.out.trans hg10)
              have hBl := lt_of_block HR9.out
              have hrow10 := HROW2.out.gap hg HR10.out (fun i u => by match i with | 0 => simp | 1 => simp | i + 2 => simp) (fun e => by have := (HROW2.out.lt _ e).1; omega)
              obtain ⟨av, cv, rfl, hcut, _⟩ := hrow10.bss
              rw [List.length_map, HDL5.out] at hcut ⊢
              have HCUT := Lib.hid hcut
              have HLC := Lib.hid hbc
              have HGC := Lib.hid hgc
              have hRKp : ∀ l, l ∈ ds.map (padTo RK) → l.length = RK := fun l hl => by obtain ⟨d, _, rfl⟩ := List.mem_map.1 hl; exact padTo_length RK d
              have HRKP := Lib.hid hRKp
              have hCL : (ds.map (padTo RK)).length = l5 := by rw [List.length_map]; exact HDL5.out
              have HCL := Lib.hid hCL
              obtain ⟨CUT, eCUT⟩ : ∃ x, ds.map (padTo RK) = x := ⟨_, rfl⟩
              rw [eCUT] at HCUT HRKP HCL hrank hkle
              obtain ⟨WANT, eWANT⟩ : ∃ x, (keepAll [] CUT).length = x := ⟨_, rfl⟩
              have HWANT := Lib.hid eWANT
              rw [eWANT] at hrank hkle
              have HRANK := Lib.hid hrank
              have HH10 : Hid (Hand w10 n s q id obj ac lc cc RK) := ⟨LC, VC, hbc, hgc, hlc, by rw [hrank]; exact hkle⟩
              have HRED := Lib.hid ((red_nil q).puts hgc.vec).1
              obtain ⟨p0, p1, p2, p3⟩ := p_four_cells HP10.out
              clear hg hg10 hrow10 hcut hbc hgc hRKp hCL eCUT eWANT hrank HSPK HROW2 HTS9 HTS10 HR9 HR10 hTB9 hSB9 hS9 hB9 hBl HALL HGR2 HG9 HPr HGR HRK HSTT HWR2 HWR9 hBw9 hns HBP HGP HD5
              go_wp2_with fail
              refine (takerNew_S n s q id (dat obj s q) HP.out (by omega) w10).mono ?_
              rintro e w11 ⟨T2, E2, rfl, hE1, hET1, hts, hg⟩
              have HTS0 := Lib.hid hts
              have HGT := Lib.hid hg
              clear hts hg p0 p1 p2 p3
              have hVL : VC.length = lc := by rw [HGC.out.1, HLC.out.1]
              have HVL := Lib.hid hVL
              clear hVL
              go_wp2
              go_loopw [146] (fun i wr => ∃ (j : Nat) (S : Nat → Prop), j ≤ lc ∧ i = .int .i64 j ∧ TakS wr S T2 E2 n s q id (putAll [] (VC.take j)) (dat obj s q) j ∧ (∀ b, S b → w10.heap.size ≤ b) ∧ Gr w10 wr) (fun i _ => lc - (intOf i).toNat)
              case atStart => exact ⟨0, _, Nat.zero_le _, rfl, HTS0.out, fun b hb => by rw [hb]; exact hE1, HGT.out⟩
              case round =>
                obtain ⟨j, S3, hj, rfl, hts, hS, hgr⟩ := hrel
                have HTSr := Lib.hid hts
                have HSr := Lib.hid hS
                have HGR := Lib.hid hgr
                clear hts hS hgr HTS0 HGT
                by_cases hlt : j < lc
                · obtain ⟨b, off, rfl, _⟩ := HLC.out.at_ (by omega)
                  obtain ⟨l, a', n', c', hl, hc, hb⟩ := (HLC.out.below HGR.out).get hlt
                  obtain ⟨v, hvj⟩ : ∃ v, VC[j]? = some v := ⟨_, List.getElem?_eq_getElem (by rw [HVL.out]; exact hlt)⟩
                  obtain ⟨hgd, hlm⟩ := HGC.out.2 j l v hl hvj
                  have htk : VC.take (j + 1) = VC.take j ++ [v] := by rw [List.take_add_one, hvj]; rfl
                  have hpa : putAll [] (VC.take (j + 1)) = putV (putAll [] (VC.take j)) v := by rw [htk, putAll_snoc]
                  have HPA := Lib.hid hpa
                  rw [hb.1] at hlm
                  have HTK := Lib.hid (take_all T2 E2 n s q id S3 HP.out hnm (putAll [] (VC.take j)) (dat obj s q) (lin_dat obj s q) j (by omega) a' n' c' l v wr (HT.out.below (HW10.out.trans HGR.out)) hb hlm HTSr.out hgd)
                  clear hl hb hvj hgd hlm htk hpa
                  go_wp2_with fail
                  refine HTK.out.mono ?_
                  rintro e w4 ⟨rfl, S', hS', hts', hgs⟩
                  have HG4 := Lib.hid (GrS.to_gr HGR.out hgs fun b hb => hb.elim (fun e => by omega) (HSr.out b))
                  have hsz := HGR.out.size
                  have HS4 : Hid (∀ b, S' b → w10.heap.size ≤ b) := fun b hb => (hS' b hb).elim (HSr.out b) fun h => by omega
                  have HTS4 := Lib.hid hts'
                  clear hts' hgs hS'
                  go_wp2
                  go_roundw
                  case rel => exact ⟨j + 1, S', by omega, by go_num, by rw [HPA.out]; exact HTS4.out, HS4.out, HG4.out⟩
                  case measure => first | (simp [intOf]; done) | (simp [intOf]; omega)
                · have hjl : j = lc := by omega
                  have hge : (lc : Int) ≤ (j : Int) := by omega
                  have HF : Hid (TakS wr S3 T2 E2 n s q id (putAll [] VC) (dat obj s q) lc) := by
                    show TakS _ _ _ _ _ _ _ _ _ _ _
                    have h1 := HTSr.out
                    rw [List.take_of_length_le (by rw [HVL.out]; omega), hjl] at h1
                    exact h1
                  clear HTSr HSr hjl
                  by_cases hR0 : 0 < RK
                  · have hR0i : (0 : Int) < (RK : Int) := by omega
                    have HGO := Lib.hid (gridOf_ok RK hR0 (by omega) av l5 cv (by omega) CUT wr (HCUT.out.below HGR.out) HRKP.out)
                    go_wp2_with fail
                    refine HGO.out.mono ?_
                    rintro e w12 ⟨ag, cg, rfl, hbg, hg12⟩
                    have HBG := Lib.hid hbg
                    have halg := (Gr.refl w12).alloc (.cells #[.int .i64 (l5 : Int), .int .i64 (RK : Int), .slice ag (l5 * RK) cg] 62)
                    have HGK := Lib.hid (gridRank_ok l5 RK (by omega) hR0 (by omega) ag cg CUT HCL.out HRKP.out _ (hbg.below halg))
                    obtain ⟨g0, g1, g2, gf⟩ := three_all (heap_alloc_new w12 (.cells #[.int .i64 (l5 : Int), .int .i64 (RK : Int), .slice ag (l5 * RK) cg] 62))
                    have HG12 := Lib.hid (hg12.trans halg)
                    rw [HWANT.out] at HGK
                    clear hbg hg12 halg
                    go_wp2_with fail
                    refine HGK.out.mono ?_
                    rintro e w13 ⟨rfl, hg13⟩
                    have HG13 := Lib.hid (HG12.out.trans hg13)
                    have HF13 := Lib.hid (HF.out.gr HG13.out)
                    clear hg13 g0 g1 g2 gf
                    have hrkV : (putAll [] VC).length = WANT := HRANK.out
                    go_wp2_with fail
                    refine (takerRank_S T2 E2 n s q id lc S3 (putAll [] VC) (dat obj s q) w13 HF13.out).mono ?_
                    rintro e w20 ⟨rfl, hw⟩
                    subst hw
                    rw [hrkV]
                    have hne : ((WANT : Int) != (WANT : Int)) = false := by simp
                    by_cases hfull : (putAll [] VC).length = q
                    · have hdat : ((putAll [] VC).map (dat obj s q)).flatten.take n = obj := by
                        rw [full_data (s := s) (X := cutL obj s q) cut_same (cutL_length obj s q) HRED.out hfull]
                        have := cut_take_obj obj s q (by rw [HO.out.1]; exact plan_room2 HP.out)
                        rw [HO.out.1] at this; exact this
                      have HOB := Lib.hid (takerObject_done T2 E2 n s q id lc HP.out (by omega) S3 (putAll [] VC) (dat obj s q) (fun v => combL_length cut_same) (plan_room2 HP.out) w13 HF13.out hfull)
                      rw [hdat] at HOB
                      clear hdat hfull
                      go_wp2_with fail
                      refine HOB.out.mono ?_
                      rintro e w21 ⟨ax, cx, rfl, hbx, hgx⟩
                      have HBX := Lib.hid hbx
                      have HGX := Lib.hid hgx
                      have HSM := Lib.hid (same_any ax ao n cx n co obj obj w21 hbx (HO.out.below ((HW10.out.trans (HGR.out.trans HG13.out)).trans hgx)))
                      rw [sameB_self] at HSM
                      clear hbx hgx
                      go_wp2_with fail
                      refine HSM.out.mono ?_
                      rintro e w22 ⟨rfl, hg22⟩
                      have HHF : Hid (Hand w22 n s q id obj ac lc cc RK) := HH10.out.below ((HGR.out.trans HG13.out).trans (HGX.out.trans hg22))
                      have HGF := Lib.hid ((HG10.out.trans (HGR.out.trans HG13.out)).trans (HGX.out.trans hg22))
                      clear hg22
                      go_wp2
                      go_roundw
                      case rel => exact ⟨i' + 1, lc, cc, RK, ac, by omega, by go_num, rfl, rfl, hTq, HHF.out, HGF.out⟩
                      case measure => first | (simp [intOf]; done) | (simp [intOf]; omega)
                    · have HHF : Hid (Hand w13 n s q id obj ac lc cc RK) := HH10.out.below (HGR.out.trans HG13.out)
                      have HGF := Lib.hid (HG10.out.trans (HGR.out.trans HG13.out))
                      go_wp2_with fail
                      refine (takerObject_pend T2 E2 n s q id lc S3 (putAll [] VC) (dat obj s q) w13 HF13.out hfull).mono ?_
                      rintro e w21 ⟨rfl, hw⟩
                      subst hw
                      go_wp2
                      go_roundw
                      case rel => exact ⟨i' + 1, lc, cc, RK, ac, by omega, by go_num, rfl, rfl, hTq, HHF.out, HGF.out⟩
                      case measure => first | (simp [intOf]; done) | (simp [intOf]; omega)
                  · have hR0i : ¬ (0 : Int) < (RK : Int) := by omega
                    obtain rfl : WANT = 0 := by omega
                    have hrkV : (putAll [] VC).length = 0 := HRANK.out
                    go_wp2_with fail
                    refine (takerRank_S T2 E2 n s q id lc S3 (putAll [] VC) (dat obj s q) wr HF.out).mono ?_
                    rintro e w20 ⟨rfl, hw⟩
                    subst hw
                    rw [hrkV]
                    have hne : (((0 : Nat) : Int) != ((0 : Nat) : Int)) = false := by simp
                    by_cases hfull : (putAll [] VC).length = q
                    · have hdat : ((putAll [] VC).map (dat obj s q)).flatten.take n = obj := by
                        rw [full_data (s := s) (X := cutL obj s q) cut_same (cutL_length obj s q) HRED.out hfull]
                        have := cut_take_obj obj s q (by rw [HO.out.1]; exact plan_room2 HP.out)
                        rw [HO.out.1] at this; exact this
                      have HOB := Lib.hid (takerObject_done T2 E2 n s q id lc HP.out (by omega) S3 (putAll [] VC) (dat obj s q) (fun v => combL_length cut_same) (plan_room2 HP.out) wr HF.out hfull)
                      rw [hdat] at HOB
                      clear hdat hfull
                      go_wp2_with fail
                      refine HOB.out.mono ?_
                      rintro e w21 ⟨ax, cx, rfl, hbx, hgx⟩
                      have HBX := Lib.hid hbx
                      have HGX := Lib.hid hgx
                      have HSM := Lib.hid (same_any ax ao n cx n co obj obj w21 hbx (HO.out.below ((HW10.out.trans HGR.out).trans hgx)))
                      rw [sameB_self] at HSM
                      clear hbx hgx
                      go_wp2_with fail
                      refine HSM.out.mono ?_
                      rintro e w22 ⟨rfl, hg22⟩
                      have HHF : Hid (Hand w22 n s q id obj ac lc cc RK) := HH10.out.below ((HGR.out).trans (HGX.out.trans hg22))
                      have HGF := Lib.hid ((HG10.out.trans (HGR.out)).trans (HGX.out.trans hg22))
                      clear hg22
                      go_wp2
                      go_roundw
                      case rel => exact ⟨i' + 1, lc, cc, RK, ac, by omega, by go_num, rfl, rfl, hTq, HHF.out, HGF.out⟩
                      case measure => first | (simp [intOf]; done) | (simp [intOf]; omega)
                    · have HHF : Hid (Hand wr n s q id obj ac lc cc RK) := HH10.out.below (HGR.out)
                      have HGF := Lib.hid (HG10.out.trans (HGR.out))
                      go_wp2_with fail
                      refine (takerObject_pend T2 E2 n s q id lc S3 (putAll [] VC) (dat obj s q) wr HF.out hfull).mono ?_
                      rintro e w21 ⟨rfl, hw⟩
                      subst hw
                      go_wp2
                      go_roundw
                      case rel => exact ⟨i' + 1, lc, cc, RK, ac, by omega, by go_num, rfl, rfl, hTq, HHF.out, HGF.out⟩
                      case measure => first | (simp [intOf]; done) | (simp [intOf]; omega)
        · have h20i : (20 : Int) < (l5 : Int) := by omega
          go_wp2
          first | go_ret | go_ret2
          exact ⟨rfl, HWR.out⟩
      · have hge : (l4 : Int) ≤ (i' : Int) := by omega
        go_wp2
        first | go_ret | go_ret2
        exact ⟨rfl, HWR.out⟩
  · have h5i : (5 : Int) < (l4 : Int) := by omega
    go_wp2
    first | go_ret | go_ret2
    exact ⟨rfl, HW3.out⟩

set_option maxRecDepth 100000 in
set_option maxHeartbeats 4000000 in
theorem topRelays_bad (ko : Nat) (s : Int) (hsl : -9223372036854775808 ≤ s) (hsm : s ≤ 9223372036854775807) (id : Nat) (hE : planFit ko s ≠ 0) (hkm : ko ≤ 9223372036854775807) (ao : Option Addr) (co : Nat) (a3 : Option Addr) (l3 c3 : Nat) (a4 : Option Addr) (l4 c4 : Nat) (w : World) (htab : Tab w) :
    Calls Tryz.prog 4 #[.slice ao ko co, .int .i64 s, .int .u32 (id : Int), .slice a3 l3 c3, .slice a4 l4 c4] w fun e w' => e = .returned (.bool true) ∧ Gr w w' := by
  have CO := Lib.hid fun w => small_bad ko s hsl hsm id hE hkm ao co w
  have HT := Lib.hid htab
  clear hE htab
  go_enter Tryz.func4, Tryz.ntmps4
  go_wp2_with fail
  refine (topAwake _ HT.out).mono ?_
  rintro e w1 ⟨rfl, hg1⟩
  go_wp2_with fail
  refine (CO.out w1).mono ?_
  rintro e w2 ⟨rfl, hg2⟩
  have hG := (hg1.trans hg2).alloc (.cells #[.int .i64 0, .int .i64 0, .int .i64 0, .int .u32 0] 28)
  clear hg1 hg2
  go_wp2
  first | go_ret | go_ret2
  exact ⟨rfl, hG⟩

theorem topRelays_walk (w : World) (htab : Tab w) (ao : Option Addr) (ko co : Nat) (obj : List UInt8) (ho : Bs w ao ko co obj) (s : Int) (hsl : -9223372036854775808 ≤ s) (hsm : s ≤ 9223372036854775807) (id : Nat) (hid : id < 4294967296)
    (a3 : Option Addr) (l3 c3 : Nat) (ss : List Src) (h3 : Srcs w a3 l3 c3 ss) (a4 : Option Addr) (l4 c4 : Nat) (dss : List (List (List UInt8))) (h4 : Bsss w a4 l4 c4 dss) :
    Calls Tryz.prog 4 #[.slice ao ko co, .int .i64 s, .int .u32 (id : Int), .slice a3 l3 c3, .slice a4 l4 c4] w fun e w' => e = .returned (.bool true) ∧ Gr w w' := by
  have hkm : ko ≤ 9223372036854775807 := by have h1 := ho.2.1; have h2 := ho.2.2.1; unfold maxLen at h2; omega
  by_cases hE : planFit ko s = 0
  · obtain ⟨s', q', rfl, hP, hk, CO⟩ := plan_of_fit hE
    exact topRelays_ok ko s' q' id hP hid hk ao co obj a3 l3 c3 ss a4 l4 c4 dss w htab ho h3 h4 (CO id)
  · exact topRelays_bad ko s hsl hsm id hE hkm ao co a3 l3 c3 a4 l4 c4 w htab
end Go.Proofs.YtddopoojmadpjaaGreatDoor
