/-
  The document's Read of a packet where nothing is wrong.
-/
import Derived.Test.YtdmijoochgmhiabDoorPacketReadRef
import Derived.Test.YtdmijoochgmhiabDoorRefPut4
import Derived.Test.YtdmijoochgmhiabDoorPacketEight
import Derived.Test.YtdmijoochgmhiabDoorPacketReadOk
namespace Go.Proofs.YtdmijoochgmhiabDoor
open Go.RowKit
set_option linter.unusedVariables false

theorem bytes_ne_packet {W : World} {R b off len cap : Nat} {l : List UInt8} {m : Int} {o n : Int} {v3 : Int} {t : TypeId} (h : W.heap[R]? = some (.cells #[.int .u8 m, .int .u32 o, .int .u32 n, .int .u8 v3, .slice none 0 0, .int .u64 0, .slice none 0 0] t)) (hb : Bs W (some ⟨b, off, none⟩) len cap l) (h2 : 2 ≤ len) : b ≠ R := by
  rintro rfl
  obtain ⟨x, _, hx⟩ := hb.get (i := 0) (by omega)
  obtain ⟨y, _, hy⟩ := hb.get (i := 1) (by omega)
  simp only [World.cell?, h, Nat.add_zero] at hx hy
  match off, hx, hy with
  | 0, _, hy => simp at hy
  | 1, hx, _ => simp at hx
  | 2, hx, _ => simp at hx
  | 3, _, hy => simp at hy
  | 4, hx, _ => simp at hx
  | 5, hx, _ => simp at hx
  | 6, hx, _ => simp at hx
  | k + 7, hx, _ => simp at hx

set_option maxRecDepth 100000 in
set_option maxHeartbeats 4000000 in
theorem refPack_ok (n : Int) (sz W : Nat) (q : Int) (id : Nat) (hlo : -9223372036854775808 ≤ n) (hm : n ≤ 9223372036854775807) (hsm : (sz : Int) ≤ 9223372036854775807) (a : Option Addr) (cap : Nat) (l : List UInt8) (w : World) (htab : Tab w) (hs : Bs w a (10 + W + sz + 4) cap l) (hmx : 10 + W + sz + 4 ≤ 140737488355328) (hW : widthN (headM l) q = (W : Int)) (h0 : packErr n sz q id l = 0) :
    Calls Tryd.prog 9 #[.agg #[.int .i64 n, .int .i64 (sz : Int), .int .i64 q, .int .u32 (id : Int)], .slice a (10 + W + sz + 4) cap] w fun e w' => ∃ a1 k1 c1 a2 c2, e = .returned (.tuple #[.agg #[.int .u8 (headM l : Int), .int .u32 (headO l : Int), .int .u32 (headN l : Int), .int .u8 (headM l : Int), .slice a1 k1 c1, .int .u64 (readSeed (headM l) ((l.take (10 + W)).drop 10) : Nat), .slice a2 sz c2], .int .i64 0]) ∧ Bs w' a1 k1 c1 (readBytes (headM l) ((l.take (10 + W)).drop 10)) ∧ Bs w' a2 sz c2 ((l.take (10 + W + sz)).drop (10 + W)) ∧ Gr w w' := by
  obtain ⟨hP, hH, _, hC, hO⟩ := packErr_zero h0
  have hcap : 10 + W + sz + 4 ≤ cap ∧ (cap : Int) ≤ 9223372036854775807 := ⟨hs.2.1, by have h2 := hs.2.2.1; unfold maxLen at h2; omega⟩
  obtain ⟨hcap1, hcap2⟩ := hcap
  obtain ⟨L1, L2, L3, L4, L5, L6, L7⟩ := pack_len hP hH
  have hll := hs.1
  rw [hll, Nat.add_sub_cancel] at hC
  have CC := refCheck_any n sz q id hm hsm
  rw [hP] at CC
  have HC := Lib.hid CC
  have HS := Lib.hid hs
  have HT := Lib.hid htab
  have HR := Lib.hid fun w hs => refHeadRead_ok a (10 + W + sz + 4) cap l w hs hH
  have CN := refLength_any n sz q id (headM l) hlo hm (by omega) hsm
  rw [L1, L2] at CN
  rw [hW] at CN L3
  have hM01 : headM l = 0 ∨ headM l = 1 := by have := (headErr_zero hH).2.2; unfold headM; omega
  have hM1W : headM l = 1 → W = 8 := fun h => by
    have := hW
    rw [h, widthN, if_neg (by omega), if_neg (by omega), if_pos rfl] at this; omega
  have hwE : widthE (headM l) q = 0 := widthE_ok (headErr_zero hH).2.2 (by omega) (by omega)
  have CWd := refWidth_any (headM l) q
  rw [hwE, hW] at CWd
  obtain ⟨M, eM⟩ : ∃ M, headM l = M := ⟨_, rfl⟩
  obtain ⟨O, eO⟩ : ∃ O, headO l = O := ⟨_, rfl⟩
  obtain ⟨Nn, eN⟩ : ∃ O, headN l = O := ⟨_, rfl⟩
  rw [eM] at CN HR hM01 hM1W CWd ⊢
  rw [eO] at HR ⊢
  rw [eN] at HR ⊢
  have HN := Lib.hid CN
  have HWd := Lib.hid CWd
  obtain rfl : O = id := by omega
  obtain ⟨b, off, rfl, hb, _⟩ := HS.out.at_ (by omega)
  have hs1 := HS.out.drop (k := 10 + W + sz) (by omega)
  have hs2 := HS.out.take (k := 10 + W + sz) (by omega)
  rw [Nat.add_sub_cancel_left] at hs1
  obtain ⟨ld, eld⟩ : ∃ x, l.drop (10 + W + sz) = x := ⟨_, rfl⟩
  obtain ⟨lt, elt⟩ : ∃ x, l.take (10 + W + sz) = x := ⟨_, rfl⟩
  obtain ⟨lw, elw⟩ : ∃ x, (l.take (10 + W)).drop 10 = x := ⟨_, rfl⟩
  obtain ⟨lr, elr⟩ : ∃ x, l.drop 10 = x := ⟨_, rfl⟩
  have hlw : lr.take W = lw := by rw [← elr, ← elw, List.drop_take]; congr 1; omega
  have hlp : (lr.take (W + sz)).drop W = lt.drop (10 + W) := by
    rw [← elr, ← elt, List.drop_take, List.drop_take, List.drop_drop]; congr 1 <;> omega
  have h8 : M = 1 → seedTo (lr.take 8) = readSeed M lw := fun h => by rw [h, readSeed, if_neg (by omega), ← hlw, hM1W h]
  rw [eld] at hs1 hC
  rw [elt] at hs2 hC ⊢
  rw [elw]
  rw [elr] at HR
  obtain ⟨lp, elp⟩ : ∃ x, lt.drop (10 + W) = x := ⟨_, rfl⟩
  rw [elp] at hlp ⊢
  have H1 := Lib.hid hs1
  have H2 := Lib.hid hs2
  have HLW := Lib.hid hlw
  have HLP := Lib.hid hlp
  have HSD := Lib.hid h8
  have HMW := Lib.hid hM1W
  obtain ⟨m, hm0⟩ : ∃ m, 10 + W + sz = m := ⟨_, rfl⟩
  rw [hm0] at HS H1 H2 HR hmx hcap1 ⊢
  have HN2 : Hid (∀ w, Calls Tryd.prog 24 #[.agg #[.int .i64 n, .int .i64 (sz : Int), .int .i64 q, .int .u32 (O : Int)], .int .u8 (M : Int)] w fun e w' => e = .returned (.tuple #[.int .i64 ((m + 4 : Nat) : Int), .int .i64 0]) ∧ Gr w w') := by
    intro w
    refine (HN.out w).mono ?_
    rintro e w' ⟨rfl, hg⟩
    exact ⟨by rw [show (14 : Int) + (W : Int) + (sz : Int) = ((m + 4 : Nat) : Int) by omega]; rfl, hg⟩
  have hcm : ¬ cap = m := by omega
  have hm4 : ¬ ((m : Int) + 4 < 4) := by omega
  have hmc : m ≤ cap := by omega
  have hmc' : (m : Int) ≤ (cap : Int) := by omega
  have hcl := crc_lt lt
  obtain ⟨G, eG⟩ : ∃ G, get4 ld = G := ⟨_, rfl⟩
  rw [eG] at hC
  rw [← hC] at hcl
  have EG := Lib.hid eG
  have EC := Lib.hid hC.symm
  clear hs1 hs2 eld elt elw elp elr eG hC HN CN CC hs htab L1 L2 hP hH h0 eM eO eN hW hO CWd hwE hlw hlp h8 hM1W
  go_enter Tryd.func9, Tryd.ntmps9
  go_wp2_with fail
  refine (HC.out _).mono ?_
  rintro e w1 ⟨rfl, hg⟩
  have hgw := (((Gr.refl w).alloc _).alloc _).trans hg
  have hA := hg.heap (Gr.heap (Gr.alloc (Gr.refl _) _) (heap_alloc_new _ _))
  have hB := hg.heap (heap_alloc_new _ _)
  simp only [World.alloc, Array.size_push] at hB
  have HA := Lib.hid hA
  have HB := Lib.hid hB
  clear hg hB hA
  go_wp2_with fail
  refine (HR.out _ (HS.out.below hgw)).mono ?_
  rintro e w2 ⟨a2, cap2, rfl, hb2, hg2⟩
  have hA2 := hg2.heap HA.out
  have hB2 := hg2.heap HB.out
  have hz := lt_of_block hB2
  have hgw2 := hgw.trans hg2
  have hA3 := Gr.heap (Gr.alloc (Gr.refl _) (.cells #[.int .u8 (M : Int), .int .u32 (O : Int), .int .u32 (Nn : Int)] 38)) hA2
  obtain ⟨p0, p1, p2, p3⟩ := p_four_cells hA3
  have HA3 := Lib.hid hA3
  have HB2 := Lib.hid hB2
  have HR2 := Lib.hid hb2
  clear hg2 hA2 hB2 hgw HB HA hb2 hA3
  go_wp2_with fail
  refine (HN2.out _).mono ?_
  rintro e w3 ⟨rfl, hg3⟩
  have hB3 := hg3.heap (Gr.heap (Gr.alloc (Gr.refl _) _) HB2.out)
  have hgw3 := (hgw2.alloc _).trans hg3
  have hA4 := hg3.heap HA3.out
  have hT4 := hg3.heap (heap_alloc_new _ _)
  have HA4 := Lib.hid hA4
  have HB4 := Lib.hid hB3
  have HT4 := Lib.hid hT4
  have HR3 := Lib.hid (HR2.out.below (((Gr.refl w2).alloc _).trans hg3))
  clear hg3 hB3 hgw2 HB2 HA3 hA4 hT4 p0 p1 p2 p3 HR2
  go_wp2_with fail
  refine (refSum_any _ m cap lt _ (H2.out.below hgw3)).mono ?_
  rintro e w5 ⟨rfl, rfl⟩
  rw [EC.out]
  go_wp2_with fail
  refine (refPut_any G hcl _).mono ?_
  rintro e w5 ⟨v, rfl, a6, c6, rfl, hb6, ha6, hg6⟩
  have hne : ld = put4 G := by rw [← EG.out, put4_get4 ld H1.out.1]
  have hp4 : (put4 G).length = 4 := rfl
  obtain ⟨pt, ept⟩ : ∃ x, put4 G = x := ⟨_, rfl⟩
  rw [ept] at hb6 hne hp4 ⊢
  rw [hp4] at hb6 ⊢
  have hgw5 := hgw3.trans hg6
  have hB5 := hg6.heap HB4.out
  have hl5 := H1.out.below hgw5
  have NE := Lib.hid hne
  have HB5 := Lib.hid hB5
  have HA5 := Lib.hid (hg6.heap HA4.out)
  have HT5 := Lib.hid (hg6.heap HT4.out)
  have HL5 := Lib.hid hl5
  have HP5 := Lib.hid hb6
  have hld := H1.out.1
  have HLD := Lib.hid hld
  have HPT := Lib.hid hp4
  have HR5 := Lib.hid (HR3.out.below hg6)
  clear hg6 HB4 HT4 HA4 hgw3 ept hne hB5 hl5 hb6 hld hp4 ha6 hcl HR3
  go_wp2
  go_loopw [13] (fun i wr => ∃ k : Nat, k ≤ 4 ∧ i = .int .i64 k ∧ ld.take k = pt.take k ∧ ∃ n, wr = w5.drewN n) (fun i _ => 4 - (intOf i).toNat)
  case atStart => exact ⟨0, Nat.zero_le _, rfl, rfl, 0, rfl⟩
  case round =>
    obtain ⟨k, hk, rfl, hke, nn, hw⟩ := hrel
    have HE := Lib.hid hke
    have hb : Gr w5 wr := by rw [hw]; exact (Gr.refl _).drewN _
    have HW := Lib.hid hw
    clear hke hw
    have h15b : (m : Int) ≤ 140737488355324 := by omega
    clear hmx hm4 hmc hmc' hcm hll hcap1 hcap2
    by_cases hlt : k < 4
    · obtain ⟨x, hx, hcx⟩ := (HL5.out.below hb).get hlt
      obtain ⟨b', off', rfl, _, _⟩ := HP5.out.at_ (by omega)
      obtain ⟨y, hy, hcy⟩ := (HP5.out.below hb).get hlt
      rw [Nat.add_assoc] at hcx
      have HX := Lib.hid hx
      have HY := Lib.hid hy
      clear hx hy
      have hxy : x = y := by have := HX.out; rw [NE.out, HY.out] at this; exact (Option.some.inj this).symm
      subst hxy
      have ht : ((x.toNat : Int) != (x.toNat : Int)) = false := by simp
      go_wp2
      go_quiet (fail)
      go_wp2
      go_roundw
      case rel => exact ⟨k + 1, by omega, by go_num, by rw [List.take_add_one, List.take_add_one, HE.out, HX.out, HY.out], nn + nq, by rw [HW.out]; exact World.drewN_drewN _ _ _⟩
      case measure => simp [intOf]; omega
    · obtain rfl : k = 4 := by omega
      have hHr := hb.heap HT5.out
      obtain ⟨q0, q1, q2, qf⟩ := three_cells hHr
      obtain ⟨p0, p1, p2, p3⟩ := p_four_cells (hb.heap HA5.out)
      have hrr := HR5.out.below hb
      have hgr := hgw5.trans hb
      have hBr := hb.heap HB5.out
      have ht9 : ((O : Int) != (O : Int)) = false := by simp
      have hrl : m + 4 - 10 = m - 6 := by omega
      rw [hrl] at hrr
      obtain ⟨b2, off2, rfl, hb2lt, _⟩ := hrr.at_ (by omega)
      have hrb := hrr.take (k := W + sz) (by omega)
      have hrp := hrb.drop (k := W) (by omega)
      rw [HLP.out, Nat.add_sub_cancel_left] at hrp
      have hrw := hrr.take (k := W) (by omega)
      rw [HLW.out] at hrw
      have hc2 : (W : Int) + (sz : Int) ≤ (cap2 : Int) ∧ ¬ cap2 = W ∧ (cap2 : Int) ≤ 9223372036854775807 := by
        have h1 := hrr.2.1; have h2 := hrr.2.2.1; unfold maxLen at h2; exact ⟨by omega, by omega, by omega⟩
      obtain ⟨hc2, hc3, hc4⟩ := hc2
      have h8l : M = 1 → 8 ≤ m - 6 := fun h => by have := HMW.out h; omega
      have HRR := Lib.hid hrr
      have HRP := Lib.hid hrp
      have HRW := Lib.hid hrw
      obtain ⟨r0, r1, r2, r3, r4, r5, r6, rf⟩ := seven_cells hBr
      have hBR := Lib.hid hBr
      have hb2R : Hid (b2 ≠ w.heap.size + 1) := bytes_ne_packet hBr hrr (by omega)
      have nz : wr.heap.size ≠ w2.heap.size := by have := lt_of_block hHr; omega
      have nz' : w2.heap.size ≠ wr.heap.size := Ne.symm nz
      have nr : w.heap.size + 1 < wr.heap.size := lt_of_block hBr
      clear hlt hk hrr hrb hrp hrw hBr hrl
      have hW1 : ∀ o, Gr wr (wr.alloc o) := fun o => (Gr.refl wr).alloc o
      by_cases hM : M = 1
      · have ht1 : ((M : Int) == 1) = true := by rw [beq_iff_eq]; omega
        have h8' := h8l hM
        have HSDo := Lib.hid (HSD.out hM)
        have HM := Lib.hid hM
        clear hM h8l
        have e0 := Gr.cell (hW1 (.cells #[.int .u8 (M : Int), .int .u32 (O : Int), .int .u32 (Nn : Int), .int .u8 (M : Int), .slice none 0 0, .int .u64 0, .slice none 0 0] 40)) q0
        have e1 := Gr.cell (hW1 (.cells #[.int .u8 (M : Int), .int .u32 (O : Int), .int .u32 (Nn : Int), .int .u8 (M : Int), .slice none 0 0, .int .u64 0, .slice none 0 0] 40)) p2
        go_wp2_with fail
        refine (HWd.out _).mono ?_
        rintro e w7 ⟨rfl, rfl⟩
        go_wp2_with fail
        refine (refEight_any _ (m - 6) cap2 lr _ (HRR.out.below (hW1 _)) h8').mono ?_
        rintro e w8 ⟨rfl, rfl⟩
        rw [HSDo.out]
        obtain ⟨S, hS⟩ : ∃ S, readSeed M lw = S := ⟨_, rfl⟩
        rw [hS]
        have HSS := Lib.hid hS
        clear hS e0 e1
        have e1 := Gr.cell (hW1 (.cells #[.int .u8 (M : Int), .int .u32 (O : Int), .int .u32 (Nn : Int), .int .u8 (M : Int), .slice none 0 0, .int .u64 (S : Int), .slice none 0 0] 40)) p1
        have h7 := seven_set hBR.out (.int .u8 (M : Int)) (.int .u32 (O : Int)) (.int .u32 (Nn : Int)) (.int .u8 (M : Int)) (.slice none 0 0) (.int .u64 (S : Int)) (.slice (some ⟨b2, off2 + W, none⟩) sz (cap2 - W))
        have h8 := ((Gr.refl _).alloc (.cells #[.int .u8 (M : Int), .int .u32 (O : Int), .int .u32 (Nn : Int), .int .u8 (M : Int), .slice none 0 0, .int .u64 (S : Int), .slice (some ⟨b2, off2 + W, none⟩) sz (cap2 - W)] 40)).heap h7
        have D := Lib.hid (seven_cells h8)
        have HG := Lib.hid ((gr_seven hgr (R := w.heap.size + 1) (Nat.le_succ _) (.int .u8 (M : Int)) (.int .u32 (O : Int)) (.int .u32 (Nn : Int)) (.int .u8 (M : Int)) (.slice none 0 0) (.int .u64 (S : Int)) (.slice (some ⟨b2, off2 + W, none⟩) sz (cap2 - W))).alloc (.cells #[.int .u8 (M : Int), .int .u32 (O : Int), .int .u32 (Nn : Int), .int .u8 (M : Int), .slice none 0 0, .int .u64 (S : Int), .slice (some ⟨b2, off2 + W, none⟩) sz (cap2 - W)] 40))
        have HB := Lib.hid ((HRP.out.grb (grb_seven wr (w.heap.size + 1) (.int .u8 (M : Int)) (.int .u32 (O : Int)) (.int .u32 (Nn : Int)) (.int .u8 (M : Int)) (.slice none 0 0) (.int .u64 (S : Int)) (.slice (some ⟨b2, off2 + W, none⟩) sz (cap2 - W))) (fun x hx => by cases hx; exact hb2R.out)).below ((Gr.refl _).alloc (.cells #[.int .u8 (M : Int), .int .u32 (O : Int), .int .u32 (Nn : Int), .int .u8 (M : Int), .slice none 0 0, .int .u64 (S : Int), .slice (some ⟨b2, off2 + W, none⟩) sz (cap2 - W)] 40)))
        clear h7 h8
        go_wp2
        obtain ⟨dd0, dd1, dd2, dd3, dd4, dd5, dd6, _⟩ := D.out
        refine bodyPost_ret (v := .tuple #[.agg #[.int .u8 (M : Int), .int .u32 (O : Int), .int .u32 (Nn : Int), .int .u8 (M : Int), .slice none 0 0, .int .u64 (S : Int), .slice (some ⟨b2, off2 + W, none⟩) sz (cap2 - W)], .int .i64 0]) ?_ rfl ⟨none, 0, 0, some ⟨b2, off2 + W, none⟩, cap2 - W, by rw [HSS.out], ?_, HB.out, HG.out⟩
        · simp [results, Tryd.results9, go_sem, dd0, dd1, dd2, dd3, dd4, dd5, dd6]
        · rw [readBytes, if_neg (by have := HM.out; omega)]; exact Bs.nil _
      · have hM0 : M = 0 := by omega
        have ht1 : ((M : Int) == 1) = false := by rw [beq_eq_false_iff_ne]; omega
        have HS0 : Hid (readSeed M lw = 0) := by show _ = _; rw [readSeed, if_pos hM0]
        have HL0 : Hid (readBytes M lw = lw) := by show _ = _; rw [readBytes, if_pos hM0]
        clear hM h8l hM0 hM01
        have e0 := Gr.cell (hW1 (.cells #[.int .u8 (M : Int), .int .u32 (O : Int), .int .u32 (Nn : Int), .int .u8 (M : Int), .slice none 0 0, .int .u64 0, .slice none 0 0] 40)) q0
        have e1 := Gr.cell (hW1 (.cells #[.int .u8 (M : Int), .int .u32 (O : Int), .int .u32 (Nn : Int), .int .u8 (M : Int), .slice none 0 0, .int .u64 0, .slice none 0 0] 40)) p2
        go_wp2_with fail
        refine (HWd.out _).mono ?_
        rintro e w7 ⟨rfl, rfl⟩
        have e2 := Gr.cell (hW1 (.cells #[.int .u8 (M : Int), .int .u32 (O : Int), .int .u32 (Nn : Int), .int .u8 (M : Int), .slice (some ⟨b2, off2, none⟩) W cap2, .int .u64 0, .slice none 0 0] 40)) p1
        have h7 := seven_set hBR.out (.int .u8 (M : Int)) (.int .u32 (O : Int)) (.int .u32 (Nn : Int)) (.int .u8 (M : Int)) (.slice (some ⟨b2, off2, none⟩) W cap2) (.int .u64 0) (.slice (some ⟨b2, off2 + W, none⟩) sz (cap2 - W))
        have h8 := ((Gr.refl _).alloc (.cells #[.int .u8 (M : Int), .int .u32 (O : Int), .int .u32 (Nn : Int), .int .u8 (M : Int), .slice (some ⟨b2, off2, none⟩) W cap2, .int .u64 0, .slice (some ⟨b2, off2 + W, none⟩) sz (cap2 - W)] 40)).heap h7
        have D := Lib.hid (seven_cells h8)
        have HG := Lib.hid ((gr_seven hgr (R := w.heap.size + 1) (Nat.le_succ _) (.int .u8 (M : Int)) (.int .u32 (O : Int)) (.int .u32 (Nn : Int)) (.int .u8 (M : Int)) (.slice (some ⟨b2, off2, none⟩) W cap2) (.int .u64 0) (.slice (some ⟨b2, off2 + W, none⟩) sz (cap2 - W))).alloc (.cells #[.int .u8 (M : Int), .int .u32 (O : Int), .int .u32 (Nn : Int), .int .u8 (M : Int), .slice (some ⟨b2, off2, none⟩) W cap2, .int .u64 0, .slice (some ⟨b2, off2 + W, none⟩) sz (cap2 - W)] 40))
        have hgb := grb_seven wr (w.heap.size + 1) (.int .u8 (M : Int)) (.int .u32 (O : Int)) (.int .u32 (Nn : Int)) (.int .u8 (M : Int)) (.slice (some ⟨b2, off2, none⟩) W cap2) (.int .u64 0) (.slice (some ⟨b2, off2 + W, none⟩) sz (cap2 - W))
        have HB := Lib.hid ((HRP.out.grb hgb (fun x hx => by cases hx; exact hb2R.out)).below ((Gr.refl _).alloc (.cells #[.int .u8 (M : Int), .int .u32 (O : Int), .int .u32 (Nn : Int), .int .u8 (M : Int), .slice (some ⟨b2, off2, none⟩) W cap2, .int .u64 0, .slice (some ⟨b2, off2 + W, none⟩) sz (cap2 - W)] 40)))
        have HB' := Lib.hid ((HRW.out.grb hgb (fun x hx => by cases hx; exact hb2R.out)).below ((Gr.refl _).alloc (.cells #[.int .u8 (M : Int), .int .u32 (O : Int), .int .u32 (Nn : Int), .int .u8 (M : Int), .slice (some ⟨b2, off2, none⟩) W cap2, .int .u64 0, .slice (some ⟨b2, off2 + W, none⟩) sz (cap2 - W)] 40)))
        clear h7 h8 hgb
        go_wp2
        obtain ⟨dd0, dd1, dd2, dd3, dd4, dd5, dd6, _⟩ := D.out
        refine bodyPost_ret (v := .tuple #[.agg #[.int .u8 (M : Int), .int .u32 (O : Int), .int .u32 (Nn : Int), .int .u8 (M : Int), .slice (some ⟨b2, off2, none⟩) W cap2, .int .u64 0, .slice (some ⟨b2, off2 + W, none⟩) sz (cap2 - W)], .int .i64 0]) ?_ rfl ⟨some ⟨b2, off2, none⟩, W, cap2, some ⟨b2, off2 + W, none⟩, cap2 - W, by rw [HS0.out]; rfl, ?_, HB.out, HG.out⟩
        · simp [results, Tryd.results9, go_sem, dd0, dd1, dd2, dd3, dd4, dd5, dd6]
        · rw [HL0.out]; exact HB'.out
end Go.Proofs.YtdmijoochgmhiabDoor
