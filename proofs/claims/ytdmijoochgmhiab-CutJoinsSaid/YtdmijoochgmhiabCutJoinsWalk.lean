/-
  The walk of law CutJoins.
-/
import Derived.Test.YtdmijoochgmhiabCutCutsWalk
namespace Go.Proofs.Ytdmijoochgmhiab
open Go.RowKit

theorem piece_map (obj : List UInt8) (s k : Nat) : pieceL obj s k = (List.range s).map fun r => obj.getD (k * s + r) 0 := by
  apply List.ext_getElem?
  intro r
  by_cases h : r < s
  · rw [piece_get obj s k r h, List.getElem?_map, List.getElem?_range h]; rfl
  · rw [List.getElem?_eq_none (by rw [pieceL_length]; omega), List.getElem?_eq_none (by simp; omega)]
theorem cut_flat (obj : List UInt8) (s : Nat) : ∀ k, (cutL obj s k).flatten = (List.range (k * s)).map fun j => obj.getD j 0
  | 0 => by simp [cutL]
  | k + 1 => by
    have h : cutL obj s (k + 1) = cutL obj s k ++ [pieceL obj s k] := by simp [cutL, List.range_succ]
    rw [h, List.flatten_append, cut_flat obj s k, piece_map, Nat.add_mul, Nat.one_mul, List.range_add, List.map_append]
    simp [Function.comp_def]
theorem cut_flat_length (obj : List UInt8) (s k : Nat) : (cutL obj s k).flatten.length = k * s := by rw [cut_flat]; simp
theorem cut_take_obj (obj : List UInt8) (s q : Nat) (h : obj.length ≤ q * s) : (cutL obj s q).flatten.take obj.length = obj := by
  apply List.ext_getElem?
  intro j
  rw [List.getElem?_take]
  by_cases hj : j < obj.length
  · rw [if_pos hj, cut_flat, List.getElem?_map, List.getElem?_range (by omega)]
    simp [List.getD_eq_getElem?_getD, hj]
  · rw [if_neg hj, List.getElem?_eq_none (by omega)]
theorem cut_drop_obj (obj : List UInt8) (s q : Nat) : ∀ x ∈ (cutL obj s q).flatten.drop obj.length, x = 0 := by
  intro x hx
  obtain ⟨j, hj, rfl⟩ := List.getElem_of_mem hx
  simp only [List.getElem_drop, cut_flat, List.getElem_map, List.getElem_range]
  rw [List.getD_eq_getElem?_getD, List.getElem?_eq_none (by omega)]; rfl
theorem cut_take_succ {obj : List UInt8} {s q k : Nat} (h : k < q) : ((cutL obj s q).take (k + 1)).flatten = ((cutL obj s q).take k).flatten ++ pieceL obj s k := by
  rw [← cut_take obj s q k h, List.flatten_append]; simp
theorem plan_room {n s q : Nat} (h : planErr n s q = 0) : n ≤ q * s := by
  obtain ⟨h1, h2⟩ := planErr_zero h
  obtain ⟨_, hs, _, _⟩ := planFit_zero h1
  unfold planNeed at h2
  by_cases h0 : (n : Int) = 0
  · omega
  · rw [if_neg h0] at h2
    have h3 : ((n : Int) - 1) / s < q := by omega
    have h4 := Int.lt_mul_of_ediv_lt (show (0 : Int) < s by omega) h3
    have h5 : ((q * s : Nat) : Int) = (q : Int) * s := by simp
    omega
theorem plan_many {n : Nat} {size : Int} (h : planFit n size ≠ 0) (hs : size ≤ 2000) : size < 1 ∨ 4096 * size < n := by
  by_cases h1 : size < 1
  · exact .inl h1
  · right
    unfold planFit at h
    rw [if_neg (by omega), if_neg (by omega)] at h
    by_cases h2 : 4096 < planNeed n size
    · unfold planNeed at h2
      by_cases h0 : (n : Int) = 0
      · rw [if_pos h0] at h2; omega
      · rw [if_neg h0] at h2
        have h3 : (4096 : Int) ≤ ((n : Int) - 1) / size := by omega
        have h4 := (Int.le_ediv_iff_mul_le (show (0 : Int) < size by omega)).1 h3
        omega
    · rw [if_neg h2] at h; exact absurd rfl h

set_option maxHeartbeats 1000000 in
theorem zero_any (a : Option Addr) (len cap : Nat) (l : List UInt8) (w : World) (hs : Bs w a len cap l) (hz : ∀ x ∈ l, x = 0) :
    Calls Try.prog 29 #[.slice a len cap] w fun e w' => e = .returned (.bool true) ∧ w = w' := by
  have b1 : len ≤ 9223372036854775807 := by have h1 := hs.2.1; have h2 := hs.2.2.1; unfold maxLen at h2; omega
  have HZ := Lib.hid hz
  clear hz
  go_enter Try.func29, Try.ntmps29
  go_wp2
  go_loop [3] (fun i => ∃ k : Nat, k ≤ len ∧ i = .int .i64 k) (fun i => len - (intOf i).toNat)
  case atStart => exact ⟨0, Nat.zero_le _, rfl⟩
  case round =>
    obtain ⟨k, hk, rfl⟩ := hrel
    by_cases hlt : k < len
    · obtain ⟨b, off, rfl, _⟩ := hs.at_ (by omega)
      obtain ⟨u, hu, hc⟩ := hs.get hlt
      have h0 : u = 0 := HZ.out u (List.mem_of_getElem? hu)
      subst h0
      clear hu
      go_wp2
      go_round
      case rel => exact ⟨k + 1, by omega, by go_num⟩
      case measure => simp [intOf]; omega
    · go_wp2
      go_ret
      exact ⟨rfl, rfl⟩

set_option maxHeartbeats 1000000 in
theorem room_ok (n s q : Nat) (id : Int) (hE : planErr n s q = 0) (hm : n ≤ 140737488355328) (w : World) :
    Calls Try.prog 28 #[.agg #[.int .i64 (n : Int), .int .i64 (s : Int), .int .i64 (q : Int), .int .u32 id]] w fun e w' => e = .returned (.int .i64 ((q * s : Nat) : Int)) ∧ Gr w w' := by
  obtain ⟨hs1, hs2, hq1, hq2⟩ := plan_bounds hE
  have CC := planCheck_any n s q id (by omega) (by omega) (by omega) (by omega)
  rw [hE] at CC
  have HC := Lib.hid CC
  have hT : (q : Int) * (s : Int) = ((q * s : Nat) : Int) := by simp
  have hTm : q * s ≤ 4096 * 65535 := Nat.mul_le_mul hq2 hs2
  obtain ⟨T, hTe⟩ : ∃ T, q * s = T := ⟨_, rfl⟩
  rw [hTe] at hT hTm ⊢
  have hTi : (T : Int) ≤ 268431360 := by omega
  clear hTe hE CC
  go_enter Try.func28, Try.ntmps28
  go_wp2_with fail
  refine (HC.out _).mono ?_
  rintro e w1 ⟨rfl, hg⟩
  have hB := hg.heap (heap_alloc_new w _)
  obtain ⟨c0, c1, c2, c3⟩ := four_cells hB
  have hgw := ((Gr.refl w).alloc _).trans hg
  clear hB hg
  go_wp2
  go_ret
  exact ⟨rfl, hgw⟩

set_option maxHeartbeats 1000000 in
theorem spread_out (n s q : Nat) (id : Int) (hE : planErr n s q = 0) (hm : n ≤ 140737488355328) (i : Int) (hi : i < 0 ∨ (n : Int) ≤ i) (w : World) :
    Calls Try.prog 30 #[.agg #[.int .i64 (n : Int), .int .i64 (s : Int), .int .i64 (q : Int), .int .u32 id], .int .i64 i] w fun e w' => e = .returned (.tuple #[.int .i64 0, .int .i64 0, .int .i64 2]) ∧ Gr w w' := by
  obtain ⟨hs1, hs2, hq1, hq2⟩ := plan_bounds hE
  have CC := planCheck_any n s q id (by omega) (by omega) (by omega) (by omega)
  rw [hE] at CC
  have HC := Lib.hid CC
  clear hE CC
  rcases hi with hi | hi
  all_goals
    go_enter Try.func30, Try.ntmps30
    go_wp2_with fail
    refine (HC.out _).mono ?_
    rintro e w1 ⟨rfl, hg⟩
    have hB := hg.heap (heap_alloc_new w _)
    obtain ⟨c0, c1, c2, c3⟩ := four_cells hB
    have hgw := ((Gr.refl w).alloc _).trans hg
    clear hB hg
    go_wp2
    go_ret3
    exact ⟨rfl, hgw⟩
set_option maxHeartbeats 1000000 in
theorem spread_ok (n s q t : Nat) (id : Int) (hE : planErr n s q = 0) (hm : n ≤ 140737488355328) (ht : t < n) (w : World) :
    Calls Try.prog 30 #[.agg #[.int .i64 (n : Int), .int .i64 (s : Int), .int .i64 (q : Int), .int .u32 id], .int .i64 (t : Int)] w fun e w' => e = .returned (.tuple #[.int .i64 ((t / s : Nat) : Int), .int .i64 ((t % s : Nat) : Int), .int .i64 0]) ∧ Gr w w' := by
  obtain ⟨hs1, hs2, hq1, hq2⟩ := plan_bounds hE
  have CC := planCheck_any n s q id (by omega) (by omega) (by omega) (by omega)
  rw [hE] at CC
  have HC := Lib.hid CC
  have ht' : (t : Int) < (n : Int) := by omega
  have hs1' : (1 : Int) ≤ (s : Int) := by omega
  have hs0 : (0 : Int) < (s : Int) := by omega
  have hsne : ((s : Int) == 0) = false := by rw [beq_eq_false_iff_ne]; omega
  have hd0 : (0 : Int) ≤ (t : Int) / (s : Int) := Int.ediv_nonneg (by omega) (by omega)
  have hd1 : (t : Int) / (s : Int) ≤ (t : Int) := Int.ediv_le_self _ (by omega)
  clear hE CC
  go_enter Try.func30, Try.ntmps30
  go_wp2_with fail
  refine (HC.out _).mono ?_
  rintro e w1 ⟨rfl, hg⟩
  have hB := hg.heap (heap_alloc_new w _)
  obtain ⟨c0, c1, c2, c3⟩ := four_cells hB
  have hgw := ((Gr.refl w).alloc _).trans hg
  clear hB hg
  go_wp2
  go_quiet (fail)
  go_wp2
  go_ret3
  exact ⟨by simp, hgw.drewN _⟩

set_option maxRecDepth 100000 in
set_option maxHeartbeats 1600000 in
theorem cutJoins_walk (w : World) (a : Option Addr) (n cap : Nat) (obj : List UInt8) (hb : Bs w a n cap obj) (size : Int) (hs1 : -9223372036854775808 ≤ size) (hs2 : size ≤ 9223372036854775807) (at_ : Int) (ha1 : -9223372036854775808 ≤ at_) (ha2 : at_ ≤ 9223372036854775807) (id : Nat) (_ : id < 4294967296) :
    Calls Try.prog 6 #[.slice a n cap, .int .i64 size, .int .i64 at_, .int .u32 (id : Int)] w fun e w' => e = .returned (.bool true) ∧ Gr w w' := by
  have hmx : n ≤ 9223372036854775807 := by have h1 := hb.2.1; have h2 := hb.2.2.1; unfold maxLen at h2; omega
  by_cases hbig : 2000 < n
  · have hbig' : (2000 : Int) < (n : Int) := by omega
    go_enter Try.func6, Try.ntmps6
    go_wp2_with fail
    refine (cutAwake_any _).mono ?_
    rintro e w1 ⟨rfl, hg1⟩
    go_wp2
    go_ret
    exact ⟨rfl, hg1⟩
  have hbig' : ¬ (2000 : Int) < (n : Int) := by omega
  by_cases hsz : 2000 < size
  · go_enter Try.func6, Try.ntmps6
    go_wp2_with fail
    refine (cutAwake_any _).mono ?_
    rintro e w1 ⟨rfl, hg1⟩
    go_wp2
    go_ret
    exact ⟨rfl, hg1⟩
  by_cases hF : planFit n size = 0
  · have hNE := planFit_zero hF
    have hqp := planNeed_pos (len := (n : Int)) (size := size) (by omega) hNE.2.1
    obtain ⟨s, rfl⟩ : ∃ s : Nat, size = s := ⟨size.toNat, by omega⟩
    have CP := planOf_ok n s id (by omega) hF
    have hP0 : planErr n s (planNeed n s) = 0 := by unfold planErr; rw [if_neg (by simpa using hF), if_neg (by simp)]
    obtain ⟨q, hq⟩ : ∃ q : Nat, planNeed n s = q := ⟨(planNeed n s).toNat, by omega⟩
    rw [hq] at CP hP0
    have HP := Lib.hid hP0
    have HCP := Lib.hid CP
    obtain ⟨hb1, hb2, hb3, hb4⟩ := plan_bounds hP0
    have hroom := plan_room hP0
    have hsz' : (s : Int) ≤ 2000 := by omega
    have HL := Lib.hid hb.1
    have hq2 : q * s ≤ 4096 * 65535 := Nat.mul_le_mul hb4 hb2
    clear hNE hqp CP hP0 hq hF
    go_enter Try.func6, Try.ntmps6
    go_wp2_with fail
    refine (cutAwake_any _).mono ?_
    rintro e w1 ⟨rfl, hg1⟩
    go_wp2_with fail
    refine (HCP.out w1).mono ?_
    rintro e w2 ⟨rfl, hg2⟩
    have hgwA := (hg1.trans hg2).alloc (.cells #[.int .i64 (n : Int), .int .i64 (s : Int), .int .i64 (q : Int), .int .u32 (id : Int)] 37)
    have hAn := heap_alloc_new w2 (.cells #[.int .i64 (n : Int), .int .i64 (s : Int), .int .i64 (q : Int), .int .u32 (id : Int)] 37)
    obtain ⟨wA, hwA⟩ : ∃ x, x = w2.alloc (.cells #[.int .i64 (n : Int), .int .i64 (s : Int), .int .i64 (q : Int), .int .u32 (id : Int)] 37) := ⟨_, rfl⟩
    rw [← hwA] at hgwA hAn
    have HAN := Lib.hid hAn
    have HWA := Lib.hid hwA
    have hbA := hb.below hgwA
    clear hAn hwA hg1 hg2
    go_wp2_with fail
    rw [← HWA.out]
    refine (cutCut_ok n s q id HP.out a cap obj wA hbA (by omega)).mono ?_
    rintro e w3 ⟨S, _, rfl, hb3, hg3⟩
    go_wp2
    go_loopw [13, 55] (fun v i wr => ∃ k : Nat, k ≤ q ∧ i = .int .i64 k ∧ OwnV wr w3.heap.size v ((cutL obj s q).take k).flatten ∧ Gr w3 wr) (fun _ i _ => q - (intOf i).toNat)
    case atStart => exact ⟨0, Nat.zero_le _, rfl, OwnV.nil _ _, Gr.refl _⟩
    case round =>
      obtain ⟨k, hk, rfl, hown, hgr⟩ := hrel
      by_cases hlt : k < q
      · have hbr := hb3.below hgr
        obtain ⟨l, a5, n5, c5, hl5, hc5, hb5⟩ := hbr.get hlt
        obtain rfl : l = pieceL obj s k := Option.some.inj (hl5.symm.trans (cutL_get obj s q k hlt))
        obtain rfl : n5 = s := by rw [← hb5.1, pieceL_length]
        have HT := Lib.hid (cut_take_succ (obj := obj) (s := n5) hlt)
        have hfl : Hid (((cutL obj n5 q).take k).flatten.length + n5 ≤ 140737488355328) := by
          have e : (cutL obj n5 q).take k = cutL obj n5 k := by
            unfold cutL; rw [← List.map_take, List.take_range, Nat.min_eq_left (by omega)]
          show _ ≤ _
          rw [e, cut_flat_length]
          have : k * n5 ≤ q * n5 := Nat.mul_le_mul_right _ (by omega)
          omega
        rw [Nat.zero_add] at hc5
        clear hl5 hbr
        go_wp2_with (with_reducible refine wpList_hold (o := ⟨some 65, _, _, _, _, _⟩) ?_)
        change wpList _ _ _ _ _ _
        refine wpList_append_bytes rfl (.tmp 63) (.tmp 64) rfl w3.heap.size u13 _ rfl hown a5 n5 c5 (pieceL obj n5 k) rfl hb5 hfl.out hgr.size ?_
        intro v6 w6 ho6 hg6 _
        have hgr6 : Gr w3 w6 := hgr.grown hg6 (fun q hq => (hown.lt q hq).1)
        rw [← HT.out] at ho6
        have HO6 := Lib.hid ho6
        clear hg6 hown hgr hb5 ho6
        go_wp2
        go_roundw
        case rel => exact ⟨k + 1, by omega, by go_num, HO6.out, hgr6⟩
        case measure => simp [intOf]; omega
      · obtain rfl : k = q := by omega
        rw [List.take_of_length_le (by rw [cutL_length]; exact Nat.le_refl _)] at hown
        obtain ⟨av, capv, hv, hbv⟩ := hown.slice
        rw [cut_flat_length] at hv hbv
        subst hv
        have hgwr := (hgwA.trans hg3).trans hgr
        obtain ⟨c0, c1, c2, c3⟩ := four_cells (hgr.heap (hg3.heap HAN.out))
        have hcapv : k * s ≤ capv := hbv.2.1
        have hcapm : (capv : Int) ≤ 9223372036854775807 := by have := hbv.2.2.1; unfold maxLen at this; omega
        have hnq : (n : Int) ≤ (capv : Int) := by omega
        have hst := sameB_self obj
        go_wp2_with fail
        refine (room_ok n s k id HP.out (by omega) wr).mono ?_
        rintro e w4 ⟨rfl, hg4⟩
        have hb4v := hbv.below hg4
        have hgw4 := hgwr.trans hg4
        have htk := (hb4v.take (k := n) hroom)
        have hto := cut_take_obj obj s k (by rw [HL.out]; exact hroom)
        rw [HL.out] at hto
        rw [hto] at htk
        clear hto
        go_wp2_with fail
        refine (same_any av a n capv n cap obj obj w4 htk (hb.below hgw4)).mono ?_
        rintro e w5 ⟨rfl, hg5⟩
        have hdr := (hb4v.below hg5).dropAny (k := n) hroom
        have hgw5 := hgw4.trans hg5
        have hz := cut_drop_obj obj s k
        rw [HL.out] at hz
        have HZ := Lib.hid hz
        clear hz
        have HB3 := Lib.hid ((hb3.below hgr).below (hg4.trans hg5))
        have HC3 := Lib.hid ((hg4.trans hg5).heap (hgr.heap (hg3.heap HAN.out)))
        clear c0 c1 c2 c3 hbv htk hb4v hown hgr hgwr hgw4 hg4 hg5 hg3
        obtain ⟨c0, c1, c2, c3⟩ := four_cells HC3.out
        by_cases hcn : capv = n
        · rw [if_pos hcn] at hdr
          obtain rfl : n = capv := hcn.symm
          have e0 : k * s - n = 0 := by omega
          rw [e0, Nat.sub_self] at hdr
          clear e0
          go_wp2_with fail
          refine (zero_any _ _ _ _ w5 hdr HZ.out).mono ?_
          rintro e w6 ⟨rfl, rfl⟩
          by_cases hin : 0 ≤ at_ ∧ at_ < (n : Int)
          · obtain ⟨hi0, hin'⟩ := hin
            obtain ⟨t, rfl⟩ : ∃ t : Nat, at_ = t := ⟨at_.toNat, by omega⟩
            have htn : t < n := by omega
            have hsp : 0 < s := by omega
            have hKs : t % s < s := Nat.mod_lt _ hsp
            have hdm : t / s * s + t % s = t := by rw [Nat.mul_comm]; exact Nat.div_add_mod t s
            have hIk : t / s < k := by
              refine Nat.div_lt_of_lt_mul ?_
              rw [Nat.mul_comm]; omega
            have CS := spread_ok n s k t id HP.out (by omega) htn
            obtain ⟨I, hI⟩ : ∃ I, t / s = I := ⟨_, rfl⟩
            obtain ⟨K, hK⟩ : ∃ K, t % s = K := ⟨_, rfl⟩
            rw [hI, hK] at CS hdm
            rw [hK] at hKs
            rw [hI] at hIk
            have HCS := Lib.hid CS
            clear hI hK CS
            go_wp2_with fail
            refine (HCS.out w5).mono ?_
            rintro e w7 ⟨rfl, hg7⟩
            have hb37 := HB3.out.below hg7
            obtain ⟨l, a8, n8, c8, hl8, hc8, hb8⟩ := hb37.get hIk
            obtain rfl : l = pieceL obj s I := Option.some.inj (hl8.symm.trans (cutL_get obj s k I hIk))
            obtain rfl : n8 = s := by rw [← hb8.1, pieceL_length]
            rw [Nat.zero_add] at hc8
            obtain ⟨b8, off8, rfl, hbl8, _⟩ := hb8.at_ (by omega)
            obtain ⟨u, hu, hcu⟩ := hb8.get hKs
            have hob := (hb.below hgw5).below hg7
            obtain ⟨b9, off9, rfl, hbl9, _⟩ := hob.at_ (by omega)
            obtain ⟨v, hv, hcv⟩ := hob.get htn
            have huv : u = v := by
              rw [piece_get obj n8 I K hKs, hdm, List.getD_eq_getElem?_getD, hv] at hu
              exact (Option.some.inj hu).symm
            subst huv
            have hJ : (I : Int) * (n8 : Int) = ((I * n8 : Nat) : Int) := by simp
            have hJ1 : I * n8 + K = t := hdm
            have hJt : ((I * n8 : Nat) : Int) + (K : Int) = (t : Int) := by omega
            obtain ⟨J, hJe⟩ : ∃ J, I * n8 = J := ⟨_, rfl⟩
            rw [hJe] at hJ hJt
            have hJ0 : (J : Int) ≤ (t : Int) := by omega
            have hI0 : (0 : Int) ≤ (I : Int) := by omega
            have hIq : (I : Int) < (k : Int) := by omega
            have hK0 : (0 : Int) ≤ (K : Int) := by omega
            have hKs' : (K : Int) < (n8 : Int) := by omega
            have hgw7 := hgw5.trans hg7
            clear hu hv hl8 hdm hJ1 hJe hb37 hb8 hob hdr
            go_wp2
            go_quiet (fail)
            go_wp2
            go_ret
            exact ⟨by simp, hgw7.drewN _⟩
          · have hout : at_ < 0 ∨ (n : Int) ≤ at_ := by omega
            have ho2 : decide (at_ < 0) = true ∨ (decide (at_ < 0) = false ∧ decide ((n : Int) ≤ at_) = true) := by
              by_cases h : at_ < 0
              · exact .inl (decide_eq_true h)
              · exact .inr ⟨decide_eq_false h, decide_eq_true (by omega)⟩
            have HO := Lib.hid hout
            clear hin hout
            go_wp2_with fail
            refine (spread_out n s k id HP.out (by omega) at_ HO.out w5).mono ?_
            rintro e w7 ⟨rfl, hg7⟩
            rcases ho2 with h | ⟨h, h'⟩
            all_goals
              go_wp2
              go_ret
              exact ⟨rfl, hgw5.trans hg7⟩
        · rw [if_neg hcn] at hdr
          go_wp2_with fail
          refine (zero_any _ _ _ _ w5 hdr HZ.out).mono ?_
          rintro e w6 ⟨rfl, rfl⟩
          by_cases hin : 0 ≤ at_ ∧ at_ < (n : Int)
          · obtain ⟨hi0, hin'⟩ := hin
            obtain ⟨t, rfl⟩ : ∃ t : Nat, at_ = t := ⟨at_.toNat, by omega⟩
            have htn : t < n := by omega
            have hsp : 0 < s := by omega
            have hKs : t % s < s := Nat.mod_lt _ hsp
            have hdm : t / s * s + t % s = t := by rw [Nat.mul_comm]; exact Nat.div_add_mod t s
            have hIk : t / s < k := by
              refine Nat.div_lt_of_lt_mul ?_
              rw [Nat.mul_comm]; omega
            have CS := spread_ok n s k t id HP.out (by omega) htn
            obtain ⟨I, hI⟩ : ∃ I, t / s = I := ⟨_, rfl⟩
            obtain ⟨K, hK⟩ : ∃ K, t % s = K := ⟨_, rfl⟩
            rw [hI, hK] at CS hdm
            rw [hK] at hKs
            rw [hI] at hIk
            have HCS := Lib.hid CS
            clear hI hK CS
            go_wp2_with fail
            refine (HCS.out w5).mono ?_
            rintro e w7 ⟨rfl, hg7⟩
            have hb37 := HB3.out.below hg7
            obtain ⟨l, a8, n8, c8, hl8, hc8, hb8⟩ := hb37.get hIk
            obtain rfl : l = pieceL obj s I := Option.some.inj (hl8.symm.trans (cutL_get obj s k I hIk))
            obtain rfl : n8 = s := by rw [← hb8.1, pieceL_length]
            rw [Nat.zero_add] at hc8
            obtain ⟨b8, off8, rfl, hbl8, _⟩ := hb8.at_ (by omega)
            obtain ⟨u, hu, hcu⟩ := hb8.get hKs
            have hob := (hb.below hgw5).below hg7
            obtain ⟨b9, off9, rfl, hbl9, _⟩ := hob.at_ (by omega)
            obtain ⟨v, hv, hcv⟩ := hob.get htn
            have huv : u = v := by
              rw [piece_get obj n8 I K hKs, hdm, List.getD_eq_getElem?_getD, hv] at hu
              exact (Option.some.inj hu).symm
            subst huv
            have hJ : (I : Int) * (n8 : Int) = ((I * n8 : Nat) : Int) := by simp
            have hJ1 : I * n8 + K = t := hdm
            have hJt : ((I * n8 : Nat) : Int) + (K : Int) = (t : Int) := by omega
            obtain ⟨J, hJe⟩ : ∃ J, I * n8 = J := ⟨_, rfl⟩
            rw [hJe] at hJ hJt
            have hJ0 : (J : Int) ≤ (t : Int) := by omega
            have hI0 : (0 : Int) ≤ (I : Int) := by omega
            have hIq : (I : Int) < (k : Int) := by omega
            have hK0 : (0 : Int) ≤ (K : Int) := by omega
            have hKs' : (K : Int) < (n8 : Int) := by omega
            have hgw7 := hgw5.trans hg7
            clear hu hv hl8 hdm hJ1 hJe hb37 hb8 hob hdr
            go_wp2
            go_quiet (fail)
            go_wp2
            go_ret
            exact ⟨by simp, hgw7.drewN _⟩
          · have hout : at_ < 0 ∨ (n : Int) ≤ at_ := by omega
            have ho2 : decide (at_ < 0) = true ∨ (decide (at_ < 0) = false ∧ decide ((n : Int) ≤ at_) = true) := by
              by_cases h : at_ < 0
              · exact .inl (decide_eq_true h)
              · exact .inr ⟨decide_eq_false h, decide_eq_true (by omega)⟩
            have HO := Lib.hid hout
            clear hin hout
            go_wp2_with fail
            refine (spread_out n s k id HP.out (by omega) at_ HO.out w5).mono ?_
            rintro e w7 ⟨rfl, hg7⟩
            rcases ho2 with h | ⟨h, h'⟩
            all_goals
              go_wp2
              go_ret
              exact ⟨rfl, hgw5.trans hg7⟩
  · have hor := plan_many hF (by omega)
    have CP := Lib.hid (planOf_bad n size id (by omega) (by omega) hs1 hs2 hF)
    obtain ⟨q, hq⟩ : ∃ q, planFit n size = q := ⟨_, rfl⟩
    rw [hq] at CP hF
    have ht : ((q : Int) != 0) = true := by rw [bne_iff_ne]; omega
    have hor' : decide (size < 1) = true ∨ (decide (size < 1) = false ∧ decide (4096 * size < (n : Int)) = true) := by
      by_cases h : size < 1
      · exact .inl (decide_eq_true h)
      · exact .inr ⟨decide_eq_false h, decide_eq_true (hor.resolve_left h)⟩
    clear hor hq hF
    rcases hor' with h | ⟨h, h'⟩
    · go_enter Try.func6, Try.ntmps6
      go_wp2_with fail
      refine (cutAwake_any _).mono ?_
      rintro e w1 ⟨rfl, hg1⟩
      go_wp2_with fail
      refine (CP.out _).mono ?_
      rintro e w2 ⟨rfl, hg2⟩
      go_wp2
      go_ret
      exact ⟨rfl, (hg1.trans hg2).alloc _⟩
    · have h1 : 1 ≤ size := by have := of_decide_eq_false h; omega
      go_enter Try.func6, Try.ntmps6
      go_wp2_with fail
      refine (cutAwake_any _).mono ?_
      rintro e w1 ⟨rfl, hg1⟩
      go_wp2_with fail
      refine (CP.out _).mono ?_
      rintro e w2 ⟨rfl, hg2⟩
      go_wp2
      go_ret
      exact ⟨rfl, (hg1.trans hg2).alloc _⟩
end Go.Proofs.Ytdmijoochgmhiab
