/-
  Take, of what was sent; awake of the laws of all layers: one symbol, sent, and taken.
-/
import Derived.Test.YtddopoojmadpjaaGreatDoorObject1
import Derived.Test.YtddopoojmadpjaaGreatDoorSend
import Derived.Test.YtddopoojmadpjaaGreatDoorAppend
namespace Go.Proofs.YtddopoojmadpjaaGreatDoor
open Go.RowKit
set_option linter.unusedVariables false

theorem lead_not {l : List UInt8} (h : fn l = fun _ => 0) : ¬ leadL l < l.length := fun h0 => (leadL_lead h0).1 (by rw [h])
theorem rowVec_len {m len sd q : Nat} {l : List UInt8} (hl : l.length = len) (hE : rowErr m len q = 0) : (rowVec m l sd q).length = q := by
  unfold rowVec
  split
  · rename_i h0; rw [hl]; have := (rowErr_zero hE).2 h0; omega
  · exact mixList_length sd q
theorem take_sent (T E n s q id : Nat) (hTE : E ≠ T) (hP : planErr n s q = 0) (hid : id < 4294967296) (hnm : n ≤ 1000000000) (obj : List UInt8) (next : Nat) (hnx : next < 4294967296) (m len sd : Nat) (hsd : sd < 18446744073709551616) (l : List UInt8) (hl : l.length = len) (hlm : len ≤ 100000) (hE : rowErr m len q = 0)
    (g : Option Nat) (es : List Nat) (hes : es.length ≤ 1000) (a : Option Addr) (k cap : Nat) (w : World) (htab : Tab w) (hs : Bs w a k cap (sentL n s q id obj next m l sd)) (hT : TakAt w T E n s q id g 0) (hG : GateAt w g es)
    (hEE : w.heap[E]? = some (.cells #[.int .i64 (q : Int), .int .i64 (s : Int), .slice none 0 0] 154)) :
    Calls Tryz.prog 16 #[.pointer (some ⟨T, 0, none⟩), .slice a k cap] w (TakeOut T E n s q id es (ledB (rowVec m l sd q)) (normL (rowVec m l sd q)) (scaleL (normC (rowVec m l sd q)) (combL (rowVec m l sd q) (cutL obj s q) s)) w) := by
  obtain ⟨hs1, hs2, hq1, hq2⟩ := plan_bounds hP
  obtain ⟨t1, t2⟩ := sent_read (n := n) (s := s) (q := q) (id := id) (next := next) (obj := obj) hl hid hnx hsd hP hE
  have hLP : (combL (rowVec m l sd q) (cutL obj s q) s).length = s := combL_length cut_same
  have hk : k ≤ 1000000 := by
    rw [← hs.1, sentL, packText_length, hLP]
    have : (rowText m l sd).length ≤ 100000 := by unfold rowText; split; omega; exact (by decide : 8 ≤ 100000)
    omega
  have hgl := got_le m l
  have hV := rowVec_len (sd := sd) hl hE
  have := take_ok T E n s q id hTE (by omega) hs1 (by omega) hq1 (by omega) g es hes a k cap _ w htab hs hk hT hG hEE m next (gotS m sd) (gotB m l) _ (gotS_lt hsd) t1 t2 (by rw [hLP]; exact got_fit hl hP hE) (by omega)
    (by rw [got_vec]; exact fun h => lead_not (comb_zero cut_same (fn_nil h))) (by rw [got_vec]; exact hV)
  rw [got_vec] at this
  exact this

theorem awake_row : rowErr 0 1 1 = 0 := by decide
theorem awake_plan : planErr 2 2 1 = 0 := by decide
theorem awake_led : ledB (rowVec 0 [9] 0 1) = true := by decide +kernel
theorem awake_data : scaleL (normC (rowVec 0 [9] 0 1)) (combL (rowVec 0 [9] 0 1) (cutL [3, 4] 2 1) 2) = [3, 4] := by decide +kernel

set_option maxRecDepth 100000 in
set_option maxHeartbeats 4000000 in
theorem topAwake (w : World) (htab : Tab w) : Calls Tryz.prog 6 #[] w fun e w' => e = .returned (.bool true) ∧ Gr w w' := by
  have HO : Hid (∀ w, Calls Tryz.prog 28 #[.int .i64 2, .int .i64 2, .int .u32 1] w fun e w' => e = .returned (.tuple #[.agg #[.int .i64 2, .int .i64 2, .int .i64 1, .int .u32 1], .int .i64 0]) ∧ Gr w w') := by
    intro w
    refine (planOf_any 2 2 1 (by decide) (by decide) (by decide) (by decide) w).mono ?_
    rintro e w' ⟨he, hg⟩
    refine ⟨?_, hg⟩
    rw [he, show planFit 2 2 = 0 by decide, if_pos rfl, show planNeed 2 2 = 1 by decide]
    rfl
  have HN : Hid (∀ a w, Bs w a 2 2 [3, 4] → Calls Tryz.prog 10 #[.agg #[.int .i64 2, .int .i64 2, .int .i64 1, .int .u32 1], .slice a 2 2] w fun e w' => ∃ B, w.heap.size ≤ B ∧ e = .returned (.tuple #[.pointer (some ⟨B, 0, none⟩), .int .i64 0]) ∧ SendAt w' B 2 2 1 1 [3, 4] 0 ∧ Gr w w') :=
    fun a w h => senderNew_ok 2 2 1 1 (by decide) a 2 [3, 4] w h (by decide)
  have HT : Hid (∀ w, Calls Tryz.prog 15 #[.agg #[.int .i64 2, .int .i64 2, .int .i64 1, .int .u32 1]] w fun e w' => ∃ T E, e = .returned (.tuple #[.pointer (some ⟨T, 0, none⟩), .int .i64 0]) ∧ w.heap.size ≤ E ∧ E < T ∧ TakAt w' T E 2 2 1 1 none 0 ∧ w'.heap[E]? = some (.cells #[.int .i64 1, .int .i64 2, .slice none 0 0] 154) ∧ Gr w w') :=
    fun w => takerNew_ok 2 2 1 1 awake_plan (by decide) w
  have HX : Hid (∀ B a w, Tab w → Bs w a 1 1 [9] → SendAt w B 2 2 1 1 [3, 4] 0 → Calls Tryz.prog 29 #[.pointer (some ⟨B, 0, none⟩), .slice a 1 1] w fun e w' => ∃ a' k' c', e = .returned (.tuple #[.slice a' k' c', .int .i64 0]) ∧ Bs w' a' k' c' (sentL 2 2 1 1 [3, 4] 0 0 [9] 0) ∧ SendAt w' B 2 2 1 1 [3, 4] 1 ∧ GrB w B w') :=
    fun B a w ht h1 h2 => explicit_ok B 2 2 1 1 (by decide) (by decide) (by decide) [3, 4] 0 (by decide) a 1 [9] w ht h1 h2
  have HK : Hid (∀ T E a k c w, E ≠ T → Tab w → Bs w a k c (sentL 2 2 1 1 [3, 4] 0 0 [9] 0) → TakAt w T E 2 2 1 1 none 0 → w.heap[E]? = some (.cells #[.int .i64 1, .int .i64 2, .slice none 0 0] 154) →
      Calls Tryz.prog 16 #[.pointer (some ⟨T, 0, none⟩), .slice a k c] w fun e w' => e = .returned (.int .i64 0) ∧ ∃ g', TakAt w' T E 2 2 1 1 (some g') 1 ∧ ElimOne w' E 1 2 (normL (rowVec 0 [9] 0 1)) [3, 4] ∧ GrC w T E w') := by
    show ∀ T E a k c w, _
    intro T E a k c w hne ht hb hT hE
    refine (take_sent T E 2 2 1 1 hne awake_plan (by decide) (by decide) [3, 4] 0 (by decide) 0 1 0 (by decide) [9] rfl (by decide) awake_row none [] (by decide) a k c w ht hb hT (GateAt.none w) hE).mono ?_
    rintro e w' ⟨g', he, h1, _, h3, h4⟩
    rw [awake_led] at h1 h3
    rw [awake_data] at h3
    exact ⟨he, g', h1, h3, h4⟩
  have HOB : Hid (∀ T E g w, TakAt w T E 2 2 1 1 (some g) 1 → ElimOne w E 1 2 (normL (rowVec 0 [9] 0 1)) [3, 4] → Calls Tryz.prog 24 #[.pointer (some ⟨T, 0, none⟩)] w fun e w' => ∃ a c, e = .returned (.tuple #[.slice a 2 c, .int .i64 0]) ∧ Bs w' a 2 c [3, 4] ∧ Gr w w') :=
    fun T E g w h1 h2 => object_one T E 2 2 1 awake_plan (by decide) (by decide) (by decide) (by decide) (some g) _ [3, 4] rfl w h1 h2
  obtain ⟨TX, eTX⟩ : ∃ T, sentL 2 2 1 1 [3, 4] 0 0 [9] 0 = T := ⟨_, rfl⟩
  rw [eTX] at HX HK
  obtain ⟨NV, eNV⟩ : ∃ T, normL (rowVec 0 [9] 0 1) = T := ⟨_, rfl⟩
  rw [eNV] at HK HOB
  have HTAB := Lib.hid htab
  clear htab eTX eNV
  go_enter Tryz.func6, Tryz.ntmps6
  go_wp2_with fail
  refine (HO.out _).mono ?_
  rintro e w1 ⟨rfl, hg1⟩
  go_wp2_with fail
  have hP := Gr.heap ((Gr.refl _).alloc (.cells #[.int .u8 3, .int .u8 4] 5)) (heap_alloc_new w1 (.cells #[.int .i64 2, .int .i64 2, .int .i64 1, .int .u32 1] 28))
  have hg2 : Gr w ((w1.alloc (.cells #[.int .i64 2, .int .i64 2, .int .i64 1, .int .u32 1] 28)).alloc (.cells #[.int .u8 3, .int .u8 4] 5)) := (hg1.alloc _).alloc _
  refine (HN.out _ _ (Bs.of_alloc rfl rfl (by decide) (by simp))).mono ?_
  rintro e w2 ⟨B, hB, rfl, hsa, hg3⟩
  have HSA := Lib.hid hsa
  have HGW := Lib.hid (hg2.trans hg3)
  have HP := Lib.hid (hg3.heap hP)
  have hBw : w.heap.size ≤ B := Nat.le_trans hg2.size hB
  obtain ⟨p0, p1, p2, p3⟩ := p_four_cells HP.out
  have hww2 := HGW.out.size
  clear hg1 hg2 hg3 hsa hB hP
  go_wp2_with fail
  refine (HT.out w2).mono ?_
  rintro e w3 ⟨T, E, rfl, hE1, hET, hta, hee, hg⟩
  have hBs : B < w2.heap.size := by obtain ⟨_, h1, _⟩ := HSA.out; exact lt_of_block h1
  have HSA3 := Lib.hid (HSA.out.gr hg)
  have HGW3 := Lib.hid (HGW.out.trans hg)
  have HTA := Lib.hid hta
  have HEE := Lib.hid hee
  clear hta hee hg p0 p1 p2 p3 HSA HGW HP
  go_wp2_with fail
  have hal := (Gr.refl w3).alloc (.cells #[.int .u8 9] 5)
  refine (HX.out B _ _ (HTAB.out.below (HGW3.out.trans hal)) (Bs.of_alloc rfl rfl (by decide) rfl) (HSA3.out.gr hal)).mono ?_
  rintro e w4 ⟨a4, k4, c4, rfl, hb4, hsa4, hg4⟩
  have HGW4 := Lib.hid ((HGW3.out.trans hal).grb hg4 hBw)
  have HTA4 := Lib.hid (hg4.heap (hal.heap HTA.out) (by omega))
  have HEE4 := Lib.hid (hg4.heap (hal.heap HEE.out) (by omega))
  have HB4 := Lib.hid hb4
  clear hal hb4 hsa4 hg4 HSA3 HTA HEE
  go_wp2_with fail
  refine (HK.out T E a4 k4 c4 w4 (by omega) (HTAB.out.below HGW4.out) HB4.out HTA4.out HEE4.out).mono ?_
  rintro e w5 ⟨rfl, g', hta, hel, hg⟩
  have HTA5 := Lib.hid hta
  have HEL5 := Lib.hid hel
  have HGW5 := Lib.hid (GrC.gr HGW4.out hg (by omega) (by omega))
  clear hta hel hg HTA4 HEE4 HB4 HGW4
  go_wp2_with fail
  refine (HOB.out T E g' w5 HTA5.out HEL5.out).mono ?_
  rintro e w6 ⟨a6, c6, rfl, hb6, hg⟩
  have HB6 := Lib.hid hb6
  have HGW6 := Lib.hid (HGW5.out.trans hg)
  clear hb6 hg HTA5 HEL5 HGW5
  go_wp2_with fail
  have hal := (Gr.refl w6).alloc (.cells #[.int .u8 3, .int .u8 4] 5)
  refine (same_any a6 _ 2 c6 2 2 [3, 4] [3, 4] _ (HB6.out.below hal) (Bs.of_alloc rfl rfl (by decide) rfl)).mono ?_
  rintro e w7 ⟨rfl, hg⟩
  rw [sameB_self]
  have HGW7 := Lib.hid (HGW6.out.trans (hal.trans hg))
  clear hal hg HB6 HGW6
  go_wp2
  first | go_ret | go_ret2
  exact ⟨rfl, HGW7.out⟩
end Go.Proofs.YtddopoojmadpjaaGreatDoor
