/-
  The walks of a gate's methods where nothing came yet: its map is nil.
-/
import Derived.Test.YtdmijoochgmhiaaGreatDoorGateLook
import Derived.Laws.IdiomRangeMap
namespace Go.Proofs.YtdmijoochgmhiaaGreatDoor
open Go.RowKit Go.Maps
set_option linter.unusedVariables false

set_option maxRecDepth 100000 in
set_option maxHeartbeats 1000000 in
theorem gateCount_nil (n s q : Int) (id : Nat) (e : Int) (he : (Lit.int .i64 e).wf = true) (w : World) :
    Calls Tryz.prog 26 #[.agg #[.int .i64 n, .int .i64 s, .int .i64 q, .int .u32 (id : Int), .map none], .int .i64 e] w fun e' w' => e' = .returned (.int .i64 0) ∧ Gr w w' := by
  have hnil := fun w : World => look_nil (w := w) false cntLaw Tryz.underlying73 (zeroInt _) (keyOf_int_mk Tryz.underlying35 he)
  go_enter Tryz.func26, Tryz.ntmps26
  go_wp2
  go_ret
  exact ⟨rfl, (Gr.refl w).alloc _⟩

set_option maxRecDepth 100000 in
set_option maxHeartbeats 4000000 in
theorem gateLook_nilD (n s q : Int) (id : Nat) (hlo : -9223372036854775808 ≤ n) (hm : n ≤ 9223372036854775807) (hsl : -9223372036854775808 ≤ s) (hsm : s ≤ 9223372036854775807) (a : Option Addr) (len cap : Nat) (l : List UInt8) (w : World) (htab : Tab w) (hs : Bs w a len cap l) (hmx : len ≤ 140737488355328) (D : DataW Unit) (eD : DataW.map [] = D) (c : Int) (ec : 0 = c) :
    Calls Tryz.prog 39 #[.agg #[.int .i64 n, .int .i64 s, .int .i64 q, .int .u32 (id : Int), .map none], .slice a len cap] w fun e w' => ∃ g a1 k1 c1 a2 k2 c2, e = .returned (.tuple #[.agg #[.int .i64 n, .int .i64 s, .int .i64 q, .int .u32 (id : Int), .map (some g)], .agg #[.int .u8 ((packGot n s q id l).m : Int), .int .u32 ((packGot n s q id l).o : Int), .int .u32 ((packGot n s q id l).nn : Int), .int .u8 ((packGot n s q id l).md : Int), .slice a1 k1 c1, .int .u64 ((packGot n s q id l).sd : Int), .slice a2 k2 c2], .int .i64 (packErr n s q id l : Nat)]) ∧
      CntMap w' g (Maps.size D + 1) (D.put (.int .i64 (packErr n s q id l : Nat)) (.lit (.int .i64 (c + 1)))) ∧ Bs w' a1 k1 c1 (packGot n s q id l).lb ∧ Bs w' a2 k2 c2 (packGot n s q id l).lp ∧ Gr w w' := by
  have CR := Lib.hid fun w ht hs => packRead_fresh n s q id hlo hm hsl hsm a len cap l w ht hs hmx
  have HS := Lib.hid hs
  have HT := Lib.hid htab
  have hEle := packErr_le n s q id l
  obtain ⟨E, eE⟩ : ∃ x, packErr n s q id l = x := ⟨_, rfl⟩
  obtain ⟨⟨gm, go, gn, gd, gs, lb, lp⟩, eG⟩ : ∃ x, packGot n s q id l = x := ⟨_, rfl⟩
  rw [eE, eG] at CR
  rw [eE] at hEle
  rw [eE, eG]
  have HC : Hid ((DataW.map [] : DataW Unit).atKey (.int .i64 (E : Int)) (.lit (.int .i64 0)) = .lit (.int .i64 c)) := by rw [← ec]; exact rfl
  have hsz : Maps.size D ≤ 1000000 := by rw [← eD]; decide
  have hsz0 : Hid (Maps.size D = 0) := by show Maps.size D = 0; rw [← eD]; rfl
  have hc0 : 0 ≤ c := by omega
  have hc1 : c ≤ 1000000 := by omega
  rw [eD] at HC
  have HD := Lib.hid eD
  have hmk := run_makeHint
  clear hs htab eE eG eD ec
  go_enter Tryz.func39, Tryz.ntmps39
  go_wp2_with fail
  refine (CR.out _ (HT.out.below ((((Gr.refl w).alloc _).alloc _).alloc _)) (HS.out.below ((((Gr.refl w).alloc _).alloc _).alloc _))).mono ?_
  rintro e w1 ⟨a1, k1, c1, a2, k2, c2, rfl, hb1, hb2, hg1, hf1, hf2⟩
  simp only [World.size_alloc] at hf1 hf2
  have HF1 := Lib.hid hf1
  have HF2 := Lib.hid hf2
  clear hf1 hf2
  have hgw1 : Gr w w1 := ((((Gr.refl w).alloc _).alloc _).alloc _).trans hg1
  have hA := hg1.heap (Gr.heap (Gr.alloc (Gr.alloc (Gr.refl _) _) _) (heap_alloc_new w _))
  have hB := hg1.heap (Gr.heap (Gr.alloc (Gr.refl _) _) (heap_alloc_new _ _))
  have hC := hg1.heap (heap_alloc_new _ _)
  simp only [World.alloc, Array.size_push] at hB hC
  have HB1 := Lib.hid hb1
  have HB2 := Lib.hid hb2
  have HA := Lib.hid hA
  have HBB := Lib.hid hB
  have HCC := Lib.hid hC
  have hal := (Gr.refl w1).alloc (.cells #[.int .u8 (gm : Int), .int .u32 (go : Int), .int .u32 (gn : Int), .int .u8 (gd : Int), .slice a1 k1 c1, .int .u64 (gs : Int), .slice a2 k2 c2] 70)
  obtain ⟨p0, p1, p2, p3, p4, _⟩ := five_cells (hal.heap hA)
  have es2 : (w1.alloc (.cells #[.int .u8 (gm : Int), .int .u32 (go : Int), .int .u32 (gn : Int), .int .u8 (gd : Int), .slice a1 k1 c1, .int .u64 (gs : Int), .slice a2 k2 c2] 70)).heap.size = w1.heap.size + 1 := by simp
  have hgw2 := Lib.hid (hgw1.trans hal)
  have hwl := hgw1.size
  clear hg1 hb1 hb2 hB hC hA CR hal hgw1
  have hal3 := ((Gr.refl w1).alloc (.cells #[.int .u8 (gm : Int), .int .u32 (go : Int), .int .u32 (gn : Int), .int .u8 (gd : Int), .slice a1 k1 c1, .int .u64 (gs : Int), .slice a2 k2 c2] 70)).alloc (.map #[] 0)
  obtain ⟨q0, q1, q2, q3, q4, _⟩ := five_cells (hal3.heap HA.out)
  have hout3 := World.ownsMap_made (H := Unit) (w1.alloc (.cells #[.int .u8 (gm : Int), .int .u32 (go : Int), .int .u32 (gn : Int), .int .u8 (gd : Int), .slice a1 k1 c1, .int .u64 (gs : Int), .slice a2 k2 c2] 70)) Tryz.prog 35 (plainElem Tryz.prog 3)
  have es3 : ((w1.alloc (.cells #[.int .u8 (gm : Int), .int .u32 (go : Int), .int .u32 (gn : Int), .int .u8 (gd : Int), .slice a1 k1 c1, .int .u64 (gs : Int), .slice a2 k2 c2] 70)).alloc (.map #[] 0)).heap.size = w1.heap.size + 2 := by simp
  rw [es2] at hout3
  clear hal3
  have hrg := run_range_nilMap (P := Tryz.prog) ((w1.alloc (.cells #[.int .u8 (gm : Int), .int .u32 (go : Int), .int .u32 (gn : Int), .int .u8 (gd : Int), .slice a1 k1 c1, .int .u64 (gs : Int), .slice a2 k2 c2] 70)).alloc (.map #[] 0)) 73 35 3 Tryz.underlying73
  have hnxN : ∀ ty, (Instr.next (.pointer (some ⟨((w1.alloc (.cells #[.int .u8 (gm : Int), .int .u32 (go : Int), .int .u32 (gn : Int), .int .u8 (gd : Int), .slice a1 k1 c1, .int .u64 (gs : Int), .slice a2 k2 c2] 70)).alloc (.map #[] 0)).heap.size, 0, none⟩)) false ty).run Tryz.prog (((w1.alloc (.cells #[.int .u8 (gm : Int), .int .u32 (go : Int), .int .u32 (gn : Int), .int .u8 (gd : Int), .slice a1 k1 c1, .int .u64 (gs : Int), .slice a2 k2 c2] 70)).alloc (.map #[] 0)).alloc (.mapIter none 0 #[] 0)) = _ := fun ty => run_next_nilMap _ ty 0 0 #[]
  rw [es3] at hrg hnxN
  go_wp2
  refine wp_loop_rounds 1 ?_
  rw [rounds_succ]
  have houtD : CntMap (((w1.alloc (.cells #[.int .u8 (gm : Int), .int .u32 (go : Int), .int .u32 (gn : Int), .int .u8 (gd : Int), .slice a1 k1 c1, .int .u64 (gs : Int), .slice a2 k2 c2] 70)).alloc (.map #[] 0)).alloc (.mapIter none 0 #[] 0)) (w1.heap.size + 1) (Maps.size D) D := by
    rw [hsz0.out, ← HD.out]; exact CntMap.gr hout3 ((Gr.refl _).alloc _)
  have hnx : Gr (w1.alloc (.cells #[.int .u8 (gm : Int), .int .u32 (go : Int), .int .u32 (gn : Int), .int .u8 (gd : Int), .slice a1 k1 c1, .int .u64 (gs : Int), .slice a2 k2 c2] 70)) (((w1.alloc (.cells #[.int .u8 (gm : Int), .int .u32 (go : Int), .int .u32 (gn : Int), .int .u8 (gd : Int), .slice a1 k1 c1, .int .u64 (gs : Int), .slice a2 k2 c2] 70)).alloc (.map #[] 0)).alloc (.mapIter none 0 #[] 0)) := ((Gr.refl _).alloc _).alloc _
  have hms : Maps.size D < maxLen := by unfold maxLen; omega
  have hkey := keyOf_int_mk Tryz.underlying35 (WalkArith.wf_i64 ⟨by omega, by omega⟩ : (Lit.int .i64 (E : Int)).wf = true)
  have hwc' : (Lit.int .i64 (c + 1)).wf = true := WalkArith.wf_i64 ⟨by omega, by omega⟩
  go_wp2_with (first
    | (at_lookup; refine wpList_lookup_own_int _ rfl _ _ 73 rfl 35 3 .i64 cntLaw Tryz.underlying73 Tryz.underlying3 (zeroInt _) (w1.heap.size + 1) _ _ rfl houtD _ _ rfl hkey ?_; intro c' hat hwc; obtain rfl : c = c' := by (have := HC.out.symm.trans hat; simpa using this))
    | (at_mapUpdate; refine wpList_mapUpdate_own _ rfl _ _ _ 73 rfl 35 3 cntLaw Tryz.underlying73 _ (w1.heap.size + 1) _ _ rfl houtD hms _ _ _ rfl rfl hkey _ [] (plainElem_int Tryz.underlying3 hwc') ?_; intro w5 hout5 hg5; go_frame)
    | fail)
  have hgr5 : Gr (w1.alloc (.cells #[.int .u8 (gm : Int), .int .u32 (go : Int), .int .u32 (gn : Int), .int .u8 (gd : Int), .slice a1 k1 c1, .int .u64 (gs : Int), .slice a2 k2 c2] 70)) w5 := Gr.grown hnx hg5 (fun j hj => by cases hj; simp)
  have hg15 : Gr w1 w5 := Gr.trans ((Gr.refl w1).alloc _) hgr5
  have hA5 := hg15.heap HA.out
  have hB5 := Lib.hid (hg15.heap HBB.out)
  have hC5 := Lib.hid (hg15.heap HCC.out)
  have hR3 := lt_of_block HCC.out
  have hP5 := hgr5.heap (heap_alloc_new w1 (.cells #[.int .u8 (gm : Int), .int .u32 (go : Int), .int .u32 (gn : Int), .int .u8 (gd : Int), .slice a1 k1 c1, .int .u64 (gs : Int), .slice a2 k2 c2] 70))
  have HB15 := Lib.hid (HB1.out.below hg15)
  have HB25 := Lib.hid (HB2.out.below hg15)
  have HG5 := Lib.hid (hgw2.out.trans hgr5)
  have HO5 := Lib.hid hout5
  obtain ⟨x0, x1, x2, x3, x4, _⟩ := five_cells hA5
  obtain ⟨y0, y1, y2, y3, y4, y5, y6, _⟩ := seven_cells hP5
  have hup : Nonempty (Up (StC (w.heap.size + 1) (w.heap.size + 1 + 1) (.cells #[.int .i64 0, .int .i64 0, .int .i64 0, .int .u32 0, .map none] 75) (.cells #[.int .i64 n, .int .i64 s, .int .i64 q, .int .u32 (id : Int), .map (some (w1.heap.size + 1))] 75) (.cells #[.int .u8 0, .int .u32 0, .int .u32 0, .int .u8 0, .slice none 0 0, .int .u64 0, .slice none 0 0] 70) (.cells #[.int .u8 (gm : Int), .int .u32 (go : Int), .int .u32 (gn : Int), .int .u8 (gd : Int), .slice a1 k1 c1, .int .u64 (gs : Int), .slice a2 k2 c2] 70)) w5.drew) := ⟨⟨_, StC.refl _ _ _ _ _ _ _⟩⟩
  have u0 : ∀ x : Up (StC (w.heap.size + 1) (w.heap.size + 1 + 1) (.cells #[.int .i64 0, .int .i64 0, .int .i64 0, .int .u32 0, .map none] 75) (.cells #[.int .i64 n, .int .i64 s, .int .i64 q, .int .u32 (id : Int), .map (some (w1.heap.size + 1))] 75) (.cells #[.int .u8 0, .int .u32 0, .int .u32 0, .int .u8 0, .slice none 0 0, .int .u64 0, .slice none 0 0] 70) (.cells #[.int .u8 (gm : Int), .int .u32 (go : Int), .int .u32 (gn : Int), .int .u8 (gd : Int), .slice a1 k1 c1, .int .u64 (gs : Int), .slice a2 k2 c2] 70)) w5.drew, x.w.cell? ⟨w.heap.size, 0, none⟩ = some (.int .i64 n) := fun x => GrC.cell x.rel.1 (Gr.cell (Gr.refl _).drew x0) (by show w.heap.size ≠ _; omega) (by show w.heap.size ≠ _; omega)
  have u1 : ∀ x : Up (StC (w.heap.size + 1) (w.heap.size + 1 + 1) (.cells #[.int .i64 0, .int .i64 0, .int .i64 0, .int .u32 0, .map none] 75) (.cells #[.int .i64 n, .int .i64 s, .int .i64 q, .int .u32 (id : Int), .map (some (w1.heap.size + 1))] 75) (.cells #[.int .u8 0, .int .u32 0, .int .u32 0, .int .u8 0, .slice none 0 0, .int .u64 0, .slice none 0 0] 70) (.cells #[.int .u8 (gm : Int), .int .u32 (go : Int), .int .u32 (gn : Int), .int .u8 (gd : Int), .slice a1 k1 c1, .int .u64 (gs : Int), .slice a2 k2 c2] 70)) w5.drew, x.w.cell? ⟨w.heap.size, 1, none⟩ = some (.int .i64 s) := fun x => GrC.cell x.rel.1 (Gr.cell (Gr.refl _).drew x1) (by show w.heap.size ≠ _; omega) (by show w.heap.size ≠ _; omega)
  have u2 : ∀ x : Up (StC (w.heap.size + 1) (w.heap.size + 1 + 1) (.cells #[.int .i64 0, .int .i64 0, .int .i64 0, .int .u32 0, .map none] 75) (.cells #[.int .i64 n, .int .i64 s, .int .i64 q, .int .u32 (id : Int), .map (some (w1.heap.size + 1))] 75) (.cells #[.int .u8 0, .int .u32 0, .int .u32 0, .int .u8 0, .slice none 0 0, .int .u64 0, .slice none 0 0] 70) (.cells #[.int .u8 (gm : Int), .int .u32 (go : Int), .int .u32 (gn : Int), .int .u8 (gd : Int), .slice a1 k1 c1, .int .u64 (gs : Int), .slice a2 k2 c2] 70)) w5.drew, x.w.cell? ⟨w.heap.size, 2, none⟩ = some (.int .i64 q) := fun x => GrC.cell x.rel.1 (Gr.cell (Gr.refl _).drew x2) (by show w.heap.size ≠ _; omega) (by show w.heap.size ≠ _; omega)
  have u3 : ∀ x : Up (StC (w.heap.size + 1) (w.heap.size + 1 + 1) (.cells #[.int .i64 0, .int .i64 0, .int .i64 0, .int .u32 0, .map none] 75) (.cells #[.int .i64 n, .int .i64 s, .int .i64 q, .int .u32 (id : Int), .map (some (w1.heap.size + 1))] 75) (.cells #[.int .u8 0, .int .u32 0, .int .u32 0, .int .u8 0, .slice none 0 0, .int .u64 0, .slice none 0 0] 70) (.cells #[.int .u8 (gm : Int), .int .u32 (go : Int), .int .u32 (gn : Int), .int .u8 (gd : Int), .slice a1 k1 c1, .int .u64 (gs : Int), .slice a2 k2 c2] 70)) w5.drew, x.w.cell? ⟨w.heap.size, 3, none⟩ = some (.int .u32 (id : Int)) := fun x => GrC.cell x.rel.1 (Gr.cell (Gr.refl _).drew x3) (by show w.heap.size ≠ _; omega) (by show w.heap.size ≠ _; omega)
  have v0 : ∀ x : Up (StC (w.heap.size + 1) (w.heap.size + 1 + 1) (.cells #[.int .i64 0, .int .i64 0, .int .i64 0, .int .u32 0, .map none] 75) (.cells #[.int .i64 n, .int .i64 s, .int .i64 q, .int .u32 (id : Int), .map (some (w1.heap.size + 1))] 75) (.cells #[.int .u8 0, .int .u32 0, .int .u32 0, .int .u8 0, .slice none 0 0, .int .u64 0, .slice none 0 0] 70) (.cells #[.int .u8 (gm : Int), .int .u32 (go : Int), .int .u32 (gn : Int), .int .u8 (gd : Int), .slice a1 k1 c1, .int .u64 (gs : Int), .slice a2 k2 c2] 70)) w5.drew, x.w.cell? ⟨w1.heap.size, 0, none⟩ = some (.int .u8 (gm : Int)) := fun x => GrC.cell x.rel.1 (Gr.cell (Gr.refl _).drew y0) (by show w1.heap.size ≠ _; omega) (by show w1.heap.size ≠ _; omega)
  have v1 : ∀ x : Up (StC (w.heap.size + 1) (w.heap.size + 1 + 1) (.cells #[.int .i64 0, .int .i64 0, .int .i64 0, .int .u32 0, .map none] 75) (.cells #[.int .i64 n, .int .i64 s, .int .i64 q, .int .u32 (id : Int), .map (some (w1.heap.size + 1))] 75) (.cells #[.int .u8 0, .int .u32 0, .int .u32 0, .int .u8 0, .slice none 0 0, .int .u64 0, .slice none 0 0] 70) (.cells #[.int .u8 (gm : Int), .int .u32 (go : Int), .int .u32 (gn : Int), .int .u8 (gd : Int), .slice a1 k1 c1, .int .u64 (gs : Int), .slice a2 k2 c2] 70)) w5.drew, x.w.cell? ⟨w1.heap.size, 1, none⟩ = some (.int .u32 (go : Int)) := fun x => GrC.cell x.rel.1 (Gr.cell (Gr.refl _).drew y1) (by show w1.heap.size ≠ _; omega) (by show w1.heap.size ≠ _; omega)
  have v2 : ∀ x : Up (StC (w.heap.size + 1) (w.heap.size + 1 + 1) (.cells #[.int .i64 0, .int .i64 0, .int .i64 0, .int .u32 0, .map none] 75) (.cells #[.int .i64 n, .int .i64 s, .int .i64 q, .int .u32 (id : Int), .map (some (w1.heap.size + 1))] 75) (.cells #[.int .u8 0, .int .u32 0, .int .u32 0, .int .u8 0, .slice none 0 0, .int .u64 0, .slice none 0 0] 70) (.cells #[.int .u8 (gm : Int), .int .u32 (go : Int), .int .u32 (gn : Int), .int .u8 (gd : Int), .slice a1 k1 c1, .int .u64 (gs : Int), .slice a2 k2 c2] 70)) w5.drew, x.w.cell? ⟨w1.heap.size, 2, none⟩ = some (.int .u32 (gn : Int)) := fun x => GrC.cell x.rel.1 (Gr.cell (Gr.refl _).drew y2) (by show w1.heap.size ≠ _; omega) (by show w1.heap.size ≠ _; omega)
  have v3 : ∀ x : Up (StC (w.heap.size + 1) (w.heap.size + 1 + 1) (.cells #[.int .i64 0, .int .i64 0, .int .i64 0, .int .u32 0, .map none] 75) (.cells #[.int .i64 n, .int .i64 s, .int .i64 q, .int .u32 (id : Int), .map (some (w1.heap.size + 1))] 75) (.cells #[.int .u8 0, .int .u32 0, .int .u32 0, .int .u8 0, .slice none 0 0, .int .u64 0, .slice none 0 0] 70) (.cells #[.int .u8 (gm : Int), .int .u32 (go : Int), .int .u32 (gn : Int), .int .u8 (gd : Int), .slice a1 k1 c1, .int .u64 (gs : Int), .slice a2 k2 c2] 70)) w5.drew, x.w.cell? ⟨w1.heap.size, 3, none⟩ = some (.int .u8 (gd : Int)) := fun x => GrC.cell x.rel.1 (Gr.cell (Gr.refl _).drew y3) (by show w1.heap.size ≠ _; omega) (by show w1.heap.size ≠ _; omega)
  have v4 : ∀ x : Up (StC (w.heap.size + 1) (w.heap.size + 1 + 1) (.cells #[.int .i64 0, .int .i64 0, .int .i64 0, .int .u32 0, .map none] 75) (.cells #[.int .i64 n, .int .i64 s, .int .i64 q, .int .u32 (id : Int), .map (some (w1.heap.size + 1))] 75) (.cells #[.int .u8 0, .int .u32 0, .int .u32 0, .int .u8 0, .slice none 0 0, .int .u64 0, .slice none 0 0] 70) (.cells #[.int .u8 (gm : Int), .int .u32 (go : Int), .int .u32 (gn : Int), .int .u8 (gd : Int), .slice a1 k1 c1, .int .u64 (gs : Int), .slice a2 k2 c2] 70)) w5.drew, x.w.cell? ⟨w1.heap.size, 4, none⟩ = some (.slice a1 k1 c1) := fun x => GrC.cell x.rel.1 (Gr.cell (Gr.refl _).drew y4) (by show w1.heap.size ≠ _; omega) (by show w1.heap.size ≠ _; omega)
  have v5 : ∀ x : Up (StC (w.heap.size + 1) (w.heap.size + 1 + 1) (.cells #[.int .i64 0, .int .i64 0, .int .i64 0, .int .u32 0, .map none] 75) (.cells #[.int .i64 n, .int .i64 s, .int .i64 q, .int .u32 (id : Int), .map (some (w1.heap.size + 1))] 75) (.cells #[.int .u8 0, .int .u32 0, .int .u32 0, .int .u8 0, .slice none 0 0, .int .u64 0, .slice none 0 0] 70) (.cells #[.int .u8 (gm : Int), .int .u32 (go : Int), .int .u32 (gn : Int), .int .u8 (gd : Int), .slice a1 k1 c1, .int .u64 (gs : Int), .slice a2 k2 c2] 70)) w5.drew, x.w.cell? ⟨w1.heap.size, 5, none⟩ = some (.int .u64 (gs : Int)) := fun x => GrC.cell x.rel.1 (Gr.cell (Gr.refl _).drew y5) (by show w1.heap.size ≠ _; omega) (by show w1.heap.size ≠ _; omega)
  have v6 : ∀ x : Up (StC (w.heap.size + 1) (w.heap.size + 1 + 1) (.cells #[.int .i64 0, .int .i64 0, .int .i64 0, .int .u32 0, .map none] 75) (.cells #[.int .i64 n, .int .i64 s, .int .i64 q, .int .u32 (id : Int), .map (some (w1.heap.size + 1))] 75) (.cells #[.int .u8 0, .int .u32 0, .int .u32 0, .int .u8 0, .slice none 0 0, .int .u64 0, .slice none 0 0] 70) (.cells #[.int .u8 (gm : Int), .int .u32 (go : Int), .int .u32 (gn : Int), .int .u8 (gd : Int), .slice a1 k1 c1, .int .u64 (gs : Int), .slice a2 k2 c2] 70)) w5.drew, x.w.cell? ⟨w1.heap.size, 6, none⟩ = some (.slice a2 k2 c2) := fun x => GrC.cell x.rel.1 (Gr.cell (Gr.refl _).drew y6) (by show w1.heap.size ≠ _; omega) (by show w1.heap.size ≠ _; omega)
  clear x0 x1 x2 x3 x4 y0 y1 y2 y3 y4 y5 y6 hA5 hP5 hg15 hgr5 hg5 hnx hout5
  refine wp_region_rg [.reck, .reck, .reck, .reck, .reck, .reck, .any Unit () (fun _ => undef) (fun _ w' => w'.heap[w.heap.size + 1]? = some (.cells #[.int .i64 n, .int .i64 s, .int .i64 q, .int .u32 (id : Int), .map (some (w1.heap.size + 1))] 75)), .any Unit () (fun _ => undef) (fun _ w' => w'.heap[w.heap.size + 1 + 1]? = some (.cells #[.int .u8 (gm : Int), .int .u32 (go : Int), .int .u32 (gn : Int), .int .u8 (gd : Int), .slice a1 k1 c1, .int .u64 (gs : Int), .slice a2 k2 c2] 70))] (StC (w.heap.size + 1) (w.heap.size + 1 + 1) (.cells #[.int .i64 0, .int .i64 0, .int .i64 0, .int .u32 0, .map none] 75) (.cells #[.int .i64 n, .int .i64 s, .int .i64 q, .int .u32 (id : Int), .map (some (w1.heap.size + 1))] 75) (.cells #[.int .u8 0, .int .u32 0, .int .u32 0, .int .u8 0, .slice none 0 0, .int .u64 0, .slice none 0 0] 70) (.cells #[.int .u8 (gm : Int), .int .u32 (go : Int), .int .u32 (gn : Int), .int .u8 (gd : Int), .slice a1 k1 c1, .int .u64 (gs : Int), .slice a2 k2 c2] 70)) (by kernel_rfl) (by kernel_rfl) (StC.refl _ _ _ _ _ _) StC.trans ?_
  (refine wpRG_reck rfl (fun K hK => ?_); go_big_quiet_op; refine hK _ ?_; clear hK K)
  (refine wpRG_reck rfl (fun K hK => ?_); go_big_quiet_op; refine hK _ ?_; clear hK K)
  (refine wpRG_reck rfl (fun K hK => ?_); go_big_quiet_op; refine hK _ ?_; clear hK K)
  (refine wpRG_reck rfl (fun K hK => ?_); go_big_quiet_op; refine hK _ ?_; clear hK K)
  (refine wpRG_reck rfl (fun K hK => ?_); go_big_quiet_op; refine hK _ ?_; clear hK K)
  (refine wpRG_reck rfl (fun K hK => ?_); go_big_quiet_op; refine hK _ ?_; clear hK K)
  refine wpRG_any rfl (fun x w w' hg h => hg.2.1.2 h) (fun W hw hF R hR => ?_) ?_
  · rcases hw.2.1.1 hB5.out with h | h
    · obtain ⟨cc0, cc1, cc2, cc3, cc4, ff0⟩ := five_cells h
      have H3 := Lib.hid (five_set h (.int .i64 n) (.int .i64 s) (.int .i64 q) (.int .u32 (id : Int)) (.map (some (w1.heap.size + 1))))
      clear h hw
      (have HF := Lib.hid hF; clear hF; unfold rgAt; go_simp)
      exact hR () _ (StC.first H3.out.1 H3.out.2 (by omega)) H3.out.2
    · obtain ⟨cc0, cc1, cc2, cc3, cc4, ff0⟩ := five_cells h
      have H3 := Lib.hid (five_set h (.int .i64 n) (.int .i64 s) (.int .i64 q) (.int .u32 (id : Int)) (.map (some (w1.heap.size + 1))))
      clear h hw
      (have HF := Lib.hid hF; clear hF; unfold rgAt; go_simp)
      exact hR () _ (StC.first H3.out.1 H3.out.2 (by omega)) H3.out.2
  rintro ⟨⟩
  (simp only [Act.put])
  refine wpRG_any rfl (fun x w w' hg h => hg.2.2.2 h) (fun W hw hF R hR => ?_) ?_
  · rcases hw.2.2.1 hC5.out with h | h
    · obtain ⟨cc0, cc1, cc2, cc3, cc4, cc5, cc6, ff0⟩ := seven_cells h
      have H3 := Lib.hid (seven_set h (.int .u8 (gm : Int)) (.int .u32 (go : Int)) (.int .u32 (gn : Int)) (.int .u8 (gd : Int)) (.slice a1 k1 c1) (.int .u64 (gs : Int)) (.slice a2 k2 c2))
      clear h hw
      (have HF := Lib.hid hF; clear hF; unfold rgAt; go_simp)
      exact hR () _ (StC.second (grb_seven _ _ _ _ _ _ _ _ _) H3.out (by omega)) H3.out
    · obtain ⟨cc0, cc1, cc2, cc3, cc4, cc5, cc6, ff0⟩ := seven_cells h
      have H3 := Lib.hid (seven_set h (.int .u8 (gm : Int)) (.int .u32 (go : Int)) (.int .u32 (gn : Int)) (.int .u8 (gd : Int)) (.slice a1 k1 c1) (.int .u64 (gs : Int)) (.slice a2 k2 c2))
      clear h hw
      (have HF := Lib.hid hF; clear hF; unfold rgAt; go_simp)
      exact hR () _ (StC.second (grb_seven _ _ _ _ _ _ _ _ _) H3.out (by omega)) H3.out
  rintro ⟨⟩
  (simp only [Act.put])
  refine wpRG_end fun W' hw hF => ?_
  have f5 : W'.heap[w.heap.size + 1]? = some (.cells #[.int .i64 n, .int .i64 s, .int .i64 q, .int .u32 (id : Int), .map (some (w1.heap.size + 1))] 75) := hF 6
  have f7 : W'.heap[w.heap.size + 1 + 1]? = some (.cells #[.int .u8 (gm : Int), .int .u32 (go : Int), .int .u32 (gn : Int), .int .u8 (gd : Int), .slice a1 k1 c1, .int .u64 (gs : Int), .slice a2 k2 c2] 70) := hF 7
  obtain ⟨r0, r1, r2, r3, r4, _⟩ := five_cells f5
  obtain ⟨s0, s1, s2, s3, s4, s5, s6, _⟩ := seven_cells f7
  have hgW : Gr w W' := GrC.gr HG5.out.drew hw.1 (by omega) (by omega)
  have hOW := CntMap.grc (CntMap.gr HO5.out (Gr.refl _).drew) hw.1 (by omega) (by omega)
  have hBW1 := (HB15.out.below (Gr.refl _).drew).grc hw.1 (fun x hx => by have := HF1.out x hx; omega) (fun x hx => by have := HF1.out x hx; omega)
  have hBW2 := (HB25.out.below (Gr.refl _).drew).grc hw.1 (fun x hx => by have := HF2.out x hx; omega) (fun x hx => by have := HF2.out x hx; omega)
  have FIN := Lib.hid (And.intro hOW (And.intro hBW1 (And.intro hBW2 hgW)))
  clear hw hF u0 u1 u2 u3 v0 v1 v2 v3 v4 v5 v6 hup f5 f7 hgW hOW hBW1 hBW2
  go_wp2
  refine bodyPost_ret (v := .tuple #[.agg #[.int .i64 n, .int .i64 s, .int .i64 q, .int .u32 (id : Int), .map (some (w1.heap.size + 1))], .agg #[.int .u8 (gm : Int), .int .u32 (go : Int), .int .u32 (gn : Int), .int .u8 (gd : Int), .slice a1 k1 c1, .int .u64 (gs : Int), .slice a2 k2 c2], .int .i64 (E : Int)]) ?_ rfl ⟨w1.heap.size + 1, a1, k1, c1, a2, k2, c2, rfl, FIN.out⟩
  simp [results, Tryz.results39, go_sem, r0, r1, r2, r3, r4, s0, s1, s2, s3, s4, s5, s6]
theorem gateLook_nil (n s q : Int) (id : Nat) (hlo : -9223372036854775808 ≤ n) (hm : n ≤ 9223372036854775807) (hsl : -9223372036854775808 ≤ s) (hsm : s ≤ 9223372036854775807) (a : Option Addr) (len cap : Nat) (l : List UInt8) (w : World) (htab : Tab w) (hs : Bs w a len cap l) (hmx : len ≤ 140737488355328) :
    Calls Tryz.prog 39 #[.agg #[.int .i64 n, .int .i64 s, .int .i64 q, .int .u32 (id : Int), .map none], .slice a len cap] w fun e w' => ∃ g a1 k1 c1 a2 k2 c2, e = .returned (.tuple #[.agg #[.int .i64 n, .int .i64 s, .int .i64 q, .int .u32 (id : Int), .map (some g)], .agg #[.int .u8 ((packGot n s q id l).m : Int), .int .u32 ((packGot n s q id l).o : Int), .int .u32 ((packGot n s q id l).nn : Int), .int .u8 ((packGot n s q id l).md : Int), .slice a1 k1 c1, .int .u64 ((packGot n s q id l).sd : Int), .slice a2 k2 c2], .int .i64 (packErr n s q id l : Nat)]) ∧
      CntMap w' g 1 ((DataW.map [] : DataW Unit).put (.int .i64 (packErr n s q id l : Nat)) (.lit (.int .i64 1))) ∧ Bs w' a1 k1 c1 (packGot n s q id l).lb ∧ Bs w' a2 k2 c2 (packGot n s q id l).lp ∧ Gr w w' := by
  have := gateLook_nilD n s q id hlo hm hsl hsm a len cap l w htab hs hmx (.map []) rfl 0 rfl
  exact this
end Go.Proofs.YtdmijoochgmhiaaGreatDoor
