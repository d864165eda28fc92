/-
  The walks of gate.New and gate.Gate.Count; how many bytes a law of gates goes through.
-/
import Derived.Test.YtdmijoochgmhiaaGreatDoorPacketRead
import Derived.Test.YtdmijoochgmhiaaGreatDoorUp
import Derived.Maps.OwnOps
import Derived.Maps.Ext
namespace Go.Proofs.YtdmijoochgmhiaaGreatDoor
open Go.RowKit Go.Maps
set_option linter.unusedVariables false

theorem five_cells {W : World} {R : Nat} {v0 v1 v2 v3 v4 : Value} {t : TypeId} (h : W.heap[R]? = some (.cells #[v0, v1, v2, v3, v4] t)) :
    W.cell? ⟨R, 0, none⟩ = some v0 ∧ W.cell? ⟨R, 1, none⟩ = some v1 ∧ W.cell? ⟨R, 2, none⟩ = some v2 ∧ W.cell? ⟨R, 3, none⟩ = some v3 ∧ W.cell? ⟨R, 4, none⟩ = some v4 ∧ ∀ i, W.frozen? ⟨R, i, none⟩ = false := by
  refine ⟨?_, ?_, ?_, ?_, ?_, fun i => ?_⟩ <;> simp [World.cell?, World.frozen?, h]
theorem five_set {W : World} {R : Nat} {v0 v1 v2 v3 v4 : Value} {t : TypeId} (h : W.heap[R]? = some (.cells #[v0, v1, v2, v3, v4] t)) (u0 u1 u2 u3 u4 : Value) :
    GrB W R (((((W.setCell ⟨R, 0, none⟩ u0).setCell ⟨R, 1, none⟩ u1).setCell ⟨R, 2, none⟩ u2).setCell ⟨R, 3, none⟩ u3).setCell ⟨R, 4, none⟩ u4) ∧
    (((((W.setCell ⟨R, 0, none⟩ u0).setCell ⟨R, 1, none⟩ u1).setCell ⟨R, 2, none⟩ u2).setCell ⟨R, 3, none⟩ u3).setCell ⟨R, 4, none⟩ u4).heap[R]? = some (.cells #[u0, u1, u2, u3, u4] t) := by
  refine ⟨((((((GrB.refl W R).set (.inl rfl) _).set (.inl rfl) _).set (.inl rfl) _).set (.inl rfl) _).set (.inl rfl) _), ?_⟩
  have h5 := heap_set (i := 4) (heap_set (i := 3) (heap_set (i := 2) (heap_set (i := 1) (heap_set (i := 0) h u0) u1) u2) u3) u4
  simpa only [List.setIfInBounds_toArray, List.set_cons_zero, List.set_cons_succ] using h5

set_option maxRecDepth 100000 in
set_option maxHeartbeats 1000000 in
theorem gateNew_ok (n s q : Int) (id : Nat) (hlo : -9223372036854775808 ≤ n) (hm : n ≤ 9223372036854775807) (hsl : -9223372036854775808 ≤ s) (hsm : s ≤ 9223372036854775807) (hP : planErr n s q = 0) (w : World) :
    Calls Tryz.prog 37 #[.agg #[.int .i64 n, .int .i64 s, .int .i64 q, .int .u32 (id : Int)]] w fun e w' => e = .returned (.tuple #[.agg #[.int .i64 n, .int .i64 s, .int .i64 q, .int .u32 (id : Int), .map none], .int .i64 0]) ∧ Gr w w' := by
  have CC := planCheck_any n s q id hlo hm hsl hsm
  rw [hP] at CC
  have HC := Lib.hid CC
  clear CC hP
  go_enter Tryz.func37, Tryz.ntmps37
  go_wp2_with fail
  refine (HC.out _).mono ?_
  rintro e w1 ⟨rfl, hg⟩
  have hgw := (((Gr.refl w).alloc _).alloc _).trans hg
  have hA := hg.heap (Gr.heap (Gr.alloc (Gr.refl _) _) (heap_alloc_new w _))
  have hB := hg.heap (heap_alloc_new _ _)
  simp only [World.alloc, Array.size_push] at hB
  obtain ⟨p0, p1, p2, p3⟩ := p_four_cells hA
  obtain ⟨x0, x1, x2, x3, x4, xf⟩ := five_cells hB
  obtain ⟨hgb, hh⟩ := five_set hB (.int .i64 n) (.int .i64 s) (.int .i64 q) (.int .u32 (id : Int)) (.map none)
  have HG := Lib.hid (hgw.grb hgb (by omega))
  obtain ⟨y0, y1, y2, y3, y4, _⟩ := five_cells hh
  clear hg hA hB hgb hh hgw
  go_wp2
  refine bodyPost_ret (v := .tuple #[.agg #[.int .i64 n, .int .i64 s, .int .i64 q, .int .u32 (id : Int), .map none], .int .i64 0]) ?_ rfl ⟨rfl, HG.out⟩
  simp [results, Tryz.results37, go_sem, y0, y1, y2, y3, y4]

set_option maxRecDepth 100000 in
set_option maxHeartbeats 1000000 in
theorem gateNew_bad (n s q : Int) (id : Nat) (hlo : -9223372036854775808 ≤ n) (hm : n ≤ 9223372036854775807) (hsl : -9223372036854775808 ≤ s) (hsm : s ≤ 9223372036854775807) (hP : planErr n s q ≠ 0) (w : World) :
    Calls Tryz.prog 37 #[.agg #[.int .i64 n, .int .i64 s, .int .i64 q, .int .u32 (id : Int)]] w fun e w' => e = .returned (.tuple #[.agg #[.int .i64 0, .int .i64 0, .int .i64 0, .int .u32 0, .map none], .int .i64 (planErr n s q : Nat)]) ∧ Gr w w' := by
  have CC := planCheck_any n s q id hlo hm hsl hsm
  obtain ⟨E, hE⟩ : ∃ E, planErr n s q = E := ⟨_, rfl⟩
  rw [hE] at CC hP ⊢
  have HC := Lib.hid CC
  have ht : ((E : Int) != 0) = true := by rw [bne_iff_ne]; omega
  clear CC hP hE
  go_enter Tryz.func37, Tryz.ntmps37
  go_wp2_with fail
  refine (HC.out _).mono ?_
  rintro e w1 ⟨rfl, hg⟩
  have hgw := (((Gr.refl w).alloc _).alloc _).trans hg
  have hB := hg.heap (heap_alloc_new _ _)
  simp only [World.alloc, Array.size_push] at hB
  obtain ⟨x0, x1, x2, x3, x4, xf⟩ := five_cells hB
  obtain ⟨hgb, hh⟩ := five_set hB (.int .i64 0) (.int .i64 0) (.int .i64 0) (.int .u32 0) (.map none)
  have HG := Lib.hid (hgw.grb hgb (by omega))
  obtain ⟨y0, y1, y2, y3, y4, _⟩ := five_cells hh
  clear hg hB hgb hh hgw
  go_wp2
  refine bodyPost_ret (v := .tuple #[.agg #[.int .i64 0, .int .i64 0, .int .i64 0, .int .u32 0, .map none], .int .i64 (E : Int)]) ?_ rfl ⟨rfl, HG.out⟩
  simp [results, Tryz.results37, go_sem, y0, y1, y2, y3, y4]

/-- THE COUNTS OF A GATE: block b is a map of ints. -/
abbrev CntMap (w : World) (b n : Nat) (D : DataW Unit) : Prop := w.ownsMap Tryz.prog 35 (plainElem Tryz.prog 3) b n D
theorem cntLaw : Keyed Tryz.prog 35 := int_keyed Tryz.underlying35
theorem zeroInt (w : World) : (zeroValue 3).run Tryz.prog w = .ok (.int .i64 0) w := by kernel_rfl
theorem CntMap.gr {w w' : World} {b n : Nat} {D : DataW Unit} (h : CntMap w b n D) (hg : Gr w w') : CntMap w' b n D := by
  obtain ⟨es, clock, hb, r⟩ := h
  exact ⟨es, clock, hg.heap hb, r⟩

set_option maxRecDepth 100000 in
set_option maxHeartbeats 1000000 in
theorem gateCount_own (n s q : Int) (id : Nat) (b k : Nat) (D : DataW Unit) (e : Int) (he : (Lit.int .i64 e).wf = true) (w : World) (h : CntMap w b k D) :
    Calls Tryz.prog 26 #[.agg #[.int .i64 n, .int .i64 s, .int .i64 q, .int .u32 (id : Int), .map (some b)], .int .i64 e] w fun e' w' => ∃ c : Int, e' = .returned (.int .i64 c) ∧ D.atKey (.int .i64 e) (.lit (.int .i64 0)) = .lit (.int .i64 c) ∧ Gr w w' := by
  have hown := CntMap.gr h ((Gr.refl w).alloc (.cells #[.int .i64 n, .int .i64 s, .int .i64 q, .int .u32 (id : Int), .map (some b)] 75))
  have hkey := keyOf_int_mk Tryz.underlying35 he
  go_enter Tryz.func26, Tryz.ntmps26
  go_wp2_with (at_lookup; refine wpList_lookup_own_int _ rfl _ _ 73 rfl 35 3 .i64 cntLaw Tryz.underlying73 Tryz.underlying3 (zeroInt _) b k _ rfl hown _ _ rfl hkey ?_; intro c hat hwc)
  go_wp2
  go_ret
  exact ⟨c, rfl, hat, (Gr.refl w).alloc _⟩
end Go.Proofs.YtdmijoochgmhiaaGreatDoor
