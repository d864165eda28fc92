/-
  The walks of law 19's Small, and of the top laws' small.
  Sources that come in: few; sent: the packets of an object, by each source that may be.
-/
import Derived.Test.YtddopoojmadpjaaGreatDoorPlan
import Derived.Test.YtddopoojmadpjaaGreatDoorGate
import Derived.Test.YtddopoojmadpjaaGreatDoorSum
import Derived.Deep.RegionHeld3
import Derived.Test.YtddopoojmadpjaaGreatDoorSend
import Derived.Test.YtddopoojmadpjaaGreatDoorRowsV
namespace Go.Proofs.YtddopoojmadpjaaGreatDoor
open Go.RowKit
set_option linter.unusedVariables false

theorem four_all {W : World} {R : Nat} {v0 v1 v2 v3 : Value} {t : TypeId} (h : W.heap[R]? = some (.cells #[v0, v1, v2, v3] t)) :
    W.cell? ⟨R, 0, none⟩ = some v0 ∧ W.cell? ⟨R, 1, none⟩ = some v1 ∧ W.cell? ⟨R, 2, none⟩ = some v2 ∧ W.cell? ⟨R, 3, none⟩ = some v3 ∧ ∀ i, W.frozen? ⟨R, i, none⟩ = false := by
  refine ⟨?_, ?_, ?_, ?_, fun i => ?_⟩ <;> simp [World.cell?, World.frozen?, h]
def smallB (s q : Nat) : Bool := decide (q ≤ 12 ∧ s ≤ 20)
set_option maxRecDepth 100000 in
set_option maxHeartbeats 2000000 in
theorem law19Small_ok (n s q id : Nat) (hP : planErr n s q = 0) (hnm : n ≤ 9223372036854775807) (w : World) :
    Calls Tryz.prog 30 #[.agg #[.int .i64 (n : Int), .int .i64 (s : Int), .int .i64 (q : Int), .int .u32 (id : Int)]] w fun e w' => e = .returned (.bool (smallB s q)) ∧ Gr w w' := by
  obtain ⟨e1, e2⟩ := planErr_zero hP
  obtain ⟨f1, f2, f3, f4⟩ := planFit_zero e1
  have CP := Lib.hid fun w => planCheck_any n s q id (by omega) (by omega) (by omega) (by omega) w
  rw [hP] at CP
  have hal := (Gr.refl w).alloc (.cells #[.int .i64 (n : Int), .int .i64 (s : Int), .int .i64 (q : Int), .int .u32 (id : Int)] 28)
  have HP := Lib.hid (heap_alloc_new w (.cells #[.int .i64 (n : Int), .int .i64 (s : Int), .int .i64 (q : Int), .int .u32 (id : Int)] 28))
  have HAL := Lib.hid hal
  clear hP e1 e2 f1 f2 f3 f4 hal
  by_cases h1 : q ≤ 12
  · by_cases h2 : s ≤ 20
    · have HB : Hid (smallB s q = true) := by show _ = _; unfold smallB; exact decide_eq_true ⟨h1, h2⟩
      have h1i : (q : Int) ≤ 12 := by omega
      have h2i : (s : Int) ≤ 20 := by omega
      go_enter Tryz.func30, Tryz.ntmps30
      go_wp2_with fail
      refine (CP.out _).mono ?_
      rintro e w1 ⟨rfl, hg⟩
      obtain ⟨p0, p1, p2, p3⟩ := p_four_cells (hg.heap HP.out)
      have HW := Lib.hid (HAL.out.trans hg)
      clear hg
      go_wp2
      first | go_ret | go_ret2
      exact ⟨by rw [HB.out]; rfl, HW.out⟩
    · have HB : Hid (smallB s q = false) := by show _ = _; unfold smallB; exact decide_eq_false fun h => h2 h.2
      have h1i : (q : Int) ≤ 12 := by omega
      have h2i : ¬ (s : Int) ≤ 20 := by omega
      go_enter Tryz.func30, Tryz.ntmps30
      go_wp2_with fail
      refine (CP.out _).mono ?_
      rintro e w1 ⟨rfl, hg⟩
      obtain ⟨p0, p1, p2, p3⟩ := p_four_cells (hg.heap HP.out)
      have HW := Lib.hid (HAL.out.trans hg)
      clear hg
      go_wp2
      first | go_ret | go_ret2
      exact ⟨by rw [HB.out]; show Ending.returned (.bool (decide ((s : Int) ≤ 20))) = _; rw [decide_eq_false (Int.not_le.2 h2i)], HW.out⟩
  · have HB : Hid (smallB s q = false) := by show _ = _; unfold smallB; exact decide_eq_false fun h => h1 h.1
    have h1i : ¬ (q : Int) ≤ 12 := by omega
    go_enter Tryz.func30, Tryz.ntmps30
    go_wp2_with fail
    refine (CP.out _).mono ?_
    rintro e w1 ⟨rfl, hg⟩
    obtain ⟨p0, p1, p2, p3⟩ := p_four_cells (hg.heap HP.out)
    have HW := Lib.hid (HAL.out.trans hg)
    clear hg
    go_wp2
    first | go_ret | go_ret2
    exact ⟨by rw [HB.out]; rfl, HW.out⟩

set_option maxRecDepth 100000 in
set_option maxHeartbeats 2000000 in
theorem small_ok (n s q id : Nat) (hP : planErr n s q = 0) (hnm : n ≤ 9223372036854775807) (ao : Option Addr) (co : Nat) (w : World)
    (CO : ∀ w, Calls Tryz.prog 28 #[.int .i64 (n : Int), .int .i64 (s : Int), .int .u32 (id : Int)] w fun e w' => e = .returned (.tuple #[.agg #[.int .i64 (n : Int), .int .i64 (s : Int), .int .i64 (q : Int), .int .u32 (id : Int)], .int .i64 0]) ∧ Gr w w') :
    Calls Tryz.prog 7 #[.slice ao n co, .int .i64 (s : Int), .int .u32 (id : Int)] w fun e w' => e = .returned (.tuple #[.agg #[.int .i64 (n : Int), .int .i64 (s : Int), .int .i64 (q : Int), .int .u32 (id : Int)], .bool (smallB s q)]) ∧ Gr w w' := by
  have HS := Lib.hid fun w => law19Small_ok n s q id hP hnm w
  have HCO := Lib.hid CO
  obtain ⟨B, eB⟩ : ∃ x, smallB s q = x := ⟨_, rfl⟩
  rw [eB] at HS ⊢
  clear hP CO eB
  have hal := (Gr.refl w).alloc (.cells #[.int .i64 0, .int .i64 0, .int .i64 0, .int .u32 0] 28)
  have HR := Lib.hid (heap_alloc_new w (.cells #[.int .i64 0, .int .i64 0, .int .i64 0, .int .u32 0] 28))
  have HAL := Lib.hid hal
  clear hal
  go_enter Tryz.func7, Tryz.ntmps7
  go_wp2_with fail
  refine (HCO.out _).mono ?_
  rintro e w1 ⟨rfl, hg⟩
  go_wp2
  have hal := (Gr.refl w1).alloc (.cells #[.int .i64 (n : Int), .int .i64 (s : Int), .int .i64 (q : Int), .int .u32 (id : Int)] 28)
  have hP1 := heap_alloc_new w1 (.cells #[.int .i64 (n : Int), .int .i64 (s : Int), .int .i64 (q : Int), .int .u32 (id : Int)] 28)
  obtain ⟨W1, eW⟩ : ∃ W, w1.alloc (.cells #[.int .i64 (n : Int), .int .i64 (s : Int), .int .i64 (q : Int), .int .u32 (id : Int)] 28) = W := ⟨_, rfl⟩
  rw [eW] at hal hP1 ⊢
  clear eW
  have hw1 := hg.size
  have HR1 := Lib.hid ((hg.trans hal).heap HR.out)
  have HP1 := Lib.hid hP1
  have HW1 := Lib.hid ((HAL.out.trans hg).trans hal)
  obtain ⟨p0, p1, p2, p3⟩ := p_four_cells hP1
  obtain ⟨r0, r1, r2, r3, rf⟩ := four_all HR1.out
  have P0 := Lib.hid p0
  have P1 := Lib.hid p1
  have P2 := Lib.hid p2
  have P3 := Lib.hid p3
  have hne : w1.heap.size ≠ w.heap.size := by have h := hw1; simp only [World.size_alloc] at h; omega
  clear hal hg hP1
  go_region_held3 (fun W => W.cell? ⟨w1.heap.size, 0, none⟩ = some (.int .i64 (n : Int)) ∧ W.cell? ⟨w1.heap.size, 1, none⟩ = some (.int .i64 (s : Int)) ∧ W.cell? ⟨w1.heap.size, 2, none⟩ = some (.int .i64 (q : Int)) ∧ W.cell? ⟨w1.heap.size, 3, none⟩ = some (.int .u32 (id : Int))) (first | exact ⟨q0, q1, q2, q3⟩ | exact ⟨e0, e1, e2, e3⟩ | exact ⟨P0.out, P1.out, P2.out, P3.out⟩ | go_keep) ((first
    | (go_at_call 30; refine (HS.out _).mono ?_; rintro e w6 ⟨rfl, hg6⟩; have q0 := Gr.cell hg6 (show W1.drew.cell? _ = _ from P0.out); have q1 := Gr.cell hg6 (show W1.drew.cell? _ = _ from P1.out); have q2 := Gr.cell hg6 (show W1.drew.cell? _ = _ from P2.out); have q3 := Gr.cell hg6 (show W1.drew.cell? _ = _ from P3.out); have hR6 := Gr.heap hg6 (show W1.drew.heap[w.heap.size]? = _ from HR1.out); obtain ⟨s0, s1, s2, s3, sf⟩ := four_all hR6; have hgb := ((((GrB.refl w6 w.heap.size).set (p := ⟨w.heap.size, 0, none⟩) (.inl rfl) (.int .i64 (n : Int))).set (p := ⟨w.heap.size, 1, none⟩) (.inl rfl) (.int .i64 (s : Int))).set (p := ⟨w.heap.size, 2, none⟩) (.inl rfl) (.int .i64 (q : Int))).set (p := ⟨w.heap.size, 3, none⟩) (.inl rfl) (.int .u32 (id : Int)); have e0 := hgb.cell q0 hne; have e1 := hgb.cell q1 hne; have e2 := hgb.cell q2 hne; have e3 := hgb.cell q3 hne; have HG6 := Lib.hid hg6; have HR6 := Lib.hid hR6; have HGB := Lib.hid hgb; clear hg6 hR6 hgb)))
  have hh : ((((w6.setCell ⟨w.heap.size, 0, none⟩ (.int .i64 (n : Int))).setCell ⟨w.heap.size, 1, none⟩ (.int .i64 (s : Int))).setCell ⟨w.heap.size, 2, none⟩ (.int .i64 (q : Int))).setCell ⟨w.heap.size, 3, none⟩ (.int .u32 (id : Int))).heap[w.heap.size]? = some (.cells #[.int .i64 (n : Int), .int .i64 (s : Int), .int .i64 (q : Int), .int .u32 (id : Int)] 28) := by
    have h2 := heap_set (i := 3) (heap_set (i := 2) (heap_set (i := 1) (heap_set (i := 0) HR6.out (.int .i64 (n : Int))) (.int .i64 (s : Int))) (.int .i64 (q : Int))) (.int .u32 (id : Int))
    simpa only [List.setIfInBounds_toArray, List.set_cons_zero, List.set_cons_succ] using h2
  have hG : Gr w ((((w6.setCell ⟨w.heap.size, 0, none⟩ (.int .i64 (n : Int))).setCell ⟨w.heap.size, 1, none⟩ (.int .i64 (s : Int))).setCell ⟨w.heap.size, 2, none⟩ (.int .i64 (q : Int))).setCell ⟨w.heap.size, 3, none⟩ (.int .u32 (id : Int))) := ((HW1.out.drew).trans HG6.out).grb HGB.out (Nat.le_refl _)
  obtain ⟨W7, eW⟩ : ∃ W, ((((w6.setCell ⟨w.heap.size, 0, none⟩ (.int .i64 (n : Int))).setCell ⟨w.heap.size, 1, none⟩ (.int .i64 (s : Int))).setCell ⟨w.heap.size, 2, none⟩ (.int .i64 (q : Int))).setCell ⟨w.heap.size, 3, none⟩ (.int .u32 (id : Int))) = W := ⟨_, rfl⟩
  rw [eW] at hh hG ⊢
  clear eW e0 e1 e2 e3 q0 q1 q2 q3 s0 s1 s2 s3 sf r0 r1 r2 r3 rf p0 p1 p2 p3
  obtain ⟨y0, y1, y2, y3, -⟩ := four_all hh
  have HG := Lib.hid hG
  clear hh hG
  go_wp2
  refine bodyPost_ret (v := .tuple #[.agg #[.int .i64 (n : Int), .int .i64 (s : Int), .int .i64 (q : Int), .int .u32 (id : Int)], .bool B]) ?_ rfl ⟨rfl, HG.out⟩
  simp [results, Tryz.results7, go_sem, y0, y1, y2, y3]

set_option maxRecDepth 100000 in
set_option maxHeartbeats 2000000 in
theorem small_bad (n : Nat) (s : Int) (hsl : -9223372036854775808 ≤ s) (hsm : s ≤ 9223372036854775807) (id : Nat) (hE : planFit n s ≠ 0) (hnm : n ≤ 9223372036854775807) (ao : Option Addr) (co : Nat) (w : World) :
    Calls Tryz.prog 7 #[.slice ao n co, .int .i64 s, .int .u32 (id : Int)] w fun e w' => e = .returned (.tuple #[.agg #[.int .i64 0, .int .i64 0, .int .i64 0, .int .u32 0], .bool false]) ∧ Gr w w' := by
  have CO := Lib.hid fun w => planOf_bad n s id (by omega) (by omega) hsl hsm hE w
  obtain ⟨E, eE⟩ : ∃ E, planFit n s = E := ⟨_, rfl⟩
  rw [eE] at CO hE
  have ht : ((E : Int) == 0) = false := by rw [beq_eq_false_iff_ne]; omega
  have hal := (Gr.refl w).alloc (.cells #[.int .i64 0, .int .i64 0, .int .i64 0, .int .u32 0] 28)
  have HR := Lib.hid (heap_alloc_new w (.cells #[.int .i64 0, .int .i64 0, .int .i64 0, .int .u32 0] 28))
  have HAL := Lib.hid hal
  clear eE hE hal
  go_enter Tryz.func7, Tryz.ntmps7
  go_wp2_with fail
  refine (CO.out _).mono ?_
  rintro e w1 ⟨rfl, hg⟩
  go_wp2
  have hal := (Gr.refl w1).alloc (.cells #[.int .i64 0, .int .i64 0, .int .i64 0, .int .u32 0] 28)
  have hP1 := heap_alloc_new w1 (.cells #[.int .i64 0, .int .i64 0, .int .i64 0, .int .u32 0] 28)
  obtain ⟨W1, eW⟩ : ∃ W, w1.alloc (.cells #[.int .i64 0, .int .i64 0, .int .i64 0, .int .u32 0] 28) = W := ⟨_, rfl⟩
  rw [eW] at hal hP1 ⊢
  clear eW
  have hw1 := hg.size
  have HR1 := Lib.hid ((hg.trans hal).heap HR.out)
  have HW1 := Lib.hid ((HAL.out.trans hg).trans hal)
  obtain ⟨p0, p1, p2, p3⟩ := p_four_cells hP1
  obtain ⟨r0, r1, r2, r3, rf⟩ := four_all HR1.out
  have P0 := Lib.hid p0
  have P1 := Lib.hid p1
  have P2 := Lib.hid p2
  have P3 := Lib.hid p3
  have hne : w1.heap.size ≠ w.heap.size := by have h := hw1; simp only [World.size_alloc] at h; omega
  have hgb := ((((GrB.refl W1 w.heap.size).set (p := ⟨w.heap.size, 0, none⟩) (.inl rfl) (.int .i64 0)).set (p := ⟨w.heap.size, 1, none⟩) (.inl rfl) (.int .i64 0)).set (p := ⟨w.heap.size, 2, none⟩) (.inl rfl) (.int .i64 0)).set (p := ⟨w.heap.size, 3, none⟩) (.inl rfl) (.int .u32 0)
  have e0 := hgb.cell p0 hne
  have e1 := hgb.cell p1 hne
  have e2 := hgb.cell p2 hne
  have e3 := hgb.cell p3 hne
  have HGB := Lib.hid hgb
  clear hal hg hP1 hgb
  go_region
  have hh : ((((W1.setCell ⟨w.heap.size, 0, none⟩ (.int .i64 0)).setCell ⟨w.heap.size, 1, none⟩ (.int .i64 0)).setCell ⟨w.heap.size, 2, none⟩ (.int .i64 0)).setCell ⟨w.heap.size, 3, none⟩ (.int .u32 0)).heap[w.heap.size]? = some (.cells #[.int .i64 0, .int .i64 0, .int .i64 0, .int .u32 0] 28) := by
    have h2 := heap_set (i := 3) (heap_set (i := 2) (heap_set (i := 1) (heap_set (i := 0) HR1.out (.int .i64 0)) (.int .i64 0)) (.int .i64 0)) (.int .u32 0)
    simpa only [List.setIfInBounds_toArray, List.set_cons_zero, List.set_cons_succ] using h2
  have hG : Gr w ((((W1.setCell ⟨w.heap.size, 0, none⟩ (.int .i64 0)).setCell ⟨w.heap.size, 1, none⟩ (.int .i64 0)).setCell ⟨w.heap.size, 2, none⟩ (.int .i64 0)).setCell ⟨w.heap.size, 3, none⟩ (.int .u32 0)) := HW1.out.grb HGB.out (Nat.le_refl _)
  obtain ⟨W7, eW⟩ : ∃ W, ((((W1.setCell ⟨w.heap.size, 0, none⟩ (.int .i64 0)).setCell ⟨w.heap.size, 1, none⟩ (.int .i64 0)).setCell ⟨w.heap.size, 2, none⟩ (.int .i64 0)).setCell ⟨w.heap.size, 3, none⟩ (.int .u32 0)) = W := ⟨_, rfl⟩
  rw [eW] at hh hG ⊢
  obtain ⟨y0, y1, y2, y3, -⟩ := four_all hh
  have HG := Lib.hid hG
  clear hh hG eW e0 e1 e2 e3 r0 r1 r2 r3 rf p0 p1 p2 p3
  go_wp2
  refine bodyPost_ret (v := .tuple #[.agg #[.int .i64 0, .int .i64 0, .int .i64 0, .int .u32 0], .bool false]) ?_ rfl ⟨rfl, HG.out.drew⟩
  simp [results, Tryz.results7, go_sem]
  first | done | simp [World.cell?_drew, y0, y1, y2, y3] | exact ⟨y0, y1, y2, y3⟩
end Go.Proofs.YtddopoojmadpjaaGreatDoor

namespace Go.Proofs.YtddopoojmadpjaaGreatDoor
open Go.RowKit
set_option linter.unusedVariables false

structure Src where
  m : Nat
  l : List UInt8
  sd : Nat
/-- the sources, as they lie. -/
def SrcAt (w : World) (x : Addr) (s : Src) : Prop :=
  ∃ (a' : Option Addr) (c : Nat), w.cell? x = some (.int .u8 (s.m : Int)) ∧ w.cell? (x.add 1) = some (.slice a' s.l.length c) ∧ w.cell? (x.add 2) = some (.int .u64 (s.sd : Int)) ∧ s.m < 256 ∧ Bs w a' s.l.length c s.l ∧ s.sd < 18446744073709551616
def Srcs (w : World) (a : Option Addr) (len cap : Nat) (ss : List Src) : Prop :=
  ss.length = len ∧ len ≤ cap ∧ cap ≤ maxLen ∧ (a = none → len = 0) ∧ ∀ x, a = some x → ∀ i s, ss[i]? = some s → SrcAt w (x.add (i * 3)) s
theorem SrcAt.below {w w' : World} {x : Addr} {s : Src} (h : SrcAt w x s) (g : Gr w w') : SrcAt w' x s := by
  obtain ⟨a', c, h0, h1, h2, hm, hb, hs⟩ := h
  exact ⟨a', c, g.cell h0, g.cell h1, g.cell h2, hm, hb.below g, hs⟩
theorem Srcs.below {w w' : World} {a : Option Addr} {len cap : Nat} {ss : List Src} (h : Srcs w a len cap ss) (g : Gr w w') : Srcs w' a len cap ss :=
  ⟨h.1, h.2.1, h.2.2.1, h.2.2.2.1, fun x hx i s hs => (h.2.2.2.2 x hx i s hs).below g⟩
theorem Srcs.at_ {w : World} {a : Option Addr} {len cap : Nat} {ss : List Src} (h : Srcs w a len cap ss) (hl : 0 < len) : ∃ b off, a = some ⟨b, off, none⟩ ∧ b < w.heap.size := by
  obtain ⟨h1, _, _, h3, h4⟩ := h
  cases a with
  | none => have := h3 rfl; omega
  | some x =>
    obtain ⟨_, _, h0, _⟩ := h4 x rfl 0 (ss[0]'(by omega)) (by simp)
    rw [show 0 * 3 = 0 from rfl, Addr.add_zero'] at h0
    have hs := World.cell?_spot h0
    obtain ⟨b, off, spot⟩ := x
    simp at hs; subst hs
    exact ⟨b, off, rfl, World.block_lt_of_cell? w _ h0⟩
theorem Srcs.get {w : World} {b off len cap : Nat} {ss : List Src} (h : Srcs w (some ⟨b, off, none⟩) len cap ss) {i : Nat} (hi : i < len) :
    ∃ (s : Src) (a' : Option Addr) (c : Nat), ss[i]? = some s ∧ w.cell? ⟨b, off + i * 3, none⟩ = some (.int .u8 (s.m : Int)) ∧ w.cell? ⟨b, off + i * 3 + 1, none⟩ = some (.slice a' s.l.length c) ∧ w.cell? ⟨b, off + i * 3 + 2, none⟩ = some (.int .u64 (s.sd : Int)) ∧ s.m < 256 ∧ Bs w a' s.l.length c s.l ∧ s.sd < 18446744073709551616 := by
  obtain ⟨a', c, h0, h1, h2, r⟩ := h.2.2.2.2 _ rfl i (ss[i]'(by have := h.1; omega)) (by simp)
  rw [Addr.add_lit] at h0 h1 h2
  rw [Addr.add_lit] at h1 h2
  exact ⟨_, a', c, by simp, h0, h1, h2, r⟩

def fewOk (ss : List Src) : Prop := (∀ s, s ∈ ss → s.l.length ≤ 60) ∧ ss.length ≤ 20
def FewIs (ss : List Src) (w : World) (e : Ending) (w' : World) : Prop := ∃ b, e = .returned (.bool b) ∧ (b = true → fewOk ss) ∧ Gr w w'
theorem FewIs.mk {ss : List Src} {w : World} {e : Ending} {w' : World} (b : Bool) (he : e = .returned (.bool b)) (hf : b = true → fewOk ss) (hg : Gr w w') : FewIs ss w e w' := ⟨b, he, hf, hg⟩

set_option maxRecDepth 100000 in
set_option maxHeartbeats 2000000 in
theorem few_any (a : Option Addr) (len cap : Nat) (ss : List Src) (w : World) (h : Srcs w a len cap ss) :
    Calls Tryz.prog 8 #[.slice a len cap] w (FewIs ss w) := by
  have hlm : len ≤ 9223372036854775807 := by have h1 := h.2.1; have h2 := h.2.2.1; unfold maxLen at h2; omega
  have H := Lib.hid h
  have HLEN : Hid (ss.length = len) := h.1
  clear h
  go_enter Tryz.func8, Tryz.ntmps8
  go_wp2
  go_loopw [7] (fun i wr => ∃ j : Nat, j ≤ len ∧ i = .int .i64 j ∧ (∀ t s, t < j → ss[t]? = some s → s.l.length ≤ 60) ∧ Gr w wr) (fun i _ => len - (intOf i).toNat)
  case atStart => exact ⟨0, Nat.zero_le _, rfl, fun _ _ h => by omega, Gr.refl _⟩
  case round =>
    obtain ⟨j, hj, rfl, hall, hgr⟩ := hrel
    have HA := Lib.hid hall
    have HG := Lib.hid hgr
    clear hall hgr
    by_cases hlt : j < len
    · obtain ⟨b, off, rfl, _⟩ := H.out.at_ (by omega)
      obtain ⟨s, a', c, hs, c0, c1, c2, hm, hb, hsd⟩ := (H.out.below HG.out).get hlt
      have hk : s.l.length ≤ 9223372036854775807 := by have h1 := hb.2.1; have h2 := hb.2.2.1; unfold maxLen at h2; omega
      obtain ⟨kj, ekj⟩ : ∃ k, s.l.length = k := ⟨_, rfl⟩
      rw [ekj] at c1 hk
      have HK := Lib.hid ekj
      have HS := Lib.hid hs
      obtain ⟨sm, em⟩ : ∃ k, s.m = k := ⟨_, rfl⟩
      obtain ⟨sd, ed⟩ : ∃ k, s.sd = k := ⟨_, rfl⟩
      rw [em] at c0
      rw [ed] at c2
      clear ekj hb hs hm hsd em ed
      by_cases hlong : 60 < kj
      · have ht : (60 : Int) < (kj : Int) := by omega
        go_wp2
        first | go_ret | go_ret2
        exact FewIs.mk false rfl (fun h => by cases h) (HG.out.alloc _)
      · have ht : ¬ (60 : Int) < (kj : Int) := by omega
        go_wp2
        go_roundw
        case rel =>
          refine ⟨j + 1, by omega, by go_num, fun t s' htj hs' => ?_, HG.out.alloc _⟩
          by_cases e : t = j
          · subst e
            obtain rfl : s' = s := Option.some.inj (hs'.symm.trans HS.out)
            rw [HK.out]; omega
          · exact HA.out t s' (by omega) hs'
        case measure => simp [intOf]; omega
    · have hge : (len : Int) ≤ (j : Int) := by omega
      have hall : ∀ s, s ∈ ss → s.l.length ≤ 60 := fun s hs => by
        obtain ⟨t, ht, rfl⟩ := List.getElem_of_mem hs
        exact HA.out t _ (by have := HLEN.out; omega) (by simp)
      have HALL := Lib.hid hall
      clear hall HA
      by_cases h2 : len ≤ 20
      · have h2i : (len : Int) ≤ 20 := by omega
        go_wp2
        first | go_ret | go_ret2
        exact FewIs.mk true rfl (fun _ => ⟨HALL.out, by rw [HLEN.out]; exact h2⟩) HG.out
      · have h2i : ¬ (len : Int) ≤ 20 := by omega
        go_wp2
        first | go_ret | go_ret2
        exact FewIs.mk false rfl (fun h => by cases h) HG.out

/-- which sources may be; how many of the first j; what is sent by the first j. -/
def okSrc (q : Nat) (s : Src) : Bool := decide (rowErr s.m s.l.length q = 0)
def dSrc : Src := ⟨0, [], 0⟩
def nextTo (q : Nat) (ss : List Src) : Nat → Nat
  | 0 => 0
  | j + 1 => if okSrc q (ss.getD j dSrc) = true then nextTo q ss j + 1 else nextTo q ss j
def sentTo (n s q id : Nat) (obj : List UInt8) (ss : List Src) : Nat → List (List UInt8)
  | 0 => []
  | j + 1 => if okSrc q (ss.getD j dSrc) = true then sentTo n s q id obj ss j ++ [sentL n s q id obj (nextTo q ss j) (ss.getD j dSrc).m (ss.getD j dSrc).l (ss.getD j dSrc).sd] else sentTo n s q id obj ss j
theorem nextTo_le (q : Nat) (ss : List Src) : ∀ j, nextTo q ss j ≤ j
  | 0 => Nat.le_refl _
  | j + 1 => by have := nextTo_le q ss j; rw [nextTo]; split <;> omega
theorem sentTo_len (n s q id : Nat) (obj : List UInt8) (ss : List Src) : ∀ j, (sentTo n s q id obj ss j).length = nextTo q ss j
  | 0 => rfl
  | j + 1 => by rw [sentTo, nextTo]; split <;> simp [sentTo_len n s q id obj ss j]
/-- the sender's block, its symbols' block told. -/
def SendCells (w : World) (B n s q id S next : Nat) : Prop :=
  w.heap[B]? = some (.cells #[.int .i64 (n : Int), .int .i64 (s : Int), .int .i64 (q : Int), .int .u32 (id : Int), .slice (some ⟨S, 0, none⟩) q q, .int .u64 (next : Int)] 88)
theorem SendCells.at_ {w0 w : World} {B n s q id S next next0 : Nat} {obj : List UInt8} (h0 : SendCells w0 B n s q id S next0) (hb : Bss w0 (some ⟨S, 0, none⟩) q q (cutL obj s q)) (hne : S ≠ B) (hlt : S < w0.heap.size) (hg : GrB w0 B w) (h : SendCells w B n s q id S next) : SendAt w B n s q id obj next :=
  ⟨S, h, hb.gap hg h0 (fun j u => by match j with | 0 => simp | 1 => simp | 2 => simp | 3 => simp | 4 => simp | 5 => simp | j + 6 => simp) (fun y hy => by cases hy; exact hne), hne, Nat.lt_of_lt_of_le hlt hg.size⟩
theorem SendCells.next {w w' : World} {B n s q id S next next' S' : Nat} {obj : List UInt8} (h : SendCells w B n s q id S next) (hs : SendAt w' B n s q id obj next') (e1 : w.cell? ⟨B, 4, none⟩ = some (.slice (some ⟨S', 0, none⟩) q q)) (e2 : w'.cell? ⟨B, 4, none⟩ = some (.slice (some ⟨S', 0, none⟩) q q)) : SendCells w' B n s q id S next' := by
  obtain ⟨S2, h1, _, _, _⟩ := hs
  obtain ⟨_, _, _, _, x4, _⟩ := six_cells h1
  obtain ⟨_, _, _, _, y4, _⟩ := six_cells h
  rw [y4] at e1
  rw [x4] at e2
  simp at e1 e2
  subst e1
  subst e2
  exact h1
theorem RowsV.mono {w : World} {base base' : Nat} {v : Value} {ls : List (List UInt8)} {av : Option Nat} (h : RowsV w base v ls av) (hb : base' ≤ base) : RowsV w base' v ls av := by
  obtain ⟨xs, h1, h2⟩ := h
  refine ⟨xs, ⟨h1.1, ?_⟩, h2⟩
  rcases h1.2 with hn | ⟨g, cap, cur, hv, hg, r⟩
  · exact .inl hn
  · exact .inr ⟨g, cap, cur, hv, Nat.le_trans hb hg, r⟩
theorem Bs.blk {w : World} {a : Option Addr} {k c : Nat} {l : List UInt8} (h : Bs w a k c l) (hk : 0 < k) : ∀ y, a = some y → y.block < w.heap.size := fun y hy => by
  obtain ⟨b, off, e, hb, _⟩ := h.at_ hk
  rw [hy] at e; cases e; exact hb
theorem sentL_pos (n s q id : Nat) (obj : List UInt8) (next m : Nat) (l : List UInt8) (sd : Nat) : 0 < (sentL n s q id obj next m l sd).length := by
  rw [sentL, packText_length]; omega
/-- rows of one's own, where the sender's block alone has turned. -/
theorem RowsV.gap {w w' : World} {base B : Nat} {v : Value} {ls : List (List UInt8)} {cs : Array Value} {t : TypeId} (h : RowsV w base v ls none) (hg : GrB w B w') (hb : w.heap[B]? = some (.cells cs t)) (hcs : ∀ (j : Nat) (u : Int), cs[j]? ≠ some (.int .u8 u)) (hne : v.ownBlock ≠ some B) : RowsV w' base v ls none := by
  obtain ⟨xs, h1, h2⟩ := h
  refine ⟨xs, h1.kept hg (.inr hne), fun j l hl => ?_⟩
  obtain ⟨a, n, c, e, hbs, ha⟩ := h2 j l hl
  exact ⟨a, n, c, e, hbs.gap hg hb hcs, fun y hy => ⟨(ha y hy).1, Nat.lt_of_lt_of_le (ha y hy).2.1 hg.size, (ha y hy).2.2⟩⟩
theorem GrB.grown {a w w' : World} {b : Nat} {row : Option Nat} (h : GrB a b w) (hg : w.grownBy w' row) (hr : ∀ k, row = some k → a.heap.size ≤ k) : GrB a b w' :=
  ⟨hg.os.trans h.os, hg.tape.trans h.tape, hg.output.trans h.output, Nat.le_trans h.size hg.size, fun k hk hne => (hg.block k (Nat.lt_of_lt_of_le hk h.size) (fun e => by have := hr k e.symm; omega)).trans (h.block k hk hne)⟩

set_option maxRecDepth 100000 in
set_option maxHeartbeats 4000000 in
theorem sent_ok (n s q id : Nat) (hP : planErr n s q = 0) (hid : id < 4294967296) (hnm : n ≤ 1000000000) (ao : Option Addr) (co : Nat) (obj : List UInt8) (a : Option Addr) (len cap : Nat) (ss : List Src) (w : World) (htab : Tab w) (ho : Bs w ao n co obj) (h : Srcs w a len cap ss) (hf : fewOk ss) :
    Calls Tryz.prog 9 #[.agg #[.int .i64 (n : Int), .int .i64 (s : Int), .int .i64 (q : Int), .int .u32 (id : Int)], .slice ao n co, .slice a len cap] w fun e w' =>
      ∃ v, e = .returned (.tuple #[v, .bool true]) ∧ RowsV w' w.heap.size v (sentTo n s q id obj ss len) none ∧ Gr w w' := by
  have CN := Lib.hid fun w h => senderNew_ok n s q id hP ao co obj w h (by omega)
  have H := Lib.hid h
  have HT := Lib.hid htab
  have HPE := Lib.hid hP
  have HF := Lib.hid hf
  have HLEN : Hid (ss.length = len) := h.1
  have hlen20 : len ≤ 20 := by rw [← h.1]; exact hf.2
  have hal := (Gr.refl w).alloc (.cells #[.int .i64 (n : Int), .int .i64 (s : Int), .int .i64 (q : Int), .int .u32 (id : Int)] 28)
  have HAL := Lib.hid hal
  have HO := Lib.hid (ho.below hal)
  obtain ⟨p0, p1, p2, p3⟩ := p_four_cells (heap_alloc_new w (.cells #[.int .i64 (n : Int), .int .i64 (s : Int), .int .i64 (q : Int), .int .u32 (id : Int)] 28))
  clear h htab ho hP hal hf
  go_enter Tryz.func9, Tryz.ntmps9
  go_wp2_with fail
  refine (CN.out _ HO.out).mono ?_
  rintro e w1 ⟨B, hB, rfl, ⟨S, hc0, hss, hSB, hSl⟩, hg⟩
  have HC0 : Hid (SendCells w1 B n s q id S 0) := hc0
  have HSS := Lib.hid hss
  have HW1 := Lib.hid (HAL.out.trans hg)
  have hBw : w.heap.size ≤ B := by rw [World.size_alloc] at hB; omega
  have hB1 : B < w1.heap.size := lt_of_block hc0
  clear hc0 hss hg hB p0 p1 p2 p3
  go_wp2
  go_loopw [10, 25] (fun o i wr => ∃ (j : Nat) (v : Value), j ≤ len ∧ i = .int .i64 j ∧ v = o ∧ RowsV wr w1.heap.size v (sentTo n s q id obj ss j) none ∧ SendCells wr B n s q id S (nextTo q ss j) ∧ GrB w1 B wr) (fun _ i _ => len - (intOf i).toNat)
  case atStart => exact ⟨0, _, Nat.zero_le _, rfl, rfl, RowsV.nil _ _ _, HC0.out, GrB.refl _ _⟩
  case round =>
    obtain ⟨j, v, hj, rfl, rfl, hrow, hsc, hgr⟩ := hrel
    have HROW := Lib.hid hrow
    have HSC := Lib.hid hsc
    have HGR := Lib.hid hgr
    have HWR := Lib.hid (HW1.out.grb hgr hBw)
    clear hrow hsc hgr
    by_cases hlt : j < len
    · obtain ⟨b, off, rfl, _⟩ := H.out.at_ (by omega)
      obtain ⟨x, a', c, hx, c0, c1, c2, hm, hb, hsd⟩ := (H.out.below HWR.out).get hlt
      have hxd : ss.getD j dSrc = x := by rw [List.getD_eq_getElem?_getD, hx]; rfl
      have hk60 : x.l.length ≤ 60 := HF.out.1 x (List.mem_of_getElem? hx)
      have hnx := nextTo_le q ss j
      have hal := (Gr.refl wr).alloc (.cells #[.int .u8 (x.m : Int), .slice a' x.l.length c, .int .u64 (x.sd : Int)] 41)
      have HSA : Hid (SendAt (wr.alloc (.cells #[.int .u8 (x.m : Int), .slice a' x.l.length c, .int .u64 (x.sd : Int)] 41)) B n s q id obj (nextTo q ss j)) := HC0.out.at_ HSS.out hSB hSl (HGR.out.gr hal) (hal.heap HSC.out)
      have HSC2 : Hid (SendCells (wr.alloc (.cells #[.int .u8 (x.m : Int), .slice a' x.l.length c, .int .u64 (x.sd : Int)] 41)) B n s q id S (nextTo q ss j)) := hal.heap HSC.out
      have HROW2 := Lib.hid (HROW.out.gr hal)
      have HGR2 := Lib.hid (HGR.out.gr hal)
      have HT2 := Lib.hid (HT.out.below (HWR.out.trans hal))
      have HB2 := Lib.hid (hb.below hal)
      obtain ⟨x0, x1, x2, -⟩ := three_cells (heap_alloc_new wr (.cells #[.int .u8 (x.m : Int), .slice a' x.l.length c, .int .u64 (x.sd : Int)] 41))
      have hown : v.ownBlock ≠ some B := fun e => by have := (HROW.out.lt _ e).1; omega
      have hownlt : ∀ k, v.ownBlock = some k → w1.heap.size ≤ k ∧ k < wr.heap.size := HROW.out.lt
      have HOWN := Lib.hid hown
      have HOLT := Lib.hid hownlt
      by_cases hE : rowErr x.m x.l.length q = 0
      · have CS := Lib.hid fun w ht h1 h2 => send_okS B n s q id HPE.out hid (by omega) obj (nextTo q ss j) (by omega) x.m a' x.l.length c x.sd hsd x.l (by omega) hE w ht h1 h2
        have hok : okSrc q (ss.getD j dSrc) = true := by rw [hxd]; exact decide_eq_true hE
        have hst : sentTo n s q id obj ss (j + 1) = sentTo n s q id obj ss j ++ [sentL n s q id obj (nextTo q ss j) x.m x.l x.sd] := by rw [sentTo, if_pos hok, hxd]
        have hnt : nextTo q ss (j + 1) = nextTo q ss j + 1 := by rw [nextTo, if_pos hok]
        have hpos := sentL_pos n s q id obj (nextTo q ss j) x.m x.l x.sd
        have hll : (sentTo n s q id obj ss j).length ≤ 20 := by rw [sentTo_len]; omega
        have HST := Lib.hid hst
        have HNT := Lib.hid hnt
        obtain ⟨TX, eTX⟩ : ∃ T, sentL n s q id obj (nextTo q ss j) x.m x.l x.sd = T := ⟨_, rfl⟩
        rw [eTX] at CS HST hpos
        obtain ⟨LS, eLS⟩ : ∃ T, sentTo n s q id obj ss j = T := ⟨_, rfl⟩
        rw [eLS] at HST HROW HROW2 hll
        obtain ⟨NX, eNX⟩ : ∃ T, nextTo q ss j = T := ⟨_, rfl⟩
        rw [eNX] at CS HNT HSA HSC HSC2 hnx
        obtain ⟨xl, exl⟩ : ∃ k, x.l.length = k := ⟨_, rfl⟩
        obtain ⟨xm, exm⟩ : ∃ k, x.m = k := ⟨_, rfl⟩
        obtain ⟨xd, exd⟩ : ∃ k, x.sd = k := ⟨_, rfl⟩
        rw [exl, exm, exd] at CS HSA HSC2 HROW2 HGR2 HT2 HB2 x0 x1 x2 hal
        rw [exm] at c0
        rw [exl] at c1
        rw [exd] at c2
        clear hok hst hnt eTX eLS eNX hE hxd hx hb exl exm exd hk60 hm hsd hown hownlt HROW HSC
        go_wp2_with fail
        refine (CS.out _ HT2.out HB2.out HSA.out).mono ?_
        rintro e w3 ⟨a7, k7, c7, rfl, hb7, hf7, hsa7, hg7, S', e1, e2⟩
        have hk7 : 0 < k7 := by rw [← hb7.1]; exact hpos
        have hblk := hb7.blk hk7
        have hrow3 := HROW2.out.gap hg7 HSC2.out (fun j u => by match j with | 0 => simp | 1 => simp | 2 => simp | 3 => simp | 4 => simp | 5 => simp | j + 6 => simp) HOWN.out
        have hsc3 := SendCells.next HSC2.out hsa7 e1 e2
        have hgr3 := HGR2.out.trans hg7
        have hal4 := (Gr.refl w3).alloc (.cells #[.slice a7 k7 c7] 22)
        have hcl4 := one_cell (heap_alloc_new w3 (.cells #[.slice a7 k7 c7] 22))
        have hsz3 := hg7.size
        rw [World.size_alloc] at hsz3 hf7
        go_wp2_with (with_reducible refine wpList_hold (o := ⟨some 40, _, _, _, _, _⟩) ?_)
        change wpList _ _ _ _ _ _
        have hsz4 : w3.heap.size + 1 = (w3.alloc (.cells #[.slice a7 k7 c7] 22)).heap.size := by simp
        obtain ⟨W4, eW⟩ : ∃ W, w3.alloc (.cells #[.slice a7 k7 c7] 22) = W := ⟨_, rfl⟩
        rw [eW] at hal4 hcl4 hsz4 ⊢
        clear eW x0 x1 x2 c0 c1 c2
        have hgrw1 := hgr3.size
        refine wpList_append_rows rfl (.tmp 37) (.tmp 39) rfl w1.heap.size rfl (hrow3.gr hal4) rfl hcl4 (hb7.below hal4) (fun y hy => ⟨fun e => by have h1 := (HOLT.out _ e).2; have h2 := hf7 y hy; omega, by have := hblk y hy; omega⟩) (by omega) (by omega) ?_
        intro v4 w4 hr4 hg4 hn4
        have hown4 : ∀ k, v.ownBlock = some k → w1.heap.size ≤ k := fun k hk => (HOLT.out k hk).1
        have HR4 := Lib.hid hr4
        have HS4 : Hid (SendCells w4 B n s q id S (NX + 1)) := by
          show w4.heap[B]? = _
          rw [hg4.block B (by have := lt_of_block hsc3; omega) (fun e => HOWN.out e.symm)]
          exact hal4.heap hsc3
        have HG4 := Lib.hid ((hgr3.gr hal4).grown hg4 hown4)
        clear hr4 hg4 hn4 hown4 hrow3 hsc3 hgr3 hal4 hcl4 hb7 hf7 hsa7 hg7 e1 e2 hblk hsz3 hsz4 hgrw1
        go_wp2
        go_roundw
        case rel => exact ⟨j + 1, v4, by omega, by go_num, rfl, by rw [HST.out]; exact HR4.out, by rw [HNT.out]; exact HS4.out, HG4.out⟩
        case measure => simp [intOf]; omega
      · have CS := Lib.hid fun w h => send_bad B n s q id obj (nextTo q ss j) (by omega) x.m a' x.l.length c x.sd (by omega) hE w h
        have hok : ¬ okSrc q (ss.getD j dSrc) = true := by rw [hxd]; unfold okSrc; simpa using hE
        have HST : Hid (sentTo n s q id obj ss (j + 1) = sentTo n s q id obj ss j) := by show _ = _; rw [sentTo, if_neg hok]
        have HNT : Hid (nextTo q ss (j + 1) = nextTo q ss j) := by show _ = _; rw [nextTo, if_neg hok]
        obtain ⟨PE, ePE⟩ : ∃ T, rowErr x.m x.l.length q = T := ⟨_, rfl⟩
        rw [ePE] at CS hE
        obtain ⟨xl, exl⟩ : ∃ k, x.l.length = k := ⟨_, rfl⟩
        obtain ⟨xm, exm⟩ : ∃ k, x.m = k := ⟨_, rfl⟩
        obtain ⟨xd, exd⟩ : ∃ k, x.sd = k := ⟨_, rfl⟩
        rw [exl, exm, exd] at CS HSA HSC2 HROW2 HGR2 x0 x1 x2 hal
        rw [exm] at c0
        rw [exl] at c1
        rw [exd] at c2
        have hPE : ((PE : Int) == 0) = false := by rw [beq_eq_false_iff_ne]; omega
        clear hok ePE hE hxd hx hb exl exm exd hk60 hm hsd hown hownlt HROW HSC HB2 HT2
        go_wp2_with fail
        refine (CS.out _ HSA.out).mono ?_
        rintro e w3 ⟨rfl, hg7⟩
        have HR4 := Lib.hid (HROW2.out.gr hg7)
        have HS4 : Hid (SendCells w3 B n s q id S (nextTo q ss j)) := hg7.heap HSC2.out
        have HG4 := Lib.hid (HGR2.out.gr hg7)
        clear hg7 x0 x1 x2 c0 c1 c2
        go_wp2
        go_roundw
        case rel => exact ⟨j + 1, v, by omega, by go_num, rfl, by rw [HST.out]; exact HR4.out, by rw [HNT.out]; exact HS4.out, HG4.out⟩
        case measure => simp [intOf]; omega
    · have hjl : j = len := by omega
      have hge : (len : Int) ≤ (j : Int) := by omega
      have HROW2 : Hid (RowsV wr w.heap.size v (sentTo n s q id obj ss len) none) := by
        show RowsV _ _ _ _ _
        rw [← hjl]
        exact HROW.out.mono HW1.out.size
      clear hjl
      go_wp2
      first | go_ret | go_ret2
      exact ⟨v, rfl, HROW2.out, HWR.out⟩
end Go.Proofs.YtddopoojmadpjaaGreatDoor
