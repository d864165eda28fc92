/-
  The walks of package sender, but for Send.
-/
import Derived.Test.YtdmijoochgmhiacDoorKernComb
import Derived.Test.YtdmijoochgmhiacDoorCutCut
import Derived.Test.YtdmijoochgmhiacDoorGate
namespace Go.Proofs.YtdmijoochgmhiacDoor
open Go.RowKit
set_option linter.unusedVariables false

theorem six_cells {W : World} {R : Nat} {v0 v1 v2 v3 v4 v5 : Value} {t : TypeId} (h : W.heap[R]? = some (.cells #[v0, v1, v2, v3, v4, v5] t)) :
    W.cell? ⟨R, 0, none⟩ = some v0 ∧ W.cell? ⟨R, 1, none⟩ = some v1 ∧ W.cell? ⟨R, 2, none⟩ = some v2 ∧ W.cell? ⟨R, 3, none⟩ = some v3 ∧ W.cell? ⟨R, 4, none⟩ = some v4 ∧ W.cell? ⟨R, 5, none⟩ = some v5 ∧ ∀ i, W.frozen? ⟨R, i, none⟩ = false := by
  refine ⟨?_, ?_, ?_, ?_, ?_, ?_, fun i => ?_⟩ <;> simp [World.cell?, World.frozen?, h]
theorem six_last {W : World} {R : Nat} {v0 v1 v2 v3 v4 v5 : Value} {t : TypeId} (h : W.heap[R]? = some (.cells #[v0, v1, v2, v3, v4, v5] t)) (u : Value) :
    GrB W R (W.setCell ⟨R, 5, none⟩ u) ∧ (W.setCell ⟨R, 5, none⟩ u).heap[R]? = some (.cells #[v0, v1, v2, v3, v4, u] t) := by
  refine ⟨(GrB.refl W R).set (.inl rfl) _, ?_⟩
  have h5 := heap_set (i := 5) h u
  simpa only [List.setIfInBounds_toArray, List.set_cons_zero, List.set_cons_succ] using h5
theorem Bss.gap {w w' : World} {b : Nat} {a : Option Addr} {n c : Nat} {ls : List (List UInt8)} {cs : Array Value} {t : TypeId} (h : Bss w a n c ls) (g : GrB w b w') (hb : w.heap[b]? = some (.cells cs t)) (hcs : ∀ (j : Nat) (u : Int), cs[j]? ≠ some (.int .u8 u)) (ha : ∀ y, a = some y → y.block ≠ b) : Bss w' a n c ls := by
  refine ⟨h.1, h.2.1, h.2.2.1, h.2.2.2.1, fun x hx i l hl => ?_⟩
  obtain ⟨a', n', c', hc, hbs⟩ := h.2.2.2.2 x hx i l hl
  exact ⟨a', n', c', by rw [World.cell?_of_block (w := w) (g.block _ (World.block_lt_of_cell? w _ hc) (by rw [Addr.add_block]; simpa using ha x hx))]; exact hc, hbs.gap g hb hcs⟩

/-- A SENDER at B: its plan, its symbols, its next number. -/
def SendAt (w : World) (B n s q id : Nat) (obj : List UInt8) (next : Nat) : Prop :=
  ∃ S, (w.heap[B]? = some (.cells #[.int .i64 (n : Int), .int .i64 (s : Int), .int .i64 (q : Int), .int .u32 (id : Int), .slice (some ⟨S, 0, none⟩) q q, .int .u64 (next : Int)] 111)) ∧ Bss w (some ⟨S, 0, none⟩) q q (cutL obj s q) ∧ S ≠ B ∧ S < w.heap.size
theorem SendAt.gr {w w' : World} {B n s q id : Nat} {obj : List UInt8} {next : Nat} (h : SendAt w B n s q id obj next) (hg : Gr w w') : SendAt w' B n s q id obj next := by
  obtain ⟨S, h1, h2, h3, h4⟩ := h
  exact ⟨S, hg.heap h1, h2.below hg, h3, Nat.lt_of_lt_of_le h4 hg.size⟩
theorem SendAt.set {w : World} {B n s q id : Nat} {obj : List UInt8} {next : Nat} (h : SendAt w B n s q id obj next) (next' : Nat) : SendAt (w.setCell ⟨B, 5, none⟩ (.int .u64 (next' : Int))) B n s q id obj next' ∧ GrB w B (w.setCell ⟨B, 5, none⟩ (.int .u64 (next' : Int))) := by
  obtain ⟨S, h1, h2, h3, h4⟩ := h
  obtain ⟨g1, g2⟩ := six_last h1 (.int .u64 (next' : Int))
  exact ⟨⟨S, g2, h2.gap g1 h1 (fun j u => by match j with | 0 => simp | 1 => simp | 2 => simp | 3 => simp | 4 => simp | 5 => simp | j + 6 => simp) (fun y hy => by cases hy; exact h3), h3, Nat.lt_of_lt_of_le h4 g1.size⟩, g1⟩

set_option maxRecDepth 100000 in
set_option maxHeartbeats 1000000 in
theorem sendNext (B n s q id : Nat) (obj : List UInt8) (next : Nat) (w : World) (h : SendAt w B n s q id obj next) :
    Calls Tryd.prog 31 #[.pointer (some ⟨B, 0, none⟩)] w fun e w' => e = .returned (.int .u64 (next : Int)) ∧ w = w' := by
  obtain ⟨S, h1, _, _, _⟩ := h
  obtain ⟨x0, x1, x2, x3, x4, x5, _⟩ := six_cells h1
  clear h1
  go_enter Tryd.func31, Tryd.ntmps31
  go_wp2
  go_ret
  exact ⟨rfl, rfl⟩
set_option maxRecDepth 100000 in
set_option maxHeartbeats 1000000 in
theorem sendNext_nil (w : World) :
    Calls Tryd.prog 31 #[.pointer none] w fun e w' => e = .returned (.int .u64 0) ∧ w = w' := by
  go_enter Tryd.func31, Tryd.ntmps31
  go_wp2
  go_ret
  exact ⟨rfl, rfl⟩
set_option maxRecDepth 100000 in
set_option maxHeartbeats 1000000 in
theorem sendSkip_nil (k : Int) (w : World) :
    Calls Tryd.prog 26 #[.pointer none, .int .u64 k] w fun e w' => e = .returned (.int .i64 1) ∧ w = w' := by
  go_enter Tryd.func26, Tryd.ntmps26
  go_wp2
  go_ret
  exact ⟨rfl, rfl⟩
set_option maxRecDepth 100000 in
set_option maxHeartbeats 1000000 in
theorem sendSkip_bad (B n s q id : Nat) (obj : List UInt8) (next k : Nat) (hn : next ≤ 4294967296) (hk : 4294967296 - next < k) (w : World) (h : SendAt w B n s q id obj next) :
    Calls Tryd.prog 26 #[.pointer (some ⟨B, 0, none⟩), .int .u64 (k : Int)] w fun e w' => e = .returned (.int .i64 2) ∧ w = w' := by
  obtain ⟨S, h1, _, _, _⟩ := h
  obtain ⟨x0, x1, x2, x3, x4, x5, _⟩ := six_cells h1
  have hki : (4294967296 : Int) - (next : Int) < (k : Int) := by omega
  have hni : (next : Int) ≤ 4294967296 := by omega
  clear h1
  go_enter Tryd.func26, Tryd.ntmps26
  go_wp2
  go_ret
  exact ⟨rfl, rfl⟩
set_option maxRecDepth 100000 in
set_option maxHeartbeats 1000000 in
theorem sendSkip_ok (B n s q id : Nat) (obj : List UInt8) (next k : Nat) (hn : next ≤ 4294967296) (hk : k ≤ 4294967296 - next) (w : World) (h : SendAt w B n s q id obj next) :
    Calls Tryd.prog 26 #[.pointer (some ⟨B, 0, none⟩), .int .u64 (k : Int)] w fun e w' => e = .returned (.int .i64 0) ∧ SendAt w' B n s q id obj (next + k) ∧ GrB w B w' := by
  have hset := Lib.hid (h.set (next + k))
  obtain ⟨S, h1, _, _, _⟩ := h
  obtain ⟨x0, x1, x2, x3, x4, x5, xf⟩ := six_cells h1
  have hki : (k : Int) ≤ (4294967296 : Int) - (next : Int) := by omega
  have hni : (next : Int) ≤ 4294967296 := by omega
  clear h1
  go_enter Tryd.func26, Tryd.ntmps26
  go_wp2
  go_ret
  exact ⟨rfl, hset.out⟩
set_option maxRecDepth 100000 in
set_option maxHeartbeats 1000000 in
theorem sendClone_nil (w : World) :
    Calls Tryd.prog 27 #[.pointer none] w fun e w' => e = .returned (.pointer none) ∧ w = w' := by
  go_enter Tryd.func27, Tryd.ntmps27
  go_wp2
  go_ret
  exact ⟨rfl, rfl⟩
set_option maxRecDepth 100000 in
set_option maxHeartbeats 1000000 in
theorem sendClone_any (B n s q id : Nat) (obj : List UInt8) (next : Nat) (w : World) (h : SendAt w B n s q id obj next) :
    Calls Tryd.prog 27 #[.pointer (some ⟨B, 0, none⟩)] w fun e w' => ∃ C, w.heap.size ≤ C ∧ e = .returned (.pointer (some ⟨C, 0, none⟩)) ∧ SendAt w' C n s q id obj next ∧ Gr w w' := by
  obtain ⟨S, h1, h2, h3, h4⟩ := h
  obtain ⟨x0, x1, x2, x3, x4, x5, _⟩ := six_cells h1
  have H2 := Lib.hid h2
  clear h1 h2
  go_enter Tryd.func27, Tryd.ntmps27
  go_wp2
  go_ret
  have hg := (Gr.refl w).alloc (.cells #[.int .i64 (n : Int), .int .i64 (s : Int), .int .i64 (q : Int), .int .u32 (id : Int), .slice (some ⟨S, 0, none⟩) q q, .int .u64 (next : Int)] 111)
  exact ⟨w.heap.size, Nat.le_refl _, rfl, ⟨S, heap_alloc_new w _, H2.out.below hg, by omega, by rw [World.size_alloc]; omega⟩, hg⟩

set_option maxRecDepth 100000 in
set_option maxHeartbeats 1000000 in
theorem senderNew_bad (len size sym : Int) (id : Int) (hlo : -9223372036854775808 ≤ len) (hm : len ≤ 9223372036854775807) (hsl : -9223372036854775808 ≤ size) (hsm : size ≤ 9223372036854775807) (a : Option Addr) (n cap : Nat) (hn : n ≤ 9223372036854775807) (hE : cutErr len size sym n ≠ 0) (w : World) :
    Calls Tryd.prog 24 #[.agg #[.int .i64 len, .int .i64 size, .int .i64 sym, .int .u32 id], .slice a n cap] w fun e w' => e = .returned (.tuple #[.pointer none, .int .i64 (cutErr len size sym n : Nat)]) ∧ Gr w w' := by
  have HC := Lib.hid (cutCut_bad len size sym id hlo hm hsl hsm a n cap hn hE)
  obtain ⟨E, eE⟩ : ∃ E, cutErr len size sym n = E := ⟨_, rfl⟩
  rw [eE] at HC hE ⊢
  have ht : ((E : Int) != 0) = true := by rw [bne_iff_ne]; omega
  clear eE hE
  go_enter Tryd.func24, Tryd.ntmps24
  go_wp2_with fail
  refine (HC.out _).mono ?_
  rintro e w1 ⟨rfl, hg⟩
  have hgw := ((Gr.refl w).alloc _).trans hg
  clear hg
  go_wp2
  first | go_ret | go_ret2
  exact ⟨rfl, hgw⟩
set_option maxRecDepth 100000 in
set_option maxHeartbeats 1000000 in
theorem senderNew_ok (n s q : Nat) (id : Nat) (hE : planErr n s q = 0) (a : Option Addr) (cap : Nat) (obj : List UInt8) (w : World) (hb : Bs w a n cap obj) (hm : n ≤ 140737488355328) :
    Calls Tryd.prog 24 #[.agg #[.int .i64 (n : Int), .int .i64 (s : Int), .int .i64 (q : Int), .int .u32 (id : Int)], .slice a n cap] w fun e w' =>
      ∃ B, w.heap.size ≤ B ∧ e = .returned (.tuple #[.pointer (some ⟨B, 0, none⟩), .int .i64 0]) ∧ SendAt w' B n s q id obj 0 ∧ Gr w w' := by
  have HC := Lib.hid fun w h => cutCut_ok n s q id hE a cap obj w h hm
  have HB := Lib.hid hb
  obtain ⟨_, _, hq1, _⟩ := plan_bounds hE
  clear hE hb
  go_enter Tryd.func24, Tryd.ntmps24
  go_wp2_with fail
  refine (HC.out _ (HB.out.below ((Gr.refl w).alloc _))).mono ?_
  rintro e w1 ⟨S, hS, rfl, hss, hg⟩
  obtain ⟨p0, p1, p2, p3⟩ := p_four_cells (hg.heap (heap_alloc_new w _))
  have hgw := ((Gr.refl w).alloc (.cells #[.int .i64 (n : Int), .int .i64 (s : Int), .int .i64 (q : Int), .int .u32 (id : Int)] 24)).trans hg
  have HSS := Lib.hid hss
  obtain ⟨b, off, hbo, hbl⟩ := hss.at_ (by omega)
  have hSl : S < w1.heap.size := by cases hbo; exact hbl
  clear hg hss hbo hbl
  go_wp2
  first | go_ret | go_ret2
  have hg2 := (Gr.refl w1).alloc (.cells #[.int .i64 (n : Int), .int .i64 (s : Int), .int .i64 (q : Int), .int .u32 (id : Int), .slice (some ⟨S, 0, none⟩) q q, .int .u64 0] 111)
  exact ⟨w1.heap.size, hgw.size, rfl, ⟨S, heap_alloc_new w1 _, HSS.out.below hg2, by omega, by rw [World.size_alloc]; omega⟩, hgw.trans hg2⟩
end Go.Proofs.YtdmijoochgmhiacDoor
