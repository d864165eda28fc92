/-
  sender.New, Next, Skip; Send: what is sent, or why not.
  What was sent is read as it was: the source, and the packet.
  sender.Explicit.
-/
import Derived.Test.YtddopoojmadpjaaGreatDoorKernComb
import Derived.Test.YtddopoojmadpjaaGreatDoorCutCut
import Derived.Test.YtddopoojmadpjaaGreatDoorGate
import Derived.Test.YtddopoojmadpjaaGreatDoorVec
import Derived.Test.YtddopoojmadpjaaGreatDoorPacketReadOk
import Derived.Test.YtddopoojmadpjaaGreatDoorPacketGot
import Derived.Test.YtddopoojmadpjaaGreatDoorHeadPlain
namespace Go.Proofs.YtddopoojmadpjaaGreatDoor
open Go.RowKit
set_option linter.unusedVariables false

theorem six_cells {W : World} {R : Nat} {v0 v1 v2 v3 v4 v5 : Value} {t : TypeId} (h : W.heap[R]? = some (.cells #[v0, v1, v2, v3, v4, v5] t)) :
    W.cell? ⟨R, 0, none⟩ = some v0 ∧ W.cell? ⟨R, 1, none⟩ = some v1 ∧ W.cell? ⟨R, 2, none⟩ = some v2 ∧ W.cell? ⟨R, 3, none⟩ = some v3 ∧ W.cell? ⟨R, 4, none⟩ = some v4 ∧ W.cell? ⟨R, 5, none⟩ = some v5 ∧ ∀ i, W.frozen? ⟨R, i, none⟩ = false := by
  refine ⟨?_, ?_, ?_, ?_, ?_, ?_, fun i => ?_⟩ <;> simp [World.cell?, World.frozen?, h]
theorem six_last {W : World} {R : Nat} {v0 v1 v2 v3 v4 v5 : Value} {t : TypeId} (h : W.heap[R]? = some (.cells #[v0, v1, v2, v3, v4, v5] t)) (u : Value) :
    GrB W R (W.setCell ⟨R, 5, none⟩ u) ∧ (W.setCell ⟨R, 5, none⟩ u).heap[R]? = some (.cells #[v0, v1, v2, v3, v4, u] t) := by
  refine ⟨(GrB.refl W R).set (.inl rfl) _, ?_⟩
  have h5 := heap_set (i := 5) h u
  simpa only [List.setIfInBounds_toArray, List.set_cons_zero, List.set_cons_succ] using h5
theorem Bss.gap {w w' : World} {b : Nat} {a : Option Addr} {n c : Nat} {ls : List (List UInt8)} {cs : Array Value} {t : TypeId} (h : Bss w a n c ls) (g : GrB w b w') (hb : w.heap[b]? = some (.cells cs t)) (hcs : ∀ (j : Nat) (u : Int), cs[j]? ≠ some (.int .u8 u)) (ha : ∀ y, a = some y → y.block ≠ b) : Bss w' a n c ls := by
  refine ⟨h.1, h.2.1, h.2.2.1, h.2.2.2.1, fun x hx i l hl => ?_⟩
  obtain ⟨a', n', c', hc, hbs⟩ := h.2.2.2.2 x hx i l hl
  exact ⟨a', n', c', by rw [World.cell?_of_block (w := w) (g.block _ (World.block_lt_of_cell? w _ hc) (by rw [Addr.add_block]; simpa using ha x hx))]; exact hc, hbs.gap g hb hcs⟩

/-- A SENDER at B: its plan, its symbols, its next number. -/
def SendAt (w : World) (B n s q id : Nat) (obj : List UInt8) (next : Nat) : Prop :=
  ∃ S, (w.heap[B]? = some (.cells #[.int .i64 (n : Int), .int .i64 (s : Int), .int .i64 (q : Int), .int .u32 (id : Int), .slice (some ⟨S, 0, none⟩) q q, .int .u64 (next : Int)] 88)) ∧ Bss w (some ⟨S, 0, none⟩) q q (cutL obj s q) ∧ S ≠ B ∧ S < w.heap.size
theorem SendAt.gr {w w' : World} {B n s q id : Nat} {obj : List UInt8} {next : Nat} (h : SendAt w B n s q id obj next) (hg : Gr w w') : SendAt w' B n s q id obj next := by
  obtain ⟨S, h1, h2, h3, h4⟩ := h
  exact ⟨S, hg.heap h1, h2.below hg, h3, Nat.lt_of_lt_of_le h4 hg.size⟩
theorem SendAt.set {w : World} {B n s q id : Nat} {obj : List UInt8} {next : Nat} (h : SendAt w B n s q id obj next) (next' : Nat) : SendAt (w.setCell ⟨B, 5, none⟩ (.int .u64 (next' : Int))) B n s q id obj next' ∧ GrB w B (w.setCell ⟨B, 5, none⟩ (.int .u64 (next' : Int))) := by
  obtain ⟨S, h1, h2, h3, h4⟩ := h
  obtain ⟨g1, g2⟩ := six_last h1 (.int .u64 (next' : Int))
  exact ⟨⟨S, g2, h2.gap g1 h1 (fun j u => by match j with | 0 => simp | 1 => simp | 2 => simp | 3 => simp | 4 => simp | 5 => simp | j + 6 => simp) (fun y hy => by cases hy; exact h3), h3, Nat.lt_of_lt_of_le h4 g1.size⟩, g1⟩

set_option maxRecDepth 100000 in
set_option maxHeartbeats 1000000 in
theorem sendSkip_nil (k : Int) (w : World) :
    Calls Tryz.prog 11 #[.pointer none, .int .u64 k] w fun e w' => e = .returned (.int .i64 1) ∧ w = w' := by
  go_enter Tryz.func11, Tryz.ntmps11
  go_wp2
  go_ret
  exact ⟨rfl, rfl⟩
set_option maxRecDepth 100000 in
set_option maxHeartbeats 1000000 in
theorem sendSkip_bad (B n s q id : Nat) (obj : List UInt8) (next k : Nat) (hn : next ≤ 4294967296) (hk : 4294967296 - next < k) (w : World) (h : SendAt w B n s q id obj next) :
    Calls Tryz.prog 11 #[.pointer (some ⟨B, 0, none⟩), .int .u64 (k : Int)] w fun e w' => e = .returned (.int .i64 2) ∧ w = w' := by
  obtain ⟨S, h1, _, _, _⟩ := h
  obtain ⟨x0, x1, x2, x3, x4, x5, _⟩ := six_cells h1
  have hki : (4294967296 : Int) - (next : Int) < (k : Int) := by omega
  have hni : (next : Int) ≤ 4294967296 := by omega
  clear h1
  go_enter Tryz.func11, Tryz.ntmps11
  go_wp2
  go_ret
  exact ⟨rfl, rfl⟩
set_option maxRecDepth 100000 in
set_option maxHeartbeats 1000000 in
theorem sendSkip_ok (B n s q id : Nat) (obj : List UInt8) (next k : Nat) (hn : next ≤ 4294967296) (hk : k ≤ 4294967296 - next) (w : World) (h : SendAt w B n s q id obj next) :
    Calls Tryz.prog 11 #[.pointer (some ⟨B, 0, none⟩), .int .u64 (k : Int)] w fun e w' => e = .returned (.int .i64 0) ∧ SendAt w' B n s q id obj (next + k) ∧ GrB w B w' := by
  have hset := Lib.hid (h.set (next + k))
  obtain ⟨S, h1, _, _, _⟩ := h
  obtain ⟨x0, x1, x2, x3, x4, x5, xf⟩ := six_cells h1
  have hki : (k : Int) ≤ (4294967296 : Int) - (next : Int) := by omega
  have hni : (next : Int) ≤ 4294967296 := by omega
  clear h1
  go_enter Tryz.func11, Tryz.ntmps11
  go_wp2
  go_ret
  exact ⟨rfl, hset.out⟩
set_option maxRecDepth 100000 in
set_option maxHeartbeats 1000000 in
theorem senderNew_bad (len size sym : Int) (id : Int) (hlo : -9223372036854775808 ≤ len) (hm : len ≤ 9223372036854775807) (hsl : -9223372036854775808 ≤ size) (hsm : size ≤ 9223372036854775807) (a : Option Addr) (n cap : Nat) (hn : n ≤ 9223372036854775807) (hE : cutErr len size sym n ≠ 0) (w : World) :
    Calls Tryz.prog 10 #[.agg #[.int .i64 len, .int .i64 size, .int .i64 sym, .int .u32 id], .slice a n cap] w fun e w' => e = .returned (.tuple #[.pointer none, .int .i64 (cutErr len size sym n : Nat)]) ∧ Gr w w' := by
  have HC := Lib.hid (cutCut_bad len size sym id hlo hm hsl hsm a n cap hn hE)
  obtain ⟨E, eE⟩ : ∃ E, cutErr len size sym n = E := ⟨_, rfl⟩
  rw [eE] at HC hE ⊢
  have ht : ((E : Int) != 0) = true := by rw [bne_iff_ne]; omega
  clear eE hE
  go_enter Tryz.func10, Tryz.ntmps10
  go_wp2_with fail
  refine (HC.out _).mono ?_
  rintro e w1 ⟨rfl, hg⟩
  have hgw := ((Gr.refl w).alloc _).trans hg
  clear hg
  go_wp2
  first | go_ret | go_ret2
  exact ⟨rfl, hgw⟩
set_option maxRecDepth 100000 in
set_option maxHeartbeats 1000000 in
theorem senderNew_ok (n s q : Nat) (id : Nat) (hE : planErr n s q = 0) (a : Option Addr) (cap : Nat) (obj : List UInt8) (w : World) (hb : Bs w a n cap obj) (hm : n ≤ 140737488355328) :
    Calls Tryz.prog 10 #[.agg #[.int .i64 (n : Int), .int .i64 (s : Int), .int .i64 (q : Int), .int .u32 (id : Int)], .slice a n cap] w fun e w' =>
      ∃ B, w.heap.size ≤ B ∧ e = .returned (.tuple #[.pointer (some ⟨B, 0, none⟩), .int .i64 0]) ∧ SendAt w' B n s q id obj 0 ∧ Gr w w' := by
  have HC := Lib.hid fun w h => cutCut_ok n s q id hE a cap obj w h hm
  have HB := Lib.hid hb
  obtain ⟨_, _, hq1, _⟩ := plan_bounds hE
  clear hE hb
  go_enter Tryz.func10, Tryz.ntmps10
  go_wp2_with fail
  refine (HC.out _ (HB.out.below ((Gr.refl w).alloc _))).mono ?_
  rintro e w1 ⟨S, hS, rfl, hss, hg⟩
  obtain ⟨p0, p1, p2, p3⟩ := p_four_cells (hg.heap (heap_alloc_new w _))
  have hgw := ((Gr.refl w).alloc (.cells #[.int .i64 (n : Int), .int .i64 (s : Int), .int .i64 (q : Int), .int .u32 (id : Int)] 28)).trans hg
  have HSS := Lib.hid hss
  obtain ⟨b, off, hbo, hbl⟩ := hss.at_ (by omega)
  have hSl : S < w1.heap.size := by cases hbo; exact hbl
  clear hg hss hbo hbl
  go_wp2
  first | go_ret | go_ret2
  have hg2 := (Gr.refl w1).alloc (.cells #[.int .i64 (n : Int), .int .i64 (s : Int), .int .i64 (q : Int), .int .u32 (id : Int), .slice (some ⟨S, 0, none⟩) q q, .int .u64 0] 88)
  exact ⟨w1.heap.size, hgw.size, rfl, ⟨S, heap_alloc_new w1 _, HSS.out.below hg2, by omega, by rw [World.size_alloc]; omega⟩, hgw.trans hg2⟩
end Go.Proofs.YtddopoojmadpjaaGreatDoor

namespace Go.Proofs.YtddopoojmadpjaaGreatDoor
open Go.RowKit
set_option linter.unusedVariables false

theorem sendFit {n s q id m len : Nat} (hP : planErr n s q = 0) (hE : rowErr m len q = 0) : fitErr n s q id m id m len s = 0 := by
  obtain ⟨h1, h2⟩ := rowErr_zero hE
  have h3 := (widthE_zero h1).1
  unfold fitErr
  rw [if_neg (by simpa using hP), if_neg (by omega), if_neg (by omega), if_neg (by omega), if_neg (fun h => h.2 (h2 h.1)), if_neg (by omega)]

set_option maxRecDepth 100000 in
set_option maxHeartbeats 1000000 in
theorem send_nil (v : Value) (w : World) (m : Nat) (a : Option Addr) (len cap sd : Nat) :
    Calls Tryz.prog 12 #[.pointer none, .agg #[.int .u8 (m : Int), .slice a len cap, .int .u64 (sd : Int)]] w fun e w' => e = .returned (.tuple #[.slice none 0 0, .int .i64 1]) ∧ Gr w w' := by
  go_enter Tryz.func12, Tryz.ntmps12
  go_wp2
  first | go_ret | go_ret2
  exact ⟨rfl, (Gr.refl w).alloc _⟩
set_option maxRecDepth 100000 in
set_option maxHeartbeats 1000000 in
theorem send_spent (B n s q id : Nat) (obj : List UInt8) (m : Nat) (a : Option Addr) (len cap sd : Nat) (w : World) (h : SendAt w B n s q id obj 4294967296) :
    Calls Tryz.prog 12 #[.pointer (some ⟨B, 0, none⟩), .agg #[.int .u8 (m : Int), .slice a len cap, .int .u64 (sd : Int)]] w fun e w' => e = .returned (.tuple #[.slice none 0 0, .int .i64 11]) ∧ Gr w w' := by
  obtain ⟨S, h1, _, _, _⟩ := h
  obtain ⟨x0, x1, x2, x3, x4, x5, _⟩ := six_cells (Gr.heap ((Gr.refl w).alloc (.cells #[.int .u8 (m : Int), .slice a len cap, .int .u64 (sd : Int)] 41)) h1)
  clear h1
  go_enter Tryz.func12, Tryz.ntmps12
  go_wp2
  first | go_ret | go_ret2
  exact ⟨rfl, (Gr.refl w).alloc _⟩

set_option maxRecDepth 100000 in
set_option maxHeartbeats 2000000 in
theorem send_bad (B n s q id : Nat) (obj : List UInt8) (next : Nat) (hnx : next < 4294967296) (m : Nat) (a : Option Addr) (len cap sd : Nat) (hm : len ≤ 9223372036854775807) (hE : rowErr m len q ≠ 0) (w : World) (h : SendAt w B n s q id obj next) :
    Calls Tryz.prog 12 #[.pointer (some ⟨B, 0, none⟩), .agg #[.int .u8 (m : Int), .slice a len cap, .int .u64 (sd : Int)]] w fun e w' => e = .returned (.tuple #[.slice none 0 0, .int .i64 (rowErr m len q : Nat)]) ∧ Gr w w' := by
  have HV := Lib.hid (rowVector_bad m a len cap sd q hm hE)
  obtain ⟨E, eE⟩ : ∃ E, rowErr m len q = E := ⟨_, rfl⟩
  rw [eE] at HV hE ⊢
  have ht : ((E : Int) != 0) = true := by rw [bne_iff_ne]; omega
  obtain ⟨S, h1, _, _, _⟩ := h
  have hal := (Gr.refl w).alloc (.cells #[.int .u8 (m : Int), .slice a len cap, .int .u64 (sd : Int)] 41)
  have hA := heap_alloc_new w (.cells #[.int .u8 (m : Int), .slice a len cap, .int .u64 (sd : Int)] 41)
  have hB := hal.heap h1
  have hnt : ((next : Int) == 4294967296) = false := by rw [beq_eq_false_iff_ne]; omega
  clear eE hE h1
  go_enter Tryz.func12, Tryz.ntmps12
  obtain ⟨x0, x1, x2, x3, x4, x5, _⟩ := six_cells hB
  obtain ⟨y0, y1, y2, _⟩ := three_cells hA
  go_wp2
  obtain ⟨W0, eW⟩ : ∃ W, w.alloc (.cells #[.int .u8 (m : Int), .slice a len cap, .int .u64 (sd : Int)] 41) = W := ⟨_, rfl⟩
  rw [eW] at hal x0 x1 x2 x3 x4 x5 y0 y1 y2 ⊢
  have hup : Nonempty (Up Gr W0.drew) := ⟨⟨_, Gr.refl _⟩⟩
  have u0 : ∀ x : Up Gr W0.drew, x.w.cell? ⟨B, 0, none⟩ = some (.int .i64 (n : Int)) := fun x => gr_st x.rel x0
  have u1 : ∀ x : Up Gr W0.drew, x.w.cell? ⟨B, 1, none⟩ = some (.int .i64 (s : Int)) := fun x => gr_st x.rel x1
  have u2 : ∀ x : Up Gr W0.drew, x.w.cell? ⟨B, 2, none⟩ = some (.int .i64 (q : Int)) := fun x => gr_st x.rel x2
  have u3 : ∀ x : Up Gr W0.drew, x.w.cell? ⟨B, 3, none⟩ = some (.int .u32 (id : Int)) := fun x => gr_st x.rel x3
  have u4 : ∀ x : Up Gr W0.drew, x.w.cell? ⟨B, 4, none⟩ = some (.slice (some ⟨S, 0, none⟩) q q) := fun x => gr_st x.rel x4
  have u5 : ∀ x : Up Gr W0.drew, x.w.cell? ⟨B, 5, none⟩ = some (.int .u64 (next : Int)) := fun x => gr_st x.rel x5
  have v0 : ∀ x : Up Gr W0.drew, x.w.cell? ⟨w.heap.size, 0, none⟩ = some (.int .u8 (m : Int)) := fun x => gr_st x.rel y0
  have v1 : ∀ x : Up Gr W0.drew, x.w.cell? ⟨w.heap.size, 1, none⟩ = some (.slice a len cap) := fun x => gr_st x.rel y1
  have v2 : ∀ x : Up Gr W0.drew, x.w.cell? ⟨w.heap.size, 2, none⟩ = some (.int .u64 (sd : Int)) := fun x => gr_st x.rel y2
  clear x0 x1 x2 x3 x4 x5 y0 y1 y2 hA hB eW
  refine wp_region_rg [.reck, .reck, .reck, .reck, .reck, .reck, spV (.tuple #[.slice none 0 0, .int .i64 (E : Int)]), .reck, .reck, .reck, .reck, .reck] Gr (by kernel_rfl) (by kernel_rfl) Gr.refl (fun _ _ _ => Gr.trans) ?_
  (refine wpRG_reck rfl (fun K hK => ?_); go_big_quiet_op; refine hK _ ?_; clear hK K)
  (refine wpRG_reck rfl (fun K hK => ?_); go_big_quiet_op; refine hK _ ?_; clear hK K)
  (refine wpRG_reck rfl (fun K hK => ?_); go_big_quiet_op; refine hK _ ?_; clear hK K)
  (refine wpRG_reck rfl (fun K hK => ?_); go_big_quiet_op; refine hK _ ?_; clear hK K)
  (refine wpRG_reck rfl (fun K hK => ?_); go_big_quiet_op; refine hK _ ?_; clear hK K)
  (refine wpRG_reck rfl (fun K hK => ?_); go_big_quiet_op; refine hK _ ?_; clear hK K)
  refine wpRG_any rfl (fun _ _ _ _ h => h) (fun W hw hF R hR => ?_) ?_
  · (have HF := Lib.hid hF; clear hF; unfold rgAt; go_simp)
    show Calls _ _ _ _ _
    refine (HV.out W).mono ?_
    rintro e w6 ⟨rfl, hg6⟩
    exact ⟨_, rfl, hR () _ hg6 trivial⟩
  rintro ⟨⟩
  (simp only [Act.put, List.setIfInBounds_toArray, List.set_cons_zero, List.set_cons_succ])
  (refine wpRG_reck rfl (fun K hK => ?_); go_big_quiet_op; refine hK _ ?_; clear hK K)
  (refine wpRG_reck rfl (fun K hK => ?_); go_big_quiet_op; refine hK _ ?_; clear hK K)
  (refine wpRG_reck rfl (fun K hK => ?_); go_big_quiet_op; refine hK _ ?_; clear hK K)
  (refine wpRG_reck rfl (fun K hK => ?_); go_big_quiet_op; refine hK _ ?_; clear hK K)
  (refine wpRG_reck rfl (fun K hK => ?_); go_big_quiet_op; refine hK _ ?_; clear hK K)
  refine wpRG_end fun W hw hF => ?_
  have hgW : Gr w W := hal.trans ((Gr.refl _).drew.trans hw)
  clear hF hw u0 u1 u2 u3 u4 u5 v0 v1 v2 hup hal
  refine wpList_nil ?_
  go_wp2
  first | go_ret | go_ret2
  exact ⟨rfl, hgW⟩
/-- what is sent. -/
def sentL (n s q id : Nat) (obj : List UInt8) (next m : Nat) (l : List UInt8) (sd : Nat) : List UInt8 :=
  packText m id next l sd (combL (rowVec m l sd q) (cutL obj s q) s)
theorem cut_same {obj : List UInt8} {s q : Nat} : ∀ l ∈ cutL obj s q, l.length = s := by
  intro l hl
  simp only [cutL, List.mem_map] at hl
  obtain ⟨i, _, rfl⟩ := hl
  exact pieceL_length obj s i

set_option maxRecDepth 100000 in
set_option maxHeartbeats 4000000 in
theorem send_okS (B n s q id : Nat) (hP : planErr n s q = 0) (hid : id < 4294967296) (hnm : n ≤ 1000000000) (obj : List UInt8) (next : Nat) (hnx : next < 4294967296) (m : Nat) (a : Option Addr) (len cap sd : Nat) (hsd : sd < 18446744073709551616) (l : List UInt8) (hlm : len ≤ 1000000000) (hE : rowErr m len q = 0) (w : World) (htab : Tab w) (hs : Bs w a len cap l) (h : SendAt w B n s q id obj next) :
    Calls Tryz.prog 12 #[.pointer (some ⟨B, 0, none⟩), .agg #[.int .u8 (m : Int), .slice a len cap, .int .u64 (sd : Int)]] w fun e w' => ∃ a' k' c', e = .returned (.tuple #[.slice a' k' c', .int .i64 0]) ∧ Bs w' a' k' c' (sentL n s q id obj next m l sd) ∧ (∀ x, a' = some x → w.heap.size ≤ x.block) ∧ SendAt w' B n s q id obj (next + 1) ∧ GrB w B w' ∧ ∃ S, w.cell? ⟨B, 4, none⟩ = some (.slice (some ⟨S, 0, none⟩) q q) ∧ w'.cell? ⟨B, 4, none⟩ = some (.slice (some ⟨S, 0, none⟩) q q) := by
  obtain ⟨hs1, hs2, hq1, hq2⟩ := plan_bounds hP
  have HV := Lib.hid fun w h => rowVector_ok m a len cap l sd hsd q w h (by omega) hE
  have hft := sendFit (id := id) hP hE
  have hvl : Hid ((rowVec m l sd q).length = q) := by
    show _ = _
    unfold rowVec
    split
    · rename_i h0; rw [hs.1]; have := (rowErr_zero hE).2 h0; omega
    · exact mixList_length sd q
  have HCB := Lib.hid fun (ac : Option Addr) (cc S : Nat) w h1 h2 => comb_ok ac cc (rowVec m l sd q) (some ⟨S, 0, none⟩) q q s (cutL obj s q) w h1 h2 hq1 cut_same hs1 (by omega)
  have HW := Lib.hid fun (g : Nat) (lp : List UInt8) w ht h1 h2 => packWrite_all n s q id m id next m len s sd hid hnx (by omega) (by omega) (by omega) (by omega) a (some ⟨g, 0, none⟩) cap s l lp w ht h1 h2 hlm (by omega)
  have hpl : Hid ((combL (rowVec m l sd q) (cutL obj s q) s).length = s) := combL_length cut_same
  have hsent : Hid (wText n s q id m id next m l sd (combL (rowVec m l sd q) (cutL obj s q) s) = sentL n s q id obj next m l sd) := by
    show _ = _
    unfold wText sentL
    rw [hs.1, hpl.out, if_pos hft]
  obtain ⟨V, eV⟩ : ∃ V, rowVec m l sd q = V := ⟨_, rfl⟩
  obtain ⟨LP, eLP⟩ : ∃ L, combL (rowVec m l sd q) (cutL obj s q) s = L := ⟨_, rfl⟩
  rw [eLP] at hsent
  rw [eV] at HV HCB hvl eLP
  rw [eLP] at HCB
  rw [hft] at HW
  obtain ⟨TX, eTX⟩ : ∃ T, sentL n s q id obj next m l sd = T := ⟨_, rfl⟩
  rw [eTX] at hsent ⊢
  have HS := Lib.hid hs
  have HT := Lib.hid htab
  have HSA := Lib.hid h
  obtain ⟨S, h1, hss, hSB, hSl⟩ := h
  have H1S := Lib.hid h1
  have HSS := Lib.hid hss
  have H1 := Lib.hid h1
  have hal := (Gr.refl w).alloc (.cells #[.int .u8 (m : Int), .slice a len cap, .int .u64 (sd : Int)] 41)
  have hA := heap_alloc_new w (.cells #[.int .u8 (m : Int), .slice a len cap, .int .u64 (sd : Int)] 41)
  have hB := hal.heap h1
  have hBl := lt_of_block h1
  have hnt : ((next : Int) == 4294967296) = false := by rw [beq_eq_false_iff_ne]; omega
  have hnxi : (next : Int) < 4294967296 := by omega
  clear hP hE eV eLP eTX htab hs hss h1 hft hpl
  go_enter Tryz.func12, Tryz.ntmps12
  obtain ⟨x0, x1, x2, x3, x4, x5, _⟩ := six_cells hB
  obtain ⟨y0, y1, y2, _⟩ := three_cells hA
  go_wp2
  obtain ⟨W0, eW⟩ : ∃ W, w.alloc (.cells #[.int .u8 (m : Int), .slice a len cap, .int .u64 (sd : Int)] 41) = W := ⟨_, rfl⟩
  rw [eW] at hal hA hB x0 x1 x2 x3 x4 x5 y0 y1 y2 ⊢
  have HA := Lib.hid hA
  have HB := Lib.hid hB
  have hup : Nonempty (Up Gr W0.drew) := ⟨⟨_, Gr.refl _⟩⟩
  have u0 : ∀ x : Up Gr W0.drew, x.w.cell? ⟨B, 0, none⟩ = some (.int .i64 (n : Int)) := fun x => gr_st x.rel x0
  have u1 : ∀ x : Up Gr W0.drew, x.w.cell? ⟨B, 1, none⟩ = some (.int .i64 (s : Int)) := fun x => gr_st x.rel x1
  have u2 : ∀ x : Up Gr W0.drew, x.w.cell? ⟨B, 2, none⟩ = some (.int .i64 (q : Int)) := fun x => gr_st x.rel x2
  have u3 : ∀ x : Up Gr W0.drew, x.w.cell? ⟨B, 3, none⟩ = some (.int .u32 (id : Int)) := fun x => gr_st x.rel x3
  have u4 : ∀ x : Up Gr W0.drew, x.w.cell? ⟨B, 4, none⟩ = some (.slice (some ⟨S, 0, none⟩) q q) := fun x => gr_st x.rel x4
  have u5 : ∀ x : Up Gr W0.drew, x.w.cell? ⟨B, 5, none⟩ = some (.int .u64 (next : Int)) := fun x => gr_st x.rel x5
  have v0 : ∀ x : Up Gr W0.drew, x.w.cell? ⟨w.heap.size, 0, none⟩ = some (.int .u8 (m : Int)) := fun x => gr_st x.rel y0
  have v1 : ∀ x : Up Gr W0.drew, x.w.cell? ⟨w.heap.size, 1, none⟩ = some (.slice a len cap) := fun x => gr_st x.rel y1
  have v2 : ∀ x : Up Gr W0.drew, x.w.cell? ⟨w.heap.size, 2, none⟩ = some (.int .u64 (sd : Int)) := fun x => gr_st x.rel y2
  clear x0 x1 x2 x3 x4 x5 y0 y1 y2 hA hB eW
  refine wp_region_rg [.reck, .reck, .reck, .reck, .reck, .reck, .any (Option Addr × Nat) (none, 0) (fun x => .tuple #[.slice x.1 q x.2, .int .i64 0]) (fun x W => Bs W x.1 q x.2 V), .reck, .reck, .reck, .reck, .reck] Gr (by kernel_rfl) (by kernel_rfl) Gr.refl (fun _ _ _ => Gr.trans) ?_
  (refine wpRG_reck rfl (fun K hK => ?_); go_big_quiet_op; refine hK _ ?_; clear hK K)
  (refine wpRG_reck rfl (fun K hK => ?_); go_big_quiet_op; refine hK _ ?_; clear hK K)
  (refine wpRG_reck rfl (fun K hK => ?_); go_big_quiet_op; refine hK _ ?_; clear hK K)
  (refine wpRG_reck rfl (fun K hK => ?_); go_big_quiet_op; refine hK _ ?_; clear hK K)
  (refine wpRG_reck rfl (fun K hK => ?_); go_big_quiet_op; refine hK _ ?_; clear hK K)
  (refine wpRG_reck rfl (fun K hK => ?_); go_big_quiet_op; refine hK _ ?_; clear hK K)
  refine wpRG_any rfl (fun _ _ _ hg h => h.below hg) (fun W hw hF R hR => ?_) ?_
  · (have HF := Lib.hid hF; clear hF; unfold rgAt; go_simp)
    show Calls _ _ _ _ _
    refine (HV.out W (HS.out.below (hal.trans ((Gr.refl _).drew.trans hw)))).mono ?_
    rintro e w6 ⟨v, rfl, ⟨a6, c6, rfl, hb6, _, hg6⟩, _⟩
    rw [hvl.out] at hb6 ⊢
    exact ⟨_, rfl, hR (a6, c6) _ hg6 hb6⟩
  rintro ⟨a6, c6⟩
  (simp only [Act.put, List.setIfInBounds_toArray, List.set_cons_zero, List.set_cons_succ])
  (refine wpRG_reck rfl (fun K hK => ?_); go_big_quiet_op; refine hK _ ?_; clear hK K)
  (refine wpRG_reck rfl (fun K hK => ?_); go_big_quiet_op; refine hK _ ?_; clear hK K)
  (refine wpRG_reck rfl (fun K hK => ?_); go_big_quiet_op; refine hK _ ?_; clear hK K)
  (refine wpRG_reck rfl (fun K hK => ?_); go_big_quiet_op; refine hK _ ?_; clear hK K)
  (refine wpRG_reck rfl (fun K hK => ?_); go_big_quiet_op; refine hK _ ?_; clear hK K)
  refine wpRG_end fun W1 hw hF => ?_
  have f6 : Bs W1 a6 q c6 V := hF 6
  have h01 : Gr W0 W1 := (Gr.refl _).drew.trans hw
  clear hF hw u0 u1 u2 u3 u4 u5 v0 v1 v2 hup
  refine wpList_nil ?_
  have hg1 := hal.trans h01
  obtain ⟨x0, x1, x2, x3, x4, x5, _⟩ := six_cells (h01.heap HB.out)
  have HA1 := Lib.hid (h01.heap HA.out)
  have HB1 := Lib.hid (h01.heap HB.out)
  have CB := Lib.hid (HCB.out a6 c6 S W1 f6 (HSS.out.below hg1))
  clear f6 h01 hal HA HB HV HCB
  go_wp2_with fail
  refine CB.out.mono ?_
  rintro e w2 ⟨g, hgl, rfl, hown, hg2⟩
  have hgw2 := hg1.trans hg2
  have hA2 := hg2.heap HA1.out
  have hB2 := hg2.heap HB1.out
  have HO := Lib.hid hown.bs
  clear hown hg1 hg2 HA1 HB1 CB x0 x1 x2 x3 x4 x5
  go_wp2
  obtain ⟨x0, x1, x2, x3, x4, x5, _⟩ := six_cells hB2
  obtain ⟨y0, y1, y2, _⟩ := three_cells hA2
  have HA2 := Lib.hid hA2
  have HB2 := Lib.hid hB2
  have hup : Nonempty (Up Gr w2.drew) := ⟨⟨_, Gr.refl _⟩⟩
  have u0 : ∀ x : Up Gr w2.drew, x.w.cell? ⟨B, 0, none⟩ = some (.int .i64 (n : Int)) := fun x => gr_st x.rel x0
  have u1 : ∀ x : Up Gr w2.drew, x.w.cell? ⟨B, 1, none⟩ = some (.int .i64 (s : Int)) := fun x => gr_st x.rel x1
  have u2 : ∀ x : Up Gr w2.drew, x.w.cell? ⟨B, 2, none⟩ = some (.int .i64 (q : Int)) := fun x => gr_st x.rel x2
  have u3 : ∀ x : Up Gr w2.drew, x.w.cell? ⟨B, 3, none⟩ = some (.int .u32 (id : Int)) := fun x => gr_st x.rel x3
  have u4 : ∀ x : Up Gr w2.drew, x.w.cell? ⟨B, 4, none⟩ = some (.slice (some ⟨S, 0, none⟩) q q) := fun x => gr_st x.rel x4
  have u5 : ∀ x : Up Gr w2.drew, x.w.cell? ⟨B, 5, none⟩ = some (.int .u64 (next : Int)) := fun x => gr_st x.rel x5
  have v0 : ∀ x : Up Gr w2.drew, x.w.cell? ⟨w.heap.size, 0, none⟩ = some (.int .u8 (m : Int)) := fun x => gr_st x.rel y0
  have v1 : ∀ x : Up Gr w2.drew, x.w.cell? ⟨w.heap.size, 1, none⟩ = some (.slice a len cap) := fun x => gr_st x.rel y1
  have v2 : ∀ x : Up Gr w2.drew, x.w.cell? ⟨w.heap.size, 2, none⟩ = some (.int .u64 (sd : Int)) := fun x => gr_st x.rel y2
  clear x0 x1 x2 x3 x4 x5 y0 y1 y2 hA2 hB2
  refine wp_region_rg [.reck, .reck, .reck, .reck, .reck, .reck, .reck, .reck, .reck, .reck, .reck, .reck, .reck, .reck, .reck, .reck, .any Nat 0 (fun b => .pointer (some ⟨b, 0, none⟩)) (fun b W => w2.heap.size ≤ b ∧ W.heap[b]? = some (.cells #[.int .u8 0, .int .u32 0, .int .u32 0, .int .u8 0, .slice none 0 0, .int .u64 0, .slice none 0 0] 96))] Gr (by kernel_rfl) (by kernel_rfl) Gr.refl (fun _ _ _ => Gr.trans) ?_
  (refine wpRG_reck rfl (fun K hK => ?_); go_big_quiet_op; refine hK _ ?_; clear hK K)
  (refine wpRG_reck rfl (fun K hK => ?_); go_big_quiet_op; refine hK _ ?_; clear hK K)
  (refine wpRG_reck rfl (fun K hK => ?_); go_big_quiet_op; refine hK _ ?_; clear hK K)
  (refine wpRG_reck rfl (fun K hK => ?_); go_big_quiet_op; refine hK _ ?_; clear hK K)
  (refine wpRG_reck rfl (fun K hK => ?_); go_big_quiet_op; refine hK _ ?_; clear hK K)
  (refine wpRG_reck rfl (fun K hK => ?_); go_big_quiet_op; refine hK _ ?_; clear hK K)
  (refine wpRG_reck rfl (fun K hK => ?_); go_big_quiet_op; refine hK _ ?_; clear hK K)
  (refine wpRG_reck rfl (fun K hK => ?_); go_big_quiet_op; refine hK _ ?_; clear hK K)
  (refine wpRG_reck rfl (fun K hK => ?_); go_big_quiet_op; refine hK _ ?_; clear hK K)
  (refine wpRG_reck rfl (fun K hK => ?_); go_big_quiet_op; refine hK _ ?_; clear hK K)
  (refine wpRG_reck rfl (fun K hK => ?_); go_big_quiet_op; refine hK _ ?_; clear hK K)
  (refine wpRG_reck rfl (fun K hK => ?_); go_big_quiet_op; refine hK _ ?_; clear hK K)
  (refine wpRG_reck rfl (fun K hK => ?_); go_big_quiet_op; refine hK _ ?_; clear hK K)
  (refine wpRG_reck rfl (fun K hK => ?_); go_big_quiet_op; refine hK _ ?_; clear hK K)
  (refine wpRG_reck rfl (fun K hK => ?_); go_big_quiet_op; refine hK _ ?_; clear hK K)
  (refine wpRG_reck rfl (fun K hK => ?_); go_big_quiet_op; refine hK _ ?_; clear hK K)
  refine wpRG_any rfl (fun x w1 w2 hg h => ⟨h.1, hg.heap h.2⟩) (fun W hw hF R' hR => ?_) ?_
  · (have HF := Lib.hid hF; clear hF; unfold rgAt; go_simp)
    exact hR W.heap.size _ ((Gr.refl _).alloc _) ⟨hw.size, heap_alloc_new _ _⟩
  intro bZ
  (simp only [Act.put, List.setIfInBounds_toArray, List.set_cons_zero, List.set_cons_succ])
  refine wpRG_end fun WZ hwZ hF => ?_
  have f16 : w2.heap.size ≤ bZ ∧ WZ.heap[bZ]? = some (.cells #[.int .u8 0, .int .u32 0, .int .u32 0, .int .u8 0, .slice none 0 0, .int .u64 0, .slice none 0 0] 96) := hF 16
  obtain ⟨f8, f9⟩ := f16
  have hAZ : Gr w2 WZ := (Gr.refl _).drew.trans hwZ
  clear hF hwZ u0 u1 u2 u3 u4 u5 v0 v1 v2 hup
  obtain ⟨z0, z1, z2, z3, z4, z5, z6, zf⟩ := seven_cells f9
  have hh := seven_set f9 (.int .u8 (m : Int)) (.int .u32 (id : Int)) (.int .u32 (next : Int)) (.int .u8 (m : Int)) (.slice a len cap) (.int .u64 (sd : Int)) (.slice (some ⟨g, 0, none⟩) s s)
  have hgb := grb_seven WZ bZ (.int .u8 (m : Int)) (.int .u32 (id : Int)) (.int .u32 (next : Int)) (.int .u8 (m : Int)) (.slice a len cap) (.int .u64 (sd : Int)) (.slice (some ⟨g, 0, none⟩) s s)
  have hW3 := hAZ.grb hgb f8
  have HH := Lib.hid hh
  have HW3 := Lib.hid hW3
  clear hh hgb hW3 f9 hAZ
  go_wp2
  obtain ⟨W3, eW⟩ : ∃ W, (((((((WZ.setCell ⟨bZ, 0, none⟩ (.int .u8 (m : Int))).setCell ⟨bZ, 1, none⟩ (.int .u32 (id : Int))).setCell ⟨bZ, 2, none⟩ (.int .u32 (next : Int))).setCell ⟨bZ, 3, none⟩ (.int .u8 (m : Int))).setCell ⟨bZ, 4, none⟩ (.slice a len cap)).setCell ⟨bZ, 5, none⟩ (.int .u64 (sd : Int))).setCell ⟨bZ, 6, none⟩ (.slice (some ⟨g, 0, none⟩) s s)) = W := ⟨_, rfl⟩
  rw [eW] at HH HW3 ⊢
  clear eW z0 z1 z2 z3 z4 z5 z6 zf
  have hg23 := HW3.out
  have hgw3 := hgw2.trans hg23
  have HB3 := Lib.hid (hg23.heap HB2.out)
  have HO3 := Lib.hid (HO.out.below hg23)
  obtain ⟨y0, y1, y2, y3, y4, y5, y6, _⟩ := seven_cells HH.out
  obtain ⟨x0, x1, x2, x3, x4, x5, _⟩ := six_cells HB3.out
  have hup : Nonempty (Up Gr W3.drew) := ⟨⟨_, Gr.refl _⟩⟩
  have u0 : ∀ x : Up Gr W3.drew, x.w.cell? ⟨B, 0, none⟩ = some (.int .i64 (n : Int)) := fun x => gr_st x.rel x0
  have u1 : ∀ x : Up Gr W3.drew, x.w.cell? ⟨B, 1, none⟩ = some (.int .i64 (s : Int)) := fun x => gr_st x.rel x1
  have u2 : ∀ x : Up Gr W3.drew, x.w.cell? ⟨B, 2, none⟩ = some (.int .i64 (q : Int)) := fun x => gr_st x.rel x2
  have u3 : ∀ x : Up Gr W3.drew, x.w.cell? ⟨B, 3, none⟩ = some (.int .u32 (id : Int)) := fun x => gr_st x.rel x3
  have u4 : ∀ x : Up Gr W3.drew, x.w.cell? ⟨B, 4, none⟩ = some (.slice (some ⟨S, 0, none⟩) q q) := fun x => gr_st x.rel x4
  have u5 : ∀ x : Up Gr W3.drew, x.w.cell? ⟨B, 5, none⟩ = some (.int .u64 (next : Int)) := fun x => gr_st x.rel x5
  have v0 : ∀ x : Up Gr W3.drew, x.w.cell? ⟨bZ, 0, none⟩ = some (.int .u8 (m : Int)) := fun x => gr_st x.rel y0
  have v1 : ∀ x : Up Gr W3.drew, x.w.cell? ⟨bZ, 1, none⟩ = some (.int .u32 (id : Int)) := fun x => gr_st x.rel y1
  have v2 : ∀ x : Up Gr W3.drew, x.w.cell? ⟨bZ, 2, none⟩ = some (.int .u32 (next : Int)) := fun x => gr_st x.rel y2
  have v3 : ∀ x : Up Gr W3.drew, x.w.cell? ⟨bZ, 3, none⟩ = some (.int .u8 (m : Int)) := fun x => gr_st x.rel y3
  have v4 : ∀ x : Up Gr W3.drew, x.w.cell? ⟨bZ, 4, none⟩ = some (.slice a len cap) := fun x => gr_st x.rel y4
  have v5 : ∀ x : Up Gr W3.drew, x.w.cell? ⟨bZ, 5, none⟩ = some (.int .u64 (sd : Int)) := fun x => gr_st x.rel y5
  have v6 : ∀ x : Up Gr W3.drew, x.w.cell? ⟨bZ, 6, none⟩ = some (.slice (some ⟨g, 0, none⟩) s s) := fun x => gr_st x.rel y6
  clear x0 x1 x2 x3 x4 x5 y0 y1 y2 y3 y4 y5 y6 hg23 HW3 HA2 HB2 HO hgw2 HH
  refine wp_region_rg [.reck, .reck, .reck, .reck, .reck, .any (Option Addr × Nat × Nat) (none, 0, 0) (fun x => .tuple #[.slice x.1 x.2.1 x.2.2, .int .i64 0]) (fun x W => Bs W x.1 x.2.1 x.2.2 TX ∧ ∀ y, x.1 = some y → w.heap.size ≤ y.block), .reck, .reck, .reck, .reck, .reck] Gr (by kernel_rfl) (by kernel_rfl) Gr.refl (fun _ _ _ => Gr.trans) ?_
  (refine wpRG_reck rfl (fun K hK => ?_); go_big_quiet_op; refine hK _ ?_; clear hK K)
  (refine wpRG_reck rfl (fun K hK => ?_); go_big_quiet_op; refine hK _ ?_; clear hK K)
  (refine wpRG_reck rfl (fun K hK => ?_); go_big_quiet_op; refine hK _ ?_; clear hK K)
  (refine wpRG_reck rfl (fun K hK => ?_); go_big_quiet_op; refine hK _ ?_; clear hK K)
  (refine wpRG_reck rfl (fun K hK => ?_); go_big_quiet_op; refine hK _ ?_; clear hK K)
  refine wpRG_any rfl (fun _ _ _ hg h => ⟨h.1.below hg, h.2⟩) (fun W hw hF R hR => ?_) ?_
  · (have HF := Lib.hid hF; clear hF; unfold rgAt; go_simp)
    show Calls _ _ _ _ _
    have h3W := (Gr.refl W3).drew.trans hw
    refine (HW.out g LP W (HT.out.below (hgw3.trans h3W)) (HS.out.below (hgw3.trans h3W)) (HO3.out.below h3W)).mono ?_
    rintro e w6 ⟨a7, k7, c7, rfl, ho7, hg7⟩
    rw [hsent.out] at ho7
    have hown7 := ho7
    obtain ⟨a8, c8, e8, hb8, hf8⟩ := ho7.bs
    injection e8 with e1 e2 e3
    refine ⟨_, rfl, hR (a7, k7, c7) _ hg7 ⟨by rw [e1, e2, e3]; exact hb8, fun y hy => ?_⟩⟩
    have := hf8 y (by rw [← e1]; exact hy)
    have := (hgw3.trans h3W).size
    omega
  rintro ⟨a7, k7, c7⟩
  (simp only [Act.put, List.setIfInBounds_toArray, List.set_cons_zero, List.set_cons_succ])
  (refine wpRG_reck rfl (fun K hK => ?_); go_big_quiet_op; refine hK _ ?_; clear hK K)
  (refine wpRG_reck rfl (fun K hK => ?_); go_big_quiet_op; refine hK _ ?_; clear hK K)
  (refine wpRG_reck rfl (fun K hK => ?_); go_big_quiet_op; refine hK _ ?_; clear hK K)
  (refine wpRG_reck rfl (fun K hK => ?_); go_big_quiet_op; refine hK _ ?_; clear hK K)
  (refine wpRG_reck rfl (fun K hK => ?_); go_big_quiet_op; refine hK _ ?_; clear hK K)
  refine wpRG_end fun W4 hw hF => ?_
  have f5 : Bs W4 a7 k7 c7 TX ∧ ∀ y, a7 = some y → w.heap.size ≤ y.block := hF 5
  have h34 : Gr W3 W4 := (Gr.refl _).drew.trans hw
  clear hF hw u0 u1 u2 u3 u4 u5 v0 v1 v2 v3 v4 v5 v6 hup
  refine wpList_nil ?_
  have hgw4 := hgw3.trans h34
  have hB4 := h34.heap HB3.out
  obtain ⟨x0, x1, x2, x3, x4, x5, xf⟩ := six_cells hB4
  have hset := (HSA.out.gr hgw4).set (next + 1)
  have hbf := f5.1.gap hset.2 hB4 (fun j u => by match j with | 0 => simp | 1 => simp | 2 => simp | 3 => simp | 4 => simp | 5 => simp | j + 6 => simp)
  obtain ⟨-, -, -, -, s4, -⟩ := six_cells H1S.out
  obtain ⟨-, -, -, -, s4', -⟩ := six_cells (six_last (hgw4.heap H1S.out) (.int .u64 ((next + 1 : Nat) : Int))).2
  have hfin := Lib.hid (And.intro hbf (And.intro f5.2 (And.intro hset.1 (And.intro ((GrB.of_gr hgw4).trans hset.2) (Exists.intro (p := fun S => w.cell? ⟨B, 4, none⟩ = some (.slice (some ⟨S, 0, none⟩) q q) ∧ _ = some (Value.slice (some ⟨S, 0, none⟩) q q)) S (And.intro s4 s4'))))))
  clear s4 s4'
  clear hset hbf hB4 hgw4 f5 h34 HB3 HO3 hgw3
  go_wp2
  first | go_ret | go_ret2
  exact ⟨a7, k7, c7, rfl, hfin.out⟩
theorem send_ok (B n s q id : Nat) (hP : planErr n s q = 0) (hid : id < 4294967296) (hnm : n ≤ 1000000000) (obj : List UInt8) (next : Nat) (hnx : next < 4294967296) (m : Nat) (a : Option Addr) (len cap sd : Nat) (hsd : sd < 18446744073709551616) (l : List UInt8) (hlm : len ≤ 1000000000) (hE : rowErr m len q = 0) (w : World) (htab : Tab w) (hs : Bs w a len cap l) (h : SendAt w B n s q id obj next) :
    Calls Tryz.prog 12 #[.pointer (some ⟨B, 0, none⟩), .agg #[.int .u8 (m : Int), .slice a len cap, .int .u64 (sd : Int)]] w fun e w' => ∃ a' k' c', e = .returned (.tuple #[.slice a' k' c', .int .i64 0]) ∧ Bs w' a' k' c' (sentL n s q id obj next m l sd) ∧ (∀ x, a' = some x → w.heap.size ≤ x.block) ∧ SendAt w' B n s q id obj (next + 1) ∧ GrB w B w' := by
  refine (send_okS B n s q id hP hid hnm obj next hnx m a len cap sd hsd l hlm hE w htab hs h).mono ?_
  rintro e w' ⟨a', k', c', he, h1, h2, h3, h4, _⟩
  exact ⟨a', k', c', he, h1, h2, h3, h4⟩
end Go.Proofs.YtddopoojmadpjaaGreatDoor

namespace Go.Proofs.YtddopoojmadpjaaGreatDoor
open Go.RowKit
set_option linter.unusedVariables false

/-- the source, as it is read. -/
def gotB (m : Nat) (l : List UInt8) : List UInt8 := if m = 0 then l else []
def gotS (m sd : Nat) : Nat := if m = 0 then 0 else sd
theorem got_vec (m : Nat) (l : List UInt8) (sd q : Nat) : rowVec m (gotB m l) (gotS m sd) q = rowVec m l sd q := by
  unfold rowVec gotB gotS; by_cases h : m = 0
  · simp [h]
  · simp [h]
theorem got_le (m : Nat) (l : List UInt8) : (gotB m l).length ≤ l.length := by unfold gotB; split <;> simp
theorem gotS_lt {m sd : Nat} (h : sd < 18446744073709551616) : gotS m sd < 18446744073709551616 := by unfold gotS; split <;> omega
theorem got_fit {n s q id m len : Nat} {l : List UInt8} (hl : l.length = len) (hP : planErr n s q = 0) (hE : rowErr m len q = 0) : fitErr n s q id m id m (gotB m l).length s = 0 := by
  obtain ⟨h1, h2⟩ := rowErr_zero hE
  have h3 := (widthE_zero h1).1
  unfold fitErr
  rw [if_neg (by simpa using hP), if_neg (by omega), if_neg (by omega), if_neg (by omega), if_neg (fun h => h.2 (by rw [gotB, if_pos h.1, hl]; exact h2 h.1)), if_neg (by omega)]

/-- what the sent bytes are read as. -/
theorem sent_read {n s q id m len next sd : Nat} {l obj : List UInt8} (hl : l.length = len) (hid : id < 4294967296) (hnx : next < 4294967296) (hsd : sd < 18446744073709551616) (hP : planErr n s q = 0) (hE : rowErr m len q = 0) :
    packErr n s q id (sentL n s q id obj next m l sd) = 0 ∧ packGot n s q id (sentL n s q id obj next m l sd) = ⟨m, id, next, m, gotS m sd, gotB m l, combL (rowVec m l sd q) (cutL obj s q) s⟩ :=
  text_read hid hnx hsd (by rw [hl, combL_length cut_same]; exact sendFit hP hE)
end Go.Proofs.YtddopoojmadpjaaGreatDoor

namespace Go.Proofs.YtddopoojmadpjaaGreatDoor
open Go.RowKit
set_option linter.unusedVariables false

set_option maxRecDepth 100000 in
set_option maxHeartbeats 1000000 in
theorem explicit_ok (B n s q id : Nat) (hP : planErr n s q = 0) (hid : id < 4294967296) (hnm : n ≤ 1000000000) (obj : List UInt8) (next : Nat) (hnx : next < 4294967296) (a : Option Addr) (cap : Nat) (l : List UInt8) (w : World) (htab : Tab w) (hs : Bs w a q cap l) (h : SendAt w B n s q id obj next) :
    Calls Tryz.prog 29 #[.pointer (some ⟨B, 0, none⟩), .slice a q cap] w fun e w' => ∃ a' k' c', e = .returned (.tuple #[.slice a' k' c', .int .i64 0]) ∧ Bs w' a' k' c' (sentL n s q id obj next 0 l 0) ∧ SendAt w' B n s q id obj (next + 1) ∧ GrB w B w' := by
  obtain ⟨hs1, hs2, hq1, hq2⟩ := plan_bounds hP
  have hE : rowErr 0 q q = 0 := by unfold rowErr; rw [if_neg (by rw [widthE_ok (by decide) (by omega) (by omega)]; decide), if_neg (by omega)]
  have HX := Lib.hid fun w h => explicit_any a q cap l w h (by omega)
  have HO := Lib.hid fun a' c' w ht h1 h2 => send_ok B n s q id hP hid hnm obj next hnx 0 a' q c' 0 (by decide) l (by omega) hE w ht h1 h2
  have HS := Lib.hid hs
  have HT := Lib.hid htab
  have HA := Lib.hid h
  clear hP hE hs htab h
  go_enter Tryz.func29, Tryz.ntmps29
  go_wp2_with fail
  refine (HX.out _ HS.out).mono ?_
  rintro e w1 ⟨a', c', rfl, hb, _, hg⟩
  have C := Lib.hid (HO.out a' c' w1 (HT.out.below hg) hb (HA.out.gr hg))
  have HG := Lib.hid hg
  clear hb hg
  go_wp2_with fail
  refine C.out.mono ?_
  rintro e w2 ⟨a2, k2, c2, rfl, hb2, _, hs2, hg2⟩
  have hfin := Lib.hid (show _ ∧ _ ∧ _ from ⟨hb2, hs2, (GrB.of_gr HG.out).trans hg2⟩)
  clear hb2 hs2 hg2
  go_wp2
  first | go_ret | go_ret2
  exact ⟨a2, k2, c2, rfl, hfin.out⟩

set_option maxRecDepth 100000 in
set_option maxHeartbeats 1000000 in
theorem explicit_bad (B n s q id : Nat) (obj : List UInt8) (next : Nat) (hnx : next < 4294967296) (a : Option Addr) (len cap : Nat) (hlm : len ≤ 1000000) (l : List UInt8) (hE : rowErr 0 len q ≠ 0) (w : World) (hs : Bs w a len cap l) (h : SendAt w B n s q id obj next) :
    Calls Tryz.prog 29 #[.pointer (some ⟨B, 0, none⟩), .slice a len cap] w fun e w' => e = .returned (.tuple #[.slice none 0 0, .int .i64 (rowErr 0 len q : Nat)]) ∧ Gr w w' := by
  have HX := Lib.hid fun w h => explicit_any a len cap l w h (by omega)
  have HO := Lib.hid fun a' c' w h2 => send_bad B n s q id obj next hnx 0 a' len c' 0 (by omega) hE w h2
  obtain ⟨E, eE⟩ : ∃ E, rowErr 0 len q = E := ⟨_, rfl⟩
  rw [eE] at HO ⊢
  have HS := Lib.hid hs
  have HA := Lib.hid h
  clear hE eE hs h
  go_enter Tryz.func29, Tryz.ntmps29
  go_wp2_with fail
  refine (HX.out _ HS.out).mono ?_
  rintro e w1 ⟨a', c', rfl, hb, _, hg⟩
  have C := Lib.hid (HO.out a' c' w1 (HA.out.gr hg))
  have HG := Lib.hid hg
  clear hb hg
  go_wp2_with fail
  refine C.out.mono ?_
  rintro e w2 ⟨rfl, hg2⟩
  have hfin := HG.out.trans hg2
  clear hg2
  go_wp2
  first | go_ret | go_ret2
  exact ⟨rfl, hfin⟩
end Go.Proofs.YtddopoojmadpjaaGreatDoor
