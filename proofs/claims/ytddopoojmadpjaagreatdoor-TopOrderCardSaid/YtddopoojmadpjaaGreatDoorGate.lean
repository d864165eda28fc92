/-
  The walks of gate.New and gate.Gate.Count; how many bytes a law of gates goes through.
  The walk of gate.Gate.Seen.
  Two blocks are written, each once; all else grows.
  The walk of gate.Gate.Look.
  The walks of a gate's methods where nothing came yet: its map is nil.
  A gate, whatever came to it: its methods, in one contract each.
-/
import Derived.Test.YtddopoojmadpjaaGreatDoorSum
import Derived.Test.YtddopoojmadpjaaGreatDoorVec
import Derived.Maps.OwnOps
import Derived.Maps.Ext
import Derived.Test.YtddopoojmadpjaaGreatDoorHeadPlain
import Derived.Maps.RangeWalk
import Derived.Test.YtddopoojmadpjaaGreatDoorRegion
import Derived.Test.YtddopoojmadpjaaGreatDoorPacketGot
import Derived.Maps.OwnSet
import Derived.Laws.IdiomRangeMap
namespace Go.Proofs.YtddopoojmadpjaaGreatDoor
open Go.RowKit Go.Maps
set_option linter.unusedVariables false

theorem five_cells {W : World} {R : Nat} {v0 v1 v2 v3 v4 : Value} {t : TypeId} (h : W.heap[R]? = some (.cells #[v0, v1, v2, v3, v4] t)) :
    W.cell? ⟨R, 0, none⟩ = some v0 ∧ W.cell? ⟨R, 1, none⟩ = some v1 ∧ W.cell? ⟨R, 2, none⟩ = some v2 ∧ W.cell? ⟨R, 3, none⟩ = some v3 ∧ W.cell? ⟨R, 4, none⟩ = some v4 ∧ ∀ i, W.frozen? ⟨R, i, none⟩ = false := by
  refine ⟨?_, ?_, ?_, ?_, ?_, fun i => ?_⟩ <;> simp [World.cell?, World.frozen?, h]
theorem five_set {W : World} {R : Nat} {v0 v1 v2 v3 v4 : Value} {t : TypeId} (h : W.heap[R]? = some (.cells #[v0, v1, v2, v3, v4] t)) (u0 u1 u2 u3 u4 : Value) :
    GrB W R (((((W.setCell ⟨R, 0, none⟩ u0).setCell ⟨R, 1, none⟩ u1).setCell ⟨R, 2, none⟩ u2).setCell ⟨R, 3, none⟩ u3).setCell ⟨R, 4, none⟩ u4) ∧
    (((((W.setCell ⟨R, 0, none⟩ u0).setCell ⟨R, 1, none⟩ u1).setCell ⟨R, 2, none⟩ u2).setCell ⟨R, 3, none⟩ u3).setCell ⟨R, 4, none⟩ u4).heap[R]? = some (.cells #[u0, u1, u2, u3, u4] t) := by
  refine ⟨((((((GrB.refl W R).set (.inl rfl) _).set (.inl rfl) _).set (.inl rfl) _).set (.inl rfl) _).set (.inl rfl) _), ?_⟩
  have h5 := heap_set (i := 4) (heap_set (i := 3) (heap_set (i := 2) (heap_set (i := 1) (heap_set (i := 0) h u0) u1) u2) u3) u4
  simpa only [List.setIfInBounds_toArray, List.set_cons_zero, List.set_cons_succ] using h5

set_option maxRecDepth 100000 in
set_option maxHeartbeats 1000000 in
theorem gateNew_ok (n s q : Int) (id : Nat) (hlo : -9223372036854775808 ≤ n) (hm : n ≤ 9223372036854775807) (hsl : -9223372036854775808 ≤ s) (hsm : s ≤ 9223372036854775807) (hP : planErr n s q = 0) (w : World) :
    Calls Tryz.prog 37 #[.agg #[.int .i64 n, .int .i64 s, .int .i64 q, .int .u32 (id : Int)]] w fun e w' => e = .returned (.tuple #[.agg #[.int .i64 n, .int .i64 s, .int .i64 q, .int .u32 (id : Int), .map none], .int .i64 0]) ∧ Gr w w' := by
  have CC := planCheck_any n s q id hlo hm hsl hsm
  rw [hP] at CC
  have HC := Lib.hid CC
  clear CC hP
  go_enter Tryz.func37, Tryz.ntmps37
  go_wp2_with fail
  refine (HC.out _).mono ?_
  rintro e w1 ⟨rfl, hg⟩
  have hgw := (((Gr.refl w).alloc _).alloc _).trans hg
  have hA := hg.heap (Gr.heap (Gr.alloc (Gr.refl _) _) (heap_alloc_new w _))
  have hB := hg.heap (heap_alloc_new _ _)
  simp only [World.alloc, Array.size_push] at hB
  obtain ⟨p0, p1, p2, p3⟩ := p_four_cells hA
  obtain ⟨x0, x1, x2, x3, x4, xf⟩ := five_cells hB
  obtain ⟨hgb, hh⟩ := five_set hB (.int .i64 n) (.int .i64 s) (.int .i64 q) (.int .u32 (id : Int)) (.map none)
  have HG := Lib.hid (hgw.grb hgb (by omega))
  obtain ⟨y0, y1, y2, y3, y4, _⟩ := five_cells hh
  clear hg hA hB hgb hh hgw
  go_wp2
  refine bodyPost_ret (v := .tuple #[.agg #[.int .i64 n, .int .i64 s, .int .i64 q, .int .u32 (id : Int), .map none], .int .i64 0]) ?_ rfl ⟨rfl, HG.out⟩
  simp [results, Tryz.results37, go_sem, y0, y1, y2, y3, y4]

set_option maxRecDepth 100000 in
set_option maxHeartbeats 1000000 in
theorem gateNew_bad (n s q : Int) (id : Nat) (hlo : -9223372036854775808 ≤ n) (hm : n ≤ 9223372036854775807) (hsl : -9223372036854775808 ≤ s) (hsm : s ≤ 9223372036854775807) (hP : planErr n s q ≠ 0) (w : World) :
    Calls Tryz.prog 37 #[.agg #[.int .i64 n, .int .i64 s, .int .i64 q, .int .u32 (id : Int)]] w fun e w' => e = .returned (.tuple #[.agg #[.int .i64 0, .int .i64 0, .int .i64 0, .int .u32 0, .map none], .int .i64 (planErr n s q : Nat)]) ∧ Gr w w' := by
  have CC := planCheck_any n s q id hlo hm hsl hsm
  obtain ⟨E, hE⟩ : ∃ E, planErr n s q = E := ⟨_, rfl⟩
  rw [hE] at CC hP ⊢
  have HC := Lib.hid CC
  have ht : ((E : Int) != 0) = true := by rw [bne_iff_ne]; omega
  clear CC hP hE
  go_enter Tryz.func37, Tryz.ntmps37
  go_wp2_with fail
  refine (HC.out _).mono ?_
  rintro e w1 ⟨rfl, hg⟩
  have hgw := (((Gr.refl w).alloc _).alloc _).trans hg
  have hB := hg.heap (heap_alloc_new _ _)
  simp only [World.alloc, Array.size_push] at hB
  obtain ⟨x0, x1, x2, x3, x4, xf⟩ := five_cells hB
  obtain ⟨hgb, hh⟩ := five_set hB (.int .i64 0) (.int .i64 0) (.int .i64 0) (.int .u32 0) (.map none)
  have HG := Lib.hid (hgw.grb hgb (by omega))
  obtain ⟨y0, y1, y2, y3, y4, _⟩ := five_cells hh
  clear hg hB hgb hh hgw
  go_wp2
  refine bodyPost_ret (v := .tuple #[.agg #[.int .i64 0, .int .i64 0, .int .i64 0, .int .u32 0, .map none], .int .i64 (E : Int)]) ?_ rfl ⟨rfl, HG.out⟩
  simp [results, Tryz.results37, go_sem, y0, y1, y2, y3, y4]

/-- THE COUNTS OF A GATE: block b is a map of ints. -/
abbrev CntMap (w : World) (b n : Nat) (D : DataW Unit) : Prop := w.ownsMap Tryz.prog 35 (plainElem Tryz.prog 3) b n D
theorem cntLaw : Keyed Tryz.prog 35 := int_keyed Tryz.underlying35
theorem zeroInt (w : World) : (zeroValue 3).run Tryz.prog w = .ok (.int .i64 0) w := by kernel_rfl
theorem CntMap.gr {w w' : World} {b n : Nat} {D : DataW Unit} (h : CntMap w b n D) (hg : Gr w w') : CntMap w' b n D := by
  obtain ⟨es, clock, hb, r⟩ := h
  exact ⟨es, clock, hg.heap hb, r⟩

end Go.Proofs.YtddopoojmadpjaaGreatDoor

namespace Go.Proofs.YtddopoojmadpjaaGreatDoor
open Go.RowKit Go.Maps
set_option linter.unusedVariables false

end Go.Proofs.YtddopoojmadpjaaGreatDoor

namespace Go.Proofs.YtddopoojmadpjaaGreatDoor
open Go.RowKit
set_option linter.unusedVariables false

/-- Blocks b and c may change; all else grows. -/
def GrC (w : World) (b c : Nat) (w' : World) : Prop :=
  w'.os = w.os ∧ w'.tape = w.tape ∧ w'.output = w.output ∧ w.heap.size ≤ w'.heap.size ∧ ∀ k, k < w.heap.size → k ≠ b → k ≠ c → w'.heap[k]? = w.heap[k]?
theorem GrC.refl (w : World) (b c : Nat) : GrC w b c w := ⟨rfl, rfl, rfl, Nat.le_refl _, fun _ _ _ _ => rfl⟩
theorem GrC.heap {w w' : World} {b c k : Nat} {o : Obj} (h : GrC w b c w') (hk : w.heap[k]? = some o) (hb : k ≠ b) (hc : k ≠ c) : w'.heap[k]? = some o := by
  rw [h.2.2.2.2 k (lt_of_block hk) hb hc]; exact hk
theorem GrC.cell {w w' : World} {b c : Nat} (h : GrC w b c w') {p : Addr} {v : Value} (hp : w.cell? p = some v) (hb : p.block ≠ b) (hc : p.block ≠ c) : w'.cell? p = some v := by
  rw [World.cell?_of_block (w := w) (h.2.2.2.2 _ (World.block_lt_of_cell? w _ hp) hb hc)]; exact hp
theorem GrC.trans {x y z : World} {b c : Nat} (h : GrC x b c y) (g : GrC y b c z) : GrC x b c z :=
  ⟨g.1.trans h.1, g.2.1.trans h.2.1, g.2.2.1.trans h.2.2.1, Nat.le_trans h.2.2.2.1 g.2.2.2.1, fun k hk hb hc => (g.2.2.2.2 k (Nat.lt_of_lt_of_le hk h.2.2.2.1) hb hc).trans (h.2.2.2.2 k hk hb hc)⟩
theorem GrC.of_grb {w w' : World} {b c : Nat} (h : GrB w b w') : GrC w b c w' := ⟨h.os, h.tape, h.output, h.size, fun k hk hb _ => h.block k hk (by simpa using hb)⟩
theorem GrC.of_grb' {w w' : World} {b c : Nat} (h : GrB w c w') : GrC w b c w' := ⟨h.os, h.tape, h.output, h.size, fun k hk _ hc => h.block k hk (by simpa using hc)⟩
theorem GrC.of_gr {w w' : World} {b c : Nat} (h : Gr w w') : GrC w b c w' := GrC.of_grb (GrB.of_gr h)
theorem GrC.gr {a w w' : World} {b c : Nat} (h : Gr a w) (g : GrC w b c w') (hb : a.heap.size ≤ b) (hc : a.heap.size ≤ c) : Gr a w' :=
  ⟨g.1.trans h.os, g.2.1.trans h.tape, g.2.2.1.trans h.output, Nat.le_trans h.size g.2.2.2.1, fun k hk => (g.2.2.2.2 k (Nat.lt_of_lt_of_le hk h.size) (by omega) (by omega)).trans (h.block hk)⟩

/-- One of them is written, from o1 to o2, once. -/
def OnceAt (b : Nat) (o1 o2 : Obj) (w w' : World) : Prop := (w.heap[b]? = some o1 → w'.heap[b]? = some o1 ∨ w'.heap[b]? = some o2) ∧ (w.heap[b]? = some o2 → w'.heap[b]? = some o2)
theorem OnceAt.same {b : Nat} {o1 o2 : Obj} {w w' : World} (h : ∀ o, w.heap[b]? = some o → w'.heap[b]? = some o) : OnceAt b o1 o2 w w' := ⟨fun e => .inl (h _ e), h _⟩
theorem OnceAt.new {b : Nat} {o1 o2 : Obj} {w w' : World} (h : w'.heap[b]? = some o2) : OnceAt b o1 o2 w w' := ⟨fun _ => .inr h, fun _ => h⟩
theorem OnceAt.trans {b : Nat} {o1 o2 : Obj} {x y z : World} (h : OnceAt b o1 o2 x y) (g : OnceAt b o1 o2 y z) : OnceAt b o1 o2 x z :=
  ⟨fun e => (h.1 e).elim g.1 (fun e => .inr (g.2 e)), fun e => g.2 (h.2 e)⟩

/-- Both are. -/
def StC (b c : Nat) (o1 o2 p1 p2 : Obj) (w w' : World) : Prop := GrC w b c w' ∧ OnceAt b o1 o2 w w' ∧ OnceAt c p1 p2 w w'
theorem StC.refl (b c : Nat) (o1 o2 p1 p2 : Obj) (w : World) : StC b c o1 o2 p1 p2 w w := ⟨GrC.refl _ _ _, .same fun _ h => h, .same fun _ h => h⟩
theorem StC.trans {b c : Nat} {o1 o2 p1 p2 : Obj} (x y z : World) (h : StC b c o1 o2 p1 p2 x y) (g : StC b c o1 o2 p1 p2 y z) : StC b c o1 o2 p1 p2 x z :=
  ⟨h.1.trans g.1, h.2.1.trans g.2.1, h.2.2.trans g.2.2⟩
theorem StC.of_gr {b c : Nat} {o1 o2 p1 p2 : Obj} {w w' : World} (h : Gr w w') : StC b c o1 o2 p1 p2 w w' := ⟨GrC.of_gr h, .same fun _ => h.heap, .same fun _ => h.heap⟩
theorem StC.first {b c : Nat} {o1 o2 p1 p2 : Obj} {w w' : World} (h : GrB w b w') (e : w'.heap[b]? = some o2) (hbc : b ≠ c) : StC b c o1 o2 p1 p2 w w' :=
  ⟨GrC.of_grb h, .new e, .same fun _ hk => h.heap hk hbc.symm⟩
theorem StC.second {b c : Nat} {o1 o2 p1 p2 : Obj} {w w' : World} (h : GrB w c w') (e : w'.heap[c]? = some p2) (hbc : b ≠ c) : StC b c o1 o2 p1 p2 w w' :=
  ⟨GrC.of_grb' h, .same fun _ hk => h.heap hk hbc, .new e⟩
theorem Bs.grc {w w' : World} {b c : Nat} {a : Option Addr} {len cap : Nat} {l : List UInt8} (h : Bs w a len cap l) (g : GrC w b c w') (hb : ∀ x, a = some x → x.block ≠ b) (hc : ∀ x, a = some x → x.block ≠ c) : Bs w' a len cap l := by
  obtain ⟨h1, h2, h3, h4, h5⟩ := h
  exact ⟨h1, h2, h3, h4, fun x hx i u hu => g.cell (h5 x hx i u hu) (by rw [Addr.add_block]; exact hb x hx) (by rw [Addr.add_block]; exact hc x hx)⟩
/-- bytes do not lie in a block that holds none. -/
theorem Bs.gap {w w' : World} {b : Nat} {a : Option Addr} {n c : Nat} {l : List UInt8} {cs : Array Value} {t : TypeId} (h : Bs w a n c l) (g : GrB w b w') (hb : w.heap[b]? = some (.cells cs t)) (hcs : ∀ (j : Nat) (u : Int), cs[j]? ≠ some (.int .u8 u)) : Bs w' a n c l := by
  refine ⟨h.1, h.2.1, h.2.2.1, h.2.2.2.1, fun x hx i u hu => ?_⟩
  have hc := h.2.2.2.2 x hx i u hu
  by_cases hbk : (x.add i).block = b
  · exfalso
    simp [World.cell?, hbk, hb] at hc
    exact hcs _ _ (by first | exact hc | exact hc.2)
  · rw [World.cell?_of_block (w := w) (g.block _ (World.block_lt_of_cell? w _ hc) (by simpa using hbk))]; exact hc
end Go.Proofs.YtddopoojmadpjaaGreatDoor

namespace Go.Proofs.YtddopoojmadpjaaGreatDoor
open Go.RowKit Go.Maps
set_option linter.unusedVariables false

theorem run_makeHint (x : Int) (w : World) : (Instr.makeMap 100 (some (.int .i64 x))).run Tryz.prog w = .ok (.map (some w.heap.size)) (w.alloc (.map #[] 0)) := by
  simp [Instr.makeMap, run_underlying Tryz.underlying100, asInt, asIntOf, Result.andThen]

theorem CntMap.grc {w w' : World} {b n x y : Nat} {D : DataW Unit} (h : CntMap w b n D) (g : GrC w x y w') (hx : b ≠ x) (hy : b ≠ y) : CntMap w' b n D := by
  obtain ⟨es, clock, hb, r⟩ := h
  exact ⟨es, clock, g.heap hb hx hy, r⟩

set_option maxRecDepth 100000 in
set_option maxHeartbeats 4000000 in
theorem gateLook_own (n s q : Int) (id : Nat) (hlo : -9223372036854775808 ≤ n) (hm : n ≤ 9223372036854775807) (hsl : -9223372036854775808 ≤ s) (hsm : s ≤ 9223372036854775807) (a : Option Addr) (len cap : Nat) (l : List UInt8) (b k : Nat) (D : DataW Unit) (w : World) (htab : Tab w) (hs : Bs w a len cap l) (hmx : len ≤ 140737488355328) (h : CntMap w b k D) (hsz : Maps.size D ≤ 1000000) (c : Int) (hc : D.atKey (.int .i64 (packErr n s q id l : Nat)) (.lit (.int .i64 0)) = .lit (.int .i64 c)) (hc0 : 0 ≤ c) (hc1 : c ≤ 1000000) :
    Calls Tryz.prog 39 #[.agg #[.int .i64 n, .int .i64 s, .int .i64 q, .int .u32 (id : Int), .map (some b)], .slice a len cap] w fun e w' => ∃ g a1 k1 c1 a2 k2 c2, e = .returned (.tuple #[.agg #[.int .i64 n, .int .i64 s, .int .i64 q, .int .u32 (id : Int), .map (some g)], .agg #[.int .u8 ((packGot n s q id l).m : Int), .int .u32 ((packGot n s q id l).o : Int), .int .u32 ((packGot n s q id l).nn : Int), .int .u8 ((packGot n s q id l).md : Int), .slice a1 k1 c1, .int .u64 ((packGot n s q id l).sd : Int), .slice a2 k2 c2], .int .i64 (packErr n s q id l : Nat)]) ∧
      CntMap w' g (Maps.size D + 1) (D.put (.int .i64 (packErr n s q id l : Nat)) (.lit (.int .i64 (c + 1)))) ∧ Bs w' a1 k1 c1 (packGot n s q id l).lb ∧ Bs w' a2 k2 c2 (packGot n s q id l).lp ∧ Gr w w' := by
  have CR := Lib.hid fun w ht hs => packRead_fresh n s q id hlo hm hsl hsm a len cap l w ht hs hmx
  have HS := Lib.hid hs
  have HT := Lib.hid htab
  have hcan := Lib.hid (h.canon cntLaw)
  have hEle := packErr_le n s q id l
  obtain ⟨E, eE⟩ : ∃ x, packErr n s q id l = x := ⟨_, rfl⟩
  obtain ⟨⟨gm, go, gn, gd, gs, lb, lp⟩, eG⟩ : ∃ x, packGot n s q id l = x := ⟨_, rfl⟩
  rw [eE, eG] at CR
  rw [eE] at hc hEle
  rw [eE, eG]
  have HC := Lib.hid hc
  have HW := Lib.hid h
  have hmk := run_makeHint
  clear hs htab eE eG hc h
  go_enter Tryz.func39, Tryz.ntmps39
  go_wp2_with fail
  refine (CR.out _ (HT.out.below ((((Gr.refl w).alloc _).alloc _).alloc _)) (HS.out.below ((((Gr.refl w).alloc _).alloc _).alloc _))).mono ?_
  rintro e w1 ⟨a1, k1, c1, a2, k2, c2, rfl, hb1, hb2, hg1, hf1, hf2⟩
  simp only [World.size_alloc] at hf1 hf2
  have HF1 := Lib.hid hf1
  have HF2 := Lib.hid hf2
  clear hf1 hf2
  have hgw1 : Gr w w1 := ((((Gr.refl w).alloc _).alloc _).alloc _).trans hg1
  have hA := hg1.heap (Gr.heap (Gr.alloc (Gr.alloc (Gr.refl _) _) _) (heap_alloc_new w _))
  have hB := hg1.heap (Gr.heap (Gr.alloc (Gr.refl _) _) (heap_alloc_new _ _))
  have hC := hg1.heap (heap_alloc_new _ _)
  simp only [World.alloc, Array.size_push] at hB hC
  have HB1 := Lib.hid hb1
  have HB2 := Lib.hid hb2
  have HA := Lib.hid hA
  have HBB := Lib.hid hB
  have HCC := Lib.hid hC
  have hown1 := CntMap.gr HW.out hgw1
  have hal := (Gr.refl w1).alloc (.cells #[.int .u8 (gm : Int), .int .u32 (go : Int), .int .u32 (gn : Int), .int .u8 (gd : Int), .slice a1 k1 c1, .int .u64 (gs : Int), .slice a2 k2 c2] 96)
  obtain ⟨p0, p1, p2, p3, p4, _⟩ := five_cells (hal.heap hA)
  have hown2 := CntMap.gr hown1 hal
  have es2 : (w1.alloc (.cells #[.int .u8 (gm : Int), .int .u32 (go : Int), .int .u32 (gn : Int), .int .u8 (gd : Int), .slice a1 k1 c1, .int .u64 (gs : Int), .slice a2 k2 c2] 96)).heap.size = w1.heap.size + 1 := by simp
  have hgw2 := Lib.hid (hgw1.trans hal)
  have hbl := HW.out.lt
  have hwl := hgw1.size
  clear hg1 hb1 hb2 hB hC hA CR hal hgw1 hown1
  have hlen := fun ty => hown2.len Tryz.underlying100 ty
  have hal3 := ((Gr.refl w1).alloc (.cells #[.int .u8 (gm : Int), .int .u32 (go : Int), .int .u32 (gn : Int), .int .u8 (gd : Int), .slice a1 k1 c1, .int .u64 (gs : Int), .slice a2 k2 c2] 96)).alloc (.map #[] 0)
  obtain ⟨q0, q1, q2, q3, q4, _⟩ := five_cells (hal3.heap HA.out)
  have hown3 := CntMap.gr hown2 ((Gr.refl _).alloc (.map #[] 0))
  have hout3 := World.ownsMap_made (H := Unit) (w1.alloc (.cells #[.int .u8 (gm : Int), .int .u32 (go : Int), .int .u32 (gn : Int), .int .u8 (gd : Int), .slice a1 k1 c1, .int .u64 (gs : Int), .slice a2 k2 c2] 96)) Tryz.prog 35 (plainElem Tryz.prog 3)
  have hgw3 := Lib.hid (hgw2.out.alloc (.map #[] 0))
  have es3 : ((w1.alloc (.cells #[.int .u8 (gm : Int), .int .u32 (go : Int), .int .u32 (gn : Int), .int .u8 (gd : Int), .slice a1 k1 c1, .int .u64 (gs : Int), .slice a2 k2 c2] 96)).alloc (.map #[] 0)).heap.size = w1.heap.size + 2 := by simp
  rw [es2] at hout3
  clear hal3
  go_wp2_with (at_range; refine wpList_range_own _ rfl _ 100 rfl 35 3 cntLaw Tryz.underlying100 _ b k _ rfl hown3 ?_; intro w0 hrg0 hg0 hs0)
  go_frame
  rw [es3] at hrg0 hs0 ⊢
  have hal2 : Gr (w1.alloc (.cells #[.int .u8 (gm : Int), .int .u32 (go : Int), .int .u32 (gn : Int), .int .u8 (gd : Int), .slice a1 k1 c1, .int .u64 (gs : Int), .slice a2 k2 c2] 96)) w0 := Gr.grown ((Gr.refl _).alloc _) hg0 (fun j hj => by cases hj)
  have hout0 : CntMap w0 (w1.heap.size + 1) 0 (.map []) := hout3.kept hg0 (by simp)
  clear hown3 hg0 hout3 q0 q1 q2 q3 q4 p0 p1 p2 p3 p4 hlen hmk es3 hgw3 hown2
  go_loopw [] (fun wr => ∃ (left : Lit → Bool) (cnt : Nat) (Dout : DataW Unit), wr.ranges Tryz.prog 35 (plainElem Tryz.prog 3) b (w1.heap.size + 2) k D left cnt ∧ cnt ≤ Maps.size D ∧ CntMap wr (w1.heap.size + 1) (Maps.size D - cnt) Dout ∧ Agree Dout D left ∧ Gr (w1.alloc (.cells #[.int .u8 (gm : Int), .int .u32 (go : Int), .int .u32 (gn : Int), .int .u8 (gd : Int), .slice a1 k1 c1, .int .u64 (gs : Int), .slice a2 k2 c2] 96)) wr)
    (fun wr => wr.rangeLeft b (w1.heap.size + 2))
  case atStart => exact ⟨_, _, .map [], hrg0, Nat.le_refl _, hout0.mono (Nat.zero_le _), agree_start D, hal2⟩
  case round =>
    obtain ⟨left, cnt, Dout, hrg, hcs, hout, hAg, hnx⟩ := hrel
    go_wp2_with (at_next; refine wpList_next_ranges_ii _ rfl _ rfl 35 3 .i64 .i64 cntLaw Tryz.underlying35 Tryz.underlying3 b (w1.heap.size + 2) k _ _ _ rfl hrg ?_ ?_)
    · intro hc0 hl0
      subst hc0
      have e := agree_end hAg hl0 (hout.canon cntLaw) hcan.out
      have houtD : CntMap wr (w1.heap.size + 1) (Maps.size D) D := by rw [e] at hout; exact hout.mono (Nat.sub_le _ _)
      clear hout hAg e
      have hms : Maps.size D < maxLen := by unfold maxLen; omega
      have hkey := keyOf_int_mk Tryz.underlying35 (WalkArith.wf_i64 ⟨by omega, by omega⟩ : (Lit.int .i64 (E : Int)).wf = true)
      have hwc' : (Lit.int .i64 (c + 1)).wf = true := WalkArith.wf_i64 ⟨by omega, by omega⟩
      go_wp2_with (first
        | (at_lookup; refine wpList_lookup_own_int _ rfl _ _ 100 rfl 35 3 .i64 cntLaw Tryz.underlying100 Tryz.underlying3 (zeroInt _) (w1.heap.size + 1) _ _ rfl houtD _ _ rfl hkey ?_; intro c' hat hwc; obtain rfl : c = c' := by (have := HC.out.symm.trans hat; simpa using this))
        | (at_mapUpdate; refine wpList_mapUpdate_own _ rfl _ _ _ 100 rfl 35 3 cntLaw Tryz.underlying100 _ (w1.heap.size + 1) _ _ rfl houtD hms _ _ _ rfl rfl hkey _ [] (plainElem_int Tryz.underlying3 hwc') ?_; intro w5 hout5 hg5; go_frame)
        | fail)
      have hgr5 : Gr (w1.alloc (.cells #[.int .u8 (gm : Int), .int .u32 (go : Int), .int .u32 (gn : Int), .int .u8 (gd : Int), .slice a1 k1 c1, .int .u64 (gs : Int), .slice a2 k2 c2] 96)) w5 := Gr.grown hnx hg5 (fun j hj => by cases hj; simp)
      have hg15 : Gr w1 w5 := Gr.trans ((Gr.refl w1).alloc _) hgr5
      have hA5 := hg15.heap HA.out
      have hB5 := Lib.hid (hg15.heap HBB.out)
      have hC5 := Lib.hid (hg15.heap HCC.out)
      have hR3 := lt_of_block HCC.out
      have hP5 := hgr5.heap (heap_alloc_new w1 (.cells #[.int .u8 (gm : Int), .int .u32 (go : Int), .int .u32 (gn : Int), .int .u8 (gd : Int), .slice a1 k1 c1, .int .u64 (gs : Int), .slice a2 k2 c2] 96))
      have HB15 := Lib.hid (HB1.out.below hg15)
      have HB25 := Lib.hid (HB2.out.below hg15)
      have HG5 := Lib.hid (hgw2.out.trans hgr5)
      have HO5 := Lib.hid hout5
      obtain ⟨x0, x1, x2, x3, x4, _⟩ := five_cells hA5
      obtain ⟨y0, y1, y2, y3, y4, y5, y6, _⟩ := seven_cells hP5
      have hup : Nonempty (Up (StC (w.heap.size + 1) (w.heap.size + 1 + 1) (.cells #[.int .i64 0, .int .i64 0, .int .i64 0, .int .u32 0, .map none] 102) (.cells #[.int .i64 n, .int .i64 s, .int .i64 q, .int .u32 (id : Int), .map (some (w1.heap.size + 1))] 102) (.cells #[.int .u8 0, .int .u32 0, .int .u32 0, .int .u8 0, .slice none 0 0, .int .u64 0, .slice none 0 0] 96) (.cells #[.int .u8 (gm : Int), .int .u32 (go : Int), .int .u32 (gn : Int), .int .u8 (gd : Int), .slice a1 k1 c1, .int .u64 (gs : Int), .slice a2 k2 c2] 96)) w5.drew) := ⟨⟨_, StC.refl _ _ _ _ _ _ _⟩⟩
      have u0 : ∀ x : Up (StC (w.heap.size + 1) (w.heap.size + 1 + 1) (.cells #[.int .i64 0, .int .i64 0, .int .i64 0, .int .u32 0, .map none] 102) (.cells #[.int .i64 n, .int .i64 s, .int .i64 q, .int .u32 (id : Int), .map (some (w1.heap.size + 1))] 102) (.cells #[.int .u8 0, .int .u32 0, .int .u32 0, .int .u8 0, .slice none 0 0, .int .u64 0, .slice none 0 0] 96) (.cells #[.int .u8 (gm : Int), .int .u32 (go : Int), .int .u32 (gn : Int), .int .u8 (gd : Int), .slice a1 k1 c1, .int .u64 (gs : Int), .slice a2 k2 c2] 96)) w5.drew, x.w.cell? ⟨w.heap.size, 0, none⟩ = some (.int .i64 n) := fun x => GrC.cell x.rel.1 (Gr.cell (Gr.refl _).drew x0) (by show w.heap.size ≠ _; omega) (by show w.heap.size ≠ _; omega)
      have u1 : ∀ x : Up (StC (w.heap.size + 1) (w.heap.size + 1 + 1) (.cells #[.int .i64 0, .int .i64 0, .int .i64 0, .int .u32 0, .map none] 102) (.cells #[.int .i64 n, .int .i64 s, .int .i64 q, .int .u32 (id : Int), .map (some (w1.heap.size + 1))] 102) (.cells #[.int .u8 0, .int .u32 0, .int .u32 0, .int .u8 0, .slice none 0 0, .int .u64 0, .slice none 0 0] 96) (.cells #[.int .u8 (gm : Int), .int .u32 (go : Int), .int .u32 (gn : Int), .int .u8 (gd : Int), .slice a1 k1 c1, .int .u64 (gs : Int), .slice a2 k2 c2] 96)) w5.drew, x.w.cell? ⟨w.heap.size, 1, none⟩ = some (.int .i64 s) := fun x => GrC.cell x.rel.1 (Gr.cell (Gr.refl _).drew x1) (by show w.heap.size ≠ _; omega) (by show w.heap.size ≠ _; omega)
      have u2 : ∀ x : Up (StC (w.heap.size + 1) (w.heap.size + 1 + 1) (.cells #[.int .i64 0, .int .i64 0, .int .i64 0, .int .u32 0, .map none] 102) (.cells #[.int .i64 n, .int .i64 s, .int .i64 q, .int .u32 (id : Int), .map (some (w1.heap.size + 1))] 102) (.cells #[.int .u8 0, .int .u32 0, .int .u32 0, .int .u8 0, .slice none 0 0, .int .u64 0, .slice none 0 0] 96) (.cells #[.int .u8 (gm : Int), .int .u32 (go : Int), .int .u32 (gn : Int), .int .u8 (gd : Int), .slice a1 k1 c1, .int .u64 (gs : Int), .slice a2 k2 c2] 96)) w5.drew, x.w.cell? ⟨w.heap.size, 2, none⟩ = some (.int .i64 q) := fun x => GrC.cell x.rel.1 (Gr.cell (Gr.refl _).drew x2) (by show w.heap.size ≠ _; omega) (by show w.heap.size ≠ _; omega)
      have u3 : ∀ x : Up (StC (w.heap.size + 1) (w.heap.size + 1 + 1) (.cells #[.int .i64 0, .int .i64 0, .int .i64 0, .int .u32 0, .map none] 102) (.cells #[.int .i64 n, .int .i64 s, .int .i64 q, .int .u32 (id : Int), .map (some (w1.heap.size + 1))] 102) (.cells #[.int .u8 0, .int .u32 0, .int .u32 0, .int .u8 0, .slice none 0 0, .int .u64 0, .slice none 0 0] 96) (.cells #[.int .u8 (gm : Int), .int .u32 (go : Int), .int .u32 (gn : Int), .int .u8 (gd : Int), .slice a1 k1 c1, .int .u64 (gs : Int), .slice a2 k2 c2] 96)) w5.drew, x.w.cell? ⟨w.heap.size, 3, none⟩ = some (.int .u32 (id : Int)) := fun x => GrC.cell x.rel.1 (Gr.cell (Gr.refl _).drew x3) (by show w.heap.size ≠ _; omega) (by show w.heap.size ≠ _; omega)
      have v0 : ∀ x : Up (StC (w.heap.size + 1) (w.heap.size + 1 + 1) (.cells #[.int .i64 0, .int .i64 0, .int .i64 0, .int .u32 0, .map none] 102) (.cells #[.int .i64 n, .int .i64 s, .int .i64 q, .int .u32 (id : Int), .map (some (w1.heap.size + 1))] 102) (.cells #[.int .u8 0, .int .u32 0, .int .u32 0, .int .u8 0, .slice none 0 0, .int .u64 0, .slice none 0 0] 96) (.cells #[.int .u8 (gm : Int), .int .u32 (go : Int), .int .u32 (gn : Int), .int .u8 (gd : Int), .slice a1 k1 c1, .int .u64 (gs : Int), .slice a2 k2 c2] 96)) w5.drew, x.w.cell? ⟨w1.heap.size, 0, none⟩ = some (.int .u8 (gm : Int)) := fun x => GrC.cell x.rel.1 (Gr.cell (Gr.refl _).drew y0) (by show w1.heap.size ≠ _; omega) (by show w1.heap.size ≠ _; omega)
      have v1 : ∀ x : Up (StC (w.heap.size + 1) (w.heap.size + 1 + 1) (.cells #[.int .i64 0, .int .i64 0, .int .i64 0, .int .u32 0, .map none] 102) (.cells #[.int .i64 n, .int .i64 s, .int .i64 q, .int .u32 (id : Int), .map (some (w1.heap.size + 1))] 102) (.cells #[.int .u8 0, .int .u32 0, .int .u32 0, .int .u8 0, .slice none 0 0, .int .u64 0, .slice none 0 0] 96) (.cells #[.int .u8 (gm : Int), .int .u32 (go : Int), .int .u32 (gn : Int), .int .u8 (gd : Int), .slice a1 k1 c1, .int .u64 (gs : Int), .slice a2 k2 c2] 96)) w5.drew, x.w.cell? ⟨w1.heap.size, 1, none⟩ = some (.int .u32 (go : Int)) := fun x => GrC.cell x.rel.1 (Gr.cell (Gr.refl _).drew y1) (by show w1.heap.size ≠ _; omega) (by show w1.heap.size ≠ _; omega)
      have v2 : ∀ x : Up (StC (w.heap.size + 1) (w.heap.size + 1 + 1) (.cells #[.int .i64 0, .int .i64 0, .int .i64 0, .int .u32 0, .map none] 102) (.cells #[.int .i64 n, .int .i64 s, .int .i64 q, .int .u32 (id : Int), .map (some (w1.heap.size + 1))] 102) (.cells #[.int .u8 0, .int .u32 0, .int .u32 0, .int .u8 0, .slice none 0 0, .int .u64 0, .slice none 0 0] 96) (.cells #[.int .u8 (gm : Int), .int .u32 (go : Int), .int .u32 (gn : Int), .int .u8 (gd : Int), .slice a1 k1 c1, .int .u64 (gs : Int), .slice a2 k2 c2] 96)) w5.drew, x.w.cell? ⟨w1.heap.size, 2, none⟩ = some (.int .u32 (gn : Int)) := fun x => GrC.cell x.rel.1 (Gr.cell (Gr.refl _).drew y2) (by show w1.heap.size ≠ _; omega) (by show w1.heap.size ≠ _; omega)
      have v3 : ∀ x : Up (StC (w.heap.size + 1) (w.heap.size + 1 + 1) (.cells #[.int .i64 0, .int .i64 0, .int .i64 0, .int .u32 0, .map none] 102) (.cells #[.int .i64 n, .int .i64 s, .int .i64 q, .int .u32 (id : Int), .map (some (w1.heap.size + 1))] 102) (.cells #[.int .u8 0, .int .u32 0, .int .u32 0, .int .u8 0, .slice none 0 0, .int .u64 0, .slice none 0 0] 96) (.cells #[.int .u8 (gm : Int), .int .u32 (go : Int), .int .u32 (gn : Int), .int .u8 (gd : Int), .slice a1 k1 c1, .int .u64 (gs : Int), .slice a2 k2 c2] 96)) w5.drew, x.w.cell? ⟨w1.heap.size, 3, none⟩ = some (.int .u8 (gd : Int)) := fun x => GrC.cell x.rel.1 (Gr.cell (Gr.refl _).drew y3) (by show w1.heap.size ≠ _; omega) (by show w1.heap.size ≠ _; omega)
      have v4 : ∀ x : Up (StC (w.heap.size + 1) (w.heap.size + 1 + 1) (.cells #[.int .i64 0, .int .i64 0, .int .i64 0, .int .u32 0, .map none] 102) (.cells #[.int .i64 n, .int .i64 s, .int .i64 q, .int .u32 (id : Int), .map (some (w1.heap.size + 1))] 102) (.cells #[.int .u8 0, .int .u32 0, .int .u32 0, .int .u8 0, .slice none 0 0, .int .u64 0, .slice none 0 0] 96) (.cells #[.int .u8 (gm : Int), .int .u32 (go : Int), .int .u32 (gn : Int), .int .u8 (gd : Int), .slice a1 k1 c1, .int .u64 (gs : Int), .slice a2 k2 c2] 96)) w5.drew, x.w.cell? ⟨w1.heap.size, 4, none⟩ = some (.slice a1 k1 c1) := fun x => GrC.cell x.rel.1 (Gr.cell (Gr.refl _).drew y4) (by show w1.heap.size ≠ _; omega) (by show w1.heap.size ≠ _; omega)
      have v5 : ∀ x : Up (StC (w.heap.size + 1) (w.heap.size + 1 + 1) (.cells #[.int .i64 0, .int .i64 0, .int .i64 0, .int .u32 0, .map none] 102) (.cells #[.int .i64 n, .int .i64 s, .int .i64 q, .int .u32 (id : Int), .map (some (w1.heap.size + 1))] 102) (.cells #[.int .u8 0, .int .u32 0, .int .u32 0, .int .u8 0, .slice none 0 0, .int .u64 0, .slice none 0 0] 96) (.cells #[.int .u8 (gm : Int), .int .u32 (go : Int), .int .u32 (gn : Int), .int .u8 (gd : Int), .slice a1 k1 c1, .int .u64 (gs : Int), .slice a2 k2 c2] 96)) w5.drew, x.w.cell? ⟨w1.heap.size, 5, none⟩ = some (.int .u64 (gs : Int)) := fun x => GrC.cell x.rel.1 (Gr.cell (Gr.refl _).drew y5) (by show w1.heap.size ≠ _; omega) (by show w1.heap.size ≠ _; omega)
      have v6 : ∀ x : Up (StC (w.heap.size + 1) (w.heap.size + 1 + 1) (.cells #[.int .i64 0, .int .i64 0, .int .i64 0, .int .u32 0, .map none] 102) (.cells #[.int .i64 n, .int .i64 s, .int .i64 q, .int .u32 (id : Int), .map (some (w1.heap.size + 1))] 102) (.cells #[.int .u8 0, .int .u32 0, .int .u32 0, .int .u8 0, .slice none 0 0, .int .u64 0, .slice none 0 0] 96) (.cells #[.int .u8 (gm : Int), .int .u32 (go : Int), .int .u32 (gn : Int), .int .u8 (gd : Int), .slice a1 k1 c1, .int .u64 (gs : Int), .slice a2 k2 c2] 96)) w5.drew, x.w.cell? ⟨w1.heap.size, 6, none⟩ = some (.slice a2 k2 c2) := fun x => GrC.cell x.rel.1 (Gr.cell (Gr.refl _).drew y6) (by show w1.heap.size ≠ _; omega) (by show w1.heap.size ≠ _; omega)
      clear x0 x1 x2 x3 x4 y0 y1 y2 y3 y4 y5 y6 hA5 hP5 hg15 hgr5 hg5 hnx hout5
      refine wp_region_rg [.reck, .reck, .reck, .reck, .reck, .reck, .any Unit () (fun _ => undef) (fun _ w' => w'.heap[w.heap.size + 1]? = some (.cells #[.int .i64 n, .int .i64 s, .int .i64 q, .int .u32 (id : Int), .map (some (w1.heap.size + 1))] 102)), .any Unit () (fun _ => undef) (fun _ w' => w'.heap[w.heap.size + 1 + 1]? = some (.cells #[.int .u8 (gm : Int), .int .u32 (go : Int), .int .u32 (gn : Int), .int .u8 (gd : Int), .slice a1 k1 c1, .int .u64 (gs : Int), .slice a2 k2 c2] 96))] (StC (w.heap.size + 1) (w.heap.size + 1 + 1) (.cells #[.int .i64 0, .int .i64 0, .int .i64 0, .int .u32 0, .map none] 102) (.cells #[.int .i64 n, .int .i64 s, .int .i64 q, .int .u32 (id : Int), .map (some (w1.heap.size + 1))] 102) (.cells #[.int .u8 0, .int .u32 0, .int .u32 0, .int .u8 0, .slice none 0 0, .int .u64 0, .slice none 0 0] 96) (.cells #[.int .u8 (gm : Int), .int .u32 (go : Int), .int .u32 (gn : Int), .int .u8 (gd : Int), .slice a1 k1 c1, .int .u64 (gs : Int), .slice a2 k2 c2] 96)) (by kernel_rfl) (by kernel_rfl) (StC.refl _ _ _ _ _ _) StC.trans ?_
      (refine wpRG_reck rfl (fun K hK => ?_); go_big_quiet_op; refine hK _ ?_; clear hK K)
      (refine wpRG_reck rfl (fun K hK => ?_); go_big_quiet_op; refine hK _ ?_; clear hK K)
      (refine wpRG_reck rfl (fun K hK => ?_); go_big_quiet_op; refine hK _ ?_; clear hK K)
      (refine wpRG_reck rfl (fun K hK => ?_); go_big_quiet_op; refine hK _ ?_; clear hK K)
      (refine wpRG_reck rfl (fun K hK => ?_); go_big_quiet_op; refine hK _ ?_; clear hK K)
      (refine wpRG_reck rfl (fun K hK => ?_); go_big_quiet_op; refine hK _ ?_; clear hK K)
      refine wpRG_any rfl (fun x w w' hg h => hg.2.1.2 h) (fun W hw hF R hR => ?_) ?_
      · rcases hw.2.1.1 hB5.out with h | h
        · obtain ⟨cc0, cc1, cc2, cc3, cc4, ff0⟩ := five_cells h
          have H3 := Lib.hid (five_set h (.int .i64 n) (.int .i64 s) (.int .i64 q) (.int .u32 (id : Int)) (.map (some (w1.heap.size + 1))))
          clear h hw
          (have HF := Lib.hid hF; clear hF; unfold rgAt; go_simp)
          exact hR () _ (StC.first H3.out.1 H3.out.2 (by omega)) H3.out.2
        · obtain ⟨cc0, cc1, cc2, cc3, cc4, ff0⟩ := five_cells h
          have H3 := Lib.hid (five_set h (.int .i64 n) (.int .i64 s) (.int .i64 q) (.int .u32 (id : Int)) (.map (some (w1.heap.size + 1))))
          clear h hw
          (have HF := Lib.hid hF; clear hF; unfold rgAt; go_simp)
          exact hR () _ (StC.first H3.out.1 H3.out.2 (by omega)) H3.out.2
      rintro ⟨⟩
      (simp only [Act.put])
      refine wpRG_any rfl (fun x w w' hg h => hg.2.2.2 h) (fun W hw hF R hR => ?_) ?_
      · rcases hw.2.2.1 hC5.out with h | h
        · obtain ⟨cc0, cc1, cc2, cc3, cc4, cc5, cc6, ff0⟩ := seven_cells h
          have H3 := Lib.hid (seven_set h (.int .u8 (gm : Int)) (.int .u32 (go : Int)) (.int .u32 (gn : Int)) (.int .u8 (gd : Int)) (.slice a1 k1 c1) (.int .u64 (gs : Int)) (.slice a2 k2 c2))
          clear h hw
          (have HF := Lib.hid hF; clear hF; unfold rgAt; go_simp)
          exact hR () _ (StC.second (grb_seven _ _ _ _ _ _ _ _ _) H3.out (by omega)) H3.out
        · obtain ⟨cc0, cc1, cc2, cc3, cc4, cc5, cc6, ff0⟩ := seven_cells h
          have H3 := Lib.hid (seven_set h (.int .u8 (gm : Int)) (.int .u32 (go : Int)) (.int .u32 (gn : Int)) (.int .u8 (gd : Int)) (.slice a1 k1 c1) (.int .u64 (gs : Int)) (.slice a2 k2 c2))
          clear h hw
          (have HF := Lib.hid hF; clear hF; unfold rgAt; go_simp)
          exact hR () _ (StC.second (grb_seven _ _ _ _ _ _ _ _ _) H3.out (by omega)) H3.out
      rintro ⟨⟩
      (simp only [Act.put])
      refine wpRG_end fun W' hw hF => ?_
      have f5 : W'.heap[w.heap.size + 1]? = some (.cells #[.int .i64 n, .int .i64 s, .int .i64 q, .int .u32 (id : Int), .map (some (w1.heap.size + 1))] 102) := hF 6
      have f7 : W'.heap[w.heap.size + 1 + 1]? = some (.cells #[.int .u8 (gm : Int), .int .u32 (go : Int), .int .u32 (gn : Int), .int .u8 (gd : Int), .slice a1 k1 c1, .int .u64 (gs : Int), .slice a2 k2 c2] 96) := hF 7
      obtain ⟨r0, r1, r2, r3, r4, _⟩ := five_cells f5
      obtain ⟨s0, s1, s2, s3, s4, s5, s6, _⟩ := seven_cells f7
      have hgW : Gr w W' := GrC.gr HG5.out.drew hw.1 (by omega) (by omega)
      have hOW := CntMap.grc (CntMap.gr HO5.out (Gr.refl _).drew) hw.1 (by omega) (by omega)
      have hBW1 := (HB15.out.below (Gr.refl _).drew).grc hw.1 (fun x hx => by have := HF1.out x hx; omega) (fun x hx => by have := HF1.out x hx; omega)
      have hBW2 := (HB25.out.below (Gr.refl _).drew).grc hw.1 (fun x hx => by have := HF2.out x hx; omega) (fun x hx => by have := HF2.out x hx; omega)
      have FIN := Lib.hid (And.intro hOW (And.intro hBW1 (And.intro hBW2 hgW)))
      clear hw hF u0 u1 u2 u3 v0 v1 v2 v3 v4 v5 v6 hup f5 f7 hgW hOW hBW1 hBW2
      go_wp2
      refine bodyPost_ret (v := .tuple #[.agg #[.int .i64 n, .int .i64 s, .int .i64 q, .int .u32 (id : Int), .map (some (w1.heap.size + 1))], .agg #[.int .u8 (gm : Int), .int .u32 (go : Int), .int .u32 (gn : Int), .int .u8 (gd : Int), .slice a1 k1 c1, .int .u64 (gs : Int), .slice a2 k2 c2], .int .i64 (E : Int)]) ?_ rfl ⟨w1.heap.size + 1, a1, k1, c1, a2, k2, c2, rfl, FIN.out⟩
      simp [results, Tryz.results39, go_sem, r0, r1, r2, r3, r4, s0, s1, s2, s3, s4, s5, s6]
    · intro x c v1 cnt1 hwx hwc hlx hat hrg1 hlt hg1 hs1 hen
      have hms1 : Maps.size D - cnt < maxLen := by unfold maxLen; omega
      have hout1 := hout.kept hg1 (by simp)
      go_wp2_with (at_mapUpdate; refine wpList_mapUpdate_own _ rfl _ _ _ 100 rfl 35 3 cntLaw Tryz.underlying100 _ (w1.heap.size + 1) _ _ rfl hout1 hms1 _ _ _ rfl rfl (keyOf_int_mk Tryz.underlying35 hwx) _ [] (plainElem_int Tryz.underlying3 hwc) ?_; intro w2 hout2 hg2; go_frame)
      have hrg2 := hrg1.kept hg2 (fun e => by have := Option.some.inj e; omega) (fun e => by have := Option.some.inj e; omega)
      have hgg := Gr.grown (Gr.grown hnx hg1 (fun j hj => by cases hj; simp)) hg2 (fun j hj => by cases hj; simp)
      go_roundw
      case rel => exact ⟨_, cnt1, _, hrg2, by omega, hout2.mono (by omega), agree_step hAg hout.isMap trivial hat, hgg⟩
      case measure => rw [hrg2.left_eq, hrg.left_eq]; exact hlt
end Go.Proofs.YtddopoojmadpjaaGreatDoor

namespace Go.Proofs.YtddopoojmadpjaaGreatDoor
open Go.RowKit Go.Maps
set_option linter.unusedVariables false

set_option maxRecDepth 100000 in
set_option maxHeartbeats 4000000 in
theorem gateLook_nilD (n s q : Int) (id : Nat) (hlo : -9223372036854775808 ≤ n) (hm : n ≤ 9223372036854775807) (hsl : -9223372036854775808 ≤ s) (hsm : s ≤ 9223372036854775807) (a : Option Addr) (len cap : Nat) (l : List UInt8) (w : World) (htab : Tab w) (hs : Bs w a len cap l) (hmx : len ≤ 140737488355328) (D : DataW Unit) (eD : DataW.map [] = D) (c : Int) (ec : 0 = c) :
    Calls Tryz.prog 39 #[.agg #[.int .i64 n, .int .i64 s, .int .i64 q, .int .u32 (id : Int), .map none], .slice a len cap] w fun e w' => ∃ g a1 k1 c1 a2 k2 c2, e = .returned (.tuple #[.agg #[.int .i64 n, .int .i64 s, .int .i64 q, .int .u32 (id : Int), .map (some g)], .agg #[.int .u8 ((packGot n s q id l).m : Int), .int .u32 ((packGot n s q id l).o : Int), .int .u32 ((packGot n s q id l).nn : Int), .int .u8 ((packGot n s q id l).md : Int), .slice a1 k1 c1, .int .u64 ((packGot n s q id l).sd : Int), .slice a2 k2 c2], .int .i64 (packErr n s q id l : Nat)]) ∧
      CntMap w' g (Maps.size D + 1) (D.put (.int .i64 (packErr n s q id l : Nat)) (.lit (.int .i64 (c + 1)))) ∧ Bs w' a1 k1 c1 (packGot n s q id l).lb ∧ Bs w' a2 k2 c2 (packGot n s q id l).lp ∧ Gr w w' := by
  have CR := Lib.hid fun w ht hs => packRead_fresh n s q id hlo hm hsl hsm a len cap l w ht hs hmx
  have HS := Lib.hid hs
  have HT := Lib.hid htab
  have hEle := packErr_le n s q id l
  obtain ⟨E, eE⟩ : ∃ x, packErr n s q id l = x := ⟨_, rfl⟩
  obtain ⟨⟨gm, go, gn, gd, gs, lb, lp⟩, eG⟩ : ∃ x, packGot n s q id l = x := ⟨_, rfl⟩
  rw [eE, eG] at CR
  rw [eE] at hEle
  rw [eE, eG]
  have HC : Hid ((DataW.map [] : DataW Unit).atKey (.int .i64 (E : Int)) (.lit (.int .i64 0)) = .lit (.int .i64 c)) := by rw [← ec]; exact rfl
  have hsz : Maps.size D ≤ 1000000 := by rw [← eD]; decide
  have hsz0 : Hid (Maps.size D = 0) := by show Maps.size D = 0; rw [← eD]; rfl
  have hc0 : 0 ≤ c := by omega
  have hc1 : c ≤ 1000000 := by omega
  rw [eD] at HC
  have HD := Lib.hid eD
  have hmk := run_makeHint
  clear hs htab eE eG eD ec
  go_enter Tryz.func39, Tryz.ntmps39
  go_wp2_with fail
  refine (CR.out _ (HT.out.below ((((Gr.refl w).alloc _).alloc _).alloc _)) (HS.out.below ((((Gr.refl w).alloc _).alloc _).alloc _))).mono ?_
  rintro e w1 ⟨a1, k1, c1, a2, k2, c2, rfl, hb1, hb2, hg1, hf1, hf2⟩
  simp only [World.size_alloc] at hf1 hf2
  have HF1 := Lib.hid hf1
  have HF2 := Lib.hid hf2
  clear hf1 hf2
  have hgw1 : Gr w w1 := ((((Gr.refl w).alloc _).alloc _).alloc _).trans hg1
  have hA := hg1.heap (Gr.heap (Gr.alloc (Gr.alloc (Gr.refl _) _) _) (heap_alloc_new w _))
  have hB := hg1.heap (Gr.heap (Gr.alloc (Gr.refl _) _) (heap_alloc_new _ _))
  have hC := hg1.heap (heap_alloc_new _ _)
  simp only [World.alloc, Array.size_push] at hB hC
  have HB1 := Lib.hid hb1
  have HB2 := Lib.hid hb2
  have HA := Lib.hid hA
  have HBB := Lib.hid hB
  have HCC := Lib.hid hC
  have hal := (Gr.refl w1).alloc (.cells #[.int .u8 (gm : Int), .int .u32 (go : Int), .int .u32 (gn : Int), .int .u8 (gd : Int), .slice a1 k1 c1, .int .u64 (gs : Int), .slice a2 k2 c2] 96)
  obtain ⟨p0, p1, p2, p3, p4, _⟩ := five_cells (hal.heap hA)
  have es2 : (w1.alloc (.cells #[.int .u8 (gm : Int), .int .u32 (go : Int), .int .u32 (gn : Int), .int .u8 (gd : Int), .slice a1 k1 c1, .int .u64 (gs : Int), .slice a2 k2 c2] 96)).heap.size = w1.heap.size + 1 := by simp
  have hgw2 := Lib.hid (hgw1.trans hal)
  have hwl := hgw1.size
  clear hg1 hb1 hb2 hB hC hA CR hal hgw1
  have hal3 := ((Gr.refl w1).alloc (.cells #[.int .u8 (gm : Int), .int .u32 (go : Int), .int .u32 (gn : Int), .int .u8 (gd : Int), .slice a1 k1 c1, .int .u64 (gs : Int), .slice a2 k2 c2] 96)).alloc (.map #[] 0)
  obtain ⟨q0, q1, q2, q3, q4, _⟩ := five_cells (hal3.heap HA.out)
  have hout3 := World.ownsMap_made (H := Unit) (w1.alloc (.cells #[.int .u8 (gm : Int), .int .u32 (go : Int), .int .u32 (gn : Int), .int .u8 (gd : Int), .slice a1 k1 c1, .int .u64 (gs : Int), .slice a2 k2 c2] 96)) Tryz.prog 35 (plainElem Tryz.prog 3)
  have es3 : ((w1.alloc (.cells #[.int .u8 (gm : Int), .int .u32 (go : Int), .int .u32 (gn : Int), .int .u8 (gd : Int), .slice a1 k1 c1, .int .u64 (gs : Int), .slice a2 k2 c2] 96)).alloc (.map #[] 0)).heap.size = w1.heap.size + 2 := by simp
  rw [es2] at hout3
  clear hal3
  have hrg := run_range_nilMap (P := Tryz.prog) ((w1.alloc (.cells #[.int .u8 (gm : Int), .int .u32 (go : Int), .int .u32 (gn : Int), .int .u8 (gd : Int), .slice a1 k1 c1, .int .u64 (gs : Int), .slice a2 k2 c2] 96)).alloc (.map #[] 0)) 100 35 3 Tryz.underlying100
  have hnxN : ∀ ty, (Instr.next (.pointer (some ⟨((w1.alloc (.cells #[.int .u8 (gm : Int), .int .u32 (go : Int), .int .u32 (gn : Int), .int .u8 (gd : Int), .slice a1 k1 c1, .int .u64 (gs : Int), .slice a2 k2 c2] 96)).alloc (.map #[] 0)).heap.size, 0, none⟩)) false ty).run Tryz.prog (((w1.alloc (.cells #[.int .u8 (gm : Int), .int .u32 (go : Int), .int .u32 (gn : Int), .int .u8 (gd : Int), .slice a1 k1 c1, .int .u64 (gs : Int), .slice a2 k2 c2] 96)).alloc (.map #[] 0)).alloc (.mapIter none 0 #[] 0)) = _ := fun ty => run_next_nilMap _ ty 0 0 #[]
  rw [es3] at hrg hnxN
  go_wp2
  refine wp_loop_rounds 1 ?_
  rw [rounds_succ]
  have houtD : CntMap (((w1.alloc (.cells #[.int .u8 (gm : Int), .int .u32 (go : Int), .int .u32 (gn : Int), .int .u8 (gd : Int), .slice a1 k1 c1, .int .u64 (gs : Int), .slice a2 k2 c2] 96)).alloc (.map #[] 0)).alloc (.mapIter none 0 #[] 0)) (w1.heap.size + 1) (Maps.size D) D := by
    rw [hsz0.out, ← HD.out]; exact CntMap.gr hout3 ((Gr.refl _).alloc _)
  have hnx : Gr (w1.alloc (.cells #[.int .u8 (gm : Int), .int .u32 (go : Int), .int .u32 (gn : Int), .int .u8 (gd : Int), .slice a1 k1 c1, .int .u64 (gs : Int), .slice a2 k2 c2] 96)) (((w1.alloc (.cells #[.int .u8 (gm : Int), .int .u32 (go : Int), .int .u32 (gn : Int), .int .u8 (gd : Int), .slice a1 k1 c1, .int .u64 (gs : Int), .slice a2 k2 c2] 96)).alloc (.map #[] 0)).alloc (.mapIter none 0 #[] 0)) := ((Gr.refl _).alloc _).alloc _
  have hms : Maps.size D < maxLen := by unfold maxLen; omega
  have hkey := keyOf_int_mk Tryz.underlying35 (WalkArith.wf_i64 ⟨by omega, by omega⟩ : (Lit.int .i64 (E : Int)).wf = true)
  have hwc' : (Lit.int .i64 (c + 1)).wf = true := WalkArith.wf_i64 ⟨by omega, by omega⟩
  go_wp2_with (first
    | (at_lookup; refine wpList_lookup_own_int _ rfl _ _ 100 rfl 35 3 .i64 cntLaw Tryz.underlying100 Tryz.underlying3 (zeroInt _) (w1.heap.size + 1) _ _ rfl houtD _ _ rfl hkey ?_; intro c' hat hwc; obtain rfl : c = c' := by (have := HC.out.symm.trans hat; simpa using this))
    | (at_mapUpdate; refine wpList_mapUpdate_own _ rfl _ _ _ 100 rfl 35 3 cntLaw Tryz.underlying100 _ (w1.heap.size + 1) _ _ rfl houtD hms _ _ _ rfl rfl hkey _ [] (plainElem_int Tryz.underlying3 hwc') ?_; intro w5 hout5 hg5; go_frame)
    | fail)
  have hgr5 : Gr (w1.alloc (.cells #[.int .u8 (gm : Int), .int .u32 (go : Int), .int .u32 (gn : Int), .int .u8 (gd : Int), .slice a1 k1 c1, .int .u64 (gs : Int), .slice a2 k2 c2] 96)) w5 := Gr.grown hnx hg5 (fun j hj => by cases hj; simp)
  have hg15 : Gr w1 w5 := Gr.trans ((Gr.refl w1).alloc _) hgr5
  have hA5 := hg15.heap HA.out
  have hB5 := Lib.hid (hg15.heap HBB.out)
  have hC5 := Lib.hid (hg15.heap HCC.out)
  have hR3 := lt_of_block HCC.out
  have hP5 := hgr5.heap (heap_alloc_new w1 (.cells #[.int .u8 (gm : Int), .int .u32 (go : Int), .int .u32 (gn : Int), .int .u8 (gd : Int), .slice a1 k1 c1, .int .u64 (gs : Int), .slice a2 k2 c2] 96))
  have HB15 := Lib.hid (HB1.out.below hg15)
  have HB25 := Lib.hid (HB2.out.below hg15)
  have HG5 := Lib.hid (hgw2.out.trans hgr5)
  have HO5 := Lib.hid hout5
  obtain ⟨x0, x1, x2, x3, x4, _⟩ := five_cells hA5
  obtain ⟨y0, y1, y2, y3, y4, y5, y6, _⟩ := seven_cells hP5
  have hup : Nonempty (Up (StC (w.heap.size + 1) (w.heap.size + 1 + 1) (.cells #[.int .i64 0, .int .i64 0, .int .i64 0, .int .u32 0, .map none] 102) (.cells #[.int .i64 n, .int .i64 s, .int .i64 q, .int .u32 (id : Int), .map (some (w1.heap.size + 1))] 102) (.cells #[.int .u8 0, .int .u32 0, .int .u32 0, .int .u8 0, .slice none 0 0, .int .u64 0, .slice none 0 0] 96) (.cells #[.int .u8 (gm : Int), .int .u32 (go : Int), .int .u32 (gn : Int), .int .u8 (gd : Int), .slice a1 k1 c1, .int .u64 (gs : Int), .slice a2 k2 c2] 96)) w5.drew) := ⟨⟨_, StC.refl _ _ _ _ _ _ _⟩⟩
  have u0 : ∀ x : Up (StC (w.heap.size + 1) (w.heap.size + 1 + 1) (.cells #[.int .i64 0, .int .i64 0, .int .i64 0, .int .u32 0, .map none] 102) (.cells #[.int .i64 n, .int .i64 s, .int .i64 q, .int .u32 (id : Int), .map (some (w1.heap.size + 1))] 102) (.cells #[.int .u8 0, .int .u32 0, .int .u32 0, .int .u8 0, .slice none 0 0, .int .u64 0, .slice none 0 0] 96) (.cells #[.int .u8 (gm : Int), .int .u32 (go : Int), .int .u32 (gn : Int), .int .u8 (gd : Int), .slice a1 k1 c1, .int .u64 (gs : Int), .slice a2 k2 c2] 96)) w5.drew, x.w.cell? ⟨w.heap.size, 0, none⟩ = some (.int .i64 n) := fun x => GrC.cell x.rel.1 (Gr.cell (Gr.refl _).drew x0) (by show w.heap.size ≠ _; omega) (by show w.heap.size ≠ _; omega)
  have u1 : ∀ x : Up (StC (w.heap.size + 1) (w.heap.size + 1 + 1) (.cells #[.int .i64 0, .int .i64 0, .int .i64 0, .int .u32 0, .map none] 102) (.cells #[.int .i64 n, .int .i64 s, .int .i64 q, .int .u32 (id : Int), .map (some (w1.heap.size + 1))] 102) (.cells #[.int .u8 0, .int .u32 0, .int .u32 0, .int .u8 0, .slice none 0 0, .int .u64 0, .slice none 0 0] 96) (.cells #[.int .u8 (gm : Int), .int .u32 (go : Int), .int .u32 (gn : Int), .int .u8 (gd : Int), .slice a1 k1 c1, .int .u64 (gs : Int), .slice a2 k2 c2] 96)) w5.drew, x.w.cell? ⟨w.heap.size, 1, none⟩ = some (.int .i64 s) := fun x => GrC.cell x.rel.1 (Gr.cell (Gr.refl _).drew x1) (by show w.heap.size ≠ _; omega) (by show w.heap.size ≠ _; omega)
  have u2 : ∀ x : Up (StC (w.heap.size + 1) (w.heap.size + 1 + 1) (.cells #[.int .i64 0, .int .i64 0, .int .i64 0, .int .u32 0, .map none] 102) (.cells #[.int .i64 n, .int .i64 s, .int .i64 q, .int .u32 (id : Int), .map (some (w1.heap.size + 1))] 102) (.cells #[.int .u8 0, .int .u32 0, .int .u32 0, .int .u8 0, .slice none 0 0, .int .u64 0, .slice none 0 0] 96) (.cells #[.int .u8 (gm : Int), .int .u32 (go : Int), .int .u32 (gn : Int), .int .u8 (gd : Int), .slice a1 k1 c1, .int .u64 (gs : Int), .slice a2 k2 c2] 96)) w5.drew, x.w.cell? ⟨w.heap.size, 2, none⟩ = some (.int .i64 q) := fun x => GrC.cell x.rel.1 (Gr.cell (Gr.refl _).drew x2) (by show w.heap.size ≠ _; omega) (by show w.heap.size ≠ _; omega)
  have u3 : ∀ x : Up (StC (w.heap.size + 1) (w.heap.size + 1 + 1) (.cells #[.int .i64 0, .int .i64 0, .int .i64 0, .int .u32 0, .map none] 102) (.cells #[.int .i64 n, .int .i64 s, .int .i64 q, .int .u32 (id : Int), .map (some (w1.heap.size + 1))] 102) (.cells #[.int .u8 0, .int .u32 0, .int .u32 0, .int .u8 0, .slice none 0 0, .int .u64 0, .slice none 0 0] 96) (.cells #[.int .u8 (gm : Int), .int .u32 (go : Int), .int .u32 (gn : Int), .int .u8 (gd : Int), .slice a1 k1 c1, .int .u64 (gs : Int), .slice a2 k2 c2] 96)) w5.drew, x.w.cell? ⟨w.heap.size, 3, none⟩ = some (.int .u32 (id : Int)) := fun x => GrC.cell x.rel.1 (Gr.cell (Gr.refl _).drew x3) (by show w.heap.size ≠ _; omega) (by show w.heap.size ≠ _; omega)
  have v0 : ∀ x : Up (StC (w.heap.size + 1) (w.heap.size + 1 + 1) (.cells #[.int .i64 0, .int .i64 0, .int .i64 0, .int .u32 0, .map none] 102) (.cells #[.int .i64 n, .int .i64 s, .int .i64 q, .int .u32 (id : Int), .map (some (w1.heap.size + 1))] 102) (.cells #[.int .u8 0, .int .u32 0, .int .u32 0, .int .u8 0, .slice none 0 0, .int .u64 0, .slice none 0 0] 96) (.cells #[.int .u8 (gm : Int), .int .u32 (go : Int), .int .u32 (gn : Int), .int .u8 (gd : Int), .slice a1 k1 c1, .int .u64 (gs : Int), .slice a2 k2 c2] 96)) w5.drew, x.w.cell? ⟨w1.heap.size, 0, none⟩ = some (.int .u8 (gm : Int)) := fun x => GrC.cell x.rel.1 (Gr.cell (Gr.refl _).drew y0) (by show w1.heap.size ≠ _; omega) (by show w1.heap.size ≠ _; omega)
  have v1 : ∀ x : Up (StC (w.heap.size + 1) (w.heap.size + 1 + 1) (.cells #[.int .i64 0, .int .i64 0, .int .i64 0, .int .u32 0, .map none] 102) (.cells #[.int .i64 n, .int .i64 s, .int .i64 q, .int .u32 (id : Int), .map (some (w1.heap.size + 1))] 102) (.cells #[.int .u8 0, .int .u32 0, .int .u32 0, .int .u8 0, .slice none 0 0, .int .u64 0, .slice none 0 0] 96) (.cells #[.int .u8 (gm : Int), .int .u32 (go : Int), .int .u32 (gn : Int), .int .u8 (gd : Int), .slice a1 k1 c1, .int .u64 (gs : Int), .slice a2 k2 c2] 96)) w5.drew, x.w.cell? ⟨w1.heap.size, 1, none⟩ = some (.int .u32 (go : Int)) := fun x => GrC.cell x.rel.1 (Gr.cell (Gr.refl _).drew y1) (by show w1.heap.size ≠ _; omega) (by show w1.heap.size ≠ _; omega)
  have v2 : ∀ x : Up (StC (w.heap.size + 1) (w.heap.size + 1 + 1) (.cells #[.int .i64 0, .int .i64 0, .int .i64 0, .int .u32 0, .map none] 102) (.cells #[.int .i64 n, .int .i64 s, .int .i64 q, .int .u32 (id : Int), .map (some (w1.heap.size + 1))] 102) (.cells #[.int .u8 0, .int .u32 0, .int .u32 0, .int .u8 0, .slice none 0 0, .int .u64 0, .slice none 0 0] 96) (.cells #[.int .u8 (gm : Int), .int .u32 (go : Int), .int .u32 (gn : Int), .int .u8 (gd : Int), .slice a1 k1 c1, .int .u64 (gs : Int), .slice a2 k2 c2] 96)) w5.drew, x.w.cell? ⟨w1.heap.size, 2, none⟩ = some (.int .u32 (gn : Int)) := fun x => GrC.cell x.rel.1 (Gr.cell (Gr.refl _).drew y2) (by show w1.heap.size ≠ _; omega) (by show w1.heap.size ≠ _; omega)
  have v3 : ∀ x : Up (StC (w.heap.size + 1) (w.heap.size + 1 + 1) (.cells #[.int .i64 0, .int .i64 0, .int .i64 0, .int .u32 0, .map none] 102) (.cells #[.int .i64 n, .int .i64 s, .int .i64 q, .int .u32 (id : Int), .map (some (w1.heap.size + 1))] 102) (.cells #[.int .u8 0, .int .u32 0, .int .u32 0, .int .u8 0, .slice none 0 0, .int .u64 0, .slice none 0 0] 96) (.cells #[.int .u8 (gm : Int), .int .u32 (go : Int), .int .u32 (gn : Int), .int .u8 (gd : Int), .slice a1 k1 c1, .int .u64 (gs : Int), .slice a2 k2 c2] 96)) w5.drew, x.w.cell? ⟨w1.heap.size, 3, none⟩ = some (.int .u8 (gd : Int)) := fun x => GrC.cell x.rel.1 (Gr.cell (Gr.refl _).drew y3) (by show w1.heap.size ≠ _; omega) (by show w1.heap.size ≠ _; omega)
  have v4 : ∀ x : Up (StC (w.heap.size + 1) (w.heap.size + 1 + 1) (.cells #[.int .i64 0, .int .i64 0, .int .i64 0, .int .u32 0, .map none] 102) (.cells #[.int .i64 n, .int .i64 s, .int .i64 q, .int .u32 (id : Int), .map (some (w1.heap.size + 1))] 102) (.cells #[.int .u8 0, .int .u32 0, .int .u32 0, .int .u8 0, .slice none 0 0, .int .u64 0, .slice none 0 0] 96) (.cells #[.int .u8 (gm : Int), .int .u32 (go : Int), .int .u32 (gn : Int), .int .u8 (gd : Int), .slice a1 k1 c1, .int .u64 (gs : Int), .slice a2 k2 c2] 96)) w5.drew, x.w.cell? ⟨w1.heap.size, 4, none⟩ = some (.slice a1 k1 c1) := fun x => GrC.cell x.rel.1 (Gr.cell (Gr.refl _).drew y4) (by show w1.heap.size ≠ _; omega) (by show w1.heap.size ≠ _; omega)
  have v5 : ∀ x : Up (StC (w.heap.size + 1) (w.heap.size + 1 + 1) (.cells #[.int .i64 0, .int .i64 0, .int .i64 0, .int .u32 0, .map none] 102) (.cells #[.int .i64 n, .int .i64 s, .int .i64 q, .int .u32 (id : Int), .map (some (w1.heap.size + 1))] 102) (.cells #[.int .u8 0, .int .u32 0, .int .u32 0, .int .u8 0, .slice none 0 0, .int .u64 0, .slice none 0 0] 96) (.cells #[.int .u8 (gm : Int), .int .u32 (go : Int), .int .u32 (gn : Int), .int .u8 (gd : Int), .slice a1 k1 c1, .int .u64 (gs : Int), .slice a2 k2 c2] 96)) w5.drew, x.w.cell? ⟨w1.heap.size, 5, none⟩ = some (.int .u64 (gs : Int)) := fun x => GrC.cell x.rel.1 (Gr.cell (Gr.refl _).drew y5) (by show w1.heap.size ≠ _; omega) (by show w1.heap.size ≠ _; omega)
  have v6 : ∀ x : Up (StC (w.heap.size + 1) (w.heap.size + 1 + 1) (.cells #[.int .i64 0, .int .i64 0, .int .i64 0, .int .u32 0, .map none] 102) (.cells #[.int .i64 n, .int .i64 s, .int .i64 q, .int .u32 (id : Int), .map (some (w1.heap.size + 1))] 102) (.cells #[.int .u8 0, .int .u32 0, .int .u32 0, .int .u8 0, .slice none 0 0, .int .u64 0, .slice none 0 0] 96) (.cells #[.int .u8 (gm : Int), .int .u32 (go : Int), .int .u32 (gn : Int), .int .u8 (gd : Int), .slice a1 k1 c1, .int .u64 (gs : Int), .slice a2 k2 c2] 96)) w5.drew, x.w.cell? ⟨w1.heap.size, 6, none⟩ = some (.slice a2 k2 c2) := fun x => GrC.cell x.rel.1 (Gr.cell (Gr.refl _).drew y6) (by show w1.heap.size ≠ _; omega) (by show w1.heap.size ≠ _; omega)
  clear x0 x1 x2 x3 x4 y0 y1 y2 y3 y4 y5 y6 hA5 hP5 hg15 hgr5 hg5 hnx hout5
  refine wp_region_rg [.reck, .reck, .reck, .reck, .reck, .reck, .any Unit () (fun _ => undef) (fun _ w' => w'.heap[w.heap.size + 1]? = some (.cells #[.int .i64 n, .int .i64 s, .int .i64 q, .int .u32 (id : Int), .map (some (w1.heap.size + 1))] 102)), .any Unit () (fun _ => undef) (fun _ w' => w'.heap[w.heap.size + 1 + 1]? = some (.cells #[.int .u8 (gm : Int), .int .u32 (go : Int), .int .u32 (gn : Int), .int .u8 (gd : Int), .slice a1 k1 c1, .int .u64 (gs : Int), .slice a2 k2 c2] 96))] (StC (w.heap.size + 1) (w.heap.size + 1 + 1) (.cells #[.int .i64 0, .int .i64 0, .int .i64 0, .int .u32 0, .map none] 102) (.cells #[.int .i64 n, .int .i64 s, .int .i64 q, .int .u32 (id : Int), .map (some (w1.heap.size + 1))] 102) (.cells #[.int .u8 0, .int .u32 0, .int .u32 0, .int .u8 0, .slice none 0 0, .int .u64 0, .slice none 0 0] 96) (.cells #[.int .u8 (gm : Int), .int .u32 (go : Int), .int .u32 (gn : Int), .int .u8 (gd : Int), .slice a1 k1 c1, .int .u64 (gs : Int), .slice a2 k2 c2] 96)) (by kernel_rfl) (by kernel_rfl) (StC.refl _ _ _ _ _ _) StC.trans ?_
  (refine wpRG_reck rfl (fun K hK => ?_); go_big_quiet_op; refine hK _ ?_; clear hK K)
  (refine wpRG_reck rfl (fun K hK => ?_); go_big_quiet_op; refine hK _ ?_; clear hK K)
  (refine wpRG_reck rfl (fun K hK => ?_); go_big_quiet_op; refine hK _ ?_; clear hK K)
  (refine wpRG_reck rfl (fun K hK => ?_); go_big_quiet_op; refine hK _ ?_; clear hK K)
  (refine wpRG_reck rfl (fun K hK => ?_); go_big_quiet_op; refine hK _ ?_; clear hK K)
  (refine wpRG_reck rfl (fun K hK => ?_); go_big_quiet_op; refine hK _ ?_; clear hK K)
  refine wpRG_any rfl (fun x w w' hg h => hg.2.1.2 h) (fun W hw hF R hR => ?_) ?_
  · rcases hw.2.1.1 hB5.out with h | h
    · obtain ⟨cc0, cc1, cc2, cc3, cc4, ff0⟩ := five_cells h
      have H3 := Lib.hid (five_set h (.int .i64 n) (.int .i64 s) (.int .i64 q) (.int .u32 (id : Int)) (.map (some (w1.heap.size + 1))))
      clear h hw
      (have HF := Lib.hid hF; clear hF; unfold rgAt; go_simp)
      exact hR () _ (StC.first H3.out.1 H3.out.2 (by omega)) H3.out.2
    · obtain ⟨cc0, cc1, cc2, cc3, cc4, ff0⟩ := five_cells h
      have H3 := Lib.hid (five_set h (.int .i64 n) (.int .i64 s) (.int .i64 q) (.int .u32 (id : Int)) (.map (some (w1.heap.size + 1))))
      clear h hw
      (have HF := Lib.hid hF; clear hF; unfold rgAt; go_simp)
      exact hR () _ (StC.first H3.out.1 H3.out.2 (by omega)) H3.out.2
  rintro ⟨⟩
  (simp only [Act.put])
  refine wpRG_any rfl (fun x w w' hg h => hg.2.2.2 h) (fun W hw hF R hR => ?_) ?_
  · rcases hw.2.2.1 hC5.out with h | h
    · obtain ⟨cc0, cc1, cc2, cc3, cc4, cc5, cc6, ff0⟩ := seven_cells h
      have H3 := Lib.hid (seven_set h (.int .u8 (gm : Int)) (.int .u32 (go : Int)) (.int .u32 (gn : Int)) (.int .u8 (gd : Int)) (.slice a1 k1 c1) (.int .u64 (gs : Int)) (.slice a2 k2 c2))
      clear h hw
      (have HF := Lib.hid hF; clear hF; unfold rgAt; go_simp)
      exact hR () _ (StC.second (grb_seven _ _ _ _ _ _ _ _ _) H3.out (by omega)) H3.out
    · obtain ⟨cc0, cc1, cc2, cc3, cc4, cc5, cc6, ff0⟩ := seven_cells h
      have H3 := Lib.hid (seven_set h (.int .u8 (gm : Int)) (.int .u32 (go : Int)) (.int .u32 (gn : Int)) (.int .u8 (gd : Int)) (.slice a1 k1 c1) (.int .u64 (gs : Int)) (.slice a2 k2 c2))
      clear h hw
      (have HF := Lib.hid hF; clear hF; unfold rgAt; go_simp)
      exact hR () _ (StC.second (grb_seven _ _ _ _ _ _ _ _ _) H3.out (by omega)) H3.out
  rintro ⟨⟩
  (simp only [Act.put])
  refine wpRG_end fun W' hw hF => ?_
  have f5 : W'.heap[w.heap.size + 1]? = some (.cells #[.int .i64 n, .int .i64 s, .int .i64 q, .int .u32 (id : Int), .map (some (w1.heap.size + 1))] 102) := hF 6
  have f7 : W'.heap[w.heap.size + 1 + 1]? = some (.cells #[.int .u8 (gm : Int), .int .u32 (go : Int), .int .u32 (gn : Int), .int .u8 (gd : Int), .slice a1 k1 c1, .int .u64 (gs : Int), .slice a2 k2 c2] 96) := hF 7
  obtain ⟨r0, r1, r2, r3, r4, _⟩ := five_cells f5
  obtain ⟨s0, s1, s2, s3, s4, s5, s6, _⟩ := seven_cells f7
  have hgW : Gr w W' := GrC.gr HG5.out.drew hw.1 (by omega) (by omega)
  have hOW := CntMap.grc (CntMap.gr HO5.out (Gr.refl _).drew) hw.1 (by omega) (by omega)
  have hBW1 := (HB15.out.below (Gr.refl _).drew).grc hw.1 (fun x hx => by have := HF1.out x hx; omega) (fun x hx => by have := HF1.out x hx; omega)
  have hBW2 := (HB25.out.below (Gr.refl _).drew).grc hw.1 (fun x hx => by have := HF2.out x hx; omega) (fun x hx => by have := HF2.out x hx; omega)
  have FIN := Lib.hid (And.intro hOW (And.intro hBW1 (And.intro hBW2 hgW)))
  clear hw hF u0 u1 u2 u3 v0 v1 v2 v3 v4 v5 v6 hup f5 f7 hgW hOW hBW1 hBW2
  go_wp2
  refine bodyPost_ret (v := .tuple #[.agg #[.int .i64 n, .int .i64 s, .int .i64 q, .int .u32 (id : Int), .map (some (w1.heap.size + 1))], .agg #[.int .u8 (gm : Int), .int .u32 (go : Int), .int .u32 (gn : Int), .int .u8 (gd : Int), .slice a1 k1 c1, .int .u64 (gs : Int), .slice a2 k2 c2], .int .i64 (E : Int)]) ?_ rfl ⟨w1.heap.size + 1, a1, k1, c1, a2, k2, c2, rfl, FIN.out⟩
  simp [results, Tryz.results39, go_sem, r0, r1, r2, r3, r4, s0, s1, s2, s3, s4, s5, s6]
theorem gateLook_nil (n s q : Int) (id : Nat) (hlo : -9223372036854775808 ≤ n) (hm : n ≤ 9223372036854775807) (hsl : -9223372036854775808 ≤ s) (hsm : s ≤ 9223372036854775807) (a : Option Addr) (len cap : Nat) (l : List UInt8) (w : World) (htab : Tab w) (hs : Bs w a len cap l) (hmx : len ≤ 140737488355328) :
    Calls Tryz.prog 39 #[.agg #[.int .i64 n, .int .i64 s, .int .i64 q, .int .u32 (id : Int), .map none], .slice a len cap] w fun e w' => ∃ g a1 k1 c1 a2 k2 c2, e = .returned (.tuple #[.agg #[.int .i64 n, .int .i64 s, .int .i64 q, .int .u32 (id : Int), .map (some g)], .agg #[.int .u8 ((packGot n s q id l).m : Int), .int .u32 ((packGot n s q id l).o : Int), .int .u32 ((packGot n s q id l).nn : Int), .int .u8 ((packGot n s q id l).md : Int), .slice a1 k1 c1, .int .u64 ((packGot n s q id l).sd : Int), .slice a2 k2 c2], .int .i64 (packErr n s q id l : Nat)]) ∧
      CntMap w' g 1 ((DataW.map [] : DataW Unit).put (.int .i64 (packErr n s q id l : Nat)) (.lit (.int .i64 1))) ∧ Bs w' a1 k1 c1 (packGot n s q id l).lb ∧ Bs w' a2 k2 c2 (packGot n s q id l).lp ∧ Gr w w' := by
  have := gateLook_nilD n s q id hlo hm hsl hsm a len cap l w htab hs hmx (.map []) rfl 0 rfl
  exact this
end Go.Proofs.YtddopoojmadpjaaGreatDoor

namespace Go.Proofs.YtddopoojmadpjaaGreatDoor
open Go.RowKit Go.Maps
set_option linter.unusedVariables false

/-- THE COUNTS OF A GATE that told these, one behind the other: no map, or one that holds how often each was told. -/
def GateAt (w : World) (g : Option Nat) (es : List Nat) : Prop :=
  (g = none ∧ es = []) ∨ ∃ b D, g = some b ∧ CntMap w b es.length D ∧ CntOk D es
theorem GateAt.none (w : World) : GateAt w none [] := .inl ⟨rfl, rfl⟩
theorem GateAt.gr {w w' : World} {g : Option Nat} {es : List Nat} (h : GateAt w g es) (hg : Gr w w') : GateAt w' g es := by
  rcases h with h | ⟨b, D, h1, h2, h3⟩
  · exact .inl h
  · exact .inr ⟨b, D, h1, h2.gr hg, h3⟩
theorem GateAt.ne {w : World} {g : Option Nat} {es : List Nat} {b : Nat} {cs : Array Value} {t : TypeId} {m : Nat × Nat} (h : GateAt w g es) (hc : w.heap[b]? = some (.cells cs t m)) : g ≠ some b := by
  rcases h with ⟨rfl, _⟩ | ⟨b', D, rfl, ⟨es', cl, h1, _⟩, _⟩
  · exact fun e => by cases e
  · intro e
    obtain rfl : b' = b := by simpa using e
    rw [h1] at hc; cases hc
theorem GateAt.grc {w w' : World} {g : Option Nat} {es : List Nat} {x y : Nat} (h : GateAt w g es) (hg : GrC w x y w') (hx : g ≠ some x) (hy : g ≠ some y) : GateAt w' g es := by
  rcases h with h | ⟨b, D, rfl, h2, h3⟩
  · exact .inl h
  · exact .inr ⟨b, D, rfl, h2.grc hg (fun e => hx (by rw [e])) (fun e => hy (by rw [e])), h3⟩
theorem GateAt.grb {w w' : World} {g : Option Nat} {es : List Nat} {x : Nat} (h : GateAt w g es) (hg : GrB w x w') (hx : g ≠ some x) : GateAt w' g es := h.grc (GrC.of_grb (c := x) hg) hx hx
theorem cntNil_put (E : Nat) : CntOk ((DataW.map [] : DataW Unit).put (.int .i64 (E : Int)) (.lit (.int .i64 1))) [E] := by
  have := CntOk.put CntOk.nil canon_empty E
  simpa using this

theorem gateLook_any (n s q : Int) (id : Nat) (hlo : -9223372036854775808 ≤ n) (hm : n ≤ 9223372036854775807) (hsl : -9223372036854775808 ≤ s) (hsm : s ≤ 9223372036854775807) (a : Option Addr) (len cap : Nat) (l : List UInt8) (g : Option Nat) (es : List Nat) (hl : es.length ≤ 1000) (w : World) (htab : Tab w) (hs : Bs w a len cap l) (hmx : len ≤ 140737488355328) (h : GateAt w g es) :
    Calls Tryz.prog 39 #[.agg #[.int .i64 n, .int .i64 s, .int .i64 q, .int .u32 (id : Int), .map g], .slice a len cap] w fun e w' => ∃ g' a1 k1 c1 a2 k2 c2, e = .returned (.tuple #[.agg #[.int .i64 n, .int .i64 s, .int .i64 q, .int .u32 (id : Int), .map (some g')], .agg #[.int .u8 ((packGot n s q id l).m : Int), .int .u32 ((packGot n s q id l).o : Int), .int .u32 ((packGot n s q id l).nn : Int), .int .u8 ((packGot n s q id l).md : Int), .slice a1 k1 c1, .int .u64 ((packGot n s q id l).sd : Int), .slice a2 k2 c2], .int .i64 (packErr n s q id l : Nat)]) ∧
      GateAt w' (some g') (packErr n s q id l :: es) ∧ Bs w' a1 k1 c1 (packGot n s q id l).lb ∧ Bs w' a2 k2 c2 (packGot n s q id l).lp ∧ Gr w w' := by
  rcases h with ⟨rfl, rfl⟩ | ⟨b, D, rfl, h2, h3⟩
  · refine (gateLook_nil n s q id hlo hm hsl hsm a len cap l w htab hs hmx).mono ?_
    rintro e w' ⟨g', a1, k1, c1, a2, k2, c2, he, hm', hb1, hb2, hg⟩
    exact ⟨g', a1, k1, c1, a2, k2, c2, he, .inr ⟨g', _, rfl, hm', cntNil_put _⟩, hb1, hb2, hg⟩
  · have hle := h2.size_le
    have hcl : es.count (packErr n s q id l) ≤ es.length := List.count_le_length
    refine (gateLook_own n s q id hlo hm hsl hsm a len cap l b _ D w htab hs hmx h2 (by omega) _ (h3.1 _) (by omega) (by omega)).mono ?_
    rintro e w' ⟨g', a1, k1, c1, a2, k2, c2, he, hm', hb1, hb2, hg⟩
    exact ⟨g', a1, k1, c1, a2, k2, c2, he, .inr ⟨g', _, rfl, hm'.mono (by simp; omega), h3.put (h2.canon cntLaw) _⟩, hb1, hb2, hg⟩

/-- gate.New, of whatever plan. -/
theorem gateNew_any (n s q : Int) (id : Nat) (hlo : -9223372036854775808 ≤ n) (hm : n ≤ 9223372036854775807) (hsl : -9223372036854775808 ≤ s) (hsm : s ≤ 9223372036854775807) (w : World) :
    Calls Tryz.prog 37 #[.agg #[.int .i64 n, .int .i64 s, .int .i64 q, .int .u32 (id : Int)]] w fun e w' => e = .returned (.tuple #[if planErr n s q = 0 then .agg #[.int .i64 n, .int .i64 s, .int .i64 q, .int .u32 (id : Int), .map none] else .agg #[.int .i64 0, .int .i64 0, .int .i64 0, .int .u32 0, .map none], .int .i64 (planErr n s q : Nat)]) ∧ Gr w w' := by
  by_cases hP : planErr n s q = 0
  · rw [if_pos hP, hP]; exact gateNew_ok n s q id hlo hm hsl hsm hP w
  · rw [if_neg hP]; exact gateNew_bad n s q id hlo hm hsl hsm hP w
end Go.Proofs.YtddopoojmadpjaaGreatDoor
