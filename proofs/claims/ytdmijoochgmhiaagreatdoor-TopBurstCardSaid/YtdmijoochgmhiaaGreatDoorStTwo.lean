/-
  Two blocks are written, each once; all else grows.
-/
import Derived.Test.YtdmijoochgmhiaaGreatDoorRegion
namespace Go.Proofs.YtdmijoochgmhiaaGreatDoor
open Go.RowKit
set_option linter.unusedVariables false

/-- Blocks b and c may change; all else grows. -/
def GrC (w : World) (b c : Nat) (w' : World) : Prop :=
  w'.os = w.os ∧ w'.tape = w.tape ∧ w'.output = w.output ∧ w.heap.size ≤ w'.heap.size ∧ ∀ k, k < w.heap.size → k ≠ b → k ≠ c → w'.heap[k]? = w.heap[k]?
theorem GrC.refl (w : World) (b c : Nat) : GrC w b c w := ⟨rfl, rfl, rfl, Nat.le_refl _, fun _ _ _ _ => rfl⟩
theorem GrC.heap {w w' : World} {b c k : Nat} {o : Obj} (h : GrC w b c w') (hk : w.heap[k]? = some o) (hb : k ≠ b) (hc : k ≠ c) : w'.heap[k]? = some o := by
  rw [h.2.2.2.2 k (lt_of_block hk) hb hc]; exact hk
theorem GrC.cell {w w' : World} {b c : Nat} (h : GrC w b c w') {p : Addr} {v : Value} (hp : w.cell? p = some v) (hb : p.block ≠ b) (hc : p.block ≠ c) : w'.cell? p = some v := by
  rw [World.cell?_of_block (w := w) (h.2.2.2.2 _ (World.block_lt_of_cell? w _ hp) hb hc)]; exact hp
theorem GrC.trans {x y z : World} {b c : Nat} (h : GrC x b c y) (g : GrC y b c z) : GrC x b c z :=
  ⟨g.1.trans h.1, g.2.1.trans h.2.1, g.2.2.1.trans h.2.2.1, Nat.le_trans h.2.2.2.1 g.2.2.2.1, fun k hk hb hc => (g.2.2.2.2 k (Nat.lt_of_lt_of_le hk h.2.2.2.1) hb hc).trans (h.2.2.2.2 k hk hb hc)⟩
theorem GrC.of_grb {w w' : World} {b c : Nat} (h : GrB w b w') : GrC w b c w' := ⟨h.os, h.tape, h.output, h.size, fun k hk hb _ => h.block k hk (by simpa using hb)⟩
theorem GrC.of_grb' {w w' : World} {b c : Nat} (h : GrB w c w') : GrC w b c w' := ⟨h.os, h.tape, h.output, h.size, fun k hk _ hc => h.block k hk (by simpa using hc)⟩
theorem GrC.of_gr {w w' : World} {b c : Nat} (h : Gr w w') : GrC w b c w' := GrC.of_grb (GrB.of_gr h)
theorem GrC.gr {a w w' : World} {b c : Nat} (h : Gr a w) (g : GrC w b c w') (hb : a.heap.size ≤ b) (hc : a.heap.size ≤ c) : Gr a w' :=
  ⟨g.1.trans h.os, g.2.1.trans h.tape, g.2.2.1.trans h.output, Nat.le_trans h.size g.2.2.2.1, fun k hk => (g.2.2.2.2 k (Nat.lt_of_lt_of_le hk h.size) (by omega) (by omega)).trans (h.block hk)⟩

/-- One of them is written, from o1 to o2, once. -/
def OnceAt (b : Nat) (o1 o2 : Obj) (w w' : World) : Prop := (w.heap[b]? = some o1 → w'.heap[b]? = some o1 ∨ w'.heap[b]? = some o2) ∧ (w.heap[b]? = some o2 → w'.heap[b]? = some o2)
theorem OnceAt.same {b : Nat} {o1 o2 : Obj} {w w' : World} (h : ∀ o, w.heap[b]? = some o → w'.heap[b]? = some o) : OnceAt b o1 o2 w w' := ⟨fun e => .inl (h _ e), h _⟩
theorem OnceAt.new {b : Nat} {o1 o2 : Obj} {w w' : World} (h : w'.heap[b]? = some o2) : OnceAt b o1 o2 w w' := ⟨fun _ => .inr h, fun _ => h⟩
theorem OnceAt.trans {b : Nat} {o1 o2 : Obj} {x y z : World} (h : OnceAt b o1 o2 x y) (g : OnceAt b o1 o2 y z) : OnceAt b o1 o2 x z :=
  ⟨fun e => (h.1 e).elim g.1 (fun e => .inr (g.2 e)), fun e => g.2 (h.2 e)⟩

/-- Both are. -/
def StC (b c : Nat) (o1 o2 p1 p2 : Obj) (w w' : World) : Prop := GrC w b c w' ∧ OnceAt b o1 o2 w w' ∧ OnceAt c p1 p2 w w'
theorem StC.refl (b c : Nat) (o1 o2 p1 p2 : Obj) (w : World) : StC b c o1 o2 p1 p2 w w := ⟨GrC.refl _ _ _, .same fun _ h => h, .same fun _ h => h⟩
theorem StC.trans {b c : Nat} {o1 o2 p1 p2 : Obj} (x y z : World) (h : StC b c o1 o2 p1 p2 x y) (g : StC b c o1 o2 p1 p2 y z) : StC b c o1 o2 p1 p2 x z :=
  ⟨h.1.trans g.1, h.2.1.trans g.2.1, h.2.2.trans g.2.2⟩
theorem StC.of_gr {b c : Nat} {o1 o2 p1 p2 : Obj} {w w' : World} (h : Gr w w') : StC b c o1 o2 p1 p2 w w' := ⟨GrC.of_gr h, .same fun _ => h.heap, .same fun _ => h.heap⟩
theorem StC.first {b c : Nat} {o1 o2 p1 p2 : Obj} {w w' : World} (h : GrB w b w') (e : w'.heap[b]? = some o2) (hbc : b ≠ c) : StC b c o1 o2 p1 p2 w w' :=
  ⟨GrC.of_grb h, .new e, .same fun _ hk => h.heap hk hbc.symm⟩
theorem StC.second {b c : Nat} {o1 o2 p1 p2 : Obj} {w w' : World} (h : GrB w c w') (e : w'.heap[c]? = some p2) (hbc : b ≠ c) : StC b c o1 o2 p1 p2 w w' :=
  ⟨GrC.of_grb' h, .same fun _ hk => h.heap hk hbc, .new e⟩
theorem Bs.grc {w w' : World} {b c : Nat} {a : Option Addr} {len cap : Nat} {l : List UInt8} (h : Bs w a len cap l) (g : GrC w b c w') (hb : ∀ x, a = some x → x.block ≠ b) (hc : ∀ x, a = some x → x.block ≠ c) : Bs w' a len cap l := by
  obtain ⟨h1, h2, h3, h4, h5⟩ := h
  exact ⟨h1, h2, h3, h4, fun x hx i u hu => g.cell (h5 x hx i u hu) (by rw [Addr.add_block]; exact hb x hx) (by rw [Addr.add_block]; exact hc x hx)⟩
/-- bytes do not lie in a block that holds none. -/
theorem Bs.gap {w w' : World} {b : Nat} {a : Option Addr} {n c : Nat} {l : List UInt8} {cs : Array Value} {t : TypeId} (h : Bs w a n c l) (g : GrB w b w') (hb : w.heap[b]? = some (.cells cs t)) (hcs : ∀ (j : Nat) (u : Int), cs[j]? ≠ some (.int .u8 u)) : Bs w' a n c l := by
  refine ⟨h.1, h.2.1, h.2.2.1, h.2.2.2.1, fun x hx i u hu => ?_⟩
  have hc := h.2.2.2.2 x hx i u hu
  by_cases hbk : (x.add i).block = b
  · exfalso
    simp [World.cell?, hbk, hb] at hc
    exact hcs _ _ (by first | exact hc | exact hc.2)
  · rw [World.cell?_of_block (w := w) (g.block _ (World.block_lt_of_cell? w _ hc) (by simpa using hbk))]; exact hc
end Go.Proofs.YtdmijoochgmhiaaGreatDoor
