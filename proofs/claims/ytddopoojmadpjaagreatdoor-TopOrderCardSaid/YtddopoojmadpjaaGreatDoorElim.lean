/-
  A system of equations in memory: its rows, and Rest, with rows.
-/
import Derived.Test.YtddopoojmadpjaaGreatDoorObject1
namespace Go.Proofs.YtddopoojmadpjaaGreatDoor
open Go.RowKit
set_option linter.unusedVariables false

theorem restL_snoc : ∀ (V : List (List UInt8)) (r v : List UInt8), restL (V ++ [r]) v = axl (fn (restL V v) (leadL r)) r (restL V v)
  | [], r, v => rfl
  | a :: V, r, v => by
    show restL (V ++ [r]) _ = _
    rw [restL_snoc V r]
    rfl
/-- data that hang on vectors linearly. -/
structure Lin (D : List UInt8 → List UInt8) (k t : Nat) : Prop where
  len : ∀ v, (D v).length = t
  ax : ∀ (c : UInt8) (x y : List UInt8), x.length = y.length → D (axl c x y) = axl c (D x) (D y)
  scale : ∀ (c : UInt8) (x : List UInt8), D (scaleL c x) = scaleL c (D x)
  zero : ∀ x, fn x = (fun _ => 0) → fn (D x) = fun _ => 0
theorem lin_comb {X : List (List UInt8)} {t k : Nat} (hX : ∀ l, l ∈ X → l.length = t) : Lin (fun v => combL v X t) k t :=
  ⟨fun v => combL_length hX, fun c x y h => comb_axl (k := 0) hX h, fun c x => comb_scale hX c x, fun x h => comb_zero hX h⟩

/-- A STEP THAT TURNS BLOCKS OF `S` ALONE, and cells alone. -/
structure GrS (S : Nat → Prop) (w w' : World) : Prop where
  os : w'.os = w.os
  tape : w'.tape = w.tape
  output : w'.output = w.output
  size : w.heap.size ≤ w'.heap.size
  block : ∀ j, j < w.heap.size → ¬ S j → w'.heap[j]? = w.heap[j]?
  other : ∀ (j : Nat) (o : Obj), w.heap[j]? = some o → (∀ cs t m, o ≠ Obj.cells cs t m) → w'.heap[j]? = some o
theorem GrS.refl (S : Nat → Prop) (w : World) : GrS S w w := ⟨rfl, rfl, rfl, Nat.le_refl _, fun _ _ _ => rfl, fun _ _ h _ => h⟩
theorem GrS.of_gr {S : Nat → Prop} {w w' : World} (g : Gr w w') : GrS S w w' := ⟨g.os, g.tape, g.output, g.size, fun _ hj _ => g.block hj, fun _ _ h _ => g.heap h⟩
theorem GrS.trans {S S1 : Nat → Prop} {w w1 w2 : World} (h : GrS S w w1) (g : GrS S1 w1 w2) (hs : ∀ b, S1 b → S b ∨ w.heap.size ≤ b) : GrS S w w2 :=
  ⟨g.os.trans h.os, g.tape.trans h.tape, g.output.trans h.output, Nat.le_trans h.size g.size, fun j hj hn => (g.block j (Nat.lt_of_lt_of_le hj h.size) fun h1 => (hs j h1).elim hn fun h2 => by omega).trans (h.block j hj hn), fun j o ho hc => g.other j o (h.other j o ho hc) hc⟩
theorem GrS.gr {S : Nat → Prop} {w w1 w2 : World} (h : GrS S w w1) (g : Gr w1 w2) : GrS S w w2 := h.trans (S1 := S) (GrS.of_gr g) fun _ h => .inl h
theorem GrS.mono {S S1 : Nat → Prop} {w w' : World} (h : GrS S w w') (hs : ∀ b, S b → S1 b) : GrS S1 w w' := ⟨h.os, h.tape, h.output, h.size, fun j hj hn => h.block j hj fun h1 => hn (hs j h1), h.other⟩
theorem GrS.of_grown {S : Nat → Prop} {w w' : World} {row : Option Nat} (g : w.grownBy w' row) (hs : ∀ b, row = some b → S b) (hc : ∀ (b : Nat) (o : Obj), row = some b → w.heap[b]? = some o → ∃ cs t m, o = Obj.cells cs t m) : GrS S w w' :=
  ⟨g.os, g.tape, g.output, g.size, fun j hj hn => g.block j hj fun e => hn (hs j e.symm), fun j o ho hn => by
    by_cases e : some j = row
    · obtain ⟨cs, t, m, e2⟩ := hc j o e.symm ho
      exact absurd e2 (hn cs t m)
    · rw [g.block j (lt_of_block ho) e]; exact ho⟩
theorem GrS.of_grb {S : Nat → Prop} {w w' : World} {b : Nat} {cs : Array Value} {t : TypeId} {m : Nat × Nat} (g : GrB w b w') (hb : w.heap[b]? = some (.cells cs t m)) (hs : S b) : GrS S w w' :=
  GrS.of_grown g (fun b' e => by cases e; exact hs) fun b' o e ho => by cases e; rw [hb] at ho; cases ho; exact ⟨_, _, _, rfl⟩
theorem GrS.grb {S : Nat → Prop} {w w1 w2 : World} {b : Nat} {cs : Array Value} {t : TypeId} {m : Nat × Nat} (h : GrS S w w1) (g : GrB w1 b w2) (hb : w1.heap[b]? = some (.cells cs t m)) (hs : S b ∨ w.heap.size ≤ b) : GrS S w w2 :=
  h.trans (S1 := fun j => j = b) (GrS.of_grb g hb rfl) fun j hj => by subst hj; exact hs
theorem GrS.heap {S : Nat → Prop} {w w' : World} (h : GrS S w w') {k : Nat} {o : Obj} (hk : w.heap[k]? = some o) (hn : ¬ S k) : w'.heap[k]? = some o := by rw [h.block k (lt_of_block hk) hn]; exact hk
theorem GrS.cell {S : Nat → Prop} {w w' : World} (h : GrS S w w') {p : Addr} {v : Value} (hp : w.cell? p = some v) (hn : ¬ S p.block) : w'.cell? p = some v := by
  rw [World.cell?_of_block (h.block _ (World.block_lt_of_cell? w _ hp) hn)]; exact hp
theorem GrS.to_gr {S : Nat → Prop} {w w1 w2 : World} (h : Gr w w1) (g : GrS S w1 w2) (hs : ∀ b, S b → w.heap.size ≤ b) : Gr w w2 :=
  ⟨g.os.trans h.os, g.tape.trans h.tape, g.output.trans h.output, Nat.le_trans h.size g.size, fun j hj => (g.block j (Nat.lt_of_lt_of_le hj h.size) fun h1 => by have := hs j h1; omega).trans (h.block hj)⟩
theorem Bs.grS {S : Nat → Prop} {w w' : World} {a : Option Addr} {len cap : Nat} {l : List UInt8} (h : Bs w a len cap l) (g : GrS S w w') (ha : ∀ x, a = some x → ¬ S x.block) : Bs w' a len cap l :=
  h.stay fun x hx i v hv => g.cell hv (by rw [Addr.add_block]; exact ha x hx)
theorem GateAt.grS {S : Nat → Prop} {w w' : World} {g : Option Nat} {es : List Nat} (h : GateAt w g es) (hg : GrS S w w') : GateAt w' g es := by
  rcases h with h | ⟨b, D, rfl, ⟨es', cl, h1, h2⟩, h3⟩
  · exact .inl h
  · exact .inr ⟨b, D, rfl, ⟨es', cl, hg.other b _ h1 (fun _ _ _ h => by cases h), h2⟩, h3⟩

/-- .. lies apart from the rows' own block, in a block of `S`. -/
def Apt (S : Nat → Prop) (rv : Value) (a : Option Addr) : Prop := ∀ x, a = some x → rv.ownBlock ≠ some x.block ∧ S x.block
theorem Apt.mono {S S1 : Nat → Prop} {rv : Value} {a : Option Addr} (h : Apt S rv a) (hs : ∀ b, S b → S1 b) : Apt S1 rv a := fun x hx => ⟨(h x hx).1, hs _ (h x hx).2⟩
/-- ROWS OF ONE'S OWN: a slice of rows, v's vector and its data D v in each; all lie in blocks of `S`, the bytes in no block of the slice's own row. -/
def PrV (w : World) (S : Nat → Prop) (rv : Value) (V : List (List UInt8)) (D : List UInt8 → List UInt8) (k t : Nat) : Prop :=
  ∃ xs, w.ownsRow 0 113 2 rv V.length xs ∧ (∀ b, rv.ownBlock = some b → S b) ∧ ∀ j v, V[j]? = some v → ∃ (a1 : Option Addr) (c1 : Nat) (a2 : Option Addr) (c2 : Nat), xs[j * 2]? = some (.slice a1 k c1) ∧ xs[j * 2 + 1]? = some (.slice a2 t c2) ∧ Bs w a1 k c1 v ∧ Bs w a2 t c2 (D v) ∧ Apt S rv a1 ∧ Apt S rv a2
theorem PrV.nil (w : World) (S : Nat → Prop) (D : List UInt8 → List UInt8) (k t : Nat) : PrV w S (.slice none 0 0) [] D k t := ⟨[], World.ownsRow_nil w 0 _ 2, (fun b h => by cases h), fun j v h => by simp at h⟩
theorem PrV.mono {w : World} {S S1 : Nat → Prop} {k t : Nat} {rv : Value} {V : List (List UInt8)} {D : List UInt8 → List UInt8} (h : PrV w S rv V D k t) (hs : ∀ b, S b → S1 b) : PrV w S1 rv V D k t := by
  obtain ⟨xs, h1, h0, h2⟩ := h
  refine ⟨xs, h1, fun b hb => hs b (h0 b hb), fun j v hv => ?_⟩
  obtain ⟨a1, c1, a2, c2, e1, e2, b1, b2, p1, p2⟩ := h2 j v hv
  exact ⟨a1, c1, a2, c2, e1, e2, b1, b2, p1.mono hs, p2.mono hs⟩
theorem PrV.gr {w w' : World} {S : Nat → Prop} {k t : Nat} {rv : Value} {V : List (List UInt8)} {D : List UInt8 → List UInt8} (h : PrV w S rv V D k t) (hg : Gr w w') : PrV w' S rv V D k t := by
  obtain ⟨xs, h1, h0, h2⟩ := h
  have hg' : w.grownBy w' none := ⟨hg.os, hg.tape, hg.output, hg.size, fun i hi _ => hg.block hi⟩
  refine ⟨xs, h1.kept hg' (by cases rv.ownBlock <;> simp), h0, fun j v hv => ?_⟩
  obtain ⟨a1, c1, a2, c2, e1, e2, b1, b2, p1⟩ := h2 j v hv
  exact ⟨a1, c1, a2, c2, e1, e2, b1.below hg, b2.below hg, p1⟩
/-- .. where one block without bytes has turned, that isn't the rows' own. -/
theorem PrV.gap {w w' : World} {S : Nat → Prop} {k t B : Nat} {rv : Value} {V : List (List UInt8)} {D : List UInt8 → List UInt8} {cs : Array Value} {ty : TypeId} (h : PrV w S rv V D k t) (hg : GrB w B w') (hb : w.heap[B]? = some (.cells cs ty)) (hcs : ∀ (j : Nat) (u : Int), cs[j]? ≠ some (.int .u8 u)) (hne : rv.ownBlock ≠ some B) : PrV w' S rv V D k t := by
  obtain ⟨xs, h1, h0, h2⟩ := h
  refine ⟨xs, h1.kept hg (.inr hne), h0, fun j v hv => ?_⟩
  obtain ⟨a1, c1, a2, c2, e1, e2, b1, b2, p1⟩ := h2 j v hv
  exact ⟨a1, c1, a2, c2, e1, e2, b1.gap hg hb hcs, b2.gap hg hb hcs, p1⟩
/-- .. where blocks of another's have turned. -/
theorem PrV.grS {w w' : World} {S S1 : Nat → Prop} {k t : Nat} {rv : Value} {V : List (List UInt8)} {D : List UInt8 → List UInt8} (h : PrV w S rv V D k t) (hg : GrS S1 w w') (hd : ∀ b, S b → ¬ S1 b) : PrV w' S rv V D k t := by
  obtain ⟨xs, h1, h0, h2⟩ := h
  refine ⟨xs, ⟨h1.1, ?_⟩, h0, fun j v hv => ?_⟩
  · rcases h1.2 with hn | ⟨g, cap, cur, hv, hg0, hh, r⟩
    · exact .inl hn
    · exact .inr ⟨g, cap, cur, hv, hg0, hg.heap hh (hd g (h0 g (by rw [hv]; rfl))), r⟩
  · obtain ⟨a1, c1, a2, c2, e1, e2, b1, b2, p1, p2⟩ := h2 j v hv
    exact ⟨a1, c1, a2, c2, e1, e2, b1.grS hg fun x hx => hd _ (p1 x hx).2, b2.grS hg fun x hx => hd _ (p2 x hx).2, p1, p2⟩
theorem PrV.lt {w : World} {S : Nat → Prop} {k t : Nat} {rv : Value} {V : List (List UInt8)} {D : List UInt8 → List UInt8} (h : PrV w S rv V D k t) : ∀ b, rv.ownBlock = some b → S b ∧ b < w.heap.size := by
  obtain ⟨xs, h1, h0, _⟩ := h
  exact fun b hb => ⟨h0 b hb, (World.ownsRow.lt h1 b hb).2⟩
theorem PrV.val {w : World} {S : Nat → Prop} {k t : Nat} {rv : Value} {V : List (List UInt8)} {D : List UInt8 → List UInt8} (h : PrV w S rv V D k t) : ∃ a cap, rv = .slice a V.length cap ∧ V.length ≤ cap ∧ cap ≤ maxLen := by
  obtain ⟨xs, h1, _⟩ := h
  rcases h1.2 with ⟨rfl, hn⟩ | ⟨g, cap, cur, rfl, _, _, hn, hm, _, _⟩
  · exact ⟨none, 0, by rw [hn], by omega, by decide⟩
  · exact ⟨_, cap, rfl, hn, hm⟩
theorem PrV.get {w : World} {S : Nat → Prop} {k t : Nat} {rv : Value} {V : List (List UInt8)} {D : List UInt8 → List UInt8} (h : PrV w S rv V D k t) {j : Nat} (hj : j < V.length) :
    ∃ (R cap : Nat) (a1 : Option Addr) (c1 : Nat) (a2 : Option Addr) (c2 : Nat), rv = .slice (some ⟨R, 0, none⟩) V.length cap ∧ S R ∧ R < w.heap.size ∧ w.cell? ⟨R, j * 2, none⟩ = some (.slice a1 k c1) ∧ w.cell? ⟨R, j * 2 + 1, none⟩ = some (.slice a2 t c2) ∧ Bs w a1 k c1 V[j] ∧ Bs w a2 t c2 (D V[j]) := by
  obtain ⟨xs, h1, h0, h2⟩ := h
  obtain ⟨a1, c1, a2, c2, e1, e2, b1, b2, _⟩ := h2 j V[j] (by simp)
  have h10 := h1
  rcases h1.2 with ⟨_, hn⟩ | ⟨g, cap, cur, rfl, hg, hh, hn, hm, hs, ht⟩
  · omega
  · exact ⟨g, cap, a1, c1, a2, c2, rfl, h0 g rfl, lt_of_block hh, by rw [World.ownsRow.cellAt h10 (j * 2) (by omega)]; exact e1, by rw [World.ownsRow.cellAt h10 (j * 2 + 1) (by omega)]; exact e2, b1, b2⟩
/-- A SYSTEM at E. -/
def ElimAt (w : World) (E : Nat) (S : Nat → Prop) (k t : Nat) (V : List (List UInt8)) (D : List UInt8 → List UInt8) : Prop :=
  ∃ rv, w.heap[E]? = some (.cells #[.int .i64 (k : Int), .int .i64 (t : Int), rv] 154) ∧ PrV w S rv V D k t ∧ rv.ownBlock ≠ some E
theorem ElimAt.gr {w w' : World} {E : Nat} {S : Nat → Prop} {k t : Nat} {V : List (List UInt8)} {D : List UInt8 → List UInt8} (h : ElimAt w E S k t V D) (hg : Gr w w') : ElimAt w' E S k t V D := by
  obtain ⟨rv, h1, h2, h3⟩ := h
  exact ⟨rv, hg.heap h1, h2.gr hg, h3⟩
theorem ElimAt.mono {w : World} {E : Nat} {S S1 : Nat → Prop} {k t : Nat} {V : List (List UInt8)} {D : List UInt8 → List UInt8} (h : ElimAt w E S k t V D) (hs : ∀ b, S b → S1 b) : ElimAt w E S1 k t V D := by
  obtain ⟨rv, h1, h2, h3⟩ := h
  exact ⟨rv, h1, h2.mono hs, h3⟩
theorem ElimAt.grS {w w' : World} {E : Nat} {S S1 : Nat → Prop} {k t : Nat} {V : List (List UInt8)} {D : List UInt8 → List UInt8} (h : ElimAt w E S k t V D) (hE : S E) (hg : GrS S1 w w') (hd : ∀ b, S b → ¬ S1 b) : ElimAt w' E S k t V D := by
  obtain ⟨rv, h1, h2, h3⟩ := h
  exact ⟨rv, hg.heap h1 (hd E hE), h2.grS hg hd, h3⟩

set_option maxRecDepth 100000 in
set_option maxHeartbeats 4000000 in
theorem elimRest_ok (E k t : Nat) (S : Nat → Prop) (V : List (List UInt8)) (D : List UInt8 → List UInt8) (hD : Lin D k t) (hV : ∀ r, r ∈ V → r.length = k ∧ leadL r < k) (hV4 : V.length ≤ 4096) (av : Option Addr) (cv : Nat) (v : List UInt8) (ad : Option Addr) (cd : Nat) (w : World) (hE : ElimAt w E S k t V D) (hv : Bs w av k cv v) (hd : Bs w ad t cd (D v)) (hk1 : 1 ≤ k) (hk : k ≤ 1000000) (ht1 : 1 ≤ t) (ht : t ≤ 1000000) :
    Calls Tryz.prog 76 #[.pointer (some ⟨E, 0, none⟩), .agg #[.slice av k cv, .slice ad t cd]] w fun e w' => ∃ a1 c1 a2 c2, e = .returned (.tuple #[.agg #[.slice a1 k c1, .slice a2 t c2], .int .i64 0]) ∧ Fr w' w.heap.size a1 k c1 (restL V v) ∧ Fr w' w.heap.size a2 t c2 (D (restL V v)) ∧ Gr w w' := by
  have HC := Lib.hid fun w h1 h2 => rowClone_any av ad k cv t cd v (D v) w h1 h2 (by omega) (by omega)
  obtain ⟨rv, hc, hp, hne⟩ := hE
  have hplt := hp.lt
  obtain ⟨ar, cr, rfl, hcr, hcm⟩ := hp.val
  have hcr9 : V.length ≤ 9223372036854775807 := by omega
  have hal := ((Gr.refl w).alloc (.cells #[.slice av k cv, .slice ad t cd] 113)).alloc (.cells #[.slice none 0 0, .slice none 0 0] 113)
  have hA := Gr.heap ((Gr.refl _).alloc (.cells #[.slice none 0 0, .slice none 0 0] 113)) (heap_alloc_new w (.cells #[.slice av k cv, .slice ad t cd] 113))
  have hB := heap_alloc_new (w.alloc (.cells #[.slice av k cv, .slice ad t cd] 113)) (.cells #[.slice none 0 0, .slice none 0 0] 113)
  simp only [World.size_alloc] at hB
  have HA := Lib.hid hA
  have HB := Lib.hid hB
  have HEE := Lib.hid (hal.heap hc)
  have HPR := Lib.hid (hp.gr hal)
  have HVL : Hid (v.length = k) := hv.1
  obtain ⟨x0, x1, xf⟩ := two_cells hA
  obtain ⟨e0, e1, e2, ef⟩ := three_all HEE.out
  have H1 := Lib.hid (hv.below hal)
  have H2 := Lib.hid (hd.below hal)
  have HAL := Lib.hid hal
  have HLIN := Lib.hid hD
  have HVV := Lib.hid hV
  have hkk : ((k : Int) != (k : Int)) = false := by simp
  have htt : ((t : Int) != (t : Int)) = false := by simp
  clear hv hd hal hA hB hc hp hne hD hV
  go_enter Tryz.func76, Tryz.ntmps76
  go_wp2_with fail
  go_quiet (fail)
  go_wp2_with fail
  have hd0 := HAL.out.drewN nq
  refine (HC.out _ (H1.out.below ((Gr.refl _).drewN _)) (H2.out.below ((Gr.refl _).drewN _))).mono ?_
  rintro e w1 ⟨a1, c1, a2, c2, rfl, f1, f2, hg⟩
  have hsz := hd0.size
  have f1' := f1.mono (base' := w.heap.size + 2) (by simp)
  have f2' := f2.mono (base' := w.heap.size + 2) (by simp)
  have hg1 := Gr.trans ((Gr.refl _).drewN nq) hg
  have hsz1 : w.heap.size + 2 ≤ w1.heap.size := by have := hg1.size; simp at this; exact this
  have hal := (Gr.refl w1).alloc (.cells #[.slice a1 k c1, .slice a2 t c2] 113)
  have HL := Lib.hid (heap_alloc_new w1 (.cells #[.slice a1 k c1, .slice a2 t c2] 113))
  have HF1 := Lib.hid (f1'.below hal)
  have HF2 := Lib.hid (f2'.below hal)
  have HW := Lib.hid ((HAL.out.trans hg1).trans hal)
  have HB1 := Lib.hid (hal.heap (hg1.heap HB.out))
  have HPR1 := Lib.hid (HPR.out.gr (hg1.trans hal))
  obtain ⟨e0, e1, e2, ef⟩ := three_all (hal.heap (hg1.heap HEE.out))
  clear hd0 f1 f2 f1' f2' hg hg1 hal hsz x0 x1 xf
  have hLs : w1.heap.size < (w1.alloc (.cells #[.slice a1 k c1, .slice a2 t c2] 113)).heap.size := by simp
  obtain ⟨L, eL⟩ : ∃ L, w1.heap.size = L := ⟨_, rfl⟩
  rw [eL] at HL hLs hsz1
  go_wp2
  obtain ⟨W1, eW⟩ : ∃ W, w1.alloc (.cells #[.slice a1 k c1, .slice a2 t c2] 113) = W := ⟨_, rfl⟩
  rw [eW] at HL HF1 HF2 HW HB1 HPR1 e0 e1 e2 ef hLs ⊢
  clear eW eL
  have HOWN : Hid ((Value.slice ar V.length cr).ownBlock ≠ some L) := fun e => by have := (hplt L e).2; omega
  have HNU : Hid (∀ (x0 x1 : Value), (∀ u : Int, x0 ≠ .int .u8 u) → (∀ u : Int, x1 ≠ .int .u8 u) → ∀ (j : Nat) (u : Int), (#[x0, x1] : Array Value)[j]? ≠ some (.int .u8 u)) := fun x0 x1 h0 h1 j u => by
    match j with
    | 0 => simp; exact h0 u
    | 1 => simp; exact h1 u
    | j + 2 => simp
  clear hplt
  go_loopw [39] (fun i wr => ∃ j : Nat, j ≤ V.length ∧ i = .int .i64 j ∧ (∃ (a : Option Addr) (c : Nat) (a' : Option Addr) (c' : Nat), wr.heap[L]? = some (.cells #[.slice a k c, .slice a' t c'] 113) ∧ Fr wr (w.heap.size + 2) a k c (restL (V.take j) v) ∧ Fr wr (w.heap.size + 2) a' t c' (D (restL (V.take j) v))) ∧ GrB W1 L wr) (fun i _ => V.length - (intOf i).toNat)
  case atStart => exact ⟨0, Nat.zero_le _, rfl, ⟨_, _, _, _, HL.out, HF1.out, HF2.out⟩, GrB.refl _ _⟩
  case round =>
    obtain ⟨j, hj, rfl, ⟨a, c, a', c', hL, hf1, hf2⟩, hgr⟩ := hrel
    have HLr := Lib.hid hL
    have HF1r := Lib.hid hf1
    have HF2r := Lib.hid hf2
    have HGR := Lib.hid hgr
    have hpr := HPR1.out.gap hgr HL.out (HNU.out _ _ (fun u => by simp) (fun u => by simp)) HOWN.out
    have HPRr := Lib.hid hpr
    clear hL hf1 hf2 hgr hpr e0 e1 e2 ef
    by_cases hlt : j < V.length
    · obtain ⟨R, cap, b1, d1, b2, d2, erv, hRb, hRl, r0, r1, hb1, hb2⟩ := HPRr.out.get hlt
      simp at erv
      obtain ⟨rfl, rfl⟩ := erv
      have hrm := HVV.out V[j] (List.getElem_mem hlt)
      have htk : V.take (j + 1) = V.take j ++ [V[j]] := by rw [List.take_succ_eq_append_getElem hlt]
      have hsn := restL_snoc (V.take j) V[j] v
      rw [← htk] at hsn
      obtain ⟨ROW, eROW⟩ : ∃ x, V[j] = x := ⟨_, rfl⟩
      rw [eROW] at hb1 hb2 hrm hsn
      obtain ⟨LF, eLF⟩ : ∃ x, restL (V.take j) v = x := ⟨_, rfl⟩
      rw [eLF] at HF1r HF2r hsn
      have hlfl := HF1r.out.1.1
      have HSN := Lib.hid hsn
      have HB1r := Lib.hid hb1
      have HB2r := Lib.hid hb2
      have hled : leadL ROW < ROW.length := by rw [hrm.1]; exact hrm.2
      have hRL := hrm.1
      have hal := (Gr.refl wr).alloc (.cells #[.slice b1 k d1, .slice b2 t d2] 113)
      have hRW := heap_alloc_new wr (.cells #[.slice b1 k d1, .slice b2 t d2] 113)
      obtain ⟨z0, z1, zf⟩ := two_cells hRW
      obtain ⟨y0, y1, yf⟩ := two_cells (hal.heap HLr.out)
      have HQL := Lib.hid fun nq => vecLead_any b1 k d1 ROW ((wr.alloc (.cells #[.slice b1 k d1, .slice b2 t d2] 113)).drewN nq) (HB1r.out.below (hal.drewN nq))
      have HQA := Lib.hid fun nq => vecAt_any a k c LF (leadI ROW) (by rw [leadI_of (leadL_lead hled)]; omega) ((wr.alloc (.cells #[.slice b1 k d1, .slice b2 t d2] 113)).drewN nq) (HF1r.out.1.below (hal.drewN nq))
      rw [leadI_of (leadL_lead hled)] at HQL HQA
      rw [atN_nat] at HQA
      obtain ⟨CC, eCC⟩ : ∃ x, fn LF (leadL ROW) = x := ⟨_, rfl⟩
      rw [eCC] at HQA HSN
      obtain ⟨LD, eLD⟩ : ∃ x, leadL ROW = x := ⟨_, rfl⟩
      rw [eLD] at HQL HQA
      have HAL2 := Lib.hid hal
      clear hb1 hb2 hrm htk hsn eROW eLF hled eCC eLD hRW
      go_wp2_with fail
      go_quiet ((first | (go_at_call 53; refine Calls.quiet_of_same ((HQL.out _).mono fun _ _ ⟨h1, h2⟩ => ⟨h1, h2.symm⟩)) | (go_at_call 52; refine Calls.quiet_of_same ((HQA.out _).mono fun _ _ ⟨h1, h2⟩ => ⟨h1, h2.symm⟩))))
      obtain ⟨W2, eW⟩ : ∃ W, (wr.alloc (.cells #[.slice b1 k d1, .slice b2 t d2] 113)).drewN nq = W := ⟨_, rfl⟩
      have hg2 := HAL2.out.drewN nq
      rw [eW] at hg2 ⊢
      have hz2 : W2.heap[wr.heap.size]? = some (.cells #[.slice b1 k d1, .slice b2 t d2] 113) := by
        rw [← eW]; exact Gr.heap ((Gr.refl _).drewN nq) (heap_alloc_new wr _)
      have HG2 := Lib.hid hg2
      have HL2 := Lib.hid (hg2.heap HLr.out)
      have HGR2 := Lib.hid (HGR.out.gr hg2)
      have HF12 := Lib.hid (HF1r.out.below hg2)
      have HF22 := Lib.hid (HF2r.out.below hg2)
      have hLF : ROW.length = LF.length := by rw [hRL, hlfl]
      have HLF := Lib.hid hLF
      clear eW hg2 z0 z1 zf y0 y1 yf HAL2 HGR HLr HF1r HF2r r0 r1
      obtain ⟨z0, z1, zf⟩ := two_cells hz2
      obtain ⟨y0, y1, yf⟩ := two_cells HL2.out
      clear hz2
      by_cases hc0 : CC = 0
      · have hSN : restL (V.take (j + 1)) v = LF := by rw [HSN.out, hc0, axl_zero hLF]
        have HS2 := Lib.hid hSN
        subst hc0
        clear hSN hLF
        go_wp2
        go_roundw
        case rel => exact ⟨j + 1, by omega, by go_num, ⟨a, c, a', c', HL2.out, by rw [HS2.out]; exact HF12.out, by rw [HS2.out]; exact HF22.out⟩, HGR2.out⟩
        case measure => simp [intOf]; omega
      · have hne : ((CC.toNat : Int) != 0) = true := by rw [bne_iff_ne]; have := u8_ne_zero hc0; omega
        have hDs : D (restL (V.take (j + 1)) v) = axl CC (D ROW) (D LF) := by rw [HSN.out]; exact HLIN.out.ax CC ROW LF hLF
        have HDS := Lib.hid hDs
        have HLS := Lib.hid fun w h1 h2 h3 h4 => rowLess_ok CC a a' b1 b2 k c t c' d1 d2 LF (D LF) ROW (D ROW) w h1 h2 h3 h4 hk1 ht1 hk ht
        clear hDs hLF hc0
        go_wp2_with fail
        refine (HLS.out W2 HF12.out.1 HF22.out.1 (HB1r.out.below HG2.out) (HB2r.out.below HG2.out)).mono ?_
        rintro e w3 ⟨a5, c5, a6, c6, rfl, f5, f6, hg3⟩
        have hw2s : w.heap.size + 2 ≤ W2.heap.size := by have h1 := lt_of_block HL2.out; omega
        have hL3 := hg3.heap HL2.out
        have hLw : L < W2.heap.size := lt_of_block HL2.out
        obtain ⟨q0, q1, qf⟩ := two_cells hL3
        obtain ⟨hgb, hh⟩ := two_set hL3 (.slice a5 k c5) (.slice a6 t c6)
        have HH := Lib.hid hh
        have HF5 := Lib.hid (Fr.mono (base' := w.heap.size + 2) (f5.grb hgb hLw) hw2s)
        have HF6 := Lib.hid (Fr.mono (base' := w.heap.size + 2) (f6.grb hgb hLw) hw2s)
        have HGR3 := Lib.hid ((HGR2.out.gr hg3).trans hgb)
        clear f5 f6 hg3 hL3 hgb hh y0 y1 yf z0 z1 zf
        go_wp2
        go_roundw
        case rel => exact ⟨j + 1, by omega, by go_num, ⟨a5, c5, a6, c6, HH.out, by rw [HSN.out]; exact HF5.out, by rw [HDS.out]; exact HF6.out⟩, HGR3.out⟩
        case measure => simp [intOf]; omega
    · have hjl : j = V.length := by omega
      have hge : (V.length : Int) ≤ (j : Int) := by omega
      subst hjl
      rw [List.take_length] at HF1r HF2r
      have hB2 := HGR.out.heap HB1.out (by omega)
      obtain ⟨y0, y1, yf⟩ := two_cells HLr.out
      obtain ⟨hgb, hh⟩ := two_set hB2 (.slice a k c) (.slice a' t c')
      have HE1 := Lib.hid (Fr.mono (base' := w.heap.size) (HF1r.out.grb hgb (by omega)) (by omega))
      have HE2 := Lib.hid (Fr.mono (base' := w.heap.size) (HF2r.out.grb hgb (by omega)) (by omega))
      have HG := Lib.hid (((HW.out.grb HGR.out (by omega))).grb hgb (by omega))
      obtain ⟨p0, p1, _⟩ := two_cells hh
      obtain ⟨q0, q1, qf⟩ := two_cells hB2
      clear hgb hh hB2
      go_wp2
      refine bodyPost_ret (v := .tuple #[.agg #[.slice a k c, .slice a' t c'], .int .i64 0]) ?_ rfl ⟨a, c, a', c', rfl, HE1.out, HE2.out, HG.out⟩
      simp [results, Tryz.results76, go_sem, p0, p1]
end Go.Proofs.YtddopoojmadpjaaGreatDoor
