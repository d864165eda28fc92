/-
  A map that a literal of two entries makes: how it is laid, and read.
-/
import Derived.Test.YtdmijoochgmhiabDoorRegion
import Derived.Maps.OwnOps
namespace Go.Proofs.YtdmijoochgmhiabDoor
open Go.RowKit
set_option linter.unusedVariables false

/-- the map, as it is made; with one of its entries; with both, in either order. -/
def mpF (q : Int) : Nat → Obj
  | 0 => .map #[] 0
  | 1 => .map #[{ key := .int .u8 0, val := .int .i64 q, born := 0 }] 1
  | 2 => .map #[{ key := .int .u8 1, val := .int .i64 8, born := 0 }] 1
  | 3 => .map #[{ key := .int .u8 0, val := .int .i64 q, born := 0 }, { key := .int .u8 1, val := .int .i64 8, born := 1 }] 2
  | _ => .map #[{ key := .int .u8 1, val := .int .i64 8, born := 0 }, { key := .int .u8 0, val := .int .i64 q, born := 1 }] 2
/-- which of them may come of which; which have the first entry, the second one. -/
def mpLe (i j : Nat) : Bool := i == j || i == 0 || (i == 1 && j == 3) || (i == 2 && j == 4)
def mpA (i : Nat) : Bool := i == 1 || i == 3 || i == 4
def mpB (i : Nat) : Bool := i == 2 || i == 3 || i == 4
def mpFst : Nat → Nat
  | 0 => 1
  | 2 => 4
  | i => i
def mpSnd : Nat → Nat
  | 0 => 2
  | 1 => 3
  | i => i
theorem five {P : Nat → Prop} (h0 : P 0) (h1 : P 1) (h2 : P 2) (h3 : P 3) (h4 : P 4) : ∀ i, i < 5 → P i := by
  intro i hi
  match i, hi with
  | 0, _ => exact h0
  | 1, _ => exact h1
  | 2, _ => exact h2
  | 3, _ => exact h3
  | 4, _ => exact h4
theorem mpF_inj {q : Int} {i j : Nat} (hi : i < 5) (hj : j < 5) (h : mpF q i = mpF q j) : i = j := by
  revert j
  refine five (P := fun i => ∀ {j : Nat}, j < 5 → mpF q i = mpF q j → i = j) ?_ ?_ ?_ ?_ ?_ i hi <;> intro j hj <;> refine five (P := fun j => mpF q _ = mpF q j → _ = j) ?_ ?_ ?_ ?_ ?_ j hj <;> intro h <;> first | rfl | (simp [mpF] at h; done)
theorem mpLe_trans : ∀ i, i < 5 → ∀ j, j < 5 → ∀ k, k < 5 → mpLe i j = true → mpLe j k = true → mpLe i k = true := by decide
theorem mpA_le : ∀ i, i < 5 → ∀ j, j < 5 → mpLe i j = true → mpA i = true → mpA j = true := by decide
theorem mpB_le : ∀ i, i < 5 → ∀ j, j < 5 → mpLe i j = true → mpB i = true → mpB j = true := by decide
theorem mpFst_ok : ∀ i, i < 5 → mpFst i < 5 ∧ mpLe i (mpFst i) = true ∧ mpA (mpFst i) = true := by decide
theorem mpSnd_ok : ∀ i, i < 5 → mpSnd i < 5 ∧ mpLe i (mpSnd i) = true ∧ mpB (mpSnd i) = true := by decide

section
open Go.ChangeMaps Go.MapKept
theorem mp_ins {w : World} {b : Nat} {es : Array MapEntry} {clock : Nat} (hb : w.heap[b]? = some (.map es clock)) (x v : Int)
    (h1 : Instr.findNow (.int .u8) (.int .u8 x) es.toList 0 = some none) :
    (Instr.mapUpdate 79 (.map (some b)) (.int .u8 x) (.int .i64 v)).run Tryd.prog w = .ok () (setBlock w b (.map (es.push { key := .int .u8 x, val := .int .i64 v, born := clock }) (clock + 1))) := by
  have hkey : IsKey (.int .u8) (.int .u8 x) := rfl
  simp [Instr.mapUpdate, run_underlying Tryd.underlying79, MapKept.run_getObj_map hb, run_checkKey Tryd.underlying5 hkey, run_findKey Tryd.underlying5 h1, MapKept.run_setObj_map _ hb, Result.andThen, setBlock]
theorem mp_upd {w : World} {b : Nat} {es : Array MapEntry} {clock : Nat} (hb : w.heap[b]? = some (.map es clock)) (x v : Int) {j : Nat} {z : Value} {e0 : MapEntry}
    (h1 : Instr.findNow (.int .u8) (.int .u8 x) es.toList 0 = some (some (j, z))) (hj : es[j]? = some e0) (h3 : e0.key = .int .u8 x) :
    (Instr.mapUpdate 79 (.map (some b)) (.int .u8 x) (.int .i64 v)).run Tryd.prog w = .ok () (setBlock w b (.map (es.modify j (fun e' => { e' with key := .int .u8 x, val := .int .i64 v })) clock)) := by
  have hkey : IsKey (.int .u8) (.int .u8 x) := rfl
  simp [Instr.mapUpdate, run_underlying Tryd.underlying79, MapKept.run_getObj_map hb, run_checkKey Tryd.underlying5 hkey, run_findKey Tryd.underlying5 h1, hj, h3, run_keyThatStays hkey, MapKept.run_setObj_map _ hb, Result.andThen, setBlock]
theorem grb_setBlock {w : World} {b : Nat} {o : Obj} (hb : w.heap[b]? = some o) (o' : Obj) : GrB w b (setBlock w b o') ∧ (setBlock w b o').heap[b]? = some o' := by
  have hlt := lt_of_block hb
  refine ⟨⟨rfl, rfl, rfl, by simp [setBlock], fun i _ hi => ?_⟩, by simp [setBlock, hlt]⟩
  have : b ≠ i := fun e => hi (by rw [e])
  simp [setBlock, Array.getElem?_setIfInBounds_ne this]

/-- the first entry is laid, in whatever of these it is. -/
theorem mp_first {w : World} {b : Nat} (q : Int) : ∀ i, i < 5 → w.heap[b]? = some (mpF q i) →
    ∃ w', (Instr.mapUpdate 79 (.map (some b)) (.int .u8 0) (.int .i64 q)).run Tryd.prog w = .ok () w' ∧ GrB w b w' ∧ w'.heap[b]? = some (mpF q (mpFst i)) := by
  refine five ?_ ?_ ?_ ?_ ?_ <;> intro h
  · exact ⟨_, mp_ins h 0 q rfl, (grb_setBlock h _).1, (grb_setBlock h _).2⟩
  · exact ⟨_, mp_upd h 0 q (j := 0) rfl rfl rfl, (grb_setBlock h _).1, (grb_setBlock h _).2⟩
  · exact ⟨_, mp_ins h 0 q rfl, (grb_setBlock h _).1, (grb_setBlock h _).2⟩
  · exact ⟨_, mp_upd h 0 q (j := 0) rfl rfl rfl, (grb_setBlock h _).1, (grb_setBlock h _).2⟩
  · exact ⟨_, mp_upd h 0 q (j := 1) rfl rfl rfl, (grb_setBlock h _).1, (grb_setBlock h _).2⟩
/-- the second. -/
theorem mp_second {w : World} {b : Nat} (q : Int) : ∀ i, i < 5 → w.heap[b]? = some (mpF q i) →
    ∃ w', (Instr.mapUpdate 79 (.map (some b)) (.int .u8 1) (.int .i64 8)).run Tryd.prog w = .ok () w' ∧ GrB w b w' ∧ w'.heap[b]? = some (mpF q (mpSnd i)) := by
  refine five ?_ ?_ ?_ ?_ ?_ <;> intro h
  · exact ⟨_, mp_ins h 1 8 rfl, (grb_setBlock h _).1, (grb_setBlock h _).2⟩
  · exact ⟨_, mp_ins h 1 8 rfl, (grb_setBlock h _).1, (grb_setBlock h _).2⟩
  · exact ⟨_, mp_upd h 1 8 (j := 0) rfl rfl rfl, (grb_setBlock h _).1, (grb_setBlock h _).2⟩
  · exact ⟨_, mp_upd h 1 8 (j := 1) rfl rfl rfl, (grb_setBlock h _).1, (grb_setBlock h _).2⟩
  · exact ⟨_, mp_upd h 1 8 (j := 0) rfl rfl rfl, (grb_setBlock h _).1, (grb_setBlock h _).2⟩
theorem mp_hit {w : World} {b : Nat} {es : Array MapEntry} {c : Nat} (x v : Int) {j : Nat} (h : w.heap[b]? = some (.map es c)) (h1 : Instr.findNow (.int .u8) (.int .u8 x) es.toList 0 = some (some (j, .int .i64 v))) :
    (Instr.lookup 79 (.map (some b)) (.int .u8 x) false).run Tryd.prog w = .ok (.int .i64 v) w := by
  have hkey : IsKey (.int .u8) (.int .u8 x) := rfl
  simp [Instr.lookup, run_underlying Tryd.underlying79, MapKept.run_getObj_map h, run_checkKey Tryd.underlying5 hkey, run_findKey Tryd.underlying5 h1, Result.andThen]
/-- what it holds, when both are there. -/
theorem mp_look {w : World} {b : Nat} (q : Int) (m : Nat) (hm : m ≤ 1) (i j : Nat) (hi : i < 5) (hj : j < 5) (ha : mpA i = true) (hb : mpB j = true) (h : w.heap[b]? = some (mpF q i)) (h' : w.heap[b]? = some (mpF q j)) :
    (Instr.lookup 79 (.map (some b)) (.int .u8 (m : Int)) false).run Tryd.prog w = .ok (.int .i64 (if m = 1 then 8 else q)) w := by
  obtain rfl := mpF_inj hi hj (Option.some.inj (h.symm.trans h'))
  have h34 : i = 3 ∨ i = 4 := by
    have : ∀ i, i < 5 → mpA i = true → mpB i = true → i = 3 ∨ i = 4 := by decide
    exact this i hi ha hb
  rcases (show m = 0 ∨ m = 1 by omega) with rfl | rfl <;> rcases h34 with rfl | rfl
  · exact mp_hit 0 q (j := 0) h rfl
  · exact mp_hit 0 q (j := 1) h rfl
  · exact mp_hit 1 8 (j := 1) h rfl
  · exact mp_hit 1 8 (j := 0) h rfl
end

/-- WHAT A REGION MAY DO THAT MAKES SUCH A MAP: new blocks; a map of these, from B on, may go on. -/
def MpR (B : Nat) (q : Int) (w w' : World) : Prop :=
  (w'.os = w.os ∧ w'.tape = w.tape ∧ w'.output = w.output) ∧ w.heap.size ≤ w'.heap.size ∧ ∀ k, k < w.heap.size → w'.heap[k]? = w.heap[k]? ∨
    (B ≤ k ∧ ∃ i j, i < 5 ∧ j < 5 ∧ mpLe i j = true ∧ w.heap[k]? = some (mpF q i) ∧ w'.heap[k]? = some (mpF q j))
theorem MpR.refl (B : Nat) (q : Int) (w : World) : MpR B q w w := ⟨⟨rfl, rfl, rfl⟩, Nat.le_refl _, fun _ _ => .inl rfl⟩
theorem MpR.trans {B : Nat} {q : Int} (x y v : World) (h : MpR B q x y) (g : MpR B q y v) : MpR B q x v := by
  obtain ⟨⟨h1, h2, h3⟩, h4, h5⟩ := h
  obtain ⟨⟨g1, g2, g3⟩, g4, g5⟩ := g
  refine ⟨⟨g1.trans h1, g2.trans h2, g3.trans h3⟩, Nat.le_trans h4 g4, fun k hk => ?_⟩
  rcases h5 k hk with h6 | ⟨hB, i, j, hi, hj, hij, ha, hb⟩
  · rcases g5 k (by omega) with g6 | ⟨gB, g6⟩
    · exact .inl (g6.trans h6)
    · exact .inr ⟨gB, by rw [← h6]; exact g6⟩
  · refine .inr ⟨hB, ?_⟩
    rcases g5 k (by omega) with g6 | ⟨_, i', j', hi', hj', hij', ha', hb'⟩
    · exact ⟨i, j, hi, hj, hij, ha, by rw [g6]; exact hb⟩
    · obtain rfl := mpF_inj hj hi' (Option.some.inj (hb.symm.trans ha'))
      exact ⟨i, j', hi, hj', mpLe_trans i hi j hj j' hj' hij hij', ha, hb'⟩
theorem MpR.of_gr {B : Nat} {q : Int} {w w' : World} (h : Gr w w') : MpR B q w w' := ⟨⟨h.os, h.tape, h.output⟩, h.size, fun _ hk => .inl (h.block hk)⟩
theorem MpR.gr {q : Int} {w0 w w' : World} {B : Nat} (h : MpR B q w w') (hg : Gr w0 w) (hB : w0.heap.size ≤ B) : Gr w0 w' := by
  obtain ⟨⟨h1, h2, h3⟩, h4, h5⟩ := h
  refine ⟨h1.trans hg.os, h2.trans hg.tape, h3.trans hg.output, Nat.le_trans hg.size h4, fun k hk => ?_⟩
  rcases h5 k (Nat.lt_of_lt_of_le hk hg.size) with h6 | h6
  · rw [h6]; exact hg.block hk
  · omega
theorem mpF_map (q : Int) : ∀ i, ∃ es c, mpF q i = .map es c
  | 0 => ⟨_, _, rfl⟩
  | 1 => ⟨_, _, rfl⟩
  | 2 => ⟨_, _, rfl⟩
  | 3 => ⟨_, _, rfl⟩
  | _ + 4 => ⟨_, _, rfl⟩
/-- a block of cells stays. -/
theorem MpR.heap {q : Int} {w w' : World} {B k : Nat} {cs : Array Value} {t : TypeId} {m : Nat × Nat} (h : MpR B q w w') (hk : w.heap[k]? = some (.cells cs t m)) : w'.heap[k]? = some (.cells cs t m) := by
  rcases h.2.2 k (lt_of_block hk) with h6 | ⟨_, i, j, _, _, _, ha, _⟩
  · rw [h6]; exact hk
  · obtain ⟨es, c, he⟩ := mpF_map q i
    rw [hk, he] at ha; cases ha
theorem MpR.cell {q : Int} {w w' : World} {B : Nat} (h : MpR B q w w') {p : Addr} {v : Value} (hp : w.cell? p = some v) : w'.cell? p = some v := by
  have hp' := hp
  unfold World.cell? at hp ⊢
  cases hb : w.heap[p.block]? with
  | none => rw [hb] at hp; simp at hp
  | some o =>
    cases o with
    | cells cs t m => rw [hb] at hp; rw [h.heap hb]; exact hp
    | _ => rw [hb] at hp; simp at hp
theorem MpR.bs {q : Int} {w w' : World} {B : Nat} (h : MpR B q w w') {a : Option Addr} {n c : Nat} {l : List UInt8} (hb : Bs w a n c l) : Bs w' a n c l := hb.stay fun x _ i v hv => h.cell hv
theorem mp_st {B : Nat} {q : Int} {W0 : World} {w : World} (h : MpR B q W0.drew w) {p : Addr} {v : Value} (hp : W0.cell? p = some v) : w.cell? p = some v := MpR.cell (w := W0.drew) h hp

/-- the map at b is one of these, of which that holds. -/
def MpAt (q : Int) (p : Nat → Bool) (b : Nat) (w : World) : Prop := ∃ i, i < 5 ∧ p i = true ∧ w.heap[b]? = some (mpF q i)
theorem MpAt.stay {q : Int} {w w' : World} {B b : Nat} {p : Nat → Bool} (hp : ∀ i, i < 5 → ∀ j, j < 5 → mpLe i j = true → p i = true → p j = true) (h : MpR B q w w') (hb : MpAt q p b w) : MpAt q p b w' := by
  obtain ⟨i, hi, hpi, hb⟩ := hb
  rcases h.2.2 b (lt_of_block hb) with h6 | ⟨_, i', j', hi', hj', hij', ha', hb'⟩
  · exact ⟨i, hi, hpi, by rw [h6]; exact hb⟩
  · obtain rfl := mpF_inj hi hi' (Option.some.inj (hb.symm.trans ha'))
    exact ⟨j', hj', hp i hi j' hj' hij' hpi, hb'⟩
theorem MpR.step {q : Int} {w w' : World} {B b i j : Nat} (hB : B ≤ b) (hi : i < 5) (hj : j < 5) (hij : mpLe i j = true) (hb : w.heap[b]? = some (mpF q i)) (hg : GrB w b w') (h1 : w'.heap[b]? = some (mpF q j)) : MpR B q w w' := by
  refine ⟨⟨hg.os, hg.tape, hg.output⟩, hg.size, fun k hk => ?_⟩
  by_cases e : k = b
  · subst e; exact .inr ⟨hB, i, j, hi, hj, hij, hb, h1⟩
  · exact .inl (hg.block k hk (by simpa using e))
end Go.Proofs.YtdmijoochgmhiabDoor
