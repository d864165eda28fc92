/-
  What slices of bytes, of such slices, and of ints read as; how they stay; what comes in.
-/
import Derived.WalkKit
import Derived.WalkSpells
import Derived.WalkLawsBesides
import Derived.ProofKit
import Derived.OpenShut
import Derived.Deep.Matrix
import Derived.Deep.LoopGhost
import Derived.OneCell
namespace Go.Proofs.YtddopoojmadpjaaGreatDoor
open Go.RowKit

/-- WHAT A CALL MAY DO TO MEMORY: new blocks; all that was there is as it was. -/
def Gr (w w' : World) : Prop := Below w.heap.size w w'
theorem Gr.refl (w : World) : Gr w w := Below.refl _ _
theorem Gr.trans {a b c : World} (h : Gr a b) (g : Gr b c) : Gr a c := Below.trans h (Below.mono g (Below.size h))
theorem Gr.alloc {a w : World} (h : Gr a w) (o : Obj) : Gr a (w.alloc o) := Below.alloc h (Below.size h) o
theorem Gr.drew {a w : World} (h : Gr a w) : Gr a w.drew := Below.drew h
theorem Gr.drewN {a w : World} (h : Gr a w) (n : Nat) : Gr a (w.drewN n) := below_drewN h n
theorem Gr.setCell {a w : World} (h : Gr a w) {p : Addr} (hp : a.heap.size ≤ p.block) (u : Value) : Gr a (w.setCell p u) := Below.setCell h hp u
theorem Gr.size {a w : World} (h : Gr a w) : a.heap.size ≤ w.heap.size := Below.size h
theorem Gr.block {a w : World} (h : Gr a w) {k : Nat} (hk : k < a.heap.size) : w.heap[k]? = a.heap[k]? := Below.block h k hk
theorem Gr.heap {a w : World} (h : Gr a w) {k : Nat} {o : Obj} (hk : a.heap[k]? = some o) : w.heap[k]? = some o := by rw [h.block (lt_of_block hk)]; exact hk
theorem Gr.cell {a w : World} (h : Gr a w) {p : Addr} {v : Value} (hp : a.cell? p = some v) : w.cell? p = some v := by
  rw [Below.cell h (World.block_lt_of_cell? a _ hp)]; exact hp
theorem Gr.grown {a w w' : World} {row : Option Nat} (h : Gr a w) (hg : w.grownBy w' row) (hr : ∀ k, row = some k → a.heap.size ≤ k) : Gr a w' := Below.grown h hg (Below.size h) hr

/-- .. and one old block may have turned. -/
def GrB (w : World) (b : Nat) (w' : World) : Prop := w.grownBy w' (some b)
theorem GrB.refl (w : World) (b : Nat) : GrB w b w := World.grownBy.refl _ _
theorem GrB.of_gr {w w' : World} {b : Nat} (h : Gr w w') : GrB w b w' := ⟨h.os, h.tape, h.output, h.size, fun _ hk _ => h.block hk⟩
theorem GrB.trans {a c d : World} {b : Nat} (h : GrB a b c) (g : GrB c b d) : GrB a b d :=
  ⟨g.os.trans h.os, g.tape.trans h.tape, g.output.trans h.output, Nat.le_trans h.size g.size, fun i hi hne => (g.block i (Nat.lt_of_lt_of_le hi h.size) hne).trans (h.block i hi hne)⟩
theorem GrB.gr {a c d : World} {b : Nat} (h : GrB a b c) (g : Gr c d) : GrB a b d := h.trans (GrB.of_gr g)
theorem GrB.set {a c : World} {b : Nat} (h : GrB a b c) {p : Addr} (hp : p.block = b ∨ a.heap.size ≤ p.block) (u : Value) : GrB a b (c.setCell p u) :=
  ⟨h.os, h.tape, h.output, by simpa [World.setCell] using h.size, fun i hi hne => (Below.heap_setCell _ _ _ _ (fun e => by rcases hp with hp | hp <;> simp_all <;> omega)).trans (h.block i hi hne)⟩
theorem GrB.heap {a c : World} {b : Nat} (h : GrB a b c) {k : Nat} {o : Obj} (hk : a.heap[k]? = some o) (hne : k ≠ b) : c.heap[k]? = some o := by
  rw [h.block k (lt_of_block hk) (by simpa using hne)]; exact hk
theorem Gr.grb {a w w' : World} {b : Nat} (h : Gr a w) (hg : GrB w b w') (hb : a.heap.size ≤ b) : Gr a w' := h.grown hg (fun k hk => by cases hk; exact hb)

/-- A SLICE THAT READS AS BYTES. -/
def Bs (w : World) (a : Option Addr) (len cap : Nat) (l : List UInt8) : Prop :=
  l.length = len ∧ len ≤ cap ∧ cap ≤ maxLen ∧ (a = none → cap = 0) ∧
  ∀ x, a = some x → ∀ (i : Nat) (u : UInt8), l[i]? = some u → w.cell? (x.add i) = some (.int .u8 (u.toNat : Int))

theorem Bs.nil (w : World) : Bs w none 0 0 [] := ⟨rfl, Nat.le_refl _, Nat.zero_le _, fun _ => rfl, fun _ h => by cases h⟩

/-- It stays, where its cells stay. -/
theorem Bs.stay {w w' : World} {a : Option Addr} {len cap : Nat} {l : List UInt8} (h : Bs w a len cap l)
    (hc : ∀ x, a = some x → ∀ i v, w.cell? (x.add i) = some v → w'.cell? (x.add i) = some v) : Bs w' a len cap l :=
  ⟨h.1, h.2.1, h.2.2.1, h.2.2.2.1, fun x hx i u hu => hc x hx i _ (h.2.2.2.2 x hx i u hu)⟩

theorem Addr.add_block (x : Addr) (i : Nat) : (x.add i).block = x.block := by unfold Addr.add; split <;> rfl

/-- .. behind whatever has left old blocks as they were. -/
theorem Bs.below {w w' : World} {a : Option Addr} {len cap : Nat} {l : List UInt8} (h : Bs w a len cap l) (hb : Gr w w') : Bs w' a len cap l :=
  h.stay fun x _ i v hv => by
    exact hb.cell hv

/-- .. where only blocks from B on have turned, and it lies below B. -/
theorem Bs.belowAt {w w' : World} {B : Nat} {a : Option Addr} {len cap : Nat} {l : List UInt8} (h : Bs w a len cap l) (hb : Below B w w') (ha : ∀ x, a = some x → x.block < B) : Bs w' a len cap l :=
  h.stay fun x hx i v hv => by rw [hb.cell (by rw [Addr.add_block]; exact ha x hx)]; exact hv

/-- .. where one block alone has turned, and it lies elsewhere. -/
theorem Bs.grb {w w' : World} {b : Nat} {a : Option Addr} {len cap : Nat} {l : List UInt8} (h : Bs w a len cap l) (hb : GrB w b w') (ha : ∀ x, a = some x → x.block ≠ b) : Bs w' a len cap l :=
  h.stay fun x hx i v hv => by
    rw [World.cell?_of_block (w := w) (hb.block _ (World.block_lt_of_cell? w _ hv) (by rw [Addr.add_block]; simpa using ha x hx))]; exact hv

/-- A slice that is not empty lies somewhere. -/
theorem Bs.at_ {w : World} {a : Option Addr} {len cap : Nat} {l : List UInt8} (h : Bs w a len cap l) (hl : 0 < len) :
    ∃ b off, a = some ⟨b, off, none⟩ ∧ b < w.heap.size ∧ ∀ (i : Nat) (u : UInt8), l[i]? = some u → w.cell? ⟨b, off + i, none⟩ = some (.int .u8 (u.toNat : Int)) := by
  obtain ⟨h1, h2, h3, h4, h5⟩ := h
  cases a with
  | none => have := h4 rfl; omega
  | some x =>
    obtain ⟨u, hu⟩ : ∃ u, l[0]? = some u := ⟨l[0]'(by omega), by simp⟩
    have h0 := h5 x rfl 0 u hu
    rw [Addr.add_zero'] at h0
    have hs := World.cell?_spot h0
    obtain ⟨b, off, spot⟩ := x
    simp at hs; subst hs
    refine ⟨b, off, rfl, World.block_lt_of_cell? w _ h0, fun i u hu => ?_⟩
    have := h5 _ rfl i u hu
    rwa [Addr.add_lit] at this

/-- One of its bytes. -/
theorem Bs.get {w : World} {b off len cap : Nat} {l : List UInt8} (h : Bs w (some ⟨b, off, none⟩) len cap l) {i : Nat} (hi : i < len) :
    ∃ u : UInt8, l[i]? = some u ∧ w.cell? ⟨b, off + i, none⟩ = some (.int .u8 (u.toNat : Int)) := by
  obtain ⟨h1, h2, h3, h4, h5⟩ := h
  refine ⟨l[i]'(by omega), by simp, ?_⟩
  have := h5 _ rfl i (l[i]'(by omega)) (by simp)
  rwa [Addr.add_lit] at this

/-- The first k of them, and the others. -/
theorem Bs.take {w : World} {a : Option Addr} {len cap : Nat} {l : List UInt8} (h : Bs w a len cap l) {k : Nat} (hk : k ≤ len) : Bs w a k cap (l.take k) := by
  obtain ⟨h1, h2, h3, h4, h5⟩ := h
  refine ⟨by simp; omega, by omega, h3, h4, fun x hx i u hu => ?_⟩
  rw [List.getElem?_take] at hu
  split at hu
  · exact h5 x hx i u hu
  · cases hu
theorem Bs.drop {w : World} {b off len cap : Nat} {l : List UInt8} (h : Bs w (some ⟨b, off, none⟩) len cap l) {k : Nat} (hk : k ≤ len) : Bs w (some ⟨b, off + k, none⟩) (len - k) (cap - k) (l.drop k) := by
  obtain ⟨h1, h2, h3, h4, h5⟩ := h
  refine ⟨by simp; omega, by omega, by omega, (fun h => by cases h), fun x hx i u hu => ?_⟩
  cases hx
  rw [List.getElem?_drop] at hu
  have := h5 _ rfl (k + i) u hu
  rw [Addr.add_lit] at this
  rw [Addr.add_lit, Nat.add_assoc]; exact this
theorem Bs.empty (w : World) (a : Option Addr) (ha : a ≠ none) (c : Nat) (hc : c ≤ maxLen) : Bs w a 0 c [] := ⟨rfl, Nat.zero_le _, hc, fun h => absurd h ha, fun _ _ i u hu => by simp at hu⟩

/-- A SLICE OF SLICES OF BYTES. -/
def Bss (w : World) (a : Option Addr) (len cap : Nat) (ls : List (List UInt8)) : Prop :=
  ls.length = len ∧ len ≤ cap ∧ cap ≤ maxLen ∧ (a = none → cap = 0) ∧
  ∀ x, a = some x → ∀ (i : Nat) (l : List UInt8), ls[i]? = some l → ∃ a' len' cap', w.cell? (x.add i) = some (.slice a' len' cap') ∧ Bs w a' len' cap' l

theorem Bss.below {w w' : World} {a : Option Addr} {len cap : Nat} {ls : List (List UInt8)} (h : Bss w a len cap ls) (hb : Gr w w') : Bss w' a len cap ls :=
  ⟨h.1, h.2.1, h.2.2.1, h.2.2.2.1, fun x hx i l hl => by
    obtain ⟨a', len', cap', hc, hs⟩ := h.2.2.2.2 x hx i l hl
    exact ⟨a', len', cap', hb.cell hc, hs.below hb⟩⟩

theorem Bss.at_ {w : World} {a : Option Addr} {len cap : Nat} {ls : List (List UInt8)} (h : Bss w a len cap ls) (hl : 0 < len) :
    ∃ b off, a = some ⟨b, off, none⟩ ∧ b < w.heap.size := by
  obtain ⟨h1, h2, h3, h4, h5⟩ := h
  cases a with
  | none => have := h4 rfl; omega
  | some x =>
    obtain ⟨_, _, _, h0, _⟩ := h5 x rfl 0 (ls[0]'(by omega)) (by simp)
    rw [Addr.add_zero'] at h0
    have hs := World.cell?_spot h0
    obtain ⟨b, off, spot⟩ := x
    simp at hs; subst hs
    exact ⟨b, off, rfl, World.block_lt_of_cell? w _ h0⟩

theorem Bss.get {w : World} {b off len cap : Nat} {ls : List (List UInt8)} (h : Bss w (some ⟨b, off, none⟩) len cap ls) {i : Nat} (hi : i < len) :
    ∃ l a' len' cap', ls[i]? = some l ∧ w.cell? ⟨b, off + i, none⟩ = some (.slice a' len' cap') ∧ Bs w a' len' cap' l := by
  obtain ⟨h1, h2, h3, h4, h5⟩ := h
  obtain ⟨a', len', cap', hc, hb⟩ := h5 _ rfl i (ls[i]'(by omega)) (by simp)
  rw [Addr.add_lit] at hc
  exact ⟨_, a', len', cap', by simp, hc, hb⟩

/-- one slice of bytes in a new block of its own. -/
theorem Bss.of_alloc1 {w : World} {b : Nat} {a : Option Addr} {n c : Nat} {l : List UInt8} {t : TypeId} (h : Bs w a n c l) (hb : b = w.heap.size) :
    Bss (w.alloc (.cells #[.slice a n c] t)) (some ⟨b, 0, none⟩) 1 1 [l] := by
  subst hb
  refine ⟨rfl, Nat.le_refl _, by decide, (fun h => by cases h), fun x hx i u hu => ?_⟩
  cases hx
  obtain ⟨rfl, rfl⟩ : i = 0 ∧ u = l := by
    cases i with
    | zero => simpa using hu.symm
    | succ i => simp at hu
  exact ⟨a, n, c, by rw [Addr.add_lit, World.cell?_alloc_at _ _ _ _ rfl]; rfl, h.below ((Gr.refl _).alloc _)⟩
theorem Bss.of_block1 {w : World} {b : Nat} {a : Option Addr} {n c : Nat} {l : List UInt8} {t : TypeId} {m : Nat × Nat} (hb : w.heap[b]? = some (.cells #[.slice a n c] t m)) (h : Bs w a n c l) :
    Bss w (some ⟨b, 0, none⟩) 1 1 [l] := by
  refine ⟨rfl, Nat.le_refl _, by decide, (fun h => by cases h), fun x hx i u hu => ?_⟩
  cases hx
  obtain ⟨rfl, rfl⟩ : i = 0 ∧ u = l := by
    cases i with
    | zero => simpa using hu.symm
    | succ i => simp at hu
  exact ⟨a, n, c, by rw [Addr.add_lit]; simp [World.cell?, hb], h⟩
/-- two. -/
theorem Bss.of_alloc2 {w : World} {b : Nat} {a a' : Option Addr} {n c n' c' : Nat} {l l' : List UInt8} {t : TypeId} (h : Bs w a n c l) (h' : Bs w a' n' c' l') (hb : b = w.heap.size) :
    Bss (w.alloc (.cells #[.slice a n c, .slice a' n' c'] t)) (some ⟨b, 0, none⟩) 2 2 [l, l'] := by
  subst hb
  refine ⟨rfl, Nat.le_refl _, by decide, (fun h => by cases h), fun x hx i u hu => ?_⟩
  cases hx
  rw [Addr.add_lit, Nat.zero_add, World.cell?_alloc_at _ _ _ _ rfl]
  match i, hu with
  | 0, hu => simp at hu; subst hu; exact ⟨a, n, c, rfl, h.below ((Gr.refl _).alloc _)⟩
  | 1, hu => simp at hu; subst hu; exact ⟨a', n', c', rfl, h'.below ((Gr.refl _).alloc _)⟩
theorem Bss.nil (w : World) : Bss w none 0 0 [] := ⟨rfl, Nat.le_refl _, Nat.zero_le _, fun _ => rfl, fun _ h => by cases h⟩

/-- An own row of bytes is a slice that reads so. -/
theorem Bs.of_own {w : World} {base : Nat} {e : TypeId} {v : Value} {n : Nat} {l : List UInt8} (h : w.ownsRow base e 1 v n (l.map fun u => .int .u8 (u.toNat : Int))) :
    ∃ a cap, v = .slice a n cap ∧ Bs w a n cap l ∧ ∀ x, a = some x → base ≤ x.block := by
  obtain ⟨h1, h2⟩ := h
  rcases h2 with ⟨rfl, rfl⟩ | ⟨g, cap, cur, rfl, hg, hh, hn, hm, hs, ht⟩
  · obtain rfl : l = [] := by simpa using h1
    exact ⟨none, 0, rfl, Bs.nil w, fun _ h => by cases h⟩
  · refine ⟨_, cap, rfl, ⟨by simpa using h1, hn, hm, (fun h => by cases h), fun x hx i u hu => ?_⟩, fun x hx => by cases hx; exact hg⟩
    cases hx
    rw [Addr.add_lit, Nat.zero_add]
    have hlt : i < n := by have := (List.getElem?_eq_some_iff.1 hu).1; simp at h1; omega
    have e1 : (cur.toList.take (n * 1))[i]? = some (.int .u8 (u.toNat : Int)) := by rw [ht, List.getElem?_map, hu]; rfl
    rw [List.getElem?_take, if_pos (by omega)] at e1
    have e2 : cur[i]? = some (.int .u8 (u.toNat : Int)) := by rw [← Array.getElem?_toList]; exact e1
    simp [World.cell?, hh, e2]

/-- the cells of bytes. -/
def u8s (l : List UInt8) : List Value := l.map fun u => .int .u8 (u.toNat : Int)
/-- A block that has just been made reads as its bytes. -/
theorem Bs.of_alloc {w : World} {b : Nat} {cur : Array Value} {e : TypeId} {n : Nat} {l : List UInt8} (h : cur.toList = u8s l) (hn : l.length = n) (hm : n ≤ maxLen) (hb : b = w.heap.size) :
    Bs (w.alloc (.cells cur e)) (some ⟨b, 0, none⟩) n n l := by
  subst hb
  refine ⟨hn, Nat.le_refl _, hm, (fun h => by cases h), fun x hx i u hu => ?_⟩
  cases hx
  rw [Addr.add_lit, Nat.zero_add]
  have e2 : cur[i]? = some (.int .u8 (u.toNat : Int)) := by rw [← Array.getElem?_toList, h, u8s, List.getElem?_map, hu]; rfl
  rw [World.cell?_alloc_at _ _ _ _ rfl]; exact e2
/-- .. a block with a mark, too. -/
theorem Bs.of_heap {w : World} {b : Nat} {cur : Array Value} {e : TypeId} {m : Nat × Nat} {n : Nat} {l : List UInt8} (hb : w.heap[b]? = some (.cells cur e m)) (h : cur.toList = u8s l) (hn : l.length = n) (hm : n ≤ maxLen) :
    Bs w (some ⟨b, 0, none⟩) n n l := by
  refine ⟨hn, Nat.le_refl _, hm, (fun h => by cases h), fun x hx i u hu => ?_⟩
  cases hx
  rw [Addr.add_lit, Nat.zero_add]
  have e2 : cur[i]? = some (.int .u8 (u.toNat : Int)) := by rw [← Array.getElem?_toList, h, u8s, List.getElem?_map, hu]; rfl
  simp [World.cell?, hb, e2]
/-- A RESULT: bytes in memory of the call's own. -/
def Fresh (w w' : World) (v : Value) (l : List UInt8) : Prop :=
  ∃ a cap, v = .slice a l.length cap ∧ Bs w' a l.length cap l ∧ (∀ x, a = some x → w.heap.size ≤ x.block) ∧ Gr w w'

/-- BYTES IN A ROW OF THE CALL's OWN: block g, from base on. -/
def OwnB (w : World) (base g len cap : Nat) (l : List UInt8) : Prop := w.ownsRow base 5 1 (.slice (some ⟨g, 0, none⟩) len cap) len (u8s l)
theorem OwnB.of_owns {w : World} {base n : Nat} {v : Value} {l : List UInt8} (h : w.ownsRow base 5 1 v n (u8s l)) (hn : 0 < n) : ∃ g cap, v = .slice (some ⟨g, 0, none⟩) n cap ∧ OwnB w base g n cap l := by
  rcases h.2 with ⟨rfl, rfl⟩ | ⟨g, cap, cur, rfl, hg, hh, hn, hm, hs, ht⟩
  · omega
  · exact ⟨g, cap, rfl, h⟩
theorem OwnB.base_le {w : World} {base g len cap : Nat} {l : List UInt8} (h : OwnB w base g len cap l) : base ≤ g ∧ g < w.heap.size := by
  have := World.ownsRow.lt h g rfl; exact this
theorem OwnB.len {w : World} {base g len cap : Nat} {l : List UInt8} (h : OwnB w base g len cap l) : l.length = len := by
  have := h.1; simpa [u8s] using this
theorem OwnB.cap {w : World} {base g len cap : Nat} {l : List UInt8} (h : OwnB w base g len cap l) : len ≤ cap ∧ cap ≤ maxLen := by
  rcases h.2 with ⟨h', _⟩ | ⟨g', cap', cur, h', _, _, h3, h4, _⟩
  · cases h'
  · cases h'; exact ⟨h3, h4⟩
theorem OwnB.gr {w w' : World} {base g len cap : Nat} {l : List UInt8} (h : OwnB w base g len cap l) (hb : Gr w w') : OwnB w' base g len cap l := by
  refine ⟨h.1, ?_⟩
  rcases h.2 with hn | ⟨g, cap, cur, hv, hg, hh, r⟩
  · exact .inl hn
  · exact .inr ⟨g, cap, cur, hv, hg, hb.heap hh, r⟩
theorem OwnB.cell {w : World} {base g len cap : Nat} {l : List UInt8} (h : OwnB w base g len cap l) {i : Nat} {u : UInt8} (hu : l[i]? = some u) : w.cell? ⟨g, i, none⟩ = some (.int .u8 (u.toNat : Int)) := by
  have hi := (List.getElem?_eq_some_iff.1 hu).1
  rw [World.ownsRow.cellAt h i (by have := h.len; omega), u8s, List.getElem?_map, hu]; rfl
theorem OwnB.free {w : World} {base g len cap : Nat} {l : List UInt8} (h : OwnB w base g len cap l) (i : Nat) : w.frozen? ⟨g, i, none⟩ = false := World.ownsRow.frozenAt h i
theorem OwnB.set {w : World} {base g len cap : Nat} {l : List UInt8} (h : OwnB w base g len cap l) (i : Nat) (u : UInt8) : OwnB (w.setCell ⟨g, i, none⟩ (.int .u8 (u.toNat : Int))) base g len cap (l.set i u) := by
  have := (World.ownsRow.stored h i (.int .u8 (u.toNat : Int))).1
  unfold OwnB u8s; rw [List.map_set]; exact this
theorem OwnB.bs {w : World} {base g len cap : Nat} {l : List UInt8} (h : OwnB w base g len cap l) : Bs w (some ⟨g, 0, none⟩) len cap l :=
  ⟨h.len, h.cap.1, h.cap.2, (fun h => by cases h), fun x hx i u hu => by cases hx; rw [Addr.add_lit, Nat.zero_add]; exact h.cell hu⟩
/-- the cells of bytes that came in, for the laws of append. -/
theorem Bs.news {w : World} {b off len cap : Nat} {l : List UInt8} (h : Bs w (some ⟨b, off, none⟩) len cap l) : ∀ j u, (u8s l)[j]? = some u → w.cell? ((⟨b, off, none⟩ : Addr).add j) = some u := by
  intro j u hu
  rw [u8s, List.getElem?_map] at hu
  obtain ⟨x, hx, rfl⟩ := Option.map_eq_some_iff.1 hu
  exact h.2.2.2.2 _ rfl j x hx
theorem u8s_one {l : List UInt8} : ∀ u ∈ u8s l, u.oneCell' = true := by
  intro u hu
  obtain ⟨x, _, rfl⟩ := List.mem_map.1 hu
  rfl

/-- n bytes, of which j stand, and the others are noughts. -/
def fillTo (f : Nat → UInt8) (n j : Nat) : List UInt8 := (List.range n).map fun i => if i < j then f i else 0
theorem fillTo_length (f : Nat → UInt8) (n j : Nat) : (fillTo f n j).length = n := by simp [fillTo]
theorem fillTo_zero (f : Nat → UInt8) (n : Nat) : fillTo f n 0 = List.replicate n 0 := by
  apply List.ext_getElem
  · simp [fillTo]
  · intro i h1 h2; simp [fillTo]
theorem fillTo_all (f : Nat → UInt8) (n : Nat) {j : Nat} (h : n ≤ j) : fillTo f n j = (List.range n).map f := by
  refine List.map_congr_left fun i hi => ?_
  rw [if_pos (by have := List.mem_range.1 hi; omega)]
theorem fillTo_set (f : Nat → UInt8) (n j : Nat) : (fillTo f n j).set j (f j) = fillTo f n (j + 1) := by
  apply List.ext_getElem?
  intro i
  rw [List.getElem?_set]
  unfold fillTo
  simp only [List.length_map, List.length_range, List.getElem?_map]
  by_cases hi : i < n
  · rw [List.getElem?_range hi]
    by_cases e : j = i
    · subst e; simp [hi]
    · rw [if_neg e]
      simp only [Option.map_some]
      by_cases h : i < j
      · rw [if_pos h, if_pos (by omega)]
      · rw [if_neg h, if_neg (by omega)]
  · rw [List.getElem?_eq_none (by simp; omega)]
    by_cases e : j = i
    · rw [if_pos e, if_neg (by omega)]; rfl
    · rw [if_neg e]; rfl
/-- what make lays. -/
theorem OwnB.of_made {w : World} {base g n : Nat} {f : Nat → UInt8} (h : w.ownsRow base 5 1 (.slice (some ⟨g, 0, none⟩) n n) n (madeCells (Value.int .u8 0).cells (n * 1)).toList) : OwnB w base g n n (fillTo f n 0) := by
  unfold OwnB
  have e : u8s (fillTo f n 0) = (madeCells (Value.int .u8 0).cells (n * 1)).toList := by
    rw [fillTo_zero]
    apply List.ext_getElem
    · simp [u8s, madeCells]
    · intro i h1 h2; simp [u8s, madeCells, Value.cells, Nat.mod_one]
  rw [e]; exact h

/-- WHAT COMES IN: a slice of bytes. -/
theorem Bs.of_trod {H : Type} {enc : TypeId × Value → H} {P : Program} {W : World} {base : Nat} {held : Bool} {fuel : Nat} {t e : TypeId} {a : Option Addr} {len cap : Nat} {x : DataW H × List MemPlace}
    (ht : P.underlying t = some (.slice e)) (he : P.underlying e = some (.int .u8)) (ce : P.cellsOf e = 1) (h : DataW.trod enc P W base (fun _ => true) held fuel t (Value.slice a len cap).cells.toList = some x) :
    ∃ l, Bs W a len cap l := by
  rcases ChangeShapes.open_ints ht he ce h with ⟨hcs, _⟩ | ⟨x, len', cap', zs, hcs, _, hl, hm, hz, _, hcell, hwz⟩
  · simp [Value.cells] at hcs
    obtain ⟨rfl, rfl, rfl⟩ := hcs
    exact ⟨[], Bs.nil W⟩
  · simp [Value.cells] at hcs
    obtain ⟨rfl, rfl, rfl⟩ := hcs
    have hz' : zs.length = cap := by simpa using hz
    refine ⟨(zs.take len).map fun n => UInt8.ofNat n.toNat, by simp; omega, hl, hm, (fun h => by cases h), fun y hy i u hu => ?_⟩
    cases hy
    rw [List.getElem?_map] at hu
    obtain ⟨n, hn, rfl⟩ := Option.map_eq_some_iff.1 hu
    rw [List.getElem?_take] at hn
    split at hn
    · have hn' : zs[i]? = some n := hn
      have hlt := (List.getElem?_eq_some_iff.1 hn').1
      have hwf := hwz n (List.mem_of_getElem? hn')
      have hb : 0 ≤ n ∧ n < 256 := by
        simp [Lit.wf, IntKind.min, IntKind.max, IntKind.signed, IntKind.bits] at hwf; omega
      rw [hcell i hlt, List.getD_eq_getElem?_getD, hn']
      have : ((UInt8.ofNat n.toNat).toNat : Int) = n := by rw [UInt8.toNat_ofNat']; omega
      show some (Value.int .u8 n) = _; rw [this]
    · cases hn

theorem u8_wf_eq {n : Int} (h : (Lit.int .u8 n).wf = true) : ((UInt8.ofNat n.toNat).toNat : Int) = n := by
  simp [Lit.wf, IntKind.min, IntKind.max, IntKind.signed, IntKind.bits] at h
  rw [UInt8.toNat_ofNat']; omega

/-- WHAT COMES IN: a slice of slices of bytes. -/
theorem Bss.of_trod {H : Type} {enc : TypeId × Value → H} {P : Program} {W : World} {base : Nat} {held : Bool} {fuel : Nat} {t e q : TypeId} {a : Option Addr} {len cap : Nat} {x : DataW H × List MemPlace}
    (ht : P.underlying t = some (.slice e)) (he : P.underlying e = some (.slice q)) (hq : P.underlying q = some (.int .u8)) (ce : P.cellsOf e = 1) (cq : P.cellsOf q = 1)
    (h : DataW.trod enc P W base (fun _ => true) held fuel t (Value.slice a len cap).cells.toList = some x) :
    ∃ ls, Bss W a len cap ls := by
  rcases Deep.open_int_rows ht he hq ce cq h with ⟨hcs, _⟩ | ⟨x, len', cap', A, L, C, Z, hcs, _, hl, hm, _, hr⟩
  · simp [Value.cells] at hcs
    obtain ⟨rfl, rfl, rfl⟩ := hcs
    exact ⟨[], rfl, Nat.le_refl _, Nat.zero_le _, fun _ => rfl, fun _ h => by cases h⟩
  · simp [Value.cells] at hcs
    obtain ⟨rfl, rfl, rfl⟩ := hcs
    refine ⟨(List.range len).map fun r => ((Z r).take (L r)).map fun n => UInt8.ofNat n.toNat, by simp, hl, hm, (fun h => by cases h), fun y hy i l hil => ?_⟩
    cases hy
    rw [List.getElem?_map] at hil
    obtain ⟨r, hr1, rfl⟩ := Option.map_eq_some_iff.1 hil
    have hlt := (List.getElem?_eq_some_iff.1 hr1).1
    have hri : r = i := by simp at hlt; rw [List.getElem?_range hlt] at hr1; simpa using hr1.symm
    subst hri
    obtain ⟨hc, h1, h2, h3, h4, h5, h6⟩ := hr r (by simp at hlt; omega)
    refine ⟨_, _, _, hc, by simp; omega, h1, h2, h5, fun z hz j u hu => ?_⟩
    rw [List.getElem?_map] at hu
    obtain ⟨n, hn, rfl⟩ := Option.map_eq_some_iff.1 hu
    rw [List.getElem?_take] at hn
    split at hn
    · have hj := (List.getElem?_eq_some_iff.1 hn).1
      rw [(h6 z hz).2 j (by omega), List.getD_eq_getElem?_getD, hn]
      show some (Value.int .u8 n) = _; rw [u8_wf_eq (h4 n (List.mem_of_getElem? hn))]
    · cases hn

theorem u8_of_wf {a : Int} (h : (Lit.int .u8 a).wf = true) : ∃ n : Nat, a = n ∧ n < 256 := by
  simp [Lit.wf, IntKind.min, IntKind.max, IntKind.signed, IntKind.bits] at h; exact ⟨a.toNat, by omega, by omega⟩
theorem u16_of_wf {a : Int} (h : (Lit.int .u16 a).wf = true) : ∃ n : Nat, a = n ∧ n < 65536 := by
  simp [Lit.wf, IntKind.min, IntKind.max, IntKind.signed, IntKind.bits] at h; exact ⟨a.toNat, by omega, by omega⟩
theorem u32_of_wf {a : Int} (h : (Lit.int .u32 a).wf = true) : ∃ n : Nat, a = n ∧ n < 4294967296 := by
  simp [Lit.wf, IntKind.min, IntKind.max, IntKind.signed, IntKind.bits] at h; exact ⟨a.toNat, by omega, by omega⟩
theorem u64_of_wf {a : Int} (h : (Lit.int .u64 a).wf = true) : ∃ n : Nat, a = n ∧ n < 18446744073709551616 := by
  simp [Lit.wf, IntKind.min, IntKind.max, IntKind.signed, IntKind.bits] at h; exact ⟨a.toNat, by omega, by omega⟩
theorem i64_of_wf {a : Int} (h : (Lit.int .i64 a).wf = true) : -9223372036854775808 ≤ a ∧ a ≤ 9223372036854775807 := by
  simp [Lit.wf, IntKind.min, IntKind.max, IntKind.signed, IntKind.bits] at h; omega

/-- A SLICE OF ints. -/
def Ints (w : World) (a : Option Addr) (len cap : Nat) (l : List Int) : Prop :=
  l.length = len ∧ len ≤ cap ∧ cap ≤ maxLen ∧ (a = none → cap = 0) ∧ (∀ n ∈ l, -9223372036854775808 ≤ n ∧ n ≤ 9223372036854775807) ∧
  ∀ x, a = some x → ∀ (i : Nat) (n : Int), l[i]? = some n → w.cell? (x.add i) = some (.int .i64 n)
theorem Ints.below {w w' : World} {a : Option Addr} {len cap : Nat} {l : List Int} (h : Ints w a len cap l) (hb : Gr w w') : Ints w' a len cap l :=
  ⟨h.1, h.2.1, h.2.2.1, h.2.2.2.1, h.2.2.2.2.1, fun x hx i n hn => by
    have hc := h.2.2.2.2.2 x hx i n hn
    exact hb.cell hc⟩
theorem Ints.at_ {w : World} {a : Option Addr} {len cap : Nat} {l : List Int} (h : Ints w a len cap l) (hl : 0 < len) :
    ∃ b off, a = some ⟨b, off, none⟩ ∧ b < w.heap.size := by
  obtain ⟨h1, h2, h3, h4, _, h5⟩ := h
  cases a with
  | none => have := h4 rfl; omega
  | some x =>
    have h0 := h5 x rfl 0 (l[0]'(by omega)) (by simp)
    rw [Addr.add_zero'] at h0
    have hs := World.cell?_spot h0
    obtain ⟨b, off, spot⟩ := x
    simp at hs; subst hs
    exact ⟨b, off, rfl, World.block_lt_of_cell? w _ h0⟩
theorem Ints.get {w : World} {b off len cap : Nat} {l : List Int} (h : Ints w (some ⟨b, off, none⟩) len cap l) {i : Nat} (hi : i < len) :
    ∃ n : Int, l[i]? = some n ∧ w.cell? ⟨b, off + i, none⟩ = some (.int .i64 n) ∧ -9223372036854775808 ≤ n ∧ n ≤ 9223372036854775807 := by
  obtain ⟨h1, h2, h3, h4, h6, h5⟩ := h
  refine ⟨l[i]'(by omega), by simp, ?_, h6 _ (by simp)⟩
  have := h5 _ rfl i (l[i]'(by omega)) (by simp)
  rwa [Addr.add_lit] at this
theorem Ints.of_trod {H : Type} {enc : TypeId × Value → H} {P : Program} {W : World} {base : Nat} {held : Bool} {fuel : Nat} {t e : TypeId} {a : Option Addr} {len cap : Nat} {x : DataW H × List MemPlace}
    (ht : P.underlying t = some (.slice e)) (he : P.underlying e = some (.int .i64)) (ce : P.cellsOf e = 1) (h : DataW.trod enc P W base (fun _ => true) held fuel t (Value.slice a len cap).cells.toList = some x) :
    ∃ l, Ints W a len cap l := by
  rcases ChangeShapes.open_ints ht he ce h with ⟨hcs, _⟩ | ⟨x, len', cap', zs, hcs, _, hl, hm, hz, _, hcell, hwz⟩
  · simp [Value.cells] at hcs
    obtain ⟨rfl, rfl, rfl⟩ := hcs
    exact ⟨[], rfl, Nat.le_refl _, Nat.zero_le _, fun _ => rfl, fun _ h => (by cases h), fun _ h => by cases h⟩
  · simp [Value.cells] at hcs
    obtain ⟨rfl, rfl, rfl⟩ := hcs
    have hz' : zs.length = cap := by simpa using hz
    refine ⟨zs.take len, by simp; omega, hl, hm, (fun h => by cases h), fun n hn => i64_of_wf (hwz n (List.mem_of_mem_take hn)), fun y hy i n hn => ?_⟩
    cases hy
    rw [List.getElem?_take] at hn
    split at hn
    · rw [hcell i (List.getElem?_eq_some_iff.1 hn).1, List.getD_eq_getElem?_getD, hn]; rfl
    · cases hn
end Go.Proofs.YtddopoojmadpjaaGreatDoor
