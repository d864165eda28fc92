/-
  append of a slice of bytes to a slice of such slices that the call owns.
-/
import Derived.Test.YtddopoojmadpjaaGreatDoorAppend
import Derived.Lib.Hide
namespace Go.Proofs.YtddopoojmadpjaaGreatDoor
open Go.RowKit

theorem infoSlice : (Tryz.prog.info? 22).map (fun i => (i.zero, i.size, i.bytes)) = some (some (.slice none 0 0), 1, 24) := by kernel_rfl
/-- A VALUE THAT OWNS ROWS: nil, or the head of a row of slices of the call's own; what these hold lies neither in that row nor in the block 'av'. -/
def RowsV (w : World) (base : Nat) (v : Value) (ls : List (List UInt8)) (av : Option Nat) : Prop :=
  ∃ xs, w.ownsRow base 22 1 v ls.length xs ∧ ∀ (j : Nat) (l : List UInt8), ls[j]? = some l → ∃ a n c, xs[j]? = some (.slice a n c) ∧ Bs w a n c l ∧ ∀ y, a = some y → v.ownBlock ≠ some y.block ∧ y.block < w.heap.size ∧ av ≠ some y.block
theorem RowsV.nil (w : World) (base : Nat) (av : Option Nat) : RowsV w base (.slice none 0 0) [] av := ⟨[], World.ownsRow_nil w base _ 1, fun j l h => by simp at h⟩
theorem RowsV.lt {w : World} {base : Nat} {v : Value} {ls : List (List UInt8)} {av : Option Nat} (h : RowsV w base v ls av) : ∀ k, v.ownBlock = some k → base ≤ k ∧ k < w.heap.size := by
  obtain ⟨xs, h1, _⟩ := h; exact World.ownsRow.lt h1
/-- where another block alone has turned. -/
theorem RowsV.grown {w w' : World} {base : Nat} {v : Value} {ls : List (List UInt8)} {av : Option Nat} (h : RowsV w base v ls av) (hg : w.grownBy w' av) (hne : v.ownBlock = none ∨ v.ownBlock ≠ av) {av' : Option Nat} (hav : av' = av ∨ ∀ k, av' = some k → w.heap.size ≤ k) : RowsV w' base v ls av' := by
  obtain ⟨xs, h1, h2⟩ := h
  refine ⟨xs, h1.kept hg hne, fun j l hl => ?_⟩
  obtain ⟨a, n, c, e, hb, ha⟩ := h2 j l hl
  refine ⟨a, n, c, e, ?_, fun y hy => ?_⟩
  · refine hb.stay fun x hx i v hv => ?_
    obtain ⟨h3, h4, h5⟩ := ha x hx
    exact World.grownBy.cell hg hv (by rw [Addr.add_block]; exact fun e => h5 e.symm)
  · obtain ⟨h3, h4, h5⟩ := ha y hy
    refine ⟨h3, Nat.lt_of_lt_of_le h4 hg.size, ?_⟩
    rcases hav with rfl | hav
    · exact h5
    · intro e; have := hav _ e; omega
theorem RowsV.gr {w w' : World} {base : Nat} {v : Value} {ls : List (List UInt8)} {av : Option Nat} (h : RowsV w base v ls av) (hg : Gr w w') : RowsV w' base v ls av := by
  obtain ⟨xs, h1, h2⟩ := h
  have hg' : w.grownBy w' none := ⟨hg.os, hg.tape, hg.output, hg.size, fun i hi _ => hg.block hi⟩
  refine ⟨xs, h1.kept hg' (by cases v.ownBlock <;> simp), fun j l hl => ?_⟩
  obtain ⟨a, n, c, e, hb, ha⟩ := h2 j l hl
  exact ⟨a, n, c, e, hb.below hg, fun y hy => ⟨(ha y hy).1, Nat.lt_of_lt_of_le (ha y hy).2.1 hg.size, (ha y hy).2.2⟩⟩
theorem RowsV.avoid {w : World} {base : Nat} {v : Value} {ls : List (List UInt8)} {av av' : Option Nat} (h : RowsV w base v ls av) (hav : ∀ k, av' = some k → w.heap.size ≤ k) : RowsV w base v ls av' := by
  obtain ⟨xs, h1, h2⟩ := h
  refine ⟨xs, h1, fun j l hl => ?_⟩
  obtain ⟨a, n, c, e, hb, ha⟩ := h2 j l hl
  exact ⟨a, n, c, e, hb, fun y hy => ⟨(ha y hy).1, (ha y hy).2.1, fun e => by have := hav _ e; have := (ha y hy).2.1; omega⟩⟩
/-- as a slice. -/
theorem RowsV.bss {w : World} {base : Nat} {v : Value} {ls : List (List UInt8)} {av : Option Nat} (h : RowsV w base v ls av) : ∃ a cap, v = .slice a ls.length cap ∧ Bss w a ls.length cap ls ∧ ∀ y, a = some y → base ≤ y.block := by
  obtain ⟨xs, h1, h2⟩ := h
  rcases h1.2 with ⟨rfl, hn⟩ | ⟨g, cap, cur, rfl, hg, hh, hn, hm, hs, ht⟩
  · rw [hn]
    have : ls = [] := List.eq_nil_of_length_eq_zero hn
    subst this
    exact ⟨none, 0, rfl, Bss.nil w, fun y h => by cases h⟩
  · refine ⟨some ⟨g, 0, none⟩, cap, rfl, ⟨rfl, hn, hm, (fun h => by cases h), fun x hx i l hl => ?_⟩, fun y hy => by cases hy; exact hg⟩
    cases hx
    obtain ⟨a, n, c, e, hb, ha⟩ := h2 i l hl
    refine ⟨a, n, c, ?_, hb⟩
    rw [Addr.add_lit, Nat.zero_add]
    rw [← ht, List.getElem?_take] at e
    split at e
    · have e2 : cur[i]? = some (.slice a n c) := by rw [← Array.getElem?_toList]; exact e
      simp [World.cell?, hh, e2]
    · cases e

theorem run_append_rows {w : World} (ty : TypeId) (base : Nat) {v : Value} {ls : List (List UInt8)} {av : Option Nat} (h : RowsV w base v ls av) {ad : Addr} {a : Option Addr} {n c : Nat} {l : List UInt8} (hc : w.cell? ad = some (.slice a n c)) (hb : Bs w a n c l)
    (ha : ∀ y, a = some y → v.ownBlock ≠ some y.block ∧ y.block < w.heap.size) (hlen : (ls.length + 1) * 24 ≤ 140737488355328) (hbase : base ≤ w.heap.size) :
    ∃ v' w', (Builtin.append_ #[25, 25] ty #[v, .slice (some ad) 1 1]).run Tryz.prog w = .ok v' w' ∧ RowsV w' base v' (ls ++ [l]) none ∧ w.grownBy w' v.ownBlock ∧ (v'.ownBlock = v.ownBlock ∨ v'.ownBlock = some w.heap.size) := by
  obtain ⟨i, hi, hz0, hz1, hz2⟩ := info_parts infoSlice
  obtain ⟨xs, h1, h2⟩ := h
  obtain ⟨v', w', hr, h3, h4, _, h5⟩ := run_append_own_at (P := Tryz.prog) w base _ ty _ i (.slice none 0 0) 1 24 Tryz.underlying25 hi hz0 hz1 hz2 rfl (by decide) v _ _ h1 ad 1 1 [.slice a n c] rfl
    (fun j u hu => by
      cases j with
      | zero => simp at hu; subst hu; rw [Addr.add_zero']; exact hc
      | succ j => simp at hu) (fun u hu => by simp at hu; subst hu; rfl) (by unfold maxLen; omega) hlen hbase
  have hxl : xs.length = ls.length := by simpa using h1.1
  have hkeep : ∀ (a : Option Addr) (n c : Nat) (l : List UInt8), Bs w a n c l → (∀ y, a = some y → v.ownBlock ≠ some y.block ∧ y.block < w.heap.size) → Bs w' a n c l ∧ ∀ y, a = some y → v'.ownBlock ≠ some y.block ∧ y.block < w'.heap.size ∧ (none : Option Nat) ≠ some y.block := by
    intro a n c l hb ha
    refine ⟨hb.stay fun x hx i u hu => World.grownBy.cell h4 hu (by rw [Addr.add_block]; exact fun e => (ha x hx).1 e.symm), fun y hy => ⟨?_, Nat.lt_of_lt_of_le (ha y hy).2 h4.size, by simp⟩⟩
    rcases h5 with h5 | h5
    · rw [h5]; exact (ha y hy).1
    · rw [h5]; intro e; have := (ha y hy).2; have e' := Option.some.inj e; omega
  refine ⟨v', w', hr, ⟨xs ++ [.slice a n c], by rw [List.length_append]; exact h3, fun j l' hl' => ?_⟩, h4, h5⟩
  by_cases hj : j < ls.length
  · rw [List.getElem?_append_left hj] at hl'
    obtain ⟨a', n', c', e, hb', ha'⟩ := h2 j l' hl'
    obtain ⟨k1, k2⟩ := hkeep a' n' c' l' hb' (fun y hy => ⟨(ha' y hy).1, (ha' y hy).2.1⟩)
    exact ⟨a', n', c', by rw [List.getElem?_append_left (by omega)]; exact e, k1, k2⟩
  · have hj' : j = ls.length := by have := (List.getElem?_eq_some_iff.1 hl').1; simp at this; omega
    subst hj'
    have : l' = l := by simpa using hl'.symm
    subst this
    obtain ⟨k1, k2⟩ := hkeep a n c l' hb ha
    exact ⟨a, n, c, by rw [List.getElem?_append_right (by omega)]; simp [hxl], k1, k2⟩

theorem wpList_append_rows {w : World} {ops : Array Oper} {rest : List Oper} {o : Oper} {act : Act} {Q : Exit → Act → World → Prop} (hw : Region.wanted o (yielded ops act.tmps) = true) (s x : Operand)
    (ho : o.op = .call { callee := .builtin .append, args := #[s, x], argTypes := #[25, 25] }) (base : Nat)
    {v : Value} {ls : List (List UInt8)} {av : Option Nat} (hs : act.eval s = v) (h : RowsV w base v ls av) {ad : Addr} (hx : act.eval x = .slice (some ad) 1 1) {a : Option Addr} {n c : Nat} {l : List UInt8} (hc : w.cell? ad = some (.slice a n c)) (hb : Bs w a n c l)
    (ha : ∀ y, a = some y → v.ownBlock ≠ some y.block ∧ y.block < w.heap.size) (hlen : (ls.length + 1) * 24 ≤ 140737488355328) (hbase : base ≤ w.heap.size)
    (hk : ∀ v' w', RowsV w' base v' (ls ++ [l]) none → w.grownBy w' v.ownBlock → (v'.ownBlock = v.ownBlock ∨ v'.ownBlock = some w.heap.size) → wpList Tryz.prog ops Q rest (act.put o.dst v') w') : wpList Tryz.prog ops Q (o :: rest) act w := by
  obtain ⟨v', w', hr, h2, h3, h4⟩ := run_append_rows o.type base h hc hb ha hlen hbase
  simp only [wpList]
  rw [if_pos hw]
  refine .inl ?_
  unfold Oper.wp execOp
  simp only [ho, resolve, invoke, builtin, Sem.run_bind, Sem.run_pure, Result.andThen_ok, List.map_toArray, List.map_cons, List.map_nil, hs, hx, hr]
  exact hk v' w' h2 h3 h4
end Go.Proofs.YtddopoojmadpjaaGreatDoor
