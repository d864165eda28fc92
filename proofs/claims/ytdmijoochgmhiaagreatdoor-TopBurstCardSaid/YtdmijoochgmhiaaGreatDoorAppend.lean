/-
  append of bytes, of whatever source (nil, empty, or not), to a slice that the call owns (nil or not): as a law for the walk, and at a step of a region that draws.
-/
import Derived.Test.YtdmijoochgmhiaaGreatDoorRows
import Derived.Test.YtdmijoochgmhiaaGreatDoorBase
import Derived.Maps.AppendAt
import Derived.Deep.RegionLaw
import Derived.Lib.Hide
namespace Go.Proofs.YtdmijoochgmhiaaGreatDoor
open Go.RowKit

theorem infoByte : (Tryz.prog.info? 5).map (fun i => (i.zero, i.size, i.bytes)) = some (some (.int .u8 0), 1, 1) := by kernel_rfl

/-- A VALUE THAT OWNS BYTES: nil, or the head of a row of the call's own, from base on. -/
def OwnV (w : World) (base : Nat) (v : Value) (l : List UInt8) : Prop := w.ownsRow base 5 1 v l.length (u8s l)
theorem OwnV.nil (w : World) (base : Nat) : OwnV w base (.slice none 0 0) [] := World.ownsRow_nil w base _ 1
theorem OwnV.bs {w : World} {base : Nat} {v : Value} {l : List UInt8} (h : OwnV w base v l) : ∃ a cap, v = .slice a l.length cap ∧ Bs w a l.length cap l ∧ ∀ x, a = some x → base ≤ x.block := Bs.of_own h
theorem OwnV.gr {w w' : World} {base : Nat} {v : Value} {l : List UInt8} (h : OwnV w base v l) (hb : Gr w w') : OwnV w' base v l := by
  refine ⟨h.1, ?_⟩
  rcases h.2 with hn | ⟨g, cap, cur, hv, hg, hh, r⟩
  · exact .inl hn
  · exact .inr ⟨g, cap, cur, hv, hg, hb.heap hh, r⟩
theorem OwnV.lt {w : World} {base : Nat} {v : Value} {l : List UInt8} (h : OwnV w base v l) : ∀ k, v.ownBlock = some k → base ≤ k ∧ k < w.heap.size := World.ownsRow.lt h
/-- It stays, where other blocks alone have turned. -/
theorem OwnV.other {w w' : World} {base : Nat} {v : Value} {l : List UInt8} (h : OwnV w base v l) (hb : ∀ k, v.ownBlock = some k → w'.heap[k]? = w.heap[k]?) : OwnV w' base v l := by
  refine ⟨h.1, ?_⟩
  rcases h.2 with hn | ⟨g, cap, cur, hv, hg, hh, r⟩
  · exact .inl hn
  · exact .inr ⟨g, cap, cur, hv, hg, by rw [hb g (by rw [hv]; rfl)]; exact hh, r⟩
theorem OwnV.made {w : World} {base b : Nat} {t : List UInt8} {cur : Array Value} (hb : base ≤ w.heap.size) (he : b = w.heap.size) (h : cur.toList = u8s t) (hm : t.length ≤ maxLen) :
    OwnV (w.alloc (.cells cur 5)) base (.slice (some ⟨b, 0, none⟩) t.length t.length) t := by
  subst he
  have hs : cur.size = t.length := by rw [← Array.length_toList, h, u8s, List.length_map]
  exact ⟨by simp [u8s], .inr ⟨w.heap.size, t.length, cur, rfl, hb, heap_alloc_new w _, Nat.le_refl _, hm, by simpa using hs, by rw [h, List.take_of_length_le (by simp [u8s])]⟩⟩

theorem run_append_bytes {w : World} (ty : TypeId) (base : Nat) {v : Value} {l : List UInt8} (hown : OwnV w base v l) {a : Option Addr} {m c : Nat} {mm : List UInt8} (hx : Bs w a m c mm)
    (hb : l.length + m ≤ 140737488355328) (hbase : base ≤ w.heap.size) :
    ∃ v' w', (Builtin.append_ #[22, 22] ty #[v, .slice a m c]).run Tryz.prog w = .ok v' w' ∧ OwnV w' base v' (l ++ mm) ∧ w.grownBy w' v.ownBlock ∧ (v'.ownBlock = v.ownBlock ∨ v'.ownBlock = some w.heap.size) := by
  obtain ⟨i, hi, hz0, hz1, hz2⟩ := info_parts infoByte
  have hlen := hx.1
  cases a with
  | none =>
    have hc : c = 0 := hx.2.2.2.1 rfl
    have hm : m = 0 := by have := hx.2.1; omega
    subst hc; subst hm
    obtain rfl : mm = [] := List.eq_nil_of_length_eq_zero hlen
    exact ⟨v, w, run_append_owned_none (P := Tryz.prog) w base _ ty _ i 1 Tryz.underlying22 hi v _ _ hown, by rw [List.append_nil]; exact hown, World.grownBy.refl _ _, .inl rfl⟩
  | some ad =>
    obtain ⟨v', w', hr, h2, h3, _, h5⟩ := run_append_own_at (P := Tryz.prog) w base _ ty _ i (.int .u8 0) 1 1 Tryz.underlying22 hi hz0 hz1 hz2 rfl (by decide) v _ _ hown ad m c (u8s mm) (by simp [u8s, hlen])
      (fun j u hu => by
        rw [u8s, List.getElem?_map] at hu
        obtain ⟨x, hx', rfl⟩ := Option.map_eq_some_iff.1 hu
        exact hx.2.2.2.2 _ rfl j x hx') u8s_one (by unfold maxLen; omega) (by omega) hbase
    refine ⟨v', w', hr, ?_, h3, h5⟩
    unfold OwnV
    rw [List.length_append, hlen, u8s, List.map_append]
    exact h2

theorem wp_append_bytes {w : World} {o : Oper} {a : Act} {K : Act → World → Prop} {Q : Exit → Act → World → Prop} (s x : Operand)
    (ho : o.op = .call { callee := .builtin .append, args := #[s, x], argTypes := #[22, 22] }) (base : Nat)
    (v : Value) (l : List UInt8) (hs : a.eval s = v) (hown : OwnV w base v l) (ao : Option Addr) (m c : Nat) (mm : List UInt8) (hx : a.eval x = .slice ao m c) (hsrc : Bs w ao m c mm)
    (hb : l.length + m ≤ 140737488355328) (hbase : base ≤ w.heap.size)
    (h : ∀ v' w', OwnV w' base v' (l ++ mm) → w.grownBy w' v.ownBlock → (v'.ownBlock = v.ownBlock ∨ v'.ownBlock = some w.heap.size) → K (a.put o.dst v') w') : o.wp Tryz.prog a w K Q := by
  obtain ⟨v', w', hr, h2, h3, h4⟩ := run_append_bytes o.type base hown hsrc hb hbase
  unfold Oper.wp execOp
  simp only [ho, resolve, invoke, builtin, Sem.run_bind, Sem.run_pure, Result.andThen_ok, List.map_toArray, List.map_cons, List.map_nil, hs, hx, hr]
  exact h v' w' h2 h3 h4

theorem wpList_append_bytes {w : World} {ops : Array Oper} {rest : List Oper} {o : Oper} {a : Act} {Q : Exit → Act → World → Prop} (hgd : o.guard = none) (s x : Operand)
    (ho : o.op = .call { callee := .builtin .append, args := #[s, x], argTypes := #[22, 22] }) (base : Nat)
    (v : Value) (l : List UInt8) (hs : a.eval s = v) (hown : OwnV w base v l) (ao : Option Addr) (m c : Nat) (mm : List UInt8) (hx : a.eval x = .slice ao m c) (hsrc : Bs w ao m c mm)
    (hb : l.length + m ≤ 140737488355328) (hbase : base ≤ w.heap.size)
    (h : ∀ v' w', OwnV w' base v' (l ++ mm) → w.grownBy w' v.ownBlock → (v'.ownBlock = v.ownBlock ∨ v'.ownBlock = some w.heap.size) → wpList Tryz.prog ops Q rest (a.put o.dst v') w') : wpList Tryz.prog ops Q (o :: rest) a w :=
  wpList_plain hgd fun _ hK => wp_append_bytes s x ho base v l hs hown ao m c mm hx hsrc hb hbase fun v' w' h2 h3 h4 => hK _ _ (h v' w' h2 h3 h4)

theorem wpList_append_bytesG {w : World} {ops : Array Oper} {rest : List Oper} {o : Oper} {a : Act} {Q : Exit → Act → World → Prop} (hw : Region.wanted o (yielded ops a.tmps) = true) (s x : Operand)
    (ho : o.op = .call { callee := .builtin .append, args := #[s, x], argTypes := #[22, 22] }) (base : Nat)
    (v : Value) (l : List UInt8) (hs : a.eval s = v) (hown : OwnV w base v l) (ao : Option Addr) (m c : Nat) (mm : List UInt8) (hx : a.eval x = .slice ao m c) (hsrc : Bs w ao m c mm)
    (hb : l.length + m ≤ 140737488355328) (hbase : base ≤ w.heap.size)
    (h : ∀ v' w', OwnV w' base v' (l ++ mm) → w.grownBy w' v.ownBlock → (v'.ownBlock = v.ownBlock ∨ v'.ownBlock = some w.heap.size) → wpList Tryz.prog ops Q rest (a.put o.dst v') w') : wpList Tryz.prog ops Q (o :: rest) a w := by
  simp only [wpList]
  rw [if_pos hw]
  exact .inl (wp_append_bytes s x ho base v l hs hown ao m c mm hx hsrc hb hbase h)

theorem step_append_bytes {w : World} {ops : Array Oper} {o : Oper} {a : Act} {K : Act → World → Prop} {Q : Exit → Act → World → Prop} {E : Prop} (hgd : o.guard = none) (s x : Operand)
    (ho : o.op = .call { callee := .builtin .append, args := #[s, x], argTypes := #[22, 22] }) (base : Nat)
    (v : Value) (l : List UInt8) (hs : a.eval s = v) (hown : OwnV w base v l) (ao : Option Addr) (m c : Nat) (mm : List UInt8) (hx : a.eval x = .slice ao m c) (hsrc : Bs w ao m c mm)
    (hb : l.length + m ≤ 140737488355328) (hbase : base ≤ w.heap.size)
    (h : ∀ v' w', OwnV w' base v' (l ++ mm) → w.grownBy w' v.ownBlock → (v'.ownBlock = v.ownBlock ∨ v'.ownBlock = some w.heap.size) → K (a.put o.dst v') w') :
    if Region.wanted o (yielded ops a.tmps) = true then Oper.wp Tryz.prog o a w K Q else E := by
  have hw : Region.wanted o (yielded ops a.tmps) = true := by simp [Region.wanted, hgd]
  rw [if_pos hw]
  exact wp_append_bytes s x ho base v l hs hown ao m c mm hx hsrc hb hbase h
/-- the walk stands still ahead of this operation. -/
theorem wpList_hold {P : Program} {ops : Array Oper} {Q : Exit → Act → World → Prop} {o : Oper} {rest : List Oper} {a : Act} {w : World} (h : Hid (wpList P ops Q (o :: rest) a w)) : wpList P ops Q (o :: rest) a w := h
end Go.Proofs.YtdmijoochgmhiaaGreatDoor
