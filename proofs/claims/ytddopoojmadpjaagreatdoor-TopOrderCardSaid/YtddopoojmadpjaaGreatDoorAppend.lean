/-
  append of bytes, of whatever source (nil, empty, or not), to a slice that the call owns (nil or not): as a law for the walk, and at a step of a region that draws.
  The walks of slices.Clone, Grow (of nil) and Concat, of bytes.
  The walk of the document's Same: are two slices of bytes the same?
  The walks of sum.Put and sum.Get.
-/
import Derived.Test.YtddopoojmadpjaaGreatDoorRows
import Derived.Test.YtddopoojmadpjaaGreatDoorBase
import Derived.Maps.AppendAt
import Derived.Deep.RegionLaw
import Derived.Lib.Hide
import Derived.Lib.SliceRun
import Derived.Lib.AppendZeros
import Derived.Deep.QuietTactic
import Derived.BigQuiet
namespace Go.Proofs.YtddopoojmadpjaaGreatDoor
open Go.RowKit

theorem infoByte : (Tryz.prog.info? 5).map (fun i => (i.zero, i.size, i.bytes)) = some (some (.int .u8 0), 1, 1) := by kernel_rfl

/-- A VALUE THAT OWNS BYTES: nil, or the head of a row of the call's own, from base on. -/
def OwnV (w : World) (base : Nat) (v : Value) (l : List UInt8) : Prop := w.ownsRow base 5 1 v l.length (u8s l)
theorem OwnV.nil (w : World) (base : Nat) : OwnV w base (.slice none 0 0) [] := World.ownsRow_nil w base _ 1
theorem OwnV.bs {w : World} {base : Nat} {v : Value} {l : List UInt8} (h : OwnV w base v l) : ∃ a cap, v = .slice a l.length cap ∧ Bs w a l.length cap l ∧ ∀ x, a = some x → base ≤ x.block := Bs.of_own h
theorem OwnV.gr {w w' : World} {base : Nat} {v : Value} {l : List UInt8} (h : OwnV w base v l) (hb : Gr w w') : OwnV w' base v l := by
  refine ⟨h.1, ?_⟩
  rcases h.2 with hn | ⟨g, cap, cur, hv, hg, hh, r⟩
  · exact .inl hn
  · exact .inr ⟨g, cap, cur, hv, hg, hb.heap hh, r⟩
theorem OwnV.lt {w : World} {base : Nat} {v : Value} {l : List UInt8} (h : OwnV w base v l) : ∀ k, v.ownBlock = some k → base ≤ k ∧ k < w.heap.size := World.ownsRow.lt h
/-- It stays, where other blocks alone have turned. -/
theorem OwnV.other {w w' : World} {base : Nat} {v : Value} {l : List UInt8} (h : OwnV w base v l) (hb : ∀ k, v.ownBlock = some k → w'.heap[k]? = w.heap[k]?) : OwnV w' base v l := by
  refine ⟨h.1, ?_⟩
  rcases h.2 with hn | ⟨g, cap, cur, hv, hg, hh, r⟩
  · exact .inl hn
  · exact .inr ⟨g, cap, cur, hv, hg, by rw [hb g (by rw [hv]; rfl)]; exact hh, r⟩
theorem OwnV.made {w : World} {base b : Nat} {t : List UInt8} {cur : Array Value} (hb : base ≤ w.heap.size) (he : b = w.heap.size) (h : cur.toList = u8s t) (hm : t.length ≤ maxLen) :
    OwnV (w.alloc (.cells cur 5)) base (.slice (some ⟨b, 0, none⟩) t.length t.length) t := by
  subst he
  have hs : cur.size = t.length := by rw [← Array.length_toList, h, u8s, List.length_map]
  exact ⟨by simp [u8s], .inr ⟨w.heap.size, t.length, cur, rfl, hb, heap_alloc_new w _, Nat.le_refl _, hm, by simpa using hs, by rw [h, List.take_of_length_le (by simp [u8s])]⟩⟩

theorem run_append_bytes {w : World} (ty : TypeId) (base : Nat) {v : Value} {l : List UInt8} (hown : OwnV w base v l) {a : Option Addr} {m c : Nat} {mm : List UInt8} (hx : Bs w a m c mm)
    (hb : l.length + m ≤ 140737488355328) (hbase : base ≤ w.heap.size) :
    ∃ v' w', (Builtin.append_ #[22, 22] ty #[v, .slice a m c]).run Tryz.prog w = .ok v' w' ∧ OwnV w' base v' (l ++ mm) ∧ w.grownBy w' v.ownBlock ∧ (v'.ownBlock = v.ownBlock ∨ v'.ownBlock = some w.heap.size) := by
  obtain ⟨i, hi, hz0, hz1, hz2⟩ := info_parts infoByte
  have hlen := hx.1
  cases a with
  | none =>
    have hc : c = 0 := hx.2.2.2.1 rfl
    have hm : m = 0 := by have := hx.2.1; omega
    subst hc; subst hm
    obtain rfl : mm = [] := List.eq_nil_of_length_eq_zero hlen
    exact ⟨v, w, run_append_owned_none (P := Tryz.prog) w base _ ty _ i 1 Tryz.underlying22 hi v _ _ hown, by rw [List.append_nil]; exact hown, World.grownBy.refl _ _, .inl rfl⟩
  | some ad =>
    obtain ⟨v', w', hr, h2, h3, _, h5⟩ := run_append_own_at (P := Tryz.prog) w base _ ty _ i (.int .u8 0) 1 1 Tryz.underlying22 hi hz0 hz1 hz2 rfl (by decide) v _ _ hown ad m c (u8s mm) (by simp [u8s, hlen])
      (fun j u hu => by
        rw [u8s, List.getElem?_map] at hu
        obtain ⟨x, hx', rfl⟩ := Option.map_eq_some_iff.1 hu
        exact hx.2.2.2.2 _ rfl j x hx') u8s_one (by unfold maxLen; omega) (by omega) hbase
    refine ⟨v', w', hr, ?_, h3, h5⟩
    unfold OwnV
    rw [List.length_append, hlen, u8s, List.map_append]
    exact h2

theorem wp_append_bytes {w : World} {o : Oper} {a : Act} {K : Act → World → Prop} {Q : Exit → Act → World → Prop} (s x : Operand)
    (ho : o.op = .call { callee := .builtin .append, args := #[s, x], argTypes := #[22, 22] }) (base : Nat)
    (v : Value) (l : List UInt8) (hs : a.eval s = v) (hown : OwnV w base v l) (ao : Option Addr) (m c : Nat) (mm : List UInt8) (hx : a.eval x = .slice ao m c) (hsrc : Bs w ao m c mm)
    (hb : l.length + m ≤ 140737488355328) (hbase : base ≤ w.heap.size)
    (h : ∀ v' w', OwnV w' base v' (l ++ mm) → w.grownBy w' v.ownBlock → (v'.ownBlock = v.ownBlock ∨ v'.ownBlock = some w.heap.size) → K (a.put o.dst v') w') : o.wp Tryz.prog a w K Q := by
  obtain ⟨v', w', hr, h2, h3, h4⟩ := run_append_bytes o.type base hown hsrc hb hbase
  unfold Oper.wp execOp
  simp only [ho, resolve, invoke, builtin, Sem.run_bind, Sem.run_pure, Result.andThen_ok, List.map_toArray, List.map_cons, List.map_nil, hs, hx, hr]
  exact h v' w' h2 h3 h4

theorem wpList_append_bytes {w : World} {ops : Array Oper} {rest : List Oper} {o : Oper} {a : Act} {Q : Exit → Act → World → Prop} (hgd : o.guard = none) (s x : Operand)
    (ho : o.op = .call { callee := .builtin .append, args := #[s, x], argTypes := #[22, 22] }) (base : Nat)
    (v : Value) (l : List UInt8) (hs : a.eval s = v) (hown : OwnV w base v l) (ao : Option Addr) (m c : Nat) (mm : List UInt8) (hx : a.eval x = .slice ao m c) (hsrc : Bs w ao m c mm)
    (hb : l.length + m ≤ 140737488355328) (hbase : base ≤ w.heap.size)
    (h : ∀ v' w', OwnV w' base v' (l ++ mm) → w.grownBy w' v.ownBlock → (v'.ownBlock = v.ownBlock ∨ v'.ownBlock = some w.heap.size) → wpList Tryz.prog ops Q rest (a.put o.dst v') w') : wpList Tryz.prog ops Q (o :: rest) a w :=
  wpList_plain hgd fun _ hK => wp_append_bytes s x ho base v l hs hown ao m c mm hx hsrc hb hbase fun v' w' h2 h3 h4 => hK _ _ (h v' w' h2 h3 h4)

theorem wpList_append_bytesG {w : World} {ops : Array Oper} {rest : List Oper} {o : Oper} {a : Act} {Q : Exit → Act → World → Prop} (hw : Region.wanted o (yielded ops a.tmps) = true) (s x : Operand)
    (ho : o.op = .call { callee := .builtin .append, args := #[s, x], argTypes := #[22, 22] }) (base : Nat)
    (v : Value) (l : List UInt8) (hs : a.eval s = v) (hown : OwnV w base v l) (ao : Option Addr) (m c : Nat) (mm : List UInt8) (hx : a.eval x = .slice ao m c) (hsrc : Bs w ao m c mm)
    (hb : l.length + m ≤ 140737488355328) (hbase : base ≤ w.heap.size)
    (h : ∀ v' w', OwnV w' base v' (l ++ mm) → w.grownBy w' v.ownBlock → (v'.ownBlock = v.ownBlock ∨ v'.ownBlock = some w.heap.size) → wpList Tryz.prog ops Q rest (a.put o.dst v') w') : wpList Tryz.prog ops Q (o :: rest) a w := by
  simp only [wpList]
  rw [if_pos hw]
  exact .inl (wp_append_bytes s x ho base v l hs hown ao m c mm hx hsrc hb hbase h)

theorem step_append_bytes {w : World} {ops : Array Oper} {o : Oper} {a : Act} {K : Act → World → Prop} {Q : Exit → Act → World → Prop} {E : Prop} (hgd : o.guard = none) (s x : Operand)
    (ho : o.op = .call { callee := .builtin .append, args := #[s, x], argTypes := #[22, 22] }) (base : Nat)
    (v : Value) (l : List UInt8) (hs : a.eval s = v) (hown : OwnV w base v l) (ao : Option Addr) (m c : Nat) (mm : List UInt8) (hx : a.eval x = .slice ao m c) (hsrc : Bs w ao m c mm)
    (hb : l.length + m ≤ 140737488355328) (hbase : base ≤ w.heap.size)
    (h : ∀ v' w', OwnV w' base v' (l ++ mm) → w.grownBy w' v.ownBlock → (v'.ownBlock = v.ownBlock ∨ v'.ownBlock = some w.heap.size) → K (a.put o.dst v') w') :
    if Region.wanted o (yielded ops a.tmps) = true then Oper.wp Tryz.prog o a w K Q else E := by
  have hw : Region.wanted o (yielded ops a.tmps) = true := by simp [Region.wanted, hgd]
  rw [if_pos hw]
  exact wp_append_bytes s x ho base v l hs hown ao m c mm hx hsrc hb hbase h
/-- the walk stands still ahead of this operation. -/
theorem wpList_hold {P : Program} {ops : Array Oper} {Q : Exit → Act → World → Prop} {o : Oper} {rest : List Oper} {a : Act} {w : World} (h : Hid (wpList P ops Q (o :: rest) a w)) : wpList P ops Q (o :: rest) a w := h
end Go.Proofs.YtddopoojmadpjaaGreatDoor

namespace Go.Proofs.YtddopoojmadpjaaGreatDoor
open Go.RowKit

theorem OwnV.fresh {w w' : World} {v : Value} {l : List UInt8} (h : OwnV w' w.heap.size v l) (hg : Gr w w') : Fresh w w' v l := by
  obtain ⟨a, cap, hv, hb, ha⟩ := h.bs
  exact ⟨a, cap, hv, hb, ha, hg⟩

set_option maxRecDepth 100000 in
set_option maxHeartbeats 400000 in
theorem sliceClone_own (a : Option Addr) (len cap : Nat) (l : List UInt8) (w : World) (hs : Bs w a len cap l) (hm : len ≤ 140737488355328) :
    Calls Tryz.prog 66 #[.slice a len cap] w fun e w' => ∃ v, e = .returned v ∧ OwnV w' w.heap.size v l ∧ Gr w w' := by
  have hnl := fun (w : World) => Lib.run_eql_slice_nil (P := Tryz.prog) w 22 5 a len cap 0 0 Tryz.underlying22
  cases a with
  | none =>
    obtain rfl : cap = 0 := hs.2.2.2.1 rfl
    obtain rfl : len = 0 := by have := hs.2.1; omega
    obtain rfl : l = [] := List.eq_nil_of_length_eq_zero hs.1
    go_enter Tryz.func66, Tryz.ntmps66
    go_wp2
    go_ret
    exact ⟨_, rfl, OwnV.nil _ _, Gr.refl _⟩
  | some ad =>
    have hown : OwnV (w.alloc (.cells #[] 5)) w.heap.size (.slice (some ⟨w.heap.size, 0, none⟩) 0 0) [] := OwnV.made (Nat.le_refl _) rfl rfl (Nat.zero_le _)
    have hsrc : Bs (w.alloc (.cells #[] 5)) (some ad) len cap l := hs.below ((Gr.refl _).alloc _)
    have hq : ([] : List UInt8).length + len ≤ 140737488355328 := by simpa using hm
    have hbase : w.heap.size ≤ (w.alloc (.cells #[] 5)).heap.size := ((Gr.refl w).alloc _).size
    go_enter Tryz.func66, Tryz.ntmps66
    go_wp2_with (at_builtin; refine wpList_append_bytes rfl (.tmp 5) (.tmp 6) rfl w.heap.size _ [] rfl hown (some ad) len cap l rfl hsrc hq hbase ?_; intro v2 w2 ho2 hg2 hn2)
    go_wp2
    go_ret
    exact ⟨_, rfl, ho2, ((Gr.refl w).alloc _).grown hg2 (fun k hk => by cases hk; exact Nat.le_refl _)⟩
theorem sliceClone_any (a : Option Addr) (len cap : Nat) (l : List UInt8) (w : World) (hs : Bs w a len cap l) (hm : len ≤ 140737488355328) :
    Calls Tryz.prog 66 #[.slice a len cap] w fun e w' => ∃ v, e = .returned v ∧ Fresh w w' v l :=
  (sliceClone_own a len cap l w hs hm).mono fun _ _ ⟨v, he, ho, hg⟩ => ⟨v, he, OwnV.fresh ho hg⟩
/-- what l[k:] is: where nothing is left behind it, the address stays. -/
theorem Bs.dropIf {w : World} {b off len cap : Nat} {l : List UInt8} (h : Bs w (some ⟨b, off, none⟩) len cap l) {k : Nat} (hk : k ≤ len) : Bs w (if cap = k then some ⟨b, off, none⟩ else some ⟨b, off + k, none⟩) (len - k) (cap - k) (l.drop k) := by
  by_cases hc : cap = k
  · rw [if_pos hc]
    have h2 := h.2.1
    have hl : l.drop k = [] := List.drop_eq_nil_of_le (by rw [h.1]; omega)
    rw [hl, show len - k = 0 by omega, show cap - k = 0 by omega]
    exact Bs.empty w _ (by simp) 0 (Nat.zero_le _)
  · rw [if_neg hc]; exact h.drop hk
theorem OwnV.mono {w : World} {b b' : Nat} {v : Value} {l : List UInt8} (h : OwnV w b v l) (hb : b' ≤ b) : OwnV w b' v l := by
  refine ⟨h.1, ?_⟩
  rcases h.2 with hn | ⟨g, cap, cur, hv, hg, r⟩
  · exact .inl hn
  · exact .inr ⟨g, cap, cur, hv, Nat.le_trans hb hg, r⟩
theorem OwnV.bs' {w : World} {b : Nat} {a : Option Addr} {n cap : Nat} {l : List UInt8} (h : OwnV w b (.slice a n cap) l) : Bs w a n cap l ∧ ∀ x, a = some x → b ≤ x.block := by
  obtain ⟨a', cap', hv, hb, ha⟩ := h.bs
  cases hv
  exact ⟨hb, ha⟩
theorem OwnV.slice {w : World} {b : Nat} {v : Value} {l : List UInt8} (h : OwnV w b v l) : ∃ a cap, v = .slice a l.length cap ∧ Bs w a l.length cap l := by
  obtain ⟨a, cap, hv, hb, _⟩ := h.bs; exact ⟨a, cap, hv, hb⟩

set_option maxRecDepth 100000 in
set_option maxHeartbeats 400000 in
theorem sliceGrow_nil (n : Nat) (h0 : 0 < n) (hm : n ≤ 140737488355328) (w : World) :
    Calls Tryz.prog 90 #[.slice none 0 0, .int .i64 (n : Int)] w fun e w' => ∃ v, e = .returned v ∧ OwnV w' w.heap.size v [] ∧ Gr w w' := by
  obtain ⟨i, hi, hz0, hz1, hz2⟩ := info_parts infoByte
  have happ := Lib.run_append_nil_zeros (P := Tryz.prog) w 22 3 22 5 i (.int .u8 0) .i64 .i64 Tryz.underlying22 Tryz.underlying3 hi hz0 n h0 (by omega) (by omega) (by rw [hz2]; omega)
  obtain ⟨c2, hc2⟩ : ∃ c2, grownCap w n 0 5 = c2 := ⟨_, rfl⟩
  have hcge : n ≤ c2 := by rw [← hc2]; exact grownCap_ge w _ 0 5
  have hcle : c2 ≤ maxLen := by rw [← hc2]; exact grownCap_le_maxLen w _ 0 5 (by unfold maxLen; omega)
  rw [hc2] at happ
  clear hc2
  obtain ⟨Z, hZ⟩ : ∃ Z, Builtin.zeroCells (Value.int .u8 0).cells n ++ Builtin.zeroCells (Value.int .u8 0).cells (c2 - n) = Z := ⟨_, rfl⟩
  rw [hZ] at happ
  have hZs : Z.size = c2 := by rw [← hZ]; simp [size_zeroCells, Value.cells]; omega
  have hcn : (c2 : Int) ≤ 9223372036854775807 := by unfold maxLen at hcle; omega
  clear hZ
  go_enter Tryz.func90, Tryz.ntmps90
  go_wp2_with (at_builtin; refine Lib.wpList_append_run _ rfl (.tmp 20) (.tmp 21) 22 3 rfl _ _ rfl rfl _ _ happ ?_)
  go_wp2
  go_ret
  refine ⟨_, rfl, ⟨rfl, .inr ⟨w.heap.size, c2, Z, rfl, Nat.le_refl _, heap_alloc_new _ _, Nat.zero_le _, hcle, by simpa using hZs, by simp [u8s]⟩⟩, ?_⟩
  exact (Gr.refl w).drew.alloc _
theorem flat_succ {ls : List (List UInt8)} {k : Nat} {l : List UInt8} (h : ls[k]? = some l) : (ls.take (k + 1)).flatten = (ls.take k).flatten ++ l := by
  rw [List.take_add_one, h, List.flatten_append]; simp
theorem flat_le (ls : List (List UInt8)) (k : Nat) : (ls.take k).flatten.length ≤ ls.flatten.length := by
  conv => rhs; rw [← List.take_append_drop k ls, List.flatten_append, List.length_append]
  omega
theorem flat_le' {ls : List (List UInt8)} {k : Nat} {l : List UInt8} (h : ls[k]? = some l) : (ls.take k).flatten.length + l.length ≤ ls.flatten.length := by
  have := flat_le ls (k + 1)
  rw [flat_succ h, List.length_append] at this; exact this

set_option maxRecDepth 100000 in
set_option maxHeartbeats 1000000 in
theorem sliceConcat_own (a : Option Addr) (len cap : Nat) (ls : List (List UInt8)) (t : Nat) (ht : ls.flatten.length = t) (h0 : 0 < t) (hmx : t ≤ 140737488355328) (w : World) (hs : Bss w a len cap ls) :
    Calls Tryz.prog 49 #[.slice a len cap] w fun e w' => ∃ v, e = .returned v ∧ OwnV w' w.heap.size v ls.flatten ∧ Gr w w' := by
  have HT := Lib.hid ht
  have hm : len ≤ 9223372036854775807 := by have h1 := hs.2.1; have h2 := hs.2.2.1; unfold maxLen at h2; omega
  have HL : Hid (ls.length = len) := hs.1
  clear ht
  go_enter Tryz.func49, Tryz.ntmps49
  go_wp2
  go_loop [3, 11] (fun s i => ∃ k q : Nat, k ≤ len ∧ i = .int .i64 k ∧ s = .int .i64 (q : Int) ∧ q = (ls.take k).flatten.length) (fun _ i => len - (intOf i).toNat)
  case atStart => exact ⟨0, 0, Nat.zero_le _, rfl, rfl, rfl⟩
  case round =>
    obtain ⟨k, q, hk, rfl, rfl, hq⟩ := hrel
    have HQ := Lib.hid hq
    have hqm : q ≤ 140737488355328 := by have := flat_le ls k; rw [HT.out] at this; omega
    clear hq
    by_cases hlt : k < len
    · obtain ⟨b, off, rfl, hb⟩ := hs.at_ (by omega)
      obtain ⟨l, a', len', cap', hl, hc, hbs⟩ := hs.get hlt
      have Hl := Lib.hid hl
      have hle : q + len' ≤ 140737488355328 := by have := flat_le' hl; rw [HT.out, hbs.1, ← HQ.out] at this; omega
      have HN : Hid (q + len' = (ls.take (k + 1)).flatten.length) := by show _ = _; rw [flat_succ hl, List.length_append, hbs.1, ← HQ.out]
      clear hl
      go_wp2
      go_round
      case rel => exact ⟨k + 1, q + len', by omega, by go_num, by go_num, HN.out⟩
      case measure => simp [intOf]; omega
    · obtain rfl : k = len := by omega
      have hqt : q = t := by rw [HQ.out, List.take_of_length_le (by rw [HL.out]; exact Nat.le_refl _), HT.out]
      subst hqt
      go_wp2_with fail
      refine (sliceGrow_nil q h0 hmx w).mono ?_
      rintro e w1 ⟨v1, rfl, ho1, hg1⟩
      go_wp2
      go_loopw [6, 27] (fun v i wr => ∃ j : Nat, j ≤ k ∧ i = .int .i64 j ∧ OwnV wr w.heap.size v (ls.take j).flatten ∧ Gr w wr) (fun _ i _ => k - (intOf i).toNat)
      case atStart => exact ⟨0, Nat.zero_le _, rfl, ho1, hg1⟩
      case round =>
        obtain ⟨j, hj, rfl, hown, hg⟩ := hrel
        by_cases hlj : j < k
        · obtain ⟨b, off, rfl, hb⟩ := hs.at_ (by omega)
          obtain ⟨l, a', len', cap', hl, hc0, hbs0⟩ := hs.get hlj
          have hc := hg.cell hc0
          have hbs := hbs0.below hg
          have HF : Hid ((ls.take (j + 1)).flatten = (ls.take j).flatten ++ l) := flat_succ hl
          have hq2 : (ls.take j).flatten.length + len' ≤ 140737488355328 := by have := flat_le' hl; rw [HT.out, hbs.1] at this; omega
          have hbase := hg.size
          obtain ⟨L, hL⟩ : ∃ L, (ls.take j).flatten = L := ⟨_, rfl⟩
          rw [hL] at hown hq2 HF
          clear hl hc0 hbs0 hL
          go_wp2_with (at_builtin; refine wpList_append_bytes rfl (.tmp 31) (.tmp 32) rfl w.heap.size _ L rfl hown a' len' cap' l rfl hbs hq2 hbase ?_; intro v2 w2 ho2 hg2 hn2)
          have hg3 : Gr w w2 := Gr.grown hg hg2 (fun q hq => (hown.lt q hq).1)
          rw [← HF.out] at ho2
          clear hg2 hn2 hown hbs hc
          go_wp2
          go_roundw
          case rel => exact ⟨j + 1, by omega, by go_num, ho2, hg3⟩
          case measure => simp [intOf]; omega
        · obtain rfl : j = k := by omega
          have HF : Hid ((ls.take j).flatten = ls.flatten) := by show _ = _; rw [List.take_of_length_le (by rw [HL.out]; exact Nat.le_refl _)]
          go_wp2
          go_ret
          exact ⟨_, rfl, by rw [← HF.out]; exact hown, hg⟩
theorem sliceConcat_any (a : Option Addr) (len cap : Nat) (ls : List (List UInt8)) (t : Nat) (ht : ls.flatten.length = t) (h0 : 0 < t) (hmx : t ≤ 140737488355328) (w : World) (hs : Bss w a len cap ls) :
    Calls Tryz.prog 49 #[.slice a len cap] w fun e w' => ∃ v, e = .returned v ∧ Fresh w w' v ls.flatten :=
  (sliceConcat_own a len cap ls t ht h0 hmx w hs).mono fun _ _ ⟨v, he, ho, hg⟩ => ⟨v, he, OwnV.fresh ho hg⟩
end Go.Proofs.YtddopoojmadpjaaGreatDoor

namespace Go.Proofs.YtddopoojmadpjaaGreatDoor
open Go.RowKit

/-- are they the same? -/
def sameB (l m : List UInt8) : Bool := decide (l = m)
theorem sameB_self (l : List UInt8) : sameB l l = true := decide_eq_true rfl
theorem sameB_of {l m : List UInt8} (h : l = m) : sameB l m = true := decide_eq_true h
theorem sameB_ne {l m : List UInt8} (h : l ≠ m) : sameB l m = false := decide_eq_false h

set_option maxHeartbeats 1000000 in
theorem same_q (a a' : Option Addr) (len cap len' cap' : Nat) (l m : List UInt8) (w : World) (hl : Bs w a len cap l) (hm : Bs w a' len' cap' m) :
    Calls Tryz.prog 25 #[.slice a len cap, .slice a' len' cap'] w fun e w' => e = .returned (.bool (sameB l m)) ∧ ∃ n, w' = w.drewN n := by
  have b1 : len ≤ 9223372036854775807 := by have h1 := hl.2.1; have h2 := hl.2.2.1; unfold maxLen at h2; omega
  have b2 : len' ≤ 9223372036854775807 := by have h1 := hm.2.1; have h2 := hm.2.2.1; unfold maxLen at h2; omega
  have L1 : Hid (l.length = len) := hl.1
  have L2 : Hid (m.length = len') := hm.1
  by_cases hne : len = len'
  · subst hne
    go_enter Tryz.func25, Tryz.ntmps25
    go_wp2
    go_loopw [5] (fun i wr => ∃ k : Nat, k ≤ len ∧ i = .int .i64 k ∧ l.take k = m.take k ∧ ∃ n, wr = w.drewN n) (fun i _ => len - (intOf i).toNat)
    case atStart => exact ⟨0, Nat.zero_le _, rfl, rfl, 0, rfl⟩
    case round =>
      obtain ⟨k, hk, rfl, he, n, hw⟩ := hrel
      have HE := Lib.hid he
      have hb : Gr w wr := by rw [hw]; exact (Gr.refl _).drewN _
      have HW := Lib.hid hw
      clear he hw
      by_cases hlt : k < len
      · obtain ⟨b, off, rfl, _, _⟩ := hl.at_ (by omega)
        obtain ⟨b', off', rfl, _, _⟩ := hm.at_ (by omega)
        obtain ⟨x, hx, hcx⟩ := (hl.below hb).get hlt
        obtain ⟨y, hy, hcy⟩ := (hm.below hb).get hlt
        have HX := Lib.hid hx
        have HY := Lib.hid hy
        clear hx hy
        by_cases hxy : x = y
        · subst hxy
          have ht : ((x.toNat : Int) != (x.toNat : Int)) = false := by simp
          go_wp2
          go_quiet (fail)
          go_wp2
          go_roundw
          case rel => exact ⟨k + 1, by omega, by go_num, by rw [List.take_add_one, List.take_add_one, HE.out, HX.out, HY.out], n + nq, by rw [HW.out]; exact World.drewN_drewN _ _ _⟩
          case measure => simp [intOf]; omega
        · have hxn : x.toNat ≠ y.toNat := fun h => hxy (UInt8.toNat_inj.1 h)
          have ht : ((x.toNat : Int) != (y.toNat : Int)) = true := by rw [bne_iff_ne]; omega
          go_wp2
          go_quiet (fail)
          go_wp2
          go_ret
          refine ⟨?_, n + nq, by rw [HW.out]; exact World.drewN_drewN _ _ _⟩
          have : sameB l m = false := sameB_ne fun h => hxy (by have := HX.out; rw [h, HY.out] at this; exact (Option.some.inj this).symm)
          rw [this]; rfl
      · go_wp2
        go_ret
        refine ⟨?_, n, HW.out⟩
        obtain rfl : k = len := by omega
        have h := HE.out
        rw [List.take_of_length_le (by rw [L1.out]; exact Nat.le_refl _), List.take_of_length_le (by rw [L2.out]; exact Nat.le_refl _)] at h
        rw [sameB_of h]; rfl
  · have ht : ((len : Int) != (len' : Int)) = true := by rw [bne_iff_ne]; omega
    have hs : sameB l m = false := sameB_ne fun h => hne (by rw [← L1.out, ← L2.out, h])
    go_enter Tryz.func25, Tryz.ntmps25
    go_wp2
    go_ret
    exact ⟨by rw [hs]; rfl, 0, rfl⟩
theorem same_any (a a' : Option Addr) (len cap len' cap' : Nat) (l m : List UInt8) (w : World) (hl : Bs w a len cap l) (hm : Bs w a' len' cap' m) :
    Calls Tryz.prog 25 #[.slice a len cap, .slice a' len' cap'] w fun e w' => e = .returned (.bool (sameB l m)) ∧ Gr w w' :=
  (same_q a a' len cap len' cap' l m w hl hm).mono fun _ _ ⟨he, _, hw⟩ => ⟨he, by rw [hw]; exact (Gr.refl _).drewN _⟩
end Go.Proofs.YtddopoojmadpjaaGreatDoor

namespace Go.Proofs.YtddopoojmadpjaaGreatDoor
open Go.RowKit

/-- a number as four bytes. -/
def put4 (n : Nat) : List UInt8 := [UInt8.ofNat n, UInt8.ofNat (n / 256), UInt8.ofNat (n / 65536), UInt8.ofNat (n / 16777216)]
/-- the number that four bytes are. -/
def get4 (l : List UInt8) : Nat := (l.getD 0 0).toNat + 256 * (l.getD 1 0).toNat + 65536 * (l.getD 2 0).toNat + 16777216 * (l.getD 3 0).toNat
theorem get4_lt (l : List UInt8) : get4 l < 4294967296 := by
  have h0 := (l.getD 0 0).toNat_lt
  have h1 := (l.getD 1 0).toNat_lt
  have h2 := (l.getD 2 0).toNat_lt
  have h3 := (l.getD 3 0).toNat_lt
  unfold get4; omega
theorem get4_put4 (n : Nat) (h : n < 4294967296) : get4 (put4 n) = n := by
  simp [get4, put4, UInt8.toNat_ofNat']; omega
theorem put4_get4 (l : List UInt8) (h : l.length = 4) : put4 (get4 l) = l := by
  match l, h with
  | [a, b, c, d], _ =>
    have h0 := a.toNat_lt
    have h1 := b.toNat_lt
    have h2 := c.toNat_lt
    have h3 := d.toNat_lt
    simp only [put4, get4, List.getD_cons_zero, List.getD_cons_succ]
    have e : ∀ (x : UInt8) (m : Nat), m % 256 = x.toNat → UInt8.ofNat m = x := fun x m hm => by
      apply UInt8.toNat_inj.1; rw [UInt8.toNat_ofNat']; simpa using hm
    rw [e a _ (by omega), e b _ (by omega), e c _ (by omega), e d _ (by omega)]

set_option maxHeartbeats 400000 in
theorem sumPut_any (n : Nat) (hn : n < 4294967296) (w : World) :
    Calls Tryz.prog 73 #[.int .u32 (n : Int)] w fun e w' => ∃ v, e = .returned v ∧ Fresh w w' v (put4 n) := by
  go_enter Tryz.func73, Tryz.ntmps73
  go_wp2
  go_ret
  refine ⟨_, rfl, _, _, rfl, Bs.of_alloc ?_ rfl (by simp [put4, maxLen]) rfl, ?_, (Gr.refl _).alloc _⟩
  · simp [u8s, put4, UInt8.toNat_ofNat']; omega
  · intro x hx; cases hx; exact Nat.le_refl _

theorem or_shift (x y i : Nat) (hx : x < 2 ^ i) : x ||| y * 2 ^ i = x + y * 2 ^ i := by
  have h := Nat.two_pow_add_eq_or_of_lt hx y
  rw [Nat.or_comm, Nat.mul_comm y, ← h, Nat.add_comm]
theorem u32_or_shift (x y i : Nat) (hx : x < 2 ^ i) (hi : i ≤ 32) (hy : x + y * 2 ^ i < 4294967296) (z : Int) (hz : z = ((y * 2 ^ i : Nat) : Int)) : bits .or .u32 (x : Int) z = ((x + y * 2 ^ i : Nat) : Int) := by
  have hp : 2 ^ i ≤ 2 ^ 32 := Nat.pow_le_pow_right (by decide) hi
  rw [hz, u32_or_nat x _ (by omega) (by omega), or_shift x y i hx]
theorem or_four (a b c d : Nat) (ha : a < 256) (hb : b < 256) (hc : c < 256) (hd : d < 256) :
    bits .or .u32 (bits .or .u32 (bits .or .u32 (a : Int) ((b : Int) * 256)) ((c : Int) * 65536)) ((d : Int) * 16777216) = ((a + 256 * b + 65536 * c + 16777216 * d : Nat) : Int) := by
  rw [u32_or_shift a b 8 (by omega) (by decide) (by omega) _ (by omega), u32_or_shift (a + b * 2 ^ 8) c 16 (by omega) (by decide) (by omega) _ (by omega),
    u32_or_shift (a + b * 2 ^ 8 + c * 2 ^ 16) d 24 (by omega) (by decide) (by omega) _ (by omega)]
  congr 1; omega

set_option maxHeartbeats 400000 in
theorem sumGet_any (a : Option Addr) (len cap : Nat) (l : List UInt8) (w : World) (hs : Bs w a len cap l) :
    Calls Tryz.prog 85 #[.slice a len cap] w fun e w' => e = .returned (.tuple #[.int .u32 ((if len = 4 then get4 l else 0 : Nat) : Int), .int .i64 (if len = 4 then 0 else 4)]) ∧ Gr w w' := by
  have hm : len ≤ 9223372036854775807 := by have h1 := hs.2.1; have h2 := hs.2.2.1; unfold maxLen at h2; omega
  by_cases h4 : len = 4
  · subst h4
    simp only [if_pos]
    obtain ⟨b, off, rfl, hb, _⟩ := hs.at_ (by omega)
    obtain ⟨x0, e0, c0⟩ := hs.get (i := 0) (by omega)
    obtain ⟨x1, e1, c1⟩ := hs.get (i := 1) (by omega)
    obtain ⟨x2, e2, c2⟩ := hs.get (i := 2) (by omega)
    obtain ⟨x3, e3, c3⟩ := hs.get (i := 3) (by omega)
    have hx0 := x0.toNat_lt
    have hx1 := x1.toNat_lt
    have hx2 := x2.toNat_lt
    have hx3 := x3.toNat_lt
    have hg : Hid (get4 l = x0.toNat + 256 * x1.toNat + 65536 * x2.toNat + 16777216 * x3.toNat) := by
      show get4 l = _; simp only [get4, List.getD_eq_getElem?_getD, e0, e1, e2, e3, Option.getD_some]
    rw [Nat.add_zero] at c0
    clear e0 e1 e2 e3
    go_enter Tryz.func85, Tryz.ntmps85
    go_wp2
    go_quiet (fail)
    go_wp2
    go_ret2
    refine ⟨?_, (Gr.refl _).drewN _⟩
    show Ending.returned (.tuple #[.int .u32 (bits .or .u32 (bits .or .u32 (bits .or .u32 (x0.toNat : Int) ((x1.toNat : Int) * 256)) ((x2.toNat : Int) * 65536)) ((x3.toNat : Int) * 16777216)), .int .i64 0]) = _
    rw [or_four _ _ _ _ hx0 hx1 hx2 hx3, hg.out]
  · have h4' : ((len : Int) != 4) = true := by rw [bne_iff_ne]; omega
    rw [if_neg h4, if_neg h4]
    go_enter Tryz.func85, Tryz.ntmps85
    go_wp2
    go_ret2
    exact ⟨rfl, Gr.refl _⟩
theorem sumGet_four (a : Option Addr) (cap : Nat) (l : List UInt8) (w : World) (hs : Bs w a 4 cap l) :
    Calls Tryz.prog 85 #[.slice a 4 cap] w fun e w' => e = .returned (.tuple #[.int .u32 (get4 l : Nat), .int .i64 0]) ∧ Gr w w' :=
  (sumGet_any a 4 cap l w hs).mono fun e w' ⟨he, hg⟩ => ⟨by rw [he, if_pos rfl, if_pos rfl], hg⟩
end Go.Proofs.YtddopoojmadpjaaGreatDoor
