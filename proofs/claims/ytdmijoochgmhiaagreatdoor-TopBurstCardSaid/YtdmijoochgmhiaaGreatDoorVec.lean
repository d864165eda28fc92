/-
  The walks of slices.Clone of a vector, and of vec.Of.
-/
import Derived.Test.YtdmijoochgmhiaaGreatDoorSlices
import Derived.Test.YtdmijoochgmhiaaGreatDoorRowOwn
namespace Go.Proofs.YtdmijoochgmhiaaGreatDoor
open Go.RowKit
set_option linter.unusedVariables false

theorem run_append_vec {w : World} (ty : TypeId) (base : Nat) {v : Value} {l : List UInt8} (hown : OwnV w base v l) {a : Option Addr} {m c : Nat} {mm : List UInt8} (hx : Bs w a m c mm)
    (hb : l.length + m ≤ 140737488355328) (hbase : base ≤ w.heap.size) :
    ∃ v' w', (Builtin.append_ #[88, 88] ty #[v, .slice a m c]).run Tryz.prog w = .ok v' w' ∧ OwnV w' base v' (l ++ mm) ∧ w.grownBy w' v.ownBlock ∧ (v'.ownBlock = v.ownBlock ∨ v'.ownBlock = some w.heap.size) := by
  obtain ⟨i, hi, hz0, hz1, hz2⟩ := info_parts infoByte
  have hlen := hx.1
  cases a with
  | none =>
    have hc : c = 0 := hx.2.2.2.1 rfl
    have hm : m = 0 := by have := hx.2.1; omega
    subst hc; subst hm
    obtain rfl : mm = [] := List.eq_nil_of_length_eq_zero hlen
    exact ⟨v, w, run_append_owned_none (P := Tryz.prog) w base _ ty _ i 1 Tryz.underlying88 hi v _ _ hown, by rw [List.append_nil]; exact hown, World.grownBy.refl _ _, .inl rfl⟩
  | some ad =>
    obtain ⟨v', w', hr, h2, h3, _, h5⟩ := run_append_own_at (P := Tryz.prog) w base _ ty _ i (.int .u8 0) 1 1 Tryz.underlying88 hi hz0 hz1 hz2 rfl (by decide) v _ _ hown ad m c (u8s mm) (by simp [u8s, hlen])
      (fun j u hu => by
        rw [u8s, List.getElem?_map] at hu
        obtain ⟨x, hx', rfl⟩ := Option.map_eq_some_iff.1 hu
        exact hx.2.2.2.2 _ rfl j x hx') u8s_one (by unfold maxLen; omega) (by omega) hbase
    refine ⟨v', w', hr, ?_, h3, h5⟩
    unfold OwnV
    rw [List.length_append, hlen, u8s, List.map_append]
    exact h2

theorem wp_append_vec {w : World} {o : Oper} {a : Act} {K : Act → World → Prop} {Q : Exit → Act → World → Prop} (s x : Operand)
    (ho : o.op = .call { callee := .builtin .append, args := #[s, x], argTypes := #[88, 88] }) (base : Nat)
    (v : Value) (l : List UInt8) (hs : a.eval s = v) (hown : OwnV w base v l) (ao : Option Addr) (m c : Nat) (mm : List UInt8) (hx : a.eval x = .slice ao m c) (hsrc : Bs w ao m c mm)
    (hb : l.length + m ≤ 140737488355328) (hbase : base ≤ w.heap.size)
    (h : ∀ v' w', OwnV w' base v' (l ++ mm) → w.grownBy w' v.ownBlock → (v'.ownBlock = v.ownBlock ∨ v'.ownBlock = some w.heap.size) → K (a.put o.dst v') w') : o.wp Tryz.prog a w K Q := by
  obtain ⟨v', w', hr, h2, h3, h4⟩ := run_append_vec o.type base hown hsrc hb hbase
  unfold Oper.wp execOp
  simp only [ho, resolve, invoke, builtin, Sem.run_bind, Sem.run_pure, Result.andThen_ok, List.map_toArray, List.map_cons, List.map_nil, hs, hx, hr]
  exact h v' w' h2 h3 h4

theorem wpList_append_vec {w : World} {ops : Array Oper} {rest : List Oper} {o : Oper} {a : Act} {Q : Exit → Act → World → Prop} (hgd : o.guard = none) (s x : Operand)
    (ho : o.op = .call { callee := .builtin .append, args := #[s, x], argTypes := #[88, 88] }) (base : Nat)
    (v : Value) (l : List UInt8) (hs : a.eval s = v) (hown : OwnV w base v l) (ao : Option Addr) (m c : Nat) (mm : List UInt8) (hx : a.eval x = .slice ao m c) (hsrc : Bs w ao m c mm)
    (hb : l.length + m ≤ 140737488355328) (hbase : base ≤ w.heap.size)
    (h : ∀ v' w', OwnV w' base v' (l ++ mm) → w.grownBy w' v.ownBlock → (v'.ownBlock = v.ownBlock ∨ v'.ownBlock = some w.heap.size) → wpList Tryz.prog ops Q rest (a.put o.dst v') w') : wpList Tryz.prog ops Q (o :: rest) a w :=
  wpList_plain hgd fun _ hK => wp_append_vec s x ho base v l hs hown ao m c mm hx hsrc hb hbase fun v' w' h2 h3 h4 => hK _ _ (h v' w' h2 h3 h4)

set_option maxRecDepth 100000 in
set_option maxHeartbeats 400000 in
theorem vecClone_own (a : Option Addr) (len cap : Nat) (l : List UInt8) (w : World) (hs : Bs w a len cap l) (hm : len ≤ 140737488355328) :
    Calls Tryz.prog 106 #[.slice a len cap] w fun e w' => ∃ v, e = .returned v ∧ OwnV w' w.heap.size v l ∧ Gr w w' := by
  have hnl := fun (w : World) => Lib.run_eql_slice_nil (P := Tryz.prog) w 88 5 a len cap 0 0 Tryz.underlying88
  cases a with
  | none =>
    obtain rfl : cap = 0 := hs.2.2.2.1 rfl
    obtain rfl : len = 0 := by have := hs.2.1; omega
    obtain rfl : l = [] := List.eq_nil_of_length_eq_zero hs.1
    go_enter Tryz.func106, Tryz.ntmps106
    go_wp2
    go_ret
    exact ⟨_, rfl, OwnV.nil _ _, Gr.refl _⟩
  | some ad =>
    have hown : OwnV (w.alloc (.cells #[] 5)) w.heap.size (.slice (some ⟨w.heap.size, 0, none⟩) 0 0) [] := OwnV.made (Nat.le_refl _) rfl rfl (Nat.zero_le _)
    have hsrc : Bs (w.alloc (.cells #[] 5)) (some ad) len cap l := hs.below ((Gr.refl _).alloc _)
    have hq : ([] : List UInt8).length + len ≤ 140737488355328 := by simpa using hm
    have hbase : w.heap.size ≤ (w.alloc (.cells #[] 5)).heap.size := ((Gr.refl w).alloc _).size
    go_enter Tryz.func106, Tryz.ntmps106
    go_wp2_with (at_builtin; refine wpList_append_vec rfl (.tmp 5) (.tmp 6) rfl w.heap.size _ [] rfl hown (some ad) len cap l rfl hsrc hq hbase ?_; intro v2 w2 ho2 hg2 hn2)
    go_wp2
    go_ret
    exact ⟨_, rfl, ho2, ((Gr.refl w).alloc _).grown hg2 (fun k hk => by cases hk; exact Nat.le_refl _)⟩

theorem two_cells {W : World} {R : Nat} {v0 v1 : Value} {t : TypeId} (h : W.heap[R]? = some (.cells #[v0, v1] t)) :
    W.cell? ⟨R, 0, none⟩ = some v0 ∧ W.cell? ⟨R, 1, none⟩ = some v1 ∧ ∀ i, W.frozen? ⟨R, i, none⟩ = false := by
  refine ⟨?_, ?_, fun i => ?_⟩ <;> simp [World.cell?, World.frozen?, h]
theorem two_set {W : World} {R : Nat} {v0 v1 : Value} {t : TypeId} (h : W.heap[R]? = some (.cells #[v0, v1] t)) (u0 u1 : Value) :
    GrB W R ((W.setCell ⟨R, 0, none⟩ u0).setCell ⟨R, 1, none⟩ u1) ∧ ((W.setCell ⟨R, 0, none⟩ u0).setCell ⟨R, 1, none⟩ u1).heap[R]? = some (.cells #[u0, u1] t) := by
  refine ⟨((GrB.refl W R).set (.inl rfl) _).set (.inl rfl) _, ?_⟩
  have h2 := heap_set (i := 1) (heap_set (i := 0) h u0) u1
  simpa only [List.setIfInBounds_toArray, List.set_cons_zero, List.set_cons_succ] using h2

set_option maxRecDepth 100000 in
set_option maxHeartbeats 1000000 in
theorem vecOf_any (a a' : Option Addr) (k c k' c' : Nat) (l l' : List UInt8) (w : World) (h1 : Bs w a k c l) (h2 : Bs w a' k' c' l') (hk : k ≤ 140737488355328) (hk' : k' ≤ 140737488355328) :
    Calls Tryz.prog 71 #[.slice a k c, .slice a' k' c'] w fun e w' => ∃ a1 c1 a2 c2, e = .returned (.agg #[.slice a1 k c1, .slice a2 k' c2]) ∧ OwnV w' w.heap.size (.slice a1 k c1) l ∧ OwnV w' w.heap.size (.slice a2 k' c2) l' ∧ Gr w w' := by
  have H1 := Lib.hid h1
  have H2 := Lib.hid h2
  clear h1 h2
  go_enter Tryz.func71, Tryz.ntmps71
  go_wp2_with fail
  refine (vecClone_own a k c l _ (H1.out.below ((Gr.refl w).alloc _)) hk).mono ?_
  rintro e w1 ⟨v1, rfl, ho1, hg1⟩
  obtain ⟨a1, c1, rfl, _⟩ := ho1.slice
  rw [H1.out.1] at ho1 ⊢
  have hA := hg1.heap (heap_alloc_new w _)
  have hgw := ((Gr.refl w).alloc _).trans hg1
  have ho1 := ho1.mono (b' := w.heap.size + 1) (by simp)
  have HA := Lib.hid hA
  clear hA hg1
  go_wp2_with fail
  refine (sliceClone_own a' k' c' l' _ (H2.out.below hgw) hk').mono ?_
  rintro e w2 ⟨v2, rfl, ho2, hg2⟩
  obtain ⟨a2, c2, rfl, _⟩ := ho2.slice
  rw [H2.out.1] at ho2 ⊢
  have hA2 := hg2.heap HA.out
  have hgw2 := hgw.trans hg2
  have hz := lt_of_block HA.out
  have ho2 := ho2.mono (b' := w.heap.size + 1) (by omega)
  have ho1' := ho1.gr hg2
  obtain ⟨x0, x1, xf⟩ := two_cells hA2
  obtain ⟨hgb, hh⟩ := two_set hA2 (.slice a1 k c1) (.slice a2 k' c2)
  have hg3 := hgw2.grb hgb (Nat.le_refl _)
  have HO1 := Lib.hid ((ho1'.grb hgb (fun y hy => by have := ho1'.bs2.2 y hy; omega)).mono (b' := w.heap.size) (by omega))
  have HO2 := Lib.hid ((ho2.grb hgb (fun y hy => by have := ho2.bs2.2 y hy; omega)).mono (b' := w.heap.size) (by omega))
  have HG := Lib.hid hg3
  obtain ⟨y0, y1, _⟩ := two_cells hh
  clear hA2 hgb hh hg3 ho1 ho1' ho2 hg2 hgw hgw2 HA
  go_wp2
  refine bodyPost_ret (v := .agg #[.slice a1 k c1, .slice a2 k' c2]) ?_ rfl ⟨a1, c1, a2, c2, rfl, HO1.out, HO2.out, HG.out⟩
  simp [results, Tryz.results71, go_sem, y0, y1]
end Go.Proofs.YtdmijoochgmhiaaGreatDoor
