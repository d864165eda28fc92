/-
  The walks of slices.Clone of a vector, and of vec.Of.
  Ahead of a drawn region: the cells of blocks that are known whole, in whatever world that it turns into.
  May a packet be written by a plan? The program's answer, and the document's.
  The walk of packet.Packet.Write.
  The walk of packet.Packet.Equation.
  What a packet is written as, and its equation: each function in one contract, of whatever packet.
-/
import Derived.Test.YtddopoojmadpjaaGreatDoorAppend
import Derived.Test.YtddopoojmadpjaaGreatDoorSum
namespace Go.Proofs.YtddopoojmadpjaaGreatDoor
open Go.RowKit
set_option linter.unusedVariables false

theorem run_append_vec {w : World} (ty : TypeId) (base : Nat) {v : Value} {l : List UInt8} (hown : OwnV w base v l) {a : Option Addr} {m c : Nat} {mm : List UInt8} (hx : Bs w a m c mm)
    (hb : l.length + m ≤ 140737488355328) (hbase : base ≤ w.heap.size) :
    ∃ v' w', (Builtin.append_ #[89, 89] ty #[v, .slice a m c]).run Tryz.prog w = .ok v' w' ∧ OwnV w' base v' (l ++ mm) ∧ w.grownBy w' v.ownBlock ∧ (v'.ownBlock = v.ownBlock ∨ v'.ownBlock = some w.heap.size) := by
  obtain ⟨i, hi, hz0, hz1, hz2⟩ := info_parts infoByte
  have hlen := hx.1
  cases a with
  | none =>
    have hc : c = 0 := hx.2.2.2.1 rfl
    have hm : m = 0 := by have := hx.2.1; omega
    subst hc; subst hm
    obtain rfl : mm = [] := List.eq_nil_of_length_eq_zero hlen
    exact ⟨v, w, run_append_owned_none (P := Tryz.prog) w base _ ty _ i 1 Tryz.underlying89 hi v _ _ hown, by rw [List.append_nil]; exact hown, World.grownBy.refl _ _, .inl rfl⟩
  | some ad =>
    obtain ⟨v', w', hr, h2, h3, _, h5⟩ := run_append_own_at (P := Tryz.prog) w base _ ty _ i (.int .u8 0) 1 1 Tryz.underlying89 hi hz0 hz1 hz2 rfl (by decide) v _ _ hown ad m c (u8s mm) (by simp [u8s, hlen])
      (fun j u hu => by
        rw [u8s, List.getElem?_map] at hu
        obtain ⟨x, hx', rfl⟩ := Option.map_eq_some_iff.1 hu
        exact hx.2.2.2.2 _ rfl j x hx') u8s_one (by unfold maxLen; omega) (by omega) hbase
    refine ⟨v', w', hr, ?_, h3, h5⟩
    unfold OwnV
    rw [List.length_append, hlen, u8s, List.map_append]
    exact h2

theorem wp_append_vec {w : World} {o : Oper} {a : Act} {K : Act → World → Prop} {Q : Exit → Act → World → Prop} (s x : Operand)
    (ho : o.op = .call { callee := .builtin .append, args := #[s, x], argTypes := #[89, 89] }) (base : Nat)
    (v : Value) (l : List UInt8) (hs : a.eval s = v) (hown : OwnV w base v l) (ao : Option Addr) (m c : Nat) (mm : List UInt8) (hx : a.eval x = .slice ao m c) (hsrc : Bs w ao m c mm)
    (hb : l.length + m ≤ 140737488355328) (hbase : base ≤ w.heap.size)
    (h : ∀ v' w', OwnV w' base v' (l ++ mm) → w.grownBy w' v.ownBlock → (v'.ownBlock = v.ownBlock ∨ v'.ownBlock = some w.heap.size) → K (a.put o.dst v') w') : o.wp Tryz.prog a w K Q := by
  obtain ⟨v', w', hr, h2, h3, h4⟩ := run_append_vec o.type base hown hsrc hb hbase
  unfold Oper.wp execOp
  simp only [ho, resolve, invoke, builtin, Sem.run_bind, Sem.run_pure, Result.andThen_ok, List.map_toArray, List.map_cons, List.map_nil, hs, hx, hr]
  exact h v' w' h2 h3 h4

theorem wpList_append_vec {w : World} {ops : Array Oper} {rest : List Oper} {o : Oper} {a : Act} {Q : Exit → Act → World → Prop} (hgd : o.guard = none) (s x : Operand)
    (ho : o.op = .call { callee := .builtin .append, args := #[s, x], argTypes := #[89, 89] }) (base : Nat)
    (v : Value) (l : List UInt8) (hs : a.eval s = v) (hown : OwnV w base v l) (ao : Option Addr) (m c : Nat) (mm : List UInt8) (hx : a.eval x = .slice ao m c) (hsrc : Bs w ao m c mm)
    (hb : l.length + m ≤ 140737488355328) (hbase : base ≤ w.heap.size)
    (h : ∀ v' w', OwnV w' base v' (l ++ mm) → w.grownBy w' v.ownBlock → (v'.ownBlock = v.ownBlock ∨ v'.ownBlock = some w.heap.size) → wpList Tryz.prog ops Q rest (a.put o.dst v') w') : wpList Tryz.prog ops Q (o :: rest) a w :=
  wpList_plain hgd fun _ hK => wp_append_vec s x ho base v l hs hown ao m c mm hx hsrc hb hbase fun v' w' h2 h3 h4 => hK _ _ (h v' w' h2 h3 h4)

set_option maxRecDepth 100000 in
set_option maxHeartbeats 400000 in
theorem vecClone_own (a : Option Addr) (len cap : Nat) (l : List UInt8) (w : World) (hs : Bs w a len cap l) (hm : len ≤ 140737488355328) :
    Calls Tryz.prog 91 #[.slice a len cap] w fun e w' => ∃ v, e = .returned v ∧ OwnV w' w.heap.size v l ∧ Gr w w' := by
  have hnl := fun (w : World) => Lib.run_eql_slice_nil (P := Tryz.prog) w 89 5 a len cap 0 0 Tryz.underlying89
  cases a with
  | none =>
    obtain rfl : cap = 0 := hs.2.2.2.1 rfl
    obtain rfl : len = 0 := by have := hs.2.1; omega
    obtain rfl : l = [] := List.eq_nil_of_length_eq_zero hs.1
    go_enter Tryz.func91, Tryz.ntmps91
    go_wp2
    go_ret
    exact ⟨_, rfl, OwnV.nil _ _, Gr.refl _⟩
  | some ad =>
    have hown : OwnV (w.alloc (.cells #[] 5)) w.heap.size (.slice (some ⟨w.heap.size, 0, none⟩) 0 0) [] := OwnV.made (Nat.le_refl _) rfl rfl (Nat.zero_le _)
    have hsrc : Bs (w.alloc (.cells #[] 5)) (some ad) len cap l := hs.below ((Gr.refl _).alloc _)
    have hq : ([] : List UInt8).length + len ≤ 140737488355328 := by simpa using hm
    have hbase : w.heap.size ≤ (w.alloc (.cells #[] 5)).heap.size := ((Gr.refl w).alloc _).size
    go_enter Tryz.func91, Tryz.ntmps91
    go_wp2_with (at_builtin; refine wpList_append_vec rfl (.tmp 5) (.tmp 6) rfl w.heap.size _ [] rfl hown (some ad) len cap l rfl hsrc hq hbase ?_; intro v2 w2 ho2 hg2 hn2)
    go_wp2
    go_ret
    exact ⟨_, rfl, ho2, ((Gr.refl w).alloc _).grown hg2 (fun k hk => by cases hk; exact Nat.le_refl _)⟩

theorem two_cells {W : World} {R : Nat} {v0 v1 : Value} {t : TypeId} (h : W.heap[R]? = some (.cells #[v0, v1] t)) :
    W.cell? ⟨R, 0, none⟩ = some v0 ∧ W.cell? ⟨R, 1, none⟩ = some v1 ∧ ∀ i, W.frozen? ⟨R, i, none⟩ = false := by
  refine ⟨?_, ?_, fun i => ?_⟩ <;> simp [World.cell?, World.frozen?, h]
theorem two_set {W : World} {R : Nat} {v0 v1 : Value} {t : TypeId} (h : W.heap[R]? = some (.cells #[v0, v1] t)) (u0 u1 : Value) :
    GrB W R ((W.setCell ⟨R, 0, none⟩ u0).setCell ⟨R, 1, none⟩ u1) ∧ ((W.setCell ⟨R, 0, none⟩ u0).setCell ⟨R, 1, none⟩ u1).heap[R]? = some (.cells #[u0, u1] t) := by
  refine ⟨((GrB.refl W R).set (.inl rfl) _).set (.inl rfl) _, ?_⟩
  have h2 := heap_set (i := 1) (heap_set (i := 0) h u0) u1
  simpa only [List.setIfInBounds_toArray, List.set_cons_zero, List.set_cons_succ] using h2

set_option maxRecDepth 100000 in
set_option maxHeartbeats 1000000 in
theorem vecOf_any (a a' : Option Addr) (k c k' c' : Nat) (l l' : List UInt8) (w : World) (h1 : Bs w a k c l) (h2 : Bs w a' k' c' l') (hk : k ≤ 140737488355328) (hk' : k' ≤ 140737488355328) :
    Calls Tryz.prog 50 #[.slice a k c, .slice a' k' c'] w fun e w' => ∃ a1 c1 a2 c2, e = .returned (.agg #[.slice a1 k c1, .slice a2 k' c2]) ∧ OwnV w' w.heap.size (.slice a1 k c1) l ∧ OwnV w' w.heap.size (.slice a2 k' c2) l' ∧ Gr w w' := by
  have H1 := Lib.hid h1
  have H2 := Lib.hid h2
  clear h1 h2
  go_enter Tryz.func50, Tryz.ntmps50
  go_wp2_with fail
  refine (vecClone_own a k c l _ (H1.out.below ((Gr.refl w).alloc _)) hk).mono ?_
  rintro e w1 ⟨v1, rfl, ho1, hg1⟩
  obtain ⟨a1, c1, rfl, _⟩ := ho1.slice
  rw [H1.out.1] at ho1 ⊢
  have hA := hg1.heap (heap_alloc_new w _)
  have hgw := ((Gr.refl w).alloc _).trans hg1
  have ho1 := ho1.mono (b' := w.heap.size + 1) (by simp)
  have HA := Lib.hid hA
  clear hA hg1
  go_wp2_with fail
  refine (sliceClone_own a' k' c' l' _ (H2.out.below hgw) hk').mono ?_
  rintro e w2 ⟨v2, rfl, ho2, hg2⟩
  obtain ⟨a2, c2, rfl, _⟩ := ho2.slice
  rw [H2.out.1] at ho2 ⊢
  have hA2 := hg2.heap HA.out
  have hgw2 := hgw.trans hg2
  have hz := lt_of_block HA.out
  have ho2 := ho2.mono (b' := w.heap.size + 1) (by omega)
  have ho1' := ho1.gr hg2
  obtain ⟨x0, x1, xf⟩ := two_cells hA2
  obtain ⟨hgb, hh⟩ := two_set hA2 (.slice a1 k c1) (.slice a2 k' c2)
  have hg3 := hgw2.grb hgb (Nat.le_refl _)
  have HO1 := Lib.hid ((ho1'.grb hgb (fun y hy => by have := ho1'.bs2.2 y hy; omega)).mono (b' := w.heap.size) (by omega))
  have HO2 := Lib.hid ((ho2.grb hgb (fun y hy => by have := ho2.bs2.2 y hy; omega)).mono (b' := w.heap.size) (by omega))
  have HG := Lib.hid hg3
  obtain ⟨y0, y1, _⟩ := two_cells hh
  clear hA2 hgb hh hg3 ho1 ho1' ho2 hg2 hgw hgw2 HA
  go_wp2
  refine bodyPost_ret (v := .agg #[.slice a1 k c1, .slice a2 k' c2]) ?_ rfl ⟨a1, c1, a2, c2, rfl, HO1.out, HO2.out, HG.out⟩
  simp [results, Tryz.results50, go_sem, y0, y1]
end Go.Proofs.YtddopoojmadpjaaGreatDoor

namespace Go.Proofs.YtddopoojmadpjaaGreatDoor
open Go.RowKit

section
variable {Rel : World → World → Prop} {W0 : World}
theorem up_two (hst : ∀ {w : World}, Rel W0.drew w → ∀ {p : Addr} {v : Value}, W0.cell? p = some v → w.cell? p = some v) {R : Nat} {v0 v1 : Value} {t : TypeId} (h : W0.heap[R]? = some (.cells #[v0, v1] t)) :
    (∀ x : Up Rel W0.drew, x.w.cell? ⟨R, 0, none⟩ = some v0) ∧ (∀ x : Up Rel W0.drew, x.w.cell? ⟨R, 1, none⟩ = some v1) := by
  obtain ⟨h0, h1, _⟩ := two_cells h
  exact ⟨fun x => hst x.rel h0, fun x => hst x.rel h1⟩
theorem up_four (hst : ∀ {w : World}, Rel W0.drew w → ∀ {p : Addr} {v : Value}, W0.cell? p = some v → w.cell? p = some v) {R : Nat} {v0 v1 v2 v3 : Value} {t : TypeId} (h : W0.heap[R]? = some (.cells #[v0, v1, v2, v3] t)) :
    (∀ x : Up Rel W0.drew, x.w.cell? ⟨R, 0, none⟩ = some v0) ∧ (∀ x : Up Rel W0.drew, x.w.cell? ⟨R, 1, none⟩ = some v1) ∧ (∀ x : Up Rel W0.drew, x.w.cell? ⟨R, 2, none⟩ = some v2) ∧ (∀ x : Up Rel W0.drew, x.w.cell? ⟨R, 3, none⟩ = some v3) := by
  obtain ⟨h0, h1, h2, h3⟩ := p_four_cells h
  exact ⟨fun x => hst x.rel h0, fun x => hst x.rel h1, fun x => hst x.rel h2, fun x => hst x.rel h3⟩
theorem up_seven (hst : ∀ {w : World}, Rel W0.drew w → ∀ {p : Addr} {v : Value}, W0.cell? p = some v → w.cell? p = some v) {R : Nat} {v0 v1 v2 v3 v4 v5 v6 : Value} {t : TypeId} (h : W0.heap[R]? = some (.cells #[v0, v1, v2, v3, v4, v5, v6] t)) :
    (∀ x : Up Rel W0.drew, x.w.cell? ⟨R, 0, none⟩ = some v0) ∧ (∀ x : Up Rel W0.drew, x.w.cell? ⟨R, 1, none⟩ = some v1) ∧ (∀ x : Up Rel W0.drew, x.w.cell? ⟨R, 2, none⟩ = some v2) ∧ (∀ x : Up Rel W0.drew, x.w.cell? ⟨R, 3, none⟩ = some v3) ∧
      (∀ x : Up Rel W0.drew, x.w.cell? ⟨R, 4, none⟩ = some v4) ∧ (∀ x : Up Rel W0.drew, x.w.cell? ⟨R, 5, none⟩ = some v5) ∧ (∀ x : Up Rel W0.drew, x.w.cell? ⟨R, 6, none⟩ = some v6) := by
  obtain ⟨h0, h1, h2, h3, h4, h5, h6, _⟩ := seven_cells h
  exact ⟨fun x => hst x.rel h0, fun x => hst x.rel h1, fun x => hst x.rel h2, fun x => hst x.rel h3, fun x => hst x.rel h4, fun x => hst x.rel h5, fun x => hst x.rel h6⟩
end
theorem gr_st {W0 : World} {w : World} (h : Gr W0.drew w) {p : Addr} {v : Value} (hp : W0.cell? p = some v) : w.cell? p = some v := Gr.cell h hp
end Go.Proofs.YtddopoojmadpjaaGreatDoor

namespace Go.Proofs.YtddopoojmadpjaaGreatDoor
open Go.RowKit
set_option linter.unusedVariables false

/-- what is wrong with a packet that is to be written. -/
def fitErr (n s q : Int) (id m o md k k' : Nat) : Nat :=
  if planErr n s q ≠ 0 then planErr n s q else if ¬ m ≤ 1 then 8 else if o ≠ id then 9 else if md ≠ m then 14
  else if m = 0 ∧ (k : Int) ≠ q then 4 else if (k' : Int) ≠ s then 4 else 0
theorem fitErr_zero {n s q : Int} {id m o md k k' : Nat} (h : fitErr n s q id m o md k k' = 0) : planErr n s q = 0 ∧ m ≤ 1 ∧ o = id ∧ md = m ∧ (m = 0 → (k : Int) = q) ∧ (k' : Int) = s := by
  unfold fitErr at h
  by_cases h1 : planErr n s q ≠ 0
  · rw [if_pos h1] at h; exact absurd h h1
  rw [if_neg h1] at h
  by_cases h2 : m ≤ 1
  · rw [if_neg (by simpa using h2)] at h
    by_cases h3 : o ≠ id
    · rw [if_pos h3] at h; cases h
    rw [if_neg h3] at h
    by_cases h4 : md ≠ m
    · rw [if_pos h4] at h; cases h
    rw [if_neg h4] at h
    by_cases h5 : m = 0 ∧ (k : Int) ≠ q
    · rw [if_pos h5] at h; cases h
    rw [if_neg h5] at h
    by_cases h6 : (k' : Int) ≠ s
    · rw [if_pos h6] at h; cases h
    exact ⟨by omega, h2, by omega, by omega, fun h0 => by omega, by omega⟩
  · rw [if_pos h2] at h; cases h

set_option maxRecDepth 100000 in
set_option maxHeartbeats 2000000 in
theorem packFits_any (n s q : Int) (id m o md k k' : Nat) (nn sd : Int) (hlo : -9223372036854775808 ≤ n) (hm : n ≤ 9223372036854775807) (hsl : -9223372036854775808 ≤ s) (hsm : s ≤ 9223372036854775807) (hk : k ≤ 9223372036854775807) (hk' : k' ≤ 9223372036854775807) (a a' : Option Addr) (c c' : Nat) (w : World) :
    Calls Tryz.prog 70 #[.agg #[.int .u8 (m : Int), .int .u32 (o : Int), .int .u32 nn, .int .u8 (md : Int), .slice a k c, .int .u64 sd, .slice a' k' c'], .agg #[.int .i64 n, .int .i64 s, .int .i64 q, .int .u32 (id : Int)]] w fun e w' => e = .returned (.int .i64 (fitErr n s q id m o md k k' : Nat)) ∧ Gr w w' := by
  have CC := planCheck_any n s q id hlo hm hsl hsm
  by_cases hP : planErr n s q = 0
  · rw [hP] at CC
    have HC := Lib.hid CC
    clear CC
    have HE : Hid (fitErr n s q id m o md k k' = if ¬ m ≤ 1 then 8 else if o ≠ id then 9 else if md ≠ m then 14 else if m = 0 ∧ (k : Int) ≠ q then 4 else if (k' : Int) ≠ s then 4 else 0) := by
      show _ = _; rw [fitErr, if_neg (by simpa using hP)]
    clear hP
    have CK := headCheck_all m o nn
    by_cases h2 : m ≤ 1
    · simp only [if_pos h2] at CK
      have HK := Lib.hid CK
      by_cases h3 : o = id
      · have t3 : (((o : Int)) != ((id : Int))) = false := by rw [bne_eq_false_iff_eq]; omega
        by_cases h4 : md = m
        · have t4 : (((md : Int)) != ((m : Int))) = false := by rw [bne_eq_false_iff_eq]; omega
          by_cases h5 : m = 0
          · have t5 : (((m : Int)) == ((0 : Int))) = true := by rw [beq_iff_eq]; omega
            by_cases h6 : (k : Int) = q
            · have t6 : (((k : Int)) != (q)) = false := by rw [bne_eq_false_iff_eq]; omega
              by_cases h7 : (k' : Int) = s
              · have t7 : (((k' : Int)) != (s)) = false := by rw [bne_eq_false_iff_eq]; omega
                have HR : Hid (fitErr n s q id m o md k k' = 0) := by show _ = _; rw [HE.out]; rw [if_neg (by simpa using h2), if_neg (by simpa using h3), if_neg (by simpa using h4), if_neg (by rintro ⟨_, h⟩; exact h h6), if_neg (by simpa using h7)]
                clear HE CK h2 h3 h4 h5 h6 h7
                go_enter Tryz.func70, Tryz.ntmps70
                go_wp2_with fail
                refine (HC.out _).mono ?_
                rintro e w1 ⟨rfl, hg⟩
                have hgw := (((Gr.refl w).alloc _).alloc _).trans hg
                have hA := hg.heap (Gr.heap (Gr.alloc (Gr.refl _) _) (heap_alloc_new w _))
                have hB := hg.heap (heap_alloc_new _ _)
                simp only [World.alloc, Array.size_push] at hB
                obtain ⟨cc0, cc1, cc2, cc3, cc4, cc5, cc6, ff⟩ := seven_cells hA
                have HA := Lib.hid hA
                have HB := Lib.hid hB
                clear hA hB hg
                go_wp2_with fail
                refine (HK.out _).mono ?_
                rintro e w2 ⟨rfl, hg2⟩
                obtain ⟨cc0, cc1, cc2, cc3, cc4, cc5, cc6, ff⟩ := seven_cells (hg2.heap HA.out)
                obtain ⟨p0, p1, p2, p3⟩ := p_four_cells (hg2.heap HB.out)
                have hgw2 := hgw.trans hg2
                clear hg2 hgw HA HB
                go_wp2
                go_ret
                exact ⟨by rw [HR.out]; rfl, hgw2⟩
              · have t7 : (((k' : Int)) != (s)) = true := by rw [bne_iff_ne]; omega
                have HR : Hid (fitErr n s q id m o md k k' = 4) := by show _ = _; rw [HE.out]; rw [if_neg (by simpa using h2), if_neg (by simpa using h3), if_neg (by simpa using h4), if_neg (by rintro ⟨_, h⟩; exact h h6), if_pos h7]
                clear HE CK h2 h3 h4 h5 h6 h7
                go_enter Tryz.func70, Tryz.ntmps70
                go_wp2_with fail
                refine (HC.out _).mono ?_
                rintro e w1 ⟨rfl, hg⟩
                have hgw := (((Gr.refl w).alloc _).alloc _).trans hg
                have hA := hg.heap (Gr.heap (Gr.alloc (Gr.refl _) _) (heap_alloc_new w _))
                have hB := hg.heap (heap_alloc_new _ _)
                simp only [World.alloc, Array.size_push] at hB
                obtain ⟨cc0, cc1, cc2, cc3, cc4, cc5, cc6, ff⟩ := seven_cells hA
                have HA := Lib.hid hA
                have HB := Lib.hid hB
                clear hA hB hg
                go_wp2_with fail
                refine (HK.out _).mono ?_
                rintro e w2 ⟨rfl, hg2⟩
                obtain ⟨cc0, cc1, cc2, cc3, cc4, cc5, cc6, ff⟩ := seven_cells (hg2.heap HA.out)
                obtain ⟨p0, p1, p2, p3⟩ := p_four_cells (hg2.heap HB.out)
                have hgw2 := hgw.trans hg2
                clear hg2 hgw HA HB
                go_wp2
                go_ret
                exact ⟨by rw [HR.out]; rfl, hgw2⟩
            · have t6 : (((k : Int)) != (q)) = true := by rw [bne_iff_ne]; omega
              have HR : Hid (fitErr n s q id m o md k k' = 4) := by show _ = _; rw [HE.out]; rw [if_neg (by simpa using h2), if_neg (by simpa using h3), if_neg (by simpa using h4), if_pos ⟨h5, h6⟩]
              clear HE CK h2 h3 h4 h5 h6
              go_enter Tryz.func70, Tryz.ntmps70
              go_wp2_with fail
              refine (HC.out _).mono ?_
              rintro e w1 ⟨rfl, hg⟩
              have hgw := (((Gr.refl w).alloc _).alloc _).trans hg
              have hA := hg.heap (Gr.heap (Gr.alloc (Gr.refl _) _) (heap_alloc_new w _))
              have hB := hg.heap (heap_alloc_new _ _)
              simp only [World.alloc, Array.size_push] at hB
              obtain ⟨cc0, cc1, cc2, cc3, cc4, cc5, cc6, ff⟩ := seven_cells hA
              have HA := Lib.hid hA
              have HB := Lib.hid hB
              clear hA hB hg
              go_wp2_with fail
              refine (HK.out _).mono ?_
              rintro e w2 ⟨rfl, hg2⟩
              obtain ⟨cc0, cc1, cc2, cc3, cc4, cc5, cc6, ff⟩ := seven_cells (hg2.heap HA.out)
              obtain ⟨p0, p1, p2, p3⟩ := p_four_cells (hg2.heap HB.out)
              have hgw2 := hgw.trans hg2
              clear hg2 hgw HA HB
              go_wp2
              go_ret
              exact ⟨by rw [HR.out]; rfl, hgw2⟩
          · have t5 : (((m : Int)) == ((0 : Int))) = false := by rw [beq_eq_false_iff_ne]; omega
            by_cases h7 : (k' : Int) = s
            · have t7 : (((k' : Int)) != (s)) = false := by rw [bne_eq_false_iff_eq]; omega
              have HR : Hid (fitErr n s q id m o md k k' = 0) := by show _ = _; rw [HE.out]; rw [if_neg (by simpa using h2), if_neg (by simpa using h3), if_neg (by simpa using h4), if_neg (by rintro ⟨h, _⟩; exact h5 h), if_neg (by simpa using h7)]
              clear HE CK h2 h3 h4 h5 h7
              go_enter Tryz.func70, Tryz.ntmps70
              go_wp2_with fail
              refine (HC.out _).mono ?_
              rintro e w1 ⟨rfl, hg⟩
              have hgw := (((Gr.refl w).alloc _).alloc _).trans hg
              have hA := hg.heap (Gr.heap (Gr.alloc (Gr.refl _) _) (heap_alloc_new w _))
              have hB := hg.heap (heap_alloc_new _ _)
              simp only [World.alloc, Array.size_push] at hB
              obtain ⟨cc0, cc1, cc2, cc3, cc4, cc5, cc6, ff⟩ := seven_cells hA
              have HA := Lib.hid hA
              have HB := Lib.hid hB
              clear hA hB hg
              go_wp2_with fail
              refine (HK.out _).mono ?_
              rintro e w2 ⟨rfl, hg2⟩
              obtain ⟨cc0, cc1, cc2, cc3, cc4, cc5, cc6, ff⟩ := seven_cells (hg2.heap HA.out)
              obtain ⟨p0, p1, p2, p3⟩ := p_four_cells (hg2.heap HB.out)
              have hgw2 := hgw.trans hg2
              clear hg2 hgw HA HB
              go_wp2
              go_ret
              exact ⟨by rw [HR.out]; rfl, hgw2⟩
            · have t7 : (((k' : Int)) != (s)) = true := by rw [bne_iff_ne]; omega
              have HR : Hid (fitErr n s q id m o md k k' = 4) := by show _ = _; rw [HE.out]; rw [if_neg (by simpa using h2), if_neg (by simpa using h3), if_neg (by simpa using h4), if_neg (by rintro ⟨h, _⟩; exact h5 h), if_pos h7]
              clear HE CK h2 h3 h4 h5 h7
              go_enter Tryz.func70, Tryz.ntmps70
              go_wp2_with fail
              refine (HC.out _).mono ?_
              rintro e w1 ⟨rfl, hg⟩
              have hgw := (((Gr.refl w).alloc _).alloc _).trans hg
              have hA := hg.heap (Gr.heap (Gr.alloc (Gr.refl _) _) (heap_alloc_new w _))
              have hB := hg.heap (heap_alloc_new _ _)
              simp only [World.alloc, Array.size_push] at hB
              obtain ⟨cc0, cc1, cc2, cc3, cc4, cc5, cc6, ff⟩ := seven_cells hA
              have HA := Lib.hid hA
              have HB := Lib.hid hB
              clear hA hB hg
              go_wp2_with fail
              refine (HK.out _).mono ?_
              rintro e w2 ⟨rfl, hg2⟩
              obtain ⟨cc0, cc1, cc2, cc3, cc4, cc5, cc6, ff⟩ := seven_cells (hg2.heap HA.out)
              obtain ⟨p0, p1, p2, p3⟩ := p_four_cells (hg2.heap HB.out)
              have hgw2 := hgw.trans hg2
              clear hg2 hgw HA HB
              go_wp2
              go_ret
              exact ⟨by rw [HR.out]; rfl, hgw2⟩
        · have t4 : (((md : Int)) != ((m : Int))) = true := by rw [bne_iff_ne]; omega
          have HR : Hid (fitErr n s q id m o md k k' = 14) := by show _ = _; rw [HE.out]; rw [if_neg (by simpa using h2), if_neg (by simpa using h3), if_pos h4]
          clear HE CK h2 h3 h4
          go_enter Tryz.func70, Tryz.ntmps70
          go_wp2_with fail
          refine (HC.out _).mono ?_
          rintro e w1 ⟨rfl, hg⟩
          have hgw := (((Gr.refl w).alloc _).alloc _).trans hg
          have hA := hg.heap (Gr.heap (Gr.alloc (Gr.refl _) _) (heap_alloc_new w _))
          have hB := hg.heap (heap_alloc_new _ _)
          simp only [World.alloc, Array.size_push] at hB
          obtain ⟨cc0, cc1, cc2, cc3, cc4, cc5, cc6, ff⟩ := seven_cells hA
          have HA := Lib.hid hA
          have HB := Lib.hid hB
          clear hA hB hg
          go_wp2_with fail
          refine (HK.out _).mono ?_
          rintro e w2 ⟨rfl, hg2⟩
          obtain ⟨cc0, cc1, cc2, cc3, cc4, cc5, cc6, ff⟩ := seven_cells (hg2.heap HA.out)
          obtain ⟨p0, p1, p2, p3⟩ := p_four_cells (hg2.heap HB.out)
          have hgw2 := hgw.trans hg2
          clear hg2 hgw HA HB
          go_wp2
          go_ret
          exact ⟨by rw [HR.out]; rfl, hgw2⟩
      · have t3 : (((o : Int)) != ((id : Int))) = true := by rw [bne_iff_ne]; omega
        have HR : Hid (fitErr n s q id m o md k k' = 9) := by show _ = _; rw [HE.out]; rw [if_neg (by simpa using h2), if_pos h3]
        clear HE CK h2 h3
        go_enter Tryz.func70, Tryz.ntmps70
        go_wp2_with fail
        refine (HC.out _).mono ?_
        rintro e w1 ⟨rfl, hg⟩
        have hgw := (((Gr.refl w).alloc _).alloc _).trans hg
        have hA := hg.heap (Gr.heap (Gr.alloc (Gr.refl _) _) (heap_alloc_new w _))
        have hB := hg.heap (heap_alloc_new _ _)
        simp only [World.alloc, Array.size_push] at hB
        obtain ⟨cc0, cc1, cc2, cc3, cc4, cc5, cc6, ff⟩ := seven_cells hA
        have HA := Lib.hid hA
        have HB := Lib.hid hB
        clear hA hB hg
        go_wp2_with fail
        refine (HK.out _).mono ?_
        rintro e w2 ⟨rfl, hg2⟩
        obtain ⟨cc0, cc1, cc2, cc3, cc4, cc5, cc6, ff⟩ := seven_cells (hg2.heap HA.out)
        obtain ⟨p0, p1, p2, p3⟩ := p_four_cells (hg2.heap HB.out)
        have hgw2 := hgw.trans hg2
        clear hg2 hgw HA HB
        go_wp2
        go_ret
        exact ⟨by rw [HR.out]; rfl, hgw2⟩
    · simp only [if_neg h2] at CK
      have HK := Lib.hid CK
      have HR : Hid (fitErr n s q id m o md k k' = 8) := by show _ = _; rw [HE.out]; rw [if_pos h2]
      clear HE CK h2
      go_enter Tryz.func70, Tryz.ntmps70
      go_wp2_with fail
      refine (HC.out _).mono ?_
      rintro e w1 ⟨rfl, hg⟩
      have hgw := (((Gr.refl w).alloc _).alloc _).trans hg
      have hA := hg.heap (Gr.heap (Gr.alloc (Gr.refl _) _) (heap_alloc_new w _))
      have hB := hg.heap (heap_alloc_new _ _)
      simp only [World.alloc, Array.size_push] at hB
      obtain ⟨cc0, cc1, cc2, cc3, cc4, cc5, cc6, ff⟩ := seven_cells hA
      have HA := Lib.hid hA
      have HB := Lib.hid hB
      clear hA hB hg
      go_wp2_with fail
      refine (HK.out _).mono ?_
      rintro e w2 ⟨rfl, hg2⟩
      obtain ⟨cc0, cc1, cc2, cc3, cc4, cc5, cc6, ff⟩ := seven_cells (hg2.heap HA.out)
      obtain ⟨p0, p1, p2, p3⟩ := p_four_cells (hg2.heap HB.out)
      have hgw2 := hgw.trans hg2
      clear hg2 hgw HA HB
      go_wp2
      go_ret
      exact ⟨by rw [HR.out]; rfl, hgw2⟩
  · have hr : Hid (fitErr n s q id m o md k k' = planErr n s q) := by show _ = _; rw [fitErr, if_pos hP]
    obtain ⟨E, hE⟩ : ∃ E, planErr n s q = E := ⟨_, rfl⟩
    rw [hE] at CC hP hr
    have HC := Lib.hid CC
    have ht : ((E : Int) != 0) = true := by rw [bne_iff_ne]; omega
    clear CC hE hP
    go_enter Tryz.func70, Tryz.ntmps70
    go_wp2_with fail
    refine (HC.out _).mono ?_
    rintro e w1 ⟨rfl, hg⟩
    have hgw := (((Gr.refl w).alloc _).alloc _).trans hg
    clear hg
    go_wp2
    go_ret
    exact ⟨by rw [hr.out]; rfl, hgw⟩
end Go.Proofs.YtddopoojmadpjaaGreatDoor

namespace Go.Proofs.YtddopoojmadpjaaGreatDoor
open Go.RowKit
set_option linter.unusedVariables false

theorem Bss.of_alloc4 {w : World} {b : Nat} {a a' a'' a3 : Option Addr} {n c n' c' n'' c'' n3 c3 : Nat} {l l' l'' l3 : List UInt8} {t : TypeId} (h : Bs w a n c l) (h' : Bs w a' n' c' l') (h'' : Bs w a'' n'' c'' l'') (h3 : Bs w a3 n3 c3 l3) (hb : b = w.heap.size) :
    Bss (w.alloc (.cells #[.slice a n c, .slice a' n' c', .slice a'' n'' c'', .slice a3 n3 c3] t)) (some ⟨b, 0, none⟩) 4 4 [l, l', l'', l3] := by
  subst hb
  refine ⟨rfl, Nat.le_refl _, by decide, (fun h => by cases h), fun x hx i u hu => ?_⟩
  cases hx
  rw [Addr.add_lit, Nat.zero_add, World.cell?_alloc_at _ _ _ _ rfl]
  match i, hu with
  | 0, hu => simp at hu; subst hu; exact ⟨a, n, c, rfl, h.below ((Gr.refl _).alloc _)⟩
  | 1, hu => simp at hu; subst hu; exact ⟨a', n', c', rfl, h'.below ((Gr.refl _).alloc _)⟩
  | 2, hu => simp at hu; subst hu; exact ⟨a'', n'', c'', rfl, h''.below ((Gr.refl _).alloc _)⟩
  | 3, hu => simp at hu; subst hu; exact ⟨a3, n3, c3, rfl, h3.below ((Gr.refl _).alloc _)⟩

/-- what a packet is written as, but for its sum; with it. -/
def packBody (m o nn : Nat) (l : List UInt8) (seed : Nat) (lp : List UInt8) : List UInt8 := [headL m o nn, rowText m l seed, lp].flatten
def packText (m o nn : Nat) (l : List UInt8) (seed : Nat) (lp : List UInt8) : List UInt8 := [headL m o nn, rowText m l seed, lp, put4 (crc (packBody m o nn l seed lp))].flatten
theorem packText_length (m o nn : Nat) (l : List UInt8) (seed : Nat) (lp : List UInt8) : (packText m o nn l seed lp).length = 10 + ((rowText m l seed).length + (lp.length + 4)) := by
  have h4 : (put4 (crc (packBody m o nn l seed lp))).length = 4 := rfl
  have hh : (headL m o nn).length = 10 := rfl
  simp only [packText, List.flatten_cons, List.flatten_nil, List.length_append, List.length_nil, h4, hh, Nat.add_zero]
theorem fitErr_row {n s q : Int} {id m o md k k' : Nat} (h : fitErr n s q id m o md k k' = 0) : rowErr md k q = 0 := by
  obtain ⟨hP, h2, _, h4, h5, _⟩ := fitErr_zero h
  obtain ⟨e1, e2⟩ := planErr_zero hP
  obtain ⟨f1, f2, f3, f4⟩ := planFit_zero e1
  have hp := planNeed_pos f1 f2
  have hw : widthE md q = 0 := widthE_ok (by omega) (by omega) (by omega)
  rw [rowErr, if_neg (by simpa using hw), if_neg (by rintro ⟨h0, h1⟩; exact h1 (h5 (by omega)))]

set_option maxRecDepth 100000 in
set_option maxHeartbeats 4000000 in
theorem packWrite_ok (n s : Int) (q : Nat) (id m nn k k' seed : Nat) (ho : id < 4294967296) (hn : nn < 4294967296) (hlo : -9223372036854775808 ≤ n) (hm : n ≤ 9223372036854775807) (hsl : -9223372036854775808 ≤ s) (hsm : s ≤ 9223372036854775807) (a a' : Option Addr) (c c' : Nat) (l lp : List UInt8) (w : World) (htab : Tab w)
    (hs : Bs w a k c l) (hs' : Bs w a' k' c' lp) (hk : k ≤ 1000000000) (hk' : k' ≤ 1000000000) (hq : q ≤ 1000000000) (h0 : fitErr n s q id m id m k k' = 0) :
    Calls Tryz.prog 34 #[.agg #[.int .u8 (m : Int), .int .u32 (id : Int), .int .u32 (nn : Int), .int .u8 (m : Int), .slice a k c, .int .u64 (seed : Int), .slice a' k' c'], .agg #[.int .i64 n, .int .i64 s, .int .i64 (q : Int), .int .u32 (id : Int)]] w fun e w' => ∃ a1 c1, e = .returned (.tuple #[.slice a1 (packText m id nn l seed lp).length c1, .int .i64 0]) ∧ OwnV w' w.heap.size (.slice a1 (packText m id nn l seed lp).length c1) (packText m id nn l seed lp) ∧ Gr w w' := by
  have CF := packFits_any n s q id m id m k k' nn seed hlo hm hsl hsm (by omega) (by omega) a a' c c'
  rw [h0] at CF
  have HF := Lib.hid CF
  have hz := fitErr_zero h0
  have hrow := fitErr_row h0
  have HH := Lib.hid fun w => headBytes_ok m id nn hz.2.1 ho hn w
  have HR := Lib.hid fun w hs => rowWrite_ok m a k c l seed q w hs (by omega) hrow
  have HS := Lib.hid hs
  have HS' := Lib.hid hs'
  have HT := Lib.hid htab
  have hwn := (widthN_le (mode := m) (k := (q : Int))).2
  obtain ⟨LH, eLH⟩ : ∃ x, headL m id nn = x := ⟨_, rfl⟩
  have hLH : LH.length = 10 := by rw [← eLH]; rfl
  have HPT : Hid (packText m id nn l seed lp = [LH, rowText m l seed, lp, put4 (crc [LH, rowText m l seed, lp].flatten)].flatten) := by
    show _ = _; rw [← eLH]; rfl
  have HLN : Hid ((packText m id nn l seed lp).length = 10 + ((rowText m l seed).length + (lp.length + 4))) := packText_length m id nn l seed lp
  have HKP := Lib.hid hs'.1
  obtain ⟨PT, ePT⟩ : ∃ x, packText m id nn l seed lp = x := ⟨_, rfl⟩
  rw [ePT] at HPT HLN ⊢
  obtain ⟨TL, eTL⟩ : ∃ x, PT.length = x := ⟨_, rfl⟩
  rw [eTL] at HLN ⊢
  have HTL := Lib.hid eTL
  clear eTL
  rw [eLH] at HH
  have HLH := Lib.hid hLH
  clear CF hz hrow h0 hs hs' htab eLH hLH ePT
  go_enter Tryz.func34, Tryz.ntmps34
  go_wp2_with fail
  refine (HF.out _).mono ?_
  rintro e w1 ⟨rfl, hg⟩
  have hgw := (((Gr.refl w).alloc _).alloc _).trans hg
  have hA := hg.heap (Gr.heap (Gr.alloc (Gr.refl _) _) (heap_alloc_new w _))
  have hB := hg.heap (heap_alloc_new _ _)
  simp only [World.alloc, Array.size_push] at hB
  obtain ⟨cc0, cc1, cc2, cc3, cc4, cc5, cc6, ff⟩ := seven_cells hA
  have HA := Lib.hid hA
  have HB := Lib.hid hB
  clear hA hB hg
  go_wp2_with fail
  refine (HH.out _).mono ?_
  rintro e w2 ⟨a2, cap2, rfl, hb2, hg2⟩
  obtain ⟨cc0, cc1, cc2, cc3, cc4, cc5, cc6, ff⟩ := seven_cells (hg2.heap HA.out)
  obtain ⟨p0, p1, p2, p3⟩ := p_four_cells (hg2.heap HB.out)
  have HA2 := Lib.hid (hg2.heap HA.out)
  have hgw2 := hgw.trans hg2
  have HB2 := Lib.hid hb2.bs2.1
  clear hg2 hgw HA HB hb2
  go_wp2_with fail
  refine (HR.out _ (HS.out.below hgw2)).mono ?_
  rintro e w3 ⟨v3, rfl, ⟨a3, cap3, rfl, hb3, _, hg3⟩, hlr⟩
  obtain ⟨LR, eLR⟩ : ∃ x, rowText m l seed = x := ⟨_, rfl⟩
  rw [eLR] at HPT HLN hb3 hlr ⊢
  have HA3 := Lib.hid (hg3.heap HA2.out)
  have hgw3 := hgw2.trans hg3
  have h2 := HB2.out.below hg3
  have h3 := HS'.out.below hgw3
  have HX2 := Lib.hid h2
  have HX3 := Lib.hid hb3
  have HX4 := Lib.hid h3
  have HW3 := Lib.hid hgw3
  have hLR : LR.length ≤ 4096 := by omega
  clear hg3 hgw2 hgw3 hlr h2 h3 hb3 eLR HA2 HB2
  go_wp2
  obtain ⟨_, _, _, _, _, _, d6, _⟩ := seven_cells HA3.out
  obtain ⟨CR, eCR⟩ : ∃ x, crc [LH, LR, lp].flatten = x := ⟨_, rfl⟩
  have hcl := crc_lt [LH, LR, lp].flatten
  rw [eCR] at HPT hcl
  have HCR := Lib.hid eCR
  have HCL := Lib.hid hcl
  have HFL : Hid ([LH, LR, lp, put4 CR].flatten.length = TL) := by show _ = _; rw [← HPT.out]; exact HTL.out
  have hT0 : 0 < TL := by have := HLN.out; omega
  have hTm : TL ≤ 140737488355328 := by have := HLN.out; have := HKP.out; omega
  clear eCR hcl cc0 cc1 cc2 cc3 cc4 cc5 cc6 ff p0 p1 p2 p3
  have hup : Nonempty (Up Gr w3.drew) := ⟨⟨_, Gr.refl _⟩⟩
  have u6 : ∀ x : Up Gr w3.drew, x.w.cell? ⟨w.heap.size, 6, none⟩ = some (.slice a' k' c') := fun x => Gr.cell x.rel d6
  refine wp_region_rg [.reck, .reck, .reck, .reck, .reck, .reck, .reck, .reck, spBss 3 [LH, LR, lp], spV (.int .u32 (CR : Int)), spB 4 (put4 CR), spBss 4 [LH, LR, lp, put4 CR], spO w.heap.size TL PT, .reck, .reck] Gr (by kernel_rfl) (by kernel_rfl) Gr.refl (fun _ _ _ => Gr.trans) ?_
  (refine wpRG_reck rfl (fun K hK => ?_); go_big_quiet_op; refine hK _ ?_; clear hK K)
  (refine wpRG_reck rfl (fun K hK => ?_); go_big_quiet_op; refine hK _ ?_; clear hK K)
  (refine wpRG_reck rfl (fun K hK => ?_); go_big_quiet_op; refine hK _ ?_; clear hK K)
  (refine wpRG_reck rfl (fun K hK => ?_); go_big_quiet_op; refine hK _ ?_; clear hK K)
  (refine wpRG_reck rfl (fun K hK => ?_); go_big_quiet_op; refine hK _ ?_; clear hK K)
  (refine wpRG_reck rfl (fun K hK => ?_); go_big_quiet_op; refine hK _ ?_; clear hK K)
  (refine wpRG_reck rfl (fun K hK => ?_); go_big_quiet_op; refine hK _ ?_; clear hK K)
  (refine wpRG_reck rfl (fun K hK => ?_); go_big_quiet_op; refine hK _ ?_; clear hK K)
  refine wpRG_any rfl (fun x w w' hg h => h.below hg) (fun W hw hF R hR => ?_) ?_
  · (have HF := Lib.hid hF; clear hF; unfold rgAt; go_simp)
    have hw0 := (Gr.refl w3).drew.trans hw
    exact hR (some ⟨W.heap.size, 0, none⟩, 3) _ ((Gr.refl _).alloc _) (Bss.of_alloc3 (HX2.out.below hw0) (HX3.out.below hw0) (HX4.out.below hw0) rfl)
  rintro ⟨a8, cap8⟩
  (simp only [Act.put, List.setIfInBounds_toArray, List.set_cons_zero, List.set_cons_succ])
  refine wpRG_any rfl (fun _ _ _ _ h => h) (fun W hw hF R hR => ?_) ?_
  · have h8 : Bss W a8 3 cap8 [LH, LR, lp] := hF 8 (by kernel_rfl)
    (have HF := Lib.hid hF; clear hF; unfold rgAt; go_simp)
    show Calls _ _ _ _ _
    have hw0 := HW3.out.drew.trans hw
    refine (of_any a8 3 cap8 _ W (HT.out.below hw0) h8).mono ?_
    rintro e w8 ⟨rfl, hg8⟩
    exact ⟨_, by rw [HCR.out], hR () _ hg8 trivial⟩
  rintro ⟨⟩
  (simp only [Act.put, List.setIfInBounds_toArray, List.set_cons_zero, List.set_cons_succ])
  refine wpRG_any rfl (fun x w w' hg h => h.below hg) (fun W hw hF R hR => ?_) ?_
  · (have HF := Lib.hid hF; clear hF; unfold rgAt; go_simp)
    show Calls _ _ _ _ _
    refine (sumPut4_any CR HCL.out W).mono ?_
    rintro e w6 ⟨a6, cap6, rfl, hb6, hg6⟩
    exact ⟨_, rfl, hR (a6, cap6) _ hg6 hb6⟩
  rintro ⟨a10, cap10⟩
  (simp only [Act.put, List.setIfInBounds_toArray, List.set_cons_zero, List.set_cons_succ])
  refine wpRG_any rfl (fun x w w' hg h => h.below hg) (fun W hw hF R hR => ?_) ?_
  · have h10 : Bs W a10 4 cap10 (put4 CR) := hF 10 (by kernel_rfl)
    (have HF := Lib.hid hF; clear hF; unfold rgAt; go_simp)
    have hw0 := (Gr.refl w3).drew.trans hw
    exact hR (some ⟨W.heap.size, 0, none⟩, 4) _ ((Gr.refl _).alloc _) (Bss.of_alloc4 (HX2.out.below hw0) (HX3.out.below hw0) (HX4.out.below hw0) h10 rfl)
  rintro ⟨a11, cap11⟩
  (simp only [Act.put, List.setIfInBounds_toArray, List.set_cons_zero, List.set_cons_succ])
  refine wpRG_any rfl (fun x w w' hg h => OwnV.gr h hg) (fun W hw hF R hR => ?_) ?_
  · have h11 : Bss W a11 4 cap11 [LH, LR, lp, put4 CR] := hF 11 (by kernel_rfl)
    (have HF := Lib.hid hF; clear hF; unfold rgAt; go_simp)
    show Calls _ _ _ _ _
    refine (sliceConcat_own _ 4 _ [LH, LR, lp, put4 CR] TL HFL.out hT0 hTm W h11).mono ?_
    rintro e w6 ⟨v, rfl, ho6, hg6⟩
    rw [← HPT.out] at ho6
    obtain ⟨a6, cap6, rfl, _⟩ := ho6.slice
    rw [HTL.out] at ho6 ⊢
    exact ⟨_, rfl, hR (a6, cap6) _ hg6 (ho6.mono (HW3.out.drew.trans hw).size)⟩
  rintro ⟨aa, capa⟩
  (simp only [Act.put, List.setIfInBounds_toArray, List.set_cons_zero, List.set_cons_succ])
  (refine wpRG_reck rfl (fun K hK => ?_); go_big_quiet_op; refine hK _ ?_; clear hK K)
  (refine wpRG_reck rfl (fun K hK => ?_); go_big_quiet_op; refine hK _ ?_; clear hK K)
  refine wpRG_end fun W hw hF => ?_
  have hb : OwnV W w.heap.size (.slice aa TL capa) PT := hF 12
  have hgW : Gr w W := HW3.out.drew.trans hw
  clear hF
  refine wpList_nil ?_
  go_wp2
  go_ret2
  exact ⟨aa, capa, rfl, hb, hgW⟩

set_option maxRecDepth 100000 in
set_option maxHeartbeats 2000000 in
theorem packWrite_bad (n s q : Int) (id m o md k k' : Nat) (nn sd : Int) (hlo : -9223372036854775808 ≤ n) (hm : n ≤ 9223372036854775807) (hsl : -9223372036854775808 ≤ s) (hsm : s ≤ 9223372036854775807) (hk : k ≤ 9223372036854775807) (hk' : k' ≤ 9223372036854775807) (a a' : Option Addr) (c c' : Nat) (w : World) (h0 : fitErr n s q id m o md k k' ≠ 0) :
    Calls Tryz.prog 34 #[.agg #[.int .u8 (m : Int), .int .u32 (o : Int), .int .u32 nn, .int .u8 (md : Int), .slice a k c, .int .u64 sd, .slice a' k' c'], .agg #[.int .i64 n, .int .i64 s, .int .i64 q, .int .u32 (id : Int)]] w fun e w' => e = .returned (.tuple #[.slice none 0 0, .int .i64 (fitErr n s q id m o md k k' : Nat)]) ∧ Gr w w' := by
  have CF := packFits_any n s q id m o md k k' nn sd hlo hm hsl hsm hk hk' a a' c c'
  obtain ⟨E, hE⟩ : ∃ E, fitErr n s q id m o md k k' = E := ⟨_, rfl⟩
  rw [hE] at CF h0 ⊢
  have HF := Lib.hid CF
  have ht : ((E : Int) != 0) = true := by rw [bne_iff_ne]; omega
  clear CF h0 hE
  go_enter Tryz.func34, Tryz.ntmps34
  go_wp2_with fail
  refine (HF.out _).mono ?_
  rintro e w1 ⟨rfl, hg⟩
  have hgw := (((Gr.refl w).alloc _).alloc _).trans hg
  clear hg
  go_wp2
  go_ret2
  exact ⟨rfl, hgw⟩
end Go.Proofs.YtddopoojmadpjaaGreatDoor

namespace Go.Proofs.YtddopoojmadpjaaGreatDoor
open Go.RowKit
set_option linter.unusedVariables false

set_option maxRecDepth 100000 in
set_option maxHeartbeats 2000000 in
theorem packEq_bad (n s q : Int) (id m o md k k' : Nat) (nn sd : Int) (hlo : -9223372036854775808 ≤ n) (hm : n ≤ 9223372036854775807) (hsl : -9223372036854775808 ≤ s) (hsm : s ≤ 9223372036854775807) (hk : k ≤ 9223372036854775807) (hk' : k' ≤ 9223372036854775807) (a a' : Option Addr) (c c' : Nat) (w : World) (h0 : fitErr n s q id m o md k k' ≠ 0) :
    Calls Tryz.prog 40 #[.agg #[.int .u8 (m : Int), .int .u32 (o : Int), .int .u32 nn, .int .u8 (md : Int), .slice a k c, .int .u64 sd, .slice a' k' c'], .agg #[.int .i64 n, .int .i64 s, .int .i64 q, .int .u32 (id : Int)]] w fun e w' => e = .returned (.tuple #[.agg #[.slice none 0 0, .slice none 0 0], .int .i64 (fitErr n s q id m o md k k' : Nat)]) ∧ Gr w w' := by
  have CF := packFits_any n s q id m o md k k' nn sd hlo hm hsl hsm hk hk' a a' c c'
  obtain ⟨E, hE⟩ : ∃ E, fitErr n s q id m o md k k' = E := ⟨_, rfl⟩
  rw [hE] at CF h0 ⊢
  have HF := Lib.hid CF
  have ht : ((E : Int) != 0) = true := by rw [bne_iff_ne]; omega
  clear CF h0 hE
  go_enter Tryz.func40, Tryz.ntmps40
  go_wp2_with fail
  refine (HF.out _).mono ?_
  rintro e w1 ⟨rfl, hg⟩
  have hgw := ((((Gr.refl w).alloc _).alloc _).alloc _).trans hg
  have hB := hg.heap (heap_alloc_new _ _)
  simp only [World.alloc, Array.size_push] at hB
  obtain ⟨x0, x1, xf⟩ := two_cells hB
  obtain ⟨hgb, hh⟩ := two_set hB (.slice none 0 0) (.slice none 0 0)
  have HG := Lib.hid (hgw.grb hgb (by omega))
  obtain ⟨y0, y1, _⟩ := two_cells hh
  clear hg hB hgb hh hgw
  go_wp2
  refine bodyPost_ret (v := .tuple #[.agg #[.slice none 0 0, .slice none 0 0], .int .i64 (E : Int)]) ?_ rfl ⟨rfl, HG.out⟩
  simp [results, Tryz.results40, go_sem, y0, y1]

set_option maxRecDepth 100000 in
set_option maxHeartbeats 2000000 in
theorem packEq_ok (n s : Int) (q : Nat) (id m nn k k' seed : Nat) (hsd : seed < 18446744073709551616) (hlo : -9223372036854775808 ≤ n) (hm : n ≤ 9223372036854775807) (hsl : -9223372036854775808 ≤ s) (hsm : s ≤ 9223372036854775807) (a a' : Option Addr) (c c' : Nat) (l lp : List UInt8) (w : World)
    (hs : Bs w a k c l) (hs' : Bs w a' k' c' lp) (hk : k ≤ 1000000000) (hk' : k' ≤ 1000000000) (hq : q ≤ 1000000000) (h0 : fitErr n s q id m id m k k' = 0) :
    Calls Tryz.prog 40 #[.agg #[.int .u8 (m : Int), .int .u32 (id : Int), .int .u32 (nn : Int), .int .u8 (m : Int), .slice a k c, .int .u64 (seed : Int), .slice a' k' c'], .agg #[.int .i64 n, .int .i64 s, .int .i64 (q : Int), .int .u32 (id : Int)]] w fun e w' => ∃ a1 c1 a2 c2, e = .returned (.tuple #[.agg #[.slice a1 q c1, .slice a2 k' c2], .int .i64 0]) ∧ OwnV w' w.heap.size (.slice a1 q c1) (rowVec m l seed q) ∧ OwnV w' w.heap.size (.slice a2 k' c2) lp ∧ Gr w w' := by
  have CF := packFits_any n s q id m id m k k' nn seed hlo hm hsl hsm (by omega) (by omega) a a' c c'
  rw [h0] at CF
  have HF := Lib.hid CF
  have hrow := fitErr_row h0
  have HR := Lib.hid fun w hs => rowVector_ok m a k c l seed hsd q w hs (by omega) hrow
  have HS := Lib.hid hs
  have HS' := Lib.hid hs'
  clear CF hrow h0 hs hs'
  go_enter Tryz.func40, Tryz.ntmps40
  go_wp2_with fail
  refine (HF.out _).mono ?_
  rintro e w1 ⟨rfl, hg⟩
  have hgw := ((((Gr.refl w).alloc _).alloc _).alloc _).trans hg
  have hA := hg.heap (Gr.heap (Gr.alloc (Gr.alloc (Gr.refl _) _) _) (heap_alloc_new w _))
  have hP := hg.heap (Gr.heap (Gr.alloc (Gr.refl _) _) (heap_alloc_new _ _))
  have hB := hg.heap (heap_alloc_new _ _)
  simp only [World.alloc, Array.size_push] at hB hP
  obtain ⟨cc0, cc1, cc2, cc3, cc4, cc5, cc6, ff⟩ := seven_cells hA
  obtain ⟨p0, p1, p2, p3⟩ := p_four_cells hP
  have HA := Lib.hid hA
  have HB := Lib.hid hB
  clear hA hB hP hg
  go_wp2_with fail
  refine (HR.out _ (HS.out.below hgw)).mono ?_
  rintro e w2 ⟨v2, rfl, ⟨a2, cap2, rfl, hb2, _, hg2⟩, hl2⟩
  rw [hl2] at hb2 ⊢
  obtain ⟨V, eV⟩ : ∃ V, rowVec m l seed q = V := ⟨_, rfl⟩
  rw [eV] at hb2
  have HEV := Lib.hid eV
  obtain ⟨_, _, _, _, _, _, d6, _⟩ := seven_cells (hg2.heap HA.out)
  have hgw2 := hgw.trans hg2
  have HB2 := Lib.hid (hg2.heap HB.out)
  have HX := Lib.hid (HS'.out.below hgw2)
  have HY := Lib.hid hb2
  have hzw := hgw2.size
  clear hg2 hgw HA HB hb2 hl2 eV cc0 cc1 cc2 cc3 cc4 cc5 cc6 ff p0 p1 p2 p3
  go_wp2_with fail
  refine (vecOf_any a2 a' q cap2 k' c' _ _ w2 HY.out HX.out (by omega) (by omega)).mono ?_
  rintro e w3 ⟨a3, c3, a4, c4, rfl, ho3, ho4, hg3⟩
  have hB3 := hg3.heap HB2.out
  have hlt := lt_of_block HB2.out
  obtain ⟨x0, x1, xf⟩ := two_cells hB3
  obtain ⟨hgb, hh⟩ := two_set hB3 (.slice a3 q c3) (.slice a4 k' c4)
  have HG := Lib.hid ((hgw2.trans hg3).grb hgb (by omega))
  have HO3 := Lib.hid ((ho3.grb hgb (fun y hy => by have := ho3.bs2.2 y hy; omega)).mono (b' := w.heap.size) hzw)
  have HO4 := Lib.hid ((ho4.grb hgb (fun y hy => by have := ho4.bs2.2 y hy; omega)).mono (b' := w.heap.size) hzw)
  obtain ⟨y0, y1, _⟩ := two_cells hh
  clear hB3 hgb hh hg3 hgw2 ho3 ho4 HB2
  go_wp2
  refine bodyPost_ret (v := .tuple #[.agg #[.slice a3 q c3, .slice a4 k' c4], .int .i64 0]) ?_ rfl ⟨a3, c3, a4, c4, rfl, by rw [HEV.out]; exact HO3.out, HO4.out, HG.out⟩
  simp [results, Tryz.results40, go_sem, y0, y1]
end Go.Proofs.YtddopoojmadpjaaGreatDoor

namespace Go.Proofs.YtddopoojmadpjaaGreatDoor
open Go.RowKit
set_option linter.unusedVariables false

/-- what a packet is written as, where nothing is wrong; its vector; what it carries. -/
def wText (n s q : Int) (id m o nn md : Nat) (l : List UInt8) (seed : Nat) (lp : List UInt8) : List UInt8 := if fitErr n s q id m o md l.length lp.length = 0 then packText m o nn l seed lp else []
def wVec (n s q : Int) (id m o nn md : Nat) (l : List UInt8) (seed : Nat) (lp : List UInt8) : List UInt8 := if fitErr n s q id m o md l.length lp.length = 0 then rowVec m l seed q.toNat else []
def wData (n s q : Int) (id m o nn md : Nat) (l : List UInt8) (seed : Nat) (lp : List UInt8) : List UInt8 := if fitErr n s q id m o md l.length lp.length = 0 then lp else []

theorem fitErr_q {n s q : Int} {id m o md k k' : Nat} (h : fitErr n s q id m o md k k' = 0) : ∃ q' : Nat, q = (q' : Int) ∧ q' ≤ 4096 := by
  obtain ⟨hP, _⟩ := fitErr_zero h
  obtain ⟨e1, e2⟩ := planErr_zero hP
  obtain ⟨f1, f2, f3, f4⟩ := planFit_zero e1
  have hp := planNeed_pos f1 f2
  exact ⟨q.toNat, by omega, by omega⟩

theorem packWrite_all (n s q : Int) (id m o nn md k k' seed : Nat) (hid : id < 4294967296) (hn : nn < 4294967296) (hlo : -9223372036854775808 ≤ n) (hm : n ≤ 9223372036854775807) (hsl : -9223372036854775808 ≤ s) (hsm : s ≤ 9223372036854775807) (a a' : Option Addr) (c c' : Nat) (l lp : List UInt8) (w : World) (htab : Tab w)
    (hs : Bs w a k c l) (hs' : Bs w a' k' c' lp) (hk : k ≤ 1000000000) (hk' : k' ≤ 1000000000) :
    Calls Tryz.prog 34 #[.agg #[.int .u8 (m : Int), .int .u32 (o : Int), .int .u32 (nn : Int), .int .u8 (md : Int), .slice a k c, .int .u64 (seed : Int), .slice a' k' c'], .agg #[.int .i64 n, .int .i64 s, .int .i64 q, .int .u32 (id : Int)]] w fun e w' => ∃ a1 k1 c1, e = .returned (.tuple #[.slice a1 k1 c1, .int .i64 (fitErr n s q id m o md k k' : Nat)]) ∧ OwnV w' w.heap.size (.slice a1 k1 c1) (wText n s q id m o nn md l seed lp) ∧ Gr w w' := by
  unfold wText
  rw [hs.1, hs'.1]
  by_cases h0 : fitErr n s q id m o md k k' = 0
  · obtain ⟨q', rfl, hq'⟩ := fitErr_q h0
    obtain ⟨_, _, h3, h4, _⟩ := fitErr_zero h0
    subst h3 h4
    rw [if_pos h0, h0]
    refine (packWrite_ok n s q' o md nn k k' seed hid hn hlo hm hsl hsm a a' c c' l lp w htab hs hs' hk hk' (by omega) h0).mono ?_
    rintro e w' ⟨a1, c1, he, ho, hg⟩
    exact ⟨a1, _, c1, he, ho, hg⟩
  · rw [if_neg h0]
    refine (packWrite_bad n s q id m o md k k' nn seed hlo hm hsl hsm (by omega) (by omega) a a' c c' w h0).mono ?_
    rintro e w' ⟨he, hg⟩
    exact ⟨none, 0, 0, he, OwnV.nil _ _, hg⟩

theorem packEq_all (n s q : Int) (id m o nn md k k' seed : Nat) (hsd : seed < 18446744073709551616) (hlo : -9223372036854775808 ≤ n) (hm : n ≤ 9223372036854775807) (hsl : -9223372036854775808 ≤ s) (hsm : s ≤ 9223372036854775807) (a a' : Option Addr) (c c' : Nat) (l lp : List UInt8) (w : World)
    (hs : Bs w a k c l) (hs' : Bs w a' k' c' lp) (hk : k ≤ 1000000000) (hk' : k' ≤ 1000000000) :
    Calls Tryz.prog 40 #[.agg #[.int .u8 (m : Int), .int .u32 (o : Int), .int .u32 (nn : Int), .int .u8 (md : Int), .slice a k c, .int .u64 (seed : Int), .slice a' k' c'], .agg #[.int .i64 n, .int .i64 s, .int .i64 q, .int .u32 (id : Int)]] w fun e w' => ∃ a1 k1 c1 a2 k2 c2, e = .returned (.tuple #[.agg #[.slice a1 k1 c1, .slice a2 k2 c2], .int .i64 (fitErr n s q id m o md k k' : Nat)]) ∧ OwnV w' w.heap.size (.slice a1 k1 c1) (wVec n s q id m o nn md l seed lp) ∧ OwnV w' w.heap.size (.slice a2 k2 c2) (wData n s q id m o nn md l seed lp) ∧ Gr w w' := by
  unfold wVec wData
  rw [hs.1, hs'.1]
  by_cases h0 : fitErr n s q id m o md k k' = 0
  · obtain ⟨q', rfl, hq'⟩ := fitErr_q h0
    obtain ⟨_, _, h3, h4, _⟩ := fitErr_zero h0
    subst h3 h4
    rw [if_pos h0, if_pos h0, h0]
    refine (packEq_ok n s q' o md nn k k' seed hsd hlo hm hsl hsm a a' c c' l lp w hs hs' hk hk' (by omega) h0).mono ?_
    rintro e w' ⟨a1, c1, a2, c2, he, ho, ho', hg⟩
    exact ⟨a1, _, c1, a2, _, c2, he, ho, ho', hg⟩
  · rw [if_neg h0, if_neg h0]
    refine (packEq_bad n s q id m o md k k' nn seed hlo hm hsl hsm (by omega) (by omega) a a' c c' w h0).mono ?_
    rintro e w' ⟨he, hg⟩
    exact ⟨none, 0, 0, none, 0, 0, he, OwnV.nil _ _, OwnV.nil _ _, hg⟩
end Go.Proofs.YtddopoojmadpjaaGreatDoor
