/-
  Two takers that are fed in turn: what is known of both; two orders of one set of packets.
-/
import Derived.Test.YtddopoojmadpjaaGreatDoorSummed
import Derived.Test.YtddopoojmadpjaaGreatDoorAppendM
namespace Go.Proofs.YtddopoojmadpjaaGreatDoor
open Go.RowKit
set_option linter.unusedVariables false

theorem GrS.size_ {S : Nat → Prop} {w w' : World} (h : GrS S w w') : w.heap.size ≤ w'.heap.size := h.size

/-- TWO TAKERS, t and u; blocks that they leave. -/
def MixSt (w wr : World) (n s q id : Nat) (D : List UInt8 → List UInt8) (Tt Et Tu Eu m : Nat) (tv uv : List (List UInt8)) (K : Nat → Prop) : Prop :=
  ∃ St Su : Nat → Prop, TakS wr St Tt Et n s q id (putAll [] tv) D m ∧ TakS wr Su Tu Eu n s q id (putAll [] uv) D m ∧ (∀ b, St b → w.heap.size ≤ b) ∧ (∀ b, Su b → w.heap.size ≤ b) ∧ (∀ b, St b → ¬ Su b) ∧ ¬ St Tu ∧ ¬ Su Tt ∧ w.heap.size ≤ Tt ∧ w.heap.size ≤ Tu ∧ Tt ≠ Tu ∧ Gr w wr ∧ ∀ b, K b → ¬ St b ∧ ¬ Su b ∧ b ≠ Tt ∧ b ≠ Tu ∧ b < wr.heap.size
theorem MixSt.swap {w wr : World} {n s q id : Nat} {D : List UInt8 → List UInt8} {Tt Et Tu Eu m : Nat} {tv uv : List (List UInt8)} {K : Nat → Prop} (h : MixSt w wr n s q id D Tt Et Tu Eu m tv uv K) : MixSt w wr n s q id D Tu Eu Tt Et m uv tv K := by
  obtain ⟨St, Su, h1, h2, h3, h4, h5, h6, h7, h8, h9, h10, h11, h12⟩ := h
  exact ⟨Su, St, h2, h1, h4, h3, fun b hb ht => h5 b ht hb, h7, h6, h9, h8, fun e => h10 e.symm, h11, fun b hb => by obtain ⟨k1, k2, k3, k4, k5⟩ := h12 b hb; exact ⟨k2, k1, k4, k3, k5⟩⟩
theorem MixSt.grow {w wr : World} {n s q id : Nat} {D : List UInt8 → List UInt8} {Tt Et Tu Eu m : Nat} {tv uv : List (List UInt8)} {K : Nat → Prop} (h : MixSt w wr n s q id D Tt Et Tu Eu m tv uv K) : Gr w wr := by
  obtain ⟨St, Su, h1, h2, h3, h4, h5, h6, h7, h8, h9, h10, h11, h12⟩ := h; exact h11
theorem MixSt.gr {w wr w' : World} {n s q id : Nat} {D : List UInt8 → List UInt8} {Tt Et Tu Eu m : Nat} {tv uv : List (List UInt8)} {K : Nat → Prop} (h : MixSt w wr n s q id D Tt Et Tu Eu m tv uv K) (hg : Gr wr w') : MixSt w w' n s q id D Tt Et Tu Eu m tv uv K := by
  obtain ⟨St, Su, h1, h2, h3, h4, h5, h6, h7, h8, h9, h10, h11, h12⟩ := h
  exact ⟨St, Su, h1.gr hg, h2.gr hg, h3, h4, h5, h6, h7, h8, h9, h10, h11.trans hg, fun b hb => by obtain ⟨k1, k2, k3, k4, k5⟩ := h12 b hb; exact ⟨k1, k2, k3, k4, Nat.lt_of_lt_of_le k5 hg.size⟩⟩
theorem MixSt.more {w wr : World} {n s q id : Nat} {D : List UInt8 → List UInt8} {Tt Et Tu Eu m m' : Nat} {tv uv : List (List UInt8)} {K : Nat → Prop} (h : MixSt w wr n s q id D Tt Et Tu Eu m tv uv K) (hm : m ≤ m') : MixSt w wr n s q id D Tt Et Tu Eu m' tv uv K := by
  obtain ⟨St, Su, h1, h2, r⟩ := h
  exact ⟨St, Su, h1.more hm, h2.more hm, r⟩
/-- .. a new block is left alone. -/
theorem MixSt.keep {w wr : World} {n s q id : Nat} {D : List UInt8 → List UInt8} {Tt Et Tu Eu m : Nat} {tv uv : List (List UInt8)} {K : Nat → Prop} (h : MixSt w wr n s q id D Tt Et Tu Eu m tv uv K) (c : Obj) : MixSt w (wr.alloc c) n s q id D Tt Et Tu Eu m tv uv (fun b => b = wr.heap.size) := by
  obtain ⟨St, Su, h1, h2, h3, h4, h5, h6, h7, h8, h9, h10, h11, h12⟩ := h
  have hg := (Gr.refl wr).alloc c
  have e1 := h1.lt
  have e2 := h2.lt
  have e3 : ∀ b, St b → b < wr.heap.size := by obtain ⟨_, _, _, _, _, _, _, _, h, _⟩ := h1; exact h
  have e4 : ∀ b, Su b → b < wr.heap.size := by obtain ⟨_, _, _, _, _, _, _, _, h, _⟩ := h2; exact h
  refine ⟨St, Su, h1.gr hg, h2.gr hg, h3, h4, h5, h6, h7, h8, h9, h10, h11.trans hg, fun b hb => ?_⟩
  subst hb
  exact ⟨fun h => by have := e3 _ h; omega, fun h => by have := e4 _ h; omega, by omega, by omega, by rw [World.size_alloc]; omega⟩
theorem MixSt.drop {w wr : World} {n s q id : Nat} {D : List UInt8 → List UInt8} {Tt Et Tu Eu m : Nat} {tv uv : List (List UInt8)} {K : Nat → Prop} (h : MixSt w wr n s q id D Tt Et Tu Eu m tv uv K) : MixSt w wr n s q id D Tt Et Tu Eu m tv uv (fun _ => False) := by
  obtain ⟨St, Su, h1, h2, h3, h4, h5, h6, h7, h8, h9, h10, h11, h12⟩ := h
  exact ⟨St, Su, h1, h2, h3, h4, h5, h6, h7, h8, h9, h10, h11, fun b hb => hb.elim⟩
/-- t takes a packet. -/
theorem MixSt.take {w wr : World} {n s q id : Nat} {D : List UInt8 → List UInt8} {Tt Et Tu Eu m : Nat} {tv uv : List (List UInt8)} {K : Nat → Prop} (h : MixSt w wr n s q id D Tt Et Tu Eu m tv uv K) (hP : planErr n s q = 0) (hnm : n ≤ 1000000000) (hD : Lin D q s) (hm : m ≤ 1000) (htab : Tab w) (a : Option Addr) (len cap : Nat) (l v : List UInt8) (hs : Bs w a len cap l) (hg : Goodp n s q id D l v) (hl : l.length ≤ 1000000) :
    Calls Tryz.prog 16 #[.pointer (some ⟨Tt, 0, none⟩), .slice a len cap] wr fun e w' => e = .returned (.int .i64 0) ∧ MixSt w w' n s q id D Tt Et Tu Eu (m + 1) (tv ++ [v]) uv K ∧ ∀ b, K b → w'.heap[b]? = wr.heap[b]? := by
  obtain ⟨St, Su, h1, h2, h3, h4, h5, h6, h7, h8, h9, h10, h11, h12⟩ := h
  refine (take_all Tt Et n s q id St hP hnm (putAll [] tv) D hD m hm a len cap l v wr (htab.below h11) (hs.below h11) (by rw [← hs.1]; exact hl) h1 hg).mono ?_
  rintro e w' ⟨he, S', hS', hts, hgs⟩
  have hltu := h2.lt
  have hlt2 : ∀ b, Su b → b < wr.heap.size := by obtain ⟨_, _, _, _, _, _, _, _, h, _⟩ := h2; exact h
  have hu : TakS w' Su Tu Eu n s q id (putAll [] uv) D (m + 1) := (h2.grS hgs (fun hb => hb.elim (fun e => h10 e.symm) h6) (fun b hb hb2 => hb2.elim (fun e => h7 (e ▸ hb)) (fun h => h5 b h hb))).more (by omega)
  refine ⟨he, ⟨S', Su, by rw [putAll_snoc]; exact hts, hu, fun b hb => (hS' b hb).elim (h3 b) (fun h => Nat.le_trans h11.size h), h4, fun b hb hu => (hS' b hb).elim (fun h => h5 b h hu) (fun h => by have := hlt2 b hu; omega), fun hb => (hS' _ hb).elim h6 (fun h => by omega), h7, h8, h9, h10, GrS.to_gr h11 hgs (fun b hb => hb.elim (fun e => by omega) (h3 b)), fun b hb => ?_⟩, fun b hb => ?_⟩
  · obtain ⟨k1, k2, k3, k4, k5⟩ := h12 b hb
    exact ⟨fun h => (hS' b h).elim k1 (fun h => by omega), k2, k3, k4, Nat.lt_of_lt_of_le k5 hgs.size⟩
  · obtain ⟨k1, k2, k3, k4, k5⟩ := h12 b hb
    obtain ⟨c, hc⟩ : ∃ c, wr.heap[b]? = some c := ⟨_, Array.getElem?_eq_getElem k5⟩
    rw [hc]
    exact hgs.heap hc (fun h => h.elim k3 k1)

/-- three, by number. -/
def tri {α : Type} (a b c : α) : Nat → α
  | 0 => a
  | 1 => b
  | _ => c
/-- what lies at round (i, k) behind: each earlier one was taken. -/
def Fed (L : Nat → List (List UInt8)) (i k : Nat) (tv uv : List (List UInt8)) : Prop :=
  (∀ v, v ∈ tv → ∃ k, k < 3 ∧ v ∈ L k) ∧ (∀ v, v ∈ uv → ∃ k, k < 3 ∧ v ∈ L k) ∧ ∀ (i' k' : Nat) (v : List UInt8), k' < 3 → (i' < i ∨ (i' = i ∧ k' < k)) → (L k')[i']? = some v → v ∈ tv ∧ (0 < k' → v ∈ uv)
theorem Fed.nil (L : Nat → List (List UInt8)) : Fed L 0 0 [] [] := ⟨fun v h => (by cases h), fun v h => (by cases h), fun i' k' v _ h => by omega⟩
theorem Fed.row {L : Nat → List (List UInt8)} {i : Nat} {tv uv : List (List UInt8)} (h : Fed L i 3 tv uv) : Fed L (i + 1) 0 tv uv :=
  ⟨h.1, h.2.1, fun i' k' v hk hi hv => h.2.2 i' k' v hk (by omega) hv⟩
theorem Fed.skip {L : Nat → List (List UInt8)} {i k : Nat} {tv uv : List (List UInt8)} (h : Fed L i k tv uv) (hn : (L k)[i]? = none) : Fed L i (k + 1) tv uv := by
  refine ⟨h.1, h.2.1, fun i' k' v hk hi hv => ?_⟩
  by_cases e : i' = i ∧ k' = k
  · obtain ⟨rfl, rfl⟩ := e; rw [hn] at hv; cases hv
  · exact h.2.2 i' k' v hk (by omega) hv
theorem Fed.one {L : Nat → List (List UInt8)} {i : Nat} {tv uv : List (List UInt8)} {v : List UInt8} (h : Fed L i 0 tv uv) (hv : (L 0)[i]? = some v) : Fed L i 1 (tv ++ [v]) uv := by
  refine ⟨fun u hu => ?_, h.2.1, fun i' k' u hk hi hu => ?_⟩
  · rcases List.mem_append.1 hu with hu | hu
    · exact h.1 u hu
    · rw [List.mem_singleton.1 hu]; exact ⟨0, by omega, List.mem_of_getElem? hv⟩
  · by_cases e : i' = i ∧ k' = 0
    · obtain ⟨rfl, rfl⟩ := e
      rw [hv] at hu; cases hu
      exact ⟨List.mem_append.2 (.inr (List.mem_singleton.2 rfl)), fun h => by omega⟩
    · obtain ⟨h1, h2⟩ := h.2.2 i' k' u hk (by omega) hu
      exact ⟨List.mem_append.2 (.inl h1), h2⟩
theorem Fed.both {L : Nat → List (List UInt8)} {i k : Nat} {tv uv : List (List UInt8)} {v : List UInt8} (h : Fed L i k tv uv) (hk : k < 3) (hv : (L k)[i]? = some v) : Fed L i (k + 1) (tv ++ [v]) (uv ++ [v]) := by
  refine ⟨fun u hu => ?_, fun u hu => ?_, fun i' k' u hk hi hu => ?_⟩
  · rcases List.mem_append.1 hu with hu | hu
    · exact h.1 u hu
    · rw [List.mem_singleton.1 hu]; exact ⟨k, hk, List.mem_of_getElem? hv⟩
  · rcases List.mem_append.1 hu with hu | hu
    · exact h.2.1 u hu
    · rw [List.mem_singleton.1 hu]; exact ⟨k, hk, List.mem_of_getElem? hv⟩
  · by_cases e : i' = i ∧ k' = k
    · obtain ⟨rfl, rfl⟩ := e
      rw [hv] at hu; cases hu
      exact ⟨List.mem_append.2 (.inr (List.mem_singleton.2 rfl)), fun _ => List.mem_append.2 (.inr (List.mem_singleton.2 rfl))⟩
    · obtain ⟨h1, h2⟩ := h.2.2 i' k' u hk (by omega) hu
      exact ⟨List.mem_append.2 (.inl h1), fun h => List.mem_append.2 (.inl (h2 h))⟩
/-- BOTH KNOW THE SAME: the first list lies in the third one's span. -/
theorem Fed.one_set {L : Nat → List (List UInt8)} {i k : Nat} {tv uv : List (List UInt8)} {q : Nat} (h : Fed L i k tv uv) (hi : ∀ k, k < 3 → (L k).length ≤ i) (hq : ∀ k v, k < 3 → v ∈ L k → v.length = q) (h0 : ∀ x, In (L 0) x → Sp (In (L 2)) x) : putAll [] tv = putAll [] uv := by
  have hin : ∀ (k' : Nat) v, k' < 3 → v ∈ L k' → v ∈ tv ∧ (0 < k' → v ∈ uv) := fun k' v hk hv => by
    obtain ⟨j, hj, rfl⟩ := List.getElem_of_mem hv
    exact h.2.2 j k' _ hk (by have := hi k' hk; omega) (List.getElem?_eq_getElem hj)
  refine putAll_one (k := q) (fun v hv => ?_) (fun v hv => ?_) (fun x hx => ?_) fun x hx => ?_
  · obtain ⟨k, hk, hm⟩ := h.1 v hv; exact hq k v hk hm
  · obtain ⟨k, hk, hm⟩ := h.2.1 v hv; exact hq k v hk hm
  · obtain ⟨v, hv, rfl⟩ := hx
    obtain ⟨k, hk, hm⟩ := h.1 v hv
    by_cases e : k = 0
    · subst e
      exact Sp.mono (fun y ⟨u, hu, e⟩ => Sp.mem ⟨u, (hin 2 u (by omega) hu).2 (by omega), e⟩) (h0 _ ⟨v, hm, rfl⟩)
    · exact Sp.mem ⟨v, (hin k v hk hm).2 (by omega), rfl⟩
  · obtain ⟨v, hv, rfl⟩ := hx
    obtain ⟨k, hk, hm⟩ := h.2.1 v hv
    exact Sp.mem ⟨v, (hin k v hk hm).1, rfl⟩
theorem rel_ne {w : World} {B T E n s q id nx mx : Nat} {S : Nat → Prop} {V : List (List UInt8)} {D : List UInt8 → List UInt8} (hR : RelAt w B T nx) (hT : TakS w S T E n s q id V D mx) : T ≠ B := fun e => by
  obtain ⟨_, _, _, hTA, _⟩ := hT
  obtain ⟨r0, _⟩ := two_cells hR
  obtain ⟨t0, _⟩ := seven_cells hTA
  rw [e, r0] at t0; cases t0
theorem RowsB.empty (w1 w : World) (g : Nat) (hg : w1.heap.size ≤ g) (h : w.heap[g]? = some (.cells #[] 22)) : RowsB w1 w (.slice (some ⟨g, 0, none⟩) 0 0) [] :=
  ⟨[], ⟨rfl, .inr ⟨g, 0, #[], rfl, hg, h, Nat.le_refl _, by decide, rfl, rfl⟩⟩, fun j l h => by simp at h⟩
theorem Gr.grown_ {w0 w w' : World} {row : Option Nat} (h : Gr w0 w) (hg : w.grownBy w' row) (hr : ∀ k, row = some k → w0.heap.size ≤ k) : Gr w0 w' := by
  have := (GrB.refl w0 w0.heap.size).gr h
  exact (Gr.refl w0).grb (this.grown hg hr) (Nat.le_refl _)
theorem Goodp.pos {n s q id : Nat} {D : List UInt8 → List UInt8} {l v : List UInt8} (h : Goodp n s q id D l v) : 0 < l.length := by
  obtain ⟨m, nn, sd, lb, _, hpe, _⟩ := h
  cases l with
  | nil => exact absurd (packErr_zero hpe).2.1 (by decide)
  | cons _ _ => simp
theorem Goods.pos {n s q id : Nat} {D : List UInt8 → List UInt8} {ls vs : List (List UInt8)} (h : Goods n s q id D ls vs) : ∀ l, l ∈ ls → 0 < l.length := fun l hl => by
  obtain ⟨i, hi, rfl⟩ := List.getElem_of_mem hl
  exact (h.2 i ls[i] (vs[i]'(by rw [h.1]; exact hi)) (List.getElem?_eq_getElem hi) (List.getElem?_eq_getElem _)).1.pos
/-- the built-in max of three. -/
theorem wpList_max3 {w : World} {ops : Array Oper} {rest : List Oper} {o : Oper} {act : Act} {Q : Exit → Act → World → Prop} (hw : Region.wanted o (yielded ops act.tmps) = true) (x y z : Operand) (t : TypeId)
    (ho : o.op = .call { callee := .builtin .max, args := #[x, y, z], argTypes := #[t, t, t] }) (a b c : Nat) (hx : act.eval x = .int .i64 (a : Int)) (hy : act.eval y = .int .i64 (b : Int)) (hz : act.eval z = .int .i64 (c : Int))
    (hk : wpList Tryz.prog ops Q rest (act.put o.dst (.int .i64 ((max (max a b) c : Nat) : Int))) w) : wpList Tryz.prog ops Q (o :: rest) act w := by
  have hr : (Builtin.max_ #[t, t, t] o.type #[.int .i64 (a : Int), .int .i64 (b : Int), .int .i64 (c : Int)]).run Tryz.prog w = .ok (.int .i64 ((max (max a b) c : Nat) : Int)) w := by
    have e1 : (if (b : Int) > (a : Int) then (b : Int) else (a : Int)) = ((max a b : Nat) : Int) := by split <;> omega
    have e2 : (if (c : Int) > ((max a b : Nat) : Int) then (c : Int) else ((max a b : Nat) : Int)) = ((max (max a b) c : Nat) : Int) := by split <;> omega
    simp only [Builtin.max_, List.foldlM, Builtin.max2, e1, e2, pure_bind, bind_pure]
    rfl
  simp only [wpList]
  rw [if_pos hw]
  refine .inl ?_
  unfold Oper.wp execOp
  simp only [ho, resolve, invoke, builtin, Sem.run_bind, Sem.run_pure, Result.andThen_ok, List.map_toArray, List.map_cons, List.map_nil, hx, hy, hz, hr]
  exact hk
theorem plan_room2 {n s q : Nat} (h : planErr n s q = 0) : n ≤ q * s := by
  obtain ⟨h1, h2⟩ := planErr_zero h
  obtain ⟨_, hs, _, _⟩ := planFit_zero h1
  unfold planNeed at h2
  by_cases h0 : (n : Int) = 0
  · omega
  · rw [if_neg h0] at h2
    have h3 : ((n : Int) - 1) / s < q := by omega
    have h4 := Int.lt_mul_of_ediv_lt (show (0 : Int) < s by omega) h3
    have h5 : ((q * s : Nat) : Int) = (q : Int) * s := by simp
    omega
/-- what a plan that fits has. -/
theorem plan_of_fit {ko : Nat} {s : Int} (hE : planFit ko s = 0) : ∃ s' q' : Nat, s = (s' : Int) ∧ planErr ko s' q' = 0 ∧ ko ≤ 1000000000 ∧ ∀ (id : Nat) (w : World), Calls Tryz.prog 28 #[.int .i64 (ko : Int), .int .i64 (s' : Int), .int .u32 (id : Int)] w fun e w' => e = .returned (.tuple #[.agg #[.int .i64 (ko : Int), .int .i64 (s' : Int), .int .i64 (q' : Int), .int .u32 (id : Int)], .int .i64 0]) ∧ Gr w w' := by
  obtain ⟨f1, f2, f3, f4⟩ := planFit_zero hE
  have hp := planNeed_pos f1 f2
  obtain ⟨s', rfl⟩ := Int.eq_ofNat_of_zero_le (show 0 ≤ s by omega)
  obtain ⟨q', eq⟩ := Int.eq_ofNat_of_zero_le (show 0 ≤ planNeed ko s' by omega)
  have hP : planErr ko s' q' = 0 := by unfold planErr; rw [if_neg (by simpa using hE), if_neg (by simpa using eq.symm)]
  have hk : ko ≤ 1000000000 := by
    have h4 := f4; unfold planNeed at h4
    by_cases h0 : (ko : Int) = 0
    · omega
    · rw [if_neg h0] at h4
      have h5 : ((ko : Int) - 1) / s' < 4096 := by omega
      have h6 := Int.lt_mul_of_ediv_lt (by omega) h5
      have h7 : (4096 : Int) * s' ≤ 4096 * 65535 := by omega
      omega
  refine ⟨s', q', rfl, hP, hk, fun id w => ?_⟩
  have := planOf_ok ko s' id (by omega) hE w
  rw [eq] at this
  exact this
end Go.Proofs.YtddopoojmadpjaaGreatDoor
