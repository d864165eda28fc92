/-
  A region that draws its order, whose last operation waits for all others: it may be run behind the region of the others.
-/
import Derived.Test.YtddopoojmadpjaaGreatDoorRegion
import Derived.Deep.RegionHeld3
namespace Go.Proofs.YtddopoojmadpjaaGreatDoor
open Go
set_option linter.unusedVariables false

/-- what is asked behind the others. -/
def lastQ (P : Program) (o : Oper) (Q : Exit → Act → World → Prop) : Exit → Act → World → Prop
  | .normal, a, w => o.wp P a w (fun a w => Q .normal a w) Q
  | e, a, w => Q e a w
def lastB (ops : Array Oper) : Bool := rgCoreB ops [] && rgTailB ops (ops.size - 1) && ops.all fun o => o.guard.isNone

theorem wp_lastQ {P : Program} {o o' : Oper} {Q : Exit → Act → World → Prop} {K : Act → World → Prop} {a : Act} {w : World} (hh : o.wp P a w K (lastQ P o' Q)) : o.wp P a w K Q := by
  unfold Oper.wp at *
  generalize (execOp a.eval o).run P w = r at *
  cases r with
  | ok n w' =>
    cases n <;> simp only [Oper.upon] at hh ⊢ <;>
      first
        | exact hh
        | exact Calls.mono hh (fun e w'' he => by cases e <;> exact he)
        | exact Rows.mono hh (fun _ _ he => he)
  | halt x w' => cases x <;> simp only [Oper.upon] at hh ⊢ <;> exact hh

section
variable {P : Program} {ops0 : Array Oper} {o : Oper} {Q : Exit → Act → World → Prop}

theorem push_getD {l : Array Bool} (j : Nat) (d : Bool) (h : j < l.size) : (l.push false).getD j d = l.getD j d := by
  rw [Array.getD_eq_getD_getElem?, Array.getD_eq_getD_getElem?, Array.getElem?_push_lt h, Array.getElem?_eq_getElem h]
theorem push_getD_last {l : Array Bool} (d : Bool) : (l.push false).getD l.size d = false := by
  rw [Array.getD_eq_getD_getElem?, Array.getElem?_push_size]; rfl
theorem push_set {l : Array Bool} {i : Nat} (h : i < l.size) : (l.push false).setIfInBounds i true = (l.setIfInBounds i true).push false := by
  apply Array.ext
  · simp
  · intro j h1 h2
    simp at h1
    by_cases hj : j = i
    · subst hj; simp [Array.getElem_push, h]
    · rw [Array.getElem_setIfInBounds_ne (by simpa using h1) (Ne.symm hj)]
      simp only [Array.getElem_push, Array.size_setIfInBounds]
      split
      · rw [Array.getElem_setIfInBounds_ne (by omega) (Ne.symm hj)]
      · rfl
theorem push_at {i : Nat} (h : i < ops0.size) : (ops0.push o)[i]? = ops0[i]? := by
  rw [Array.getElem?_push_lt h, Array.getElem?_eq_getElem h]

theorem wpAny_of_last (ok : RgOk (ops0.push o) 0) (hT : ∀ i, i < ops0.size → rgDep (ops0.push o) ops0.size i = true) (hgn : ∀ x, x ∈ (ops0.push o) → x.guard = none) :
    ∀ (fuel : Nat) (l0 : Array Bool) (a : Act) (w : World), l0.size = ops0.size → (∀ j, l0.getD j false = true → ∀ m ∈ rgEdges (ops0.push o) j, l0.getD m false = true) → rgCount l0 ops0.size = fuel →
      wpAny P .any ops0 (lastQ P o Q) fuel l0 a w → wpAny P .any (ops0.push o) Q (fuel + 1) (l0.push false) a w := by
  have hlast : (ops0.push o)[ops0.size]? = some o := Array.getElem?_push_size
  have hwant : ∀ (i : Nat) (x : Oper) (y : Nat → Bool), (ops0.push o)[i]? = some x → x.guard = none := fun i x y hx => hgn x (Array.mem_of_getElem? hx)
  have hedge : ∀ i, i < ops0.size → rgEdges (ops0.push o) i = rgEdges ops0 i := fun i hi => by
    unfold rgEdges; rw [push_at hi]
  have hrd : ∀ (l0 : Array Bool) (i : Nat), l0.size = ops0.size → i < ops0.size → (i ∈ Region.ready .any (ops0.push o) (l0.push false) ↔ i ∈ Region.ready .any ops0 l0) := fun l0 i hs hi => by
    rw [mem_ready, mem_ready, push_getD i true (by omega), push_at hi]
    refine and_congr Iff.rfl (exists_congr fun x => and_congr_right fun hx => ?_)
    refine forall_congr' fun e => forall_congr' fun he => forall_congr' fun hb => ?_
    have hm : e.on ∈ rgEdges (ops0.push o) i := mem_edges.2 ⟨x, by rw [push_at hi]; exact hx, e, he, hb, rfl⟩
    have := ok.down i e.on hm
    rw [push_getD e.on false (by omega)]
  have hall_ready : ∀ (l0 : Array Bool), l0.size = ops0.size → (∀ j, j < ops0.size → l0.getD j false = true) → ops0.size ∈ Region.ready .any (ops0.push o) (l0.push false) := fun l0 hs hall => by
    refine mem_ready.2 ⟨by rw [← hs]; exact push_getD_last true, o, hlast, fun e he hb => ?_⟩
    have hm : e.on ∈ rgEdges (ops0.push o) ops0.size := mem_edges.2 ⟨o, hlast, e, he, hb, rfl⟩
    have := ok.down _ _ hm
    rw [push_getD e.on false (by omega)]; exact hall _ this
  have hlt_size : ∀ (l0 : Array Bool) (i : Nat), i ∈ Region.ready .any (ops0.push o) (l0.push false) → i < ops0.size ∨ i = ops0.size := fun l0 i hi => by
    obtain ⟨_, x, hx, _⟩ := mem_ready.1 hi
    have := (Array.getElem?_eq_some_iff.1 hx).1
    simp at this; omega
  intro fuel
  induction fuel with
  | zero =>
    intro l0 a w hs closed hc h
    have hall : ∀ j, j < ops0.size → l0.getD j false = true := fun j hj => rgCount_zero hc j hj
    refine ⟨fun h0 => absurd (hall_ready l0 hs hall) (by rw [h0]; simp), fun i hi => ?_⟩
    rcases hlt_size l0 i hi with hi' | rfl
    · have := (mem_ready.1 hi).1
      rw [push_getD i true (by omega)] at this
      have h2 := hall i hi'
      have h3 : l0.getD i true = l0.getD i false := by simp [Array.getD_eq_getD_getElem?, Array.getElem?_eq_getElem (show i < l0.size by omega)]
      rw [h3, h2] at this; cases this
    · unfold wpOp
      simp only [hlast]
      have hg : Region.wanted o (yielded (ops0.push o) a.tmps) = true := by
        have := hgn o (by simp)
        unfold Region.wanted; rw [this]
      rw [if_pos hg]
      refine .inl (Oper.wp_mono (fun a' w' hq => ⟨?_, hq⟩) h.2)
      refine List.eq_nil_iff_forall_not_mem.2 fun j hj => ?_
      obtain ⟨h1, x, hx, _⟩ := mem_ready.1 hj
      have hjs := (Array.getElem?_eq_some_iff.1 hx).1
      simp at hjs
      by_cases e : j = ops0.size
      · subst e
        have : ((l0.push false).setIfInBounds ops0.size true).getD ops0.size true = true := by
          rw [Array.getD_eq_getD_getElem?, Array.getElem?_setIfInBounds_self_of_lt (by simp [hs])]; rfl
        rw [this] at h1; cases h1
      · rw [getD_set_ne true (Ne.symm e), push_getD j true (by omega)] at h1
        have h2 := hall j (by omega)
        have h3 : l0.getD j true = l0.getD j false := by simp [Array.getD_eq_getD_getElem?, Array.getElem?_eq_getElem (show j < l0.size by omega)]
        rw [h3, h2] at h1; cases h1
  | succ fuel ih =>
    intro l0 a w hs closed hc h
    have hsome : ∃ j, j < ops0.size ∧ l0.getD j false = false := by
      refine Classical.byContradiction fun hn => ?_
      have : ∀ m, m ≤ ops0.size → rgCount l0 m = 0 := by
        intro m
        induction m with
        | zero => intro _; rfl
        | succ m ihm =>
          intro hle
          simp only [rgCount, ihm (by omega)]
          rw [if_pos]
          cases hx : l0.getD m false with
          | true => rfl
          | false => exact absurd ⟨m, by omega, hx⟩ hn
      rw [this _ (Nat.le_refl _)] at hc; omega
    have hready : ∀ i, i < ops0.size → l0.getD i false = false → Region.ready .any (ops0.push o) (l0.push false) ≠ [] := by
      intro i
      induction i using Nat.strongRecOn with
      | _ i ihi =>
        intro hi hiu
        by_cases he : ∃ m ∈ rgEdges (ops0.push o) i, l0.getD m false = false
        · obtain ⟨m, hm, hm2⟩ := he
          have := ok.down i m hm
          exact ihi m this (by omega) hm2
        · have h3 : l0.getD i true = l0.getD i false := by simp [Array.getD_eq_getD_getElem?, Array.getElem?_eq_getElem (show i < l0.size by omega)]
          have : i ∈ Region.ready .any (ops0.push o) (l0.push false) := mem_ready.2 ⟨by rw [push_getD i true (by omega), h3]; exact hiu, _, (push_at hi).trans (Array.getElem?_eq_getElem hi), fun e hee hb => by
            have hm : e.on ∈ rgEdges (ops0.push o) i := mem_edges.2 ⟨_, (push_at hi).trans (Array.getElem?_eq_getElem hi), e, hee, hb, rfl⟩
            have hd := ok.down i e.on hm
            rw [push_getD e.on false (by omega)]
            cases hx : l0.getD e.on false with
            | true => rfl
            | false => exact absurd ⟨e.on, hm, hx⟩ he⟩
          intro h0; rw [h0] at this; cases this
    obtain ⟨j0, hj0, hj0f⟩ := hsome
    refine ⟨fun h0 => absurd h0 (hready j0 hj0 hj0f), fun i hi => ?_⟩
    rcases hlt_size l0 i hi with hi' | rfl
    · have hi0 := (hrd l0 i hs hi').1 hi
      have hop := h.2 i hi0
      obtain ⟨hun, x, hx, hedg⟩ := mem_ready.1 hi0
      have hx' : (ops0.push o)[i]? = some x := by rw [push_at hi']; exact hx
      have hg : ∀ y : Array (Option Value), True := fun _ => trivial
      have hgx : x.guard = none := hgn x (Array.mem_of_getElem? hx')
      have hw1 : ∀ ops : Array Oper, Region.wanted x (yielded ops a.tmps) = true := fun ops => by unfold Region.wanted; rw [hgx]
      unfold wpOp at hop ⊢
      simp only [hx, hx', hw1, if_true] at hop ⊢
      have hK : ∀ a' w', wpAny P .any ops0 (lastQ P o Q) fuel (l0.setIfInBounds i true) a' w' → wpAny P .any (ops0.push o) Q (fuel + 1) ((l0.push false).setIfInBounds i true) a' w' := fun a' w' h' => by
        rw [push_set (by omega)]
        have huf : l0.getD i false = false := by
          have h3 : l0.getD i true = l0.getD i false := by simp [Array.getD_eq_getD_getElem?, Array.getElem?_eq_getElem (show i < l0.size by omega)]
          rw [← h3]; exact hun
        refine ih _ a' w' (by simp [hs]) (fun j hj m hm => ?_) ?_ h'
        · by_cases hji : i = j
          · subst hji
            obtain ⟨x2, hx2, e, he, hb, rfl⟩ := mem_edges.1 hm
            obtain rfl : x2 = x := Option.some.inj (hx2.symm.trans hx')
            exact getD_set_true (hedg e he hb)
          · rw [getD_set_ne false hji] at hj
            exact getD_set_true (closed j hj m hm)
        · have := rgCount_set (by rw [hs]; exact hi') huf ops0.size
          rw [if_pos hi'] at this; omega
      exact hop.imp (fun hwp => Oper.wp_mono hK (wp_lastQ hwp)) (fun ha => ⟨ha.1, ha.2⟩)
    · exfalso
      obtain ⟨_, x, hx, hedg⟩ := mem_ready.1 hi
      obtain rfl : x = o := Option.some.inj (hx.symm.trans hlast)
      have hcl : ∀ m ∈ rgEdges (ops0.push x) ops0.size, l0.getD m false = true := fun m hm => by
        obtain ⟨x2, hx2, e, he, hb, rfl⟩ := mem_edges.1 hm
        obtain rfl : x2 = x := Option.some.inj (hx2.symm.trans hlast)
        have := ok.down _ _ hm
        have h4 := hedg e he hb
        rw [push_getD e.on false (by omega)] at h4; exact h4
      have := deps_listed ok closed ops0.size (by simp) hcl j0 (hT j0 hj0)
      rw [hj0f] at this; cases this
end

theorem wpAnyH_takeL {P : Program} {Q : Exit → Act → World → Prop} {S : World → Prop} {l : List Oper} (i : Nat) {oi : Oper} {v : Value} {fuel : Nat} {listed : Array Bool} {a : Act} {w : World} (hi : l[i]? = some oi)
    (hs : Region.noSelect l.toArray = true) (hf : Region.free .any l.toArray listed i = true) (hr : (Region.ready .any l.toArray listed).contains i = true)
    (hQ : ∀ c a w, Q (.panic c) (a.put oi.dst v) w → Q (.panic c) a w) (hg : Region.wanted oi (yielded l.toArray a.tmps) = true) (hS : S w) (hy : ∀ w, S w → (execOp a.eval oi).run P w = .ok (.value v) w)
    (h : wpAnyH P .any l.toArray Q S fuel (listed.setIfInBounds i true) (a.put oi.dst v) w) : wpAnyH P .any l.toArray Q S (fuel + 1) listed a w :=
  wpAnyH_take (by simpa using hi) hs hf hr hQ (.inl ⟨hg, hy⟩) hS h
theorem wpAnyH_oneL {P : Program} {Q : Exit → Act → World → Prop} {S : World → Prop} {l : List Oper} (i : Nat) {oi : Oper} {fuel : Nat} {listed : Array Bool} {a : Act} {w : World} (hi : l[i]? = some oi) (hr : Region.ready .any l.toArray listed = [i]) (hg : Region.wanted oi (yielded l.toArray a.tmps) = true)
    (h : ∀ K' : Act → World → Prop, Shut (∀ a w, S w → wpAnyH P .any l.toArray Q S fuel (listed.setIfInBounds i true) a w → K' a w) → Oper.wp P oi a w K' Q) : wpAnyH P .any l.toArray Q S (fuel + 1) listed a w := by
  refine wpAnyH_ready (rs := [i]) hr (by simp) (AllReadyH.cons (o := oi) (by simpa using hi) (fun K hK => ?_) AllReadyH.nil)
  rw [if_pos hg]
  exact h K fun a w hS hw => hK.out a w hS fun _ => hw

/-- In every world that meets S the operation leaves v and does nothing else: itself, or the function that it calls. -/
def YieldsC (P : Program) (ops : Array Oper) (S : World → Prop) (o : Oper) (v : Value) (a : Act) : Prop :=
  Region.wanted o (yielded ops a.tmps) = true ∧ ∀ w, S w → ∃ f args, (execOp a.eval o).run P w = .ok (.enter f args) w ∧ Calls P f args w fun e w' => e = .returned v ∧ w' = w

section
variable {P : Program} {ops : Array Oper} {Q : Exit → Act → World → Prop} {md : Region.Mode} {S : World → Prop}
theorem YieldsC.wpOp {i : Nat} {o : Oper} {v : Value} {a : Act} (hi : ops[i]? = some o) (hy : YieldsC P ops S o v a) {K : Act → World → Prop} {w : World} (hS : S w) (h : K (a.put o.dst v) w) : Go.wpOp P ops Q i K a w := by
  obtain ⟨hw, hv⟩ := hy
  obtain ⟨f, args, hr, hc⟩ := hv w hS
  unfold Go.wpOp
  simp only [hi, hw, if_true]
  refine .inl ?_
  unfold Oper.wp
  rw [hr, Oper.upon_enter]
  refine hc.mono ?_
  rintro e w' ⟨rfl, rfl⟩
  exact h
theorem YieldsC.same {o : Oper} {v : Value} {a a' : Act} (hy : YieldsC P ops S o v a) (he : execOp a'.eval o = execOp a.eval o) (hw : Region.wanted o (yielded ops a'.tmps) = Region.wanted o (yielded ops a.tmps)) : YieldsC P ops S o v a' :=
  ⟨hw.trans hy.1, fun w hS => by rw [he]; exact hy.2 w hS⟩
/-- another operation, run ahead of it. -/
theorem YieldsC.swap {j : Nat} {oi oj : Oper} {v : Value} (hj : ops[j]? = some oj) (hap : oi.apart ops oj = true) (hsi : ∀ cs b, oi.op ≠ .select cs b) (hsj : ∀ cs b, oj.op ≠ .select cs b)
    (hQ : ∀ c a w, Q (.panic c) (a.put oi.dst v) w → Q (.panic c) a w) {K : Act → World → Prop} {a : Act} {w : World} (hy : YieldsC P ops S oi v a) (h : Go.wpOp P ops Q j K (a.put oi.dst v) w) :
    Go.wpOp P ops Q j (fun a' w' => YieldsC P ops S oi v a' ∧ K (a'.put oi.dst v) w') a w := by
  obtain ⟨p1, p2, p3⟩ := Oper.apart_spec hap
  have kp : ∀ u, YieldsC P ops S oi v (a.put oj.dst u) := fun u => hy.same (execOp_put oi hsi a oj.dst u p3) (wanted_put oi a oj.dst u p3)
  have tr : ∀ (u : Value) (w' : World), K ((a.put oi.dst v).put oj.dst u) w' → YieldsC P ops S oi v (a.put oj.dst u) ∧ K ((a.put oj.dst u).put oi.dst v) w' := fun u w' hk => ⟨kp u, by rw [← Act.put_comm a v u p2]; exact hk⟩
  unfold Go.wpOp at *
  simp only [hj] at *
  rw [wanted_put oj a oi.dst v p1] at h
  by_cases hw : Region.wanted oj (yielded ops a.tmps) = true
  · rw [if_pos hw] at h ⊢
    refine h.imp (fun h => ?_) (fun h => ⟨by have h1 := h.1; unfold Oper.asks at *; rw [execOp_put oj hsj a oi.dst v p1] at h1; exact h1, h.2⟩)
    unfold Oper.wp at *
    rw [execOp_put oj hsj a oi.dst v p1] at h
    generalize (execOp a.eval oj).run P w = r at h ⊢
    cases r with
    | ok n w' =>
      cases n <;> simp only [Oper.upon] at h ⊢
      case value u => exact tr u w' h
      case skip => exact tr undef w' h
      case defer d =>
        have hyd : YieldsC P ops S oi v { a with defers := d :: a.defers } := hy.same rfl rfl
        refine ⟨hyd.same (execOp_put oi hsi _ oj.dst undef p3) (wanted_put oi _ oj.dst undef p3), ?_⟩
        rw [← Act.put_comm _ v undef p2, ← Act.put_defers]
        exact h
      case enter f args =>
        refine Calls.mono h fun e w'' he => ?_
        cases e with
        | returned u => exact tr u w'' he
        | panicked c => exact hQ _ _ _ he
        | outgrown => exact he
      case row row args => exact Rows.mono h fun u w'' he => tr u w'' he
    | halt x w' =>
      cases x <;> simp only [Oper.upon] at h ⊢
      case panic u => exact hQ _ _ _ h
  · rw [if_neg hw] at h ⊢
    exact tr undef w h
/-- A CALL THAT ONLY TELLS may be taken first. -/
theorem wpAnyH_firstC {i : Nat} {oi : Oper} {v : Value} (hi : ops[i]? = some oi) (hsel : ∀ (j : Nat) (o : Oper) cs b, ops[j]? = some o → o.op ≠ .select cs b) (hQ : ∀ c a w, Q (.panic c) (a.put oi.dst v) w → Q (.panic c) a w) :
    ∀ (fuel : Nat) (listed : Array Bool) (a : Act) (w : World), (∀ j oj, ops[j]? = some oj → j ≠ i → listed.getD j true = false → (∀ e ∈ oj.after, Region.binds md e = true → e.on ≠ i) → oi.apart ops oj = true) →
      i ∈ Region.ready md ops listed → YieldsC P ops S oi v a → S w → wpAnyH P md ops Q S fuel (listed.setIfInBounds i true) (a.put oi.dst v) w → wpAnyH P md ops Q S (fuel + 1) listed a w := by
  intro fuel
  induction fuel with
  | zero =>
    intro listed a w _ hr hy hS H
    refine ⟨fun h => (by rw [h] at hr; cases hr), fun j hj => ?_⟩
    by_cases hji : j = i
    · subst hji; exact hy.wpOp hi hS ⟨hS, H⟩
    · have h0 := ready_mono hj hji
      rw [H.1] at h0; cases h0
  | succ fuel ih =>
    intro listed a w hfree hr hy hS H
    refine ⟨fun h => (by rw [h] at hr; cases hr), fun j hj => ?_⟩
    by_cases hji : j = i
    · subst hji; exact hy.wpOp hi hS ⟨hS, H⟩
    · obtain ⟨hju, oj, hoj, hed⟩ := mem_ready.1 hj
      have hno : ∀ e ∈ oj.after, Region.binds md e = true → e.on ≠ i := fun e he hb heq => by
        have h1 := hed e he hb
        have h0 := (mem_ready.1 hr).1
        rw [heq] at h1
        rcases Nat.lt_or_ge i listed.size with h' | h'
        · simp [h'] at h0 h1; rw [h0] at h1; cases h1
        · simp [Array.getElem?_eq_none h'] at h1
      have h2 := YieldsC.swap hoj (hfree j oj hoj hji hju hno) (fun cs b => hsel i oi cs b hi) (fun cs b => hsel j oj cs b hoj) hQ hy (H.2 j (ready_mono hj hji))
      refine wpOp_mono (fun a' w' h3 => ⟨h3.2.1, ih (listed.setIfInBounds j true) a' w' (fun k ok hk hki hun hn => hfree k ok hk hki ?_ hn) (ready_mono hr (Ne.symm hji)) h3.1 h3.2.1 ?_⟩) h2
      · by_cases hjk : j = k
        · subst hjk; exact hju
        · rw [getD_set_ne true hjk] at hun; exact hun
      · rw [Array.setIfInBounds_comm _ _ hji]
        exact h3.2.2
end
theorem wpAnyH_callL {P : Program} {Q : Exit → Act → World → Prop} {S : World → Prop} {l : List Oper} (i : Nat) {oi : Oper} (v : Value) {fuel : Nat} {listed : Array Bool} {a : Act} {w : World} (hi : l[i]? = some oi)
    (hs : Region.noSelect l.toArray = true) (hf : Region.free .any l.toArray listed i = true) (hr : (Region.ready .any l.toArray listed).contains i = true)
    (hQ : ∀ c a w, Q (.panic c) (a.put oi.dst v) w → Q (.panic c) a w) (hg : Region.wanted oi (yielded l.toArray a.tmps) = true) (hS : S w)
    (hy : ∀ w, S w → ∃ f args, (execOp a.eval oi).run P w = .ok (.enter f args) w ∧ Calls P f args w fun e w' => e = .returned v ∧ w' = w)
    (h : wpAnyH P .any l.toArray Q S fuel (listed.setIfInBounds i true) (a.put oi.dst v) w) : wpAnyH P .any l.toArray Q S (fuel + 1) listed a w :=
  wpAnyH_firstC (by simpa using hi) (Region.noSelect_spec hs) hQ fuel listed a w (Region.free_spec (by simpa using hi) hf) (by simpa using hr) ⟨hg, hy⟩ hS h

/-- ████ THE LAST ONE BEHIND THE OTHERS ████ -/
theorem wp_region_last {P : Program} {id : Nat} {Q : Exit → Act → World → Prop} {a : Act} {w : World} {l : List Oper} (n : Nat) (o : Oper) (S : World → Prop) (hm : P.follows .mixedOrders = true) (hl : l = l.take n ++ [o]) (hB : lastB l.toArray = true) (hn : n + 1 = l.length)
    (h : wpAnyH P .any (l.take n).toArray (lastQ P o Q) S n (Array.replicate n false) a w.drew) : (Code.region id l.toArray true).wp P Q a w := by
  simp only [lastB, Bool.and_eq_true] at hB
  obtain ⟨⟨hC, hT⟩, hG⟩ := hB
  have hpush : l.toArray = (l.take n).toArray.push o := by
    apply Array.toList_inj.1
    rw [Array.toList_push]; exact hl
  have ok := rgOk hC
  have hsz : (l.take n).toArray.size = n := by simp; omega
  rw [hpush] at ok hG ⊢
  refine wp_region_any hm ?_
  have hff : ∀ m j, (Array.replicate m false).getD j false = false := fun m j => by
    rcases Nat.lt_or_ge j m with h | h <;> simp [h]
  have := wpAny_of_last (P := P) (Q := Q) ok (fun i hi => ?_) (fun x hx => ?_) n (Array.replicate n false) a w.drew (by simp; omega) (fun j hj => by rw [hff] at hj; cases hj) (by rw [hsz]; exact rgCount_new _ _) (wpAny_of_held _ _ _ _ h)
  · have e : (Array.replicate n false).push false = Array.replicate ((l.take n).toArray.push o).size false := by
      rw [Array.size_push, hsz, Array.replicate_succ]
    rw [Array.size_push, hsz]
    rw [Array.size_push, hsz] at e
    rw [← e]; exact this
  · have h2 := rgTail_all hT (l.toArray.size - 1) (Nat.le_refl _) (by rw [List.size_toArray]; omega) i (by rw [List.size_toArray]; rw [hsz] at hi; omega)
    rw [hpush] at h2
    rw [hsz]
    rw [Array.size_push, hsz] at h2
    exact h2
  · have := Array.all_eq_true'.1 hG x hx
    simpa using this
end Go.Proofs.YtddopoojmadpjaaGreatDoor
