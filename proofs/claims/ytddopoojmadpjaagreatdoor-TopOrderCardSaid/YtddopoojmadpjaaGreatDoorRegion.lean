/-
  A region that draws its order, walked once in the order of the text, though its operations make memory: each operation says what holds of what it has made, in whatever world the others have made.
-/
import Derived.Still
import Derived.Deep.Quiet
import Derived.BigQuiet
import Derived.Test.YtddopoojmadpjaaGreatDoorAppend
namespace Go.Proofs.YtddopoojmadpjaaGreatDoor
open Go
/-- The worlds that a world may turn into. -/
structure Up (Rel : World → World → Prop) (w0 : World) where
  w : World
  rel : Rel w0 w

/-- HOW AN OPERATION OF A DRAWN REGION IS TOLD: it reckons (its value hangs on its operands alone, and on what no other turns), or it makes a value of that form, of which that holds. -/
inductive RgSpec : Type 1 where
  | reck : RgSpec
  | any (T : Type) (x0 : T) (f : T → Value) (A : T → World → Prop) : RgSpec
  /-- .. it does not look at memory at all: it may run whenever its operands are there, behind the tail, too. -/
  | flt : RgSpec
  /-- .. of which that holds, told over the values of the operations that it waits for. -/
  | on (T : Type) (x0 : T) (f : T → Value) (A : (Nat → Value) → T → World → Prop) : RgSpec

/-- what is asked of an operation that has run. -/
def rgUpon (P : Program) (R : Value → World → Prop) : Result Next → Prop
  | .ok (.value v) w' => R v w'
  | .ok .skip w' => R undef w'
  | .ok (.enter f args) w' => Calls P f args w' fun e w'' => ∃ v, e = .returned v ∧ R v w''
  | _ => False
def rgAt (P : Program) (o : Oper) (a : Act) (w : World) (R : Value → World → Prop) : Prop := rgUpon P R ((execOp a.eval o).run P w)

/-- operations that never call. -/
def plainOp (o : Oper) : Bool :=
  match o.op with
  | .move _ | .assign _ | .load .. | .binOp .. | .unOp .. | .indexAddr .. | .index .. | .field .. | .fieldAddr .. | .slice .. | .nilCheck _ | .extract .. | .build .. | .pick .. | .convert .. => true
  | .call { callee := .builtin .len, .. } | .call { callee := .builtin .cap, .. } | .call { callee := .builtin .min, .. } | .call { callee := .builtin .max, .. } => true
  | _ => false

theorem noEnter_v {P : Program} {w w' : World} {f : FuncId} {args : Array Value} (s : Sem Value) : Sem.run P (do pure (Next.value (← s))) w ≠ .ok (.enter f args) w' := by
  intro he
  simp only [Sem.run_bind, Sem.run_pure] at he
  cases hr : Sem.run P s w with
  | ok v w1 => rw [hr] at he; simp [Result.andThen] at he
  | halt x w1 => rw [hr] at he; simp [Result.andThen] at he

theorem andThen_inv {α β : Type} {r : Result α} {k : α → World → Result β} {x : β} {w' : World} (h : r.andThen k = .ok x w') : ∃ y w1, k y w1 = .ok x w' := by
  cases r with
  | ok y w1 => exact ⟨y, w1, h⟩
  | halt z w1 => simp [Result.andThen] at h

theorem plain_noEnter {P : Program} {o : Oper} (h : plainOp o = true) (ρ : Operand → Value) (w : World) (f : FuncId) (args : Array Value) (w' : World) : (execOp ρ o).run P w ≠ .ok (.enter f args) w' := by
  obtain ⟨dst, op, type, pos, after, guard⟩ := o
  cases op <;> (try (simp [plainOp] at h; done)) <;> simp only [execOp]
  case call c =>
    obtain ⟨callee, xs, ts⟩ := c
    cases callee <;> (try (simp [plainOp] at h; done))
    case builtin b =>
      cases b <;> (try (simp [plainOp] at h; done)) <;>
      · simp only [resolve, Sem.run_bind, Sem.run_pure, Result.andThen_ok, invoke, builtin]
        have := noEnter_v (P := P) (w := w) (w' := w') (f := f) (args := args)
        simp only [Sem.run_bind, Sem.run_pure] at this
        exact this _
  case nilCheck x =>
    intro he
    split at he
    · simp [runtimePanic] at he
    · simp [runtimePanic] at he
    · simp [runtimePanic] at he
    · split at he
      · simp [runtimePanic] at he
      · simp only [Sem.run_bind] at he
        obtain ⟨y, w1, he⟩ := andThen_inv he
        obtain ⟨y2, w2, he⟩ := andThen_inv he
        split at he
        · simp only [Sem.run_bind] at he
          obtain ⟨y3, w3, he⟩ := andThen_inv he
          simp at he
        · simp at he
      · simp at he
    · simp at he
  case pick c a b =>
    intro he
    simp only [Sem.run_bind, Sem.run_pure] at he
    cases hr : Sem.run P (asBool (ρ c)) w with
    | ok v w1 => rw [hr] at he; simp [Result.andThen] at he
    | halt x w1 => rw [hr] at he; simp [Result.andThen] at he
  all_goals first
    | exact noEnter_v _
    | (intro he; simp [Sem.run_pure] at he; done)
    | trace_state

section
variable {P : Program} {ops : Array Oper} {Rel : World → World → Prop} {w0 : World}

/-- the operations that it waits for, at first hand. -/
def rgEdges (ops : Array Oper) (i : Nat) : List Nat :=
  match ops[i]? with
  | some o => (o.after.toList.filter fun e => Region.binds .any e).map (·.on)
  | none => []
/-- .. and through others. -/
def rgDeps (ops : Array Oper) : List (List Nat) :=
  ops.toList.foldl (fun acc o => acc ++ [(o.after.toList.flatMap fun e => if Region.binds .any e then e.on :: acc.getD e.on [] else []).eraseDups]) []
def rgDep (ops : Array Oper) (i j : Nat) : Bool := ((rgDeps ops).getD i []).contains j
/-- the value that an operation has left; those that operation k waits for. -/
def rgSlot (ops : Array Oper) (tmps : Array Value) (j : Nat) : Value :=
  match (ops[j]?).bind (·.dst) with
  | some t => (tmps[t]?).getD undef
  | none => undef
def rgSees (ops : Array Oper) (k : Nat) (tmps : Array Value) : Nat → Value := fun j => if rgDep ops k j then rgSlot ops tmps j else undef
theorem rgSees_same {ops : Array Oper} {k : Nat} {t t' : Array Value} (h : ∀ j oj d, rgDep ops k j = true → ops[j]? = some oj → oj.dst = some d → t[d]? = t'[d]?) : rgSees ops k t = rgSees ops k t' := by
  funext j
  unfold rgSees
  split
  · rename_i hj
    unfold rgSlot
    cases ho : ops[j]? with
    | none => rfl
    | some oj =>
      cases hd : oj.dst with
      | none => simp [hd]
      | some d => simp only [Option.bind_some, hd]; rw [h j oj d hj ho hd]
  · rfl
def rgClosedB (ops : Array Oper) : Bool :=
  (List.range ops.size).all fun i => ((rgEdges ops i).all fun j => decide (j < i)) && ((rgDeps ops).getD i []).all fun j => decide (j < i) && ((rgEdges ops i).contains j || (rgEdges ops i).any fun m => rgDep ops m j)
def rgLooksB (ops : Array Oper) : Bool :=
  (List.range ops.size).all fun i => (List.range ops.size).all fun j =>
    match ops[i]?, ops[j]? with
    | some oi, some oj => (match oj.dst with
        | none => true
        | some d => (!(oi.looksAt ops).contains d || rgDep ops i j) && (i == j || oi.dst != some d))
    | _, _ => true
def rgTailB (ops : Array Oper) (n : Nat) : Bool := (List.range ops.size).all fun t => decide (t < n) || (List.range n).all fun i => rgDep ops t i
def rgSeqB (ops : Array Oper) : Nat → Nat → Array Bool → Bool
  | 0, _, listed => (Region.ready .any ops listed).isEmpty
  | g + 1, k, listed => decide (Region.ready .any ops listed = [k]) && rgSeqB ops g (k + 1) (listed.setIfInBounds k true)
def rgHead (n m : Nat) : Array Bool := (List.replicate n true ++ List.replicate m false).toArray
def RgSpec.isReck : RgSpec → Bool
  | .reck => true
  | _ => false
def RgSpec.isFlt : RgSpec → Bool
  | .flt => true
  | _ => false
def rgKindsB (ops : Array Oper) (ks : List Bool) : Bool := (List.range ks.length).all fun i => !ks.getD i false || match ops[i]? with | some o => plainOp o | none => true
def rgCoreB (ops : Array Oper) (ks : List Bool) : Bool := Region.noSelect ops && rgClosedB ops && rgLooksB ops && decide (ks.length ≤ ops.size) && rgKindsB ops ks
def rgB (ops : Array Oper) (ks fs : List Bool) : Bool :=
  rgCoreB ops ks && rgTailB ops ks.length && rgSeqB ops (ops.size - ks.length) ks.length (rgHead ks.length (ops.size - ks.length)) && !fs.contains true
/-- .. where some float: what is behind the head waits for all but these, and for what is ahead of it there. -/
def rgFB (ops : Array Oper) (ks fs : List Bool) : Bool :=
  rgCoreB ops ks && (List.range ops.size).all fun t => decide (t < ks.length) || (List.range t).all fun i => fs.getD i false || rgDep ops t i

/-- what has been said of operation j, when k have been walked (the last one first). -/
def rgF (F : List (World → Prop)) (k j : Nat) : World → Prop := bif Nat.blt j k then F.getD (k - 1 - j) (fun _ => True) else fun _ => True
theorem rgF_ge {F : List (World → Prop)} {k j : Nat} (h : k ≤ j) (w : World) : rgF F k j w := by
  unfold rgF
  have : Nat.blt j k = false := by rw [Bool.eq_false_iff]; intro hb; rw [Nat.blt_eq] at hb; omega
  rw [this]; trivial
theorem rgF_cons_eq {F : List (World → Prop)} {A : World → Prop} {k : Nat} : rgF (A :: F) (k + 1) k = A := by
  unfold rgF
  have : Nat.blt k (k + 1) = true := by rw [Nat.blt_eq]; omega
  rw [this]; simp
theorem rgF_cons_lt {F : List (World → Prop)} {A : World → Prop} {k j : Nat} (h : j < k) : rgF (A :: F) (k + 1) j = rgF F k j := by
  unfold rgF
  have h1 : Nat.blt j (k + 1) = true := by rw [Nat.blt_eq]; omega
  have h2 : Nat.blt j k = true := by rw [Nat.blt_eq]; omega
  rw [h1, h2, show k + 1 - 1 - j = (k - 1 - j) + 1 by omega]; simp
/-- THE WALK, in the order of the text: each operation in whatever world the others have made. -/
def wpRG (P : Program) (ops : Array Oper) (Rel : World → World → Prop) (w0 : World) (Q : List Oper → Act → World → Prop) : List RgSpec → List Oper → Nat → Act → List (World → Prop) → Prop
  | [], l, k, a, F => ∀ w, Rel w0 w → (∀ j, rgF F k j w) → Q l a w
  | .reck :: ss, l, k, a, F =>
    match l with
    | [] => False
    | o :: l => if Region.wanted o (yielded ops a.tmps) then o.quiet P a (fun w => ∃ x : Up Rel w0, w = x.w) (fun a' => wpRG P ops Rel w0 Q ss l (k + 1) a' ((fun _ => True) :: F))
      else wpRG P ops Rel w0 Q ss l (k + 1) (a.put o.dst undef) ((fun _ => True) :: F)
  | .any T _ f A :: ss, l, k, a, F =>
    match l with
    | [] => False
    | o :: l =>
      (∀ x w w', Rel w w' → A x w → A x w') ∧
      (∀ w, Rel w0 w → (∀ j, rgDep ops k j = true → rgF F k j w) →
        if Region.wanted o (yielded ops a.tmps) then rgAt P o a w (fun v w' => Rel w w' ∧ ∃ x : T, v = f x ∧ A x w') else ∃ x : T, undef = f x ∧ A x w) ∧
      ∀ x : T, wpRG P ops Rel w0 Q ss l (k + 1) (a.put o.dst (f x)) ((A x) :: F)
  | .on T _ f A :: ss, l, k, a, F =>
    match l with
    | [] => False
    | o :: l =>
      (∀ s x w w', Rel w w' → A s x w → A s x w') ∧
      (∀ w, Rel w0 w → (∀ j, rgDep ops k j = true → rgF F k j w) →
        if Region.wanted o (yielded ops a.tmps) then rgAt P o a w (fun v w' => Rel w w' ∧ ∃ x : T, v = f x ∧ A (rgSees ops k a.tmps) x w') else ∃ x : T, undef = f x ∧ A (rgSees ops k a.tmps) x w) ∧
      ∀ x : T, wpRG P ops Rel w0 Q ss l (k + 1) (a.put o.dst (f x)) ((A (rgSees ops k a.tmps) x) :: F)
  | .flt :: ss, l, k, a, F =>
    match l with
    | [] => False
    | o :: l => Region.wanted o (yielded ops a.tmps) = true ∧ ∃ v, (∀ w, (execOp a.eval o).run P w = .ok (.value v) w) ∧ wpRG P ops Rel w0 Q ss l (k + 1) (a.put o.dst v) ((fun _ => True) :: F)

/-- .. and what is behind the head, where some float. -/
def wpTl (P : Program) (ops : Array Oper) (Q : Exit → Act → World → Prop) : List Oper → Act → World → Prop
  | [], a, w => Q .normal a w
  | o :: l, a, w => Region.wanted o (yielded ops a.tmps) = true ∧ rgAt P o a w (fun v w' => wpTl P ops Q l (a.put o.dst v) w')

/-- What the slots hold, when some operations have run. -/
structure RgSlots (ops : Array Oper) (a0 : Act) (L : Nat → Bool) (vs : Nat → Value) (a : Act) : Prop where
  size : a.tmps.size = a0.tmps.size
  defers : a.defers = a0.defers
  old : ∀ t, (∀ j o, ops[j]? = some o → L j = true → o.dst ≠ some t) → a.tmps[t]? = a0.tmps[t]?
  new : ∀ j o t, ops[j]? = some o → L j = true → o.dst = some t → t < a0.tmps.size → a.tmps[t]? = some (vs j)

theorem RgSlots.start (a0 : Act) (vs : Nat → Value) : RgSlots ops a0 (fun _ => false) vs a0 := ⟨rfl, rfl, fun _ _ => rfl, fun _ _ _ _ h => by cases h⟩

theorem RgSlots.put {a0 a : Act} {L : Nat → Bool} {vs : Nat → Value} (h : RgSlots ops a0 L vs a) {i : Nat} {o : Oper} (hi : ops[i]? = some o)
    (hd : ∀ j oj d, ops[j]? = some oj → j ≠ i → o.dst = some d → oj.dst ≠ some d) (v : Value) {L' : Nat → Bool} {vs' : Nat → Value}
    (hL : ∀ j, L' j = true ↔ j = i ∨ L j = true) (hi' : vs' i = v) (hv : ∀ j, j ≠ i → L j = true → vs' j = vs j) : RgSlots ops a0 L' vs' (a.put o.dst v) := by
  refine ⟨?_, ?_, fun t ht => ?_, fun j oj t hj hl hdj hlt => ?_⟩
  · rw [← h.size]; cases o.dst <;> simp [Act.put]
  · rw [← h.defers]; cases o.dst <;> simp [Act.put]
  · have h1 := h.old t (fun j oj hj hl => ht j oj hj ((hL j).2 (.inr hl)))
    have h2 := ht i o hi ((hL i).2 (.inl rfl))
    rw [← h1]
    cases hod : o.dst with
    | none => rfl
    | some d =>
      have hne : d ≠ t := fun e => h2 (by rw [hod, e])
      simp [Act.put, Array.getElem?_setIfInBounds_ne hne]
  · by_cases hji : j = i
    · subst hji
      obtain rfl : oj = o := Option.some.inj (hj.symm.trans hi)
      rw [hdj, hi']
      have : t < a.tmps.size := by rw [h.size]; exact hlt
      simp [Act.put, this]
    · have hlj : L j = true := ((hL j).1 hl).resolve_left hji
      have h1 := h.new j oj t hj hlj hdj hlt
      rw [hv j hji hlj, ← h1]
      cases hod : o.dst with
      | none => rfl
      | some d =>
        have hne : d ≠ t := fun e => hd j oj d hj hji hod (by rw [hdj, e])
        simp [Act.put, Array.getElem?_setIfInBounds_ne hne]

theorem RgSlots.same {a0 a a' : Act} {L L' : Nat → Bool} {vs vs' : Nat → Value} (h : RgSlots ops a0 L vs a) (h' : RgSlots ops a0 L' vs' a') {t : Nat}
    (hd : ∀ j oj, ops[j]? = some oj → oj.dst = some t → L j = true ∧ L' j = true ∧ vs j = vs' j) : a.tmps[t]? = a'.tmps[t]? := by
  by_cases hx : ∃ (j : Nat) (oj : Oper), ops[j]? = some oj ∧ oj.dst = some t
  · obtain ⟨j, oj, hj, hdj⟩ := hx
    obtain ⟨h1, h2, h3⟩ := hd j oj hj hdj
    by_cases hlt : t < a0.tmps.size
    · rw [h.new j oj t hj h1 hdj hlt, h'.new j oj t hj h2 hdj hlt, h3]
    · rw [Array.getElem?_eq_none (by rw [h.size]; omega), Array.getElem?_eq_none (by rw [h'.size]; omega)]
  · rw [h.old t (fun j oj hj _ hdj => hx ⟨j, oj, hj, hdj⟩), h'.old t (fun j oj hj _ hdj => hx ⟨j, oj, hj, hdj⟩)]

theorem RgSlots.all_same {a0 a a' : Act} {L L' : Nat → Bool} {vs vs' : Nat → Value} (h : RgSlots ops a0 L vs a) (h' : RgSlots ops a0 L' vs' a')
    (hL : ∀ j, j < ops.size → L j = L' j) (hv : ∀ j, j < ops.size → L j = true → vs j = vs' j) : a = a' := by
  have ht : a.tmps = a'.tmps := by
    apply Array.ext_getElem?
    intro t
    by_cases hx : ∃ (j : Nat) (oj : Oper), ops[j]? = some oj ∧ L j = true ∧ oj.dst = some t
    · obtain ⟨j, oj, hj, hl, hdj⟩ := hx
      have hjs := (Array.getElem?_eq_some_iff.1 hj).1
      by_cases hlt : t < a0.tmps.size
      · rw [h.new j oj t hj hl hdj hlt, h'.new j oj t hj (by rw [← hL j hjs]; exact hl) hdj hlt, hv j hjs hl]
      · rw [Array.getElem?_eq_none (by rw [h.size]; omega), Array.getElem?_eq_none (by rw [h'.size]; omega)]
    · rw [h.old t (fun j oj hj hl hdj => hx ⟨j, oj, hj, hl, hdj⟩),
        h'.old t (fun j oj hj hl hdj => hx ⟨j, oj, hj, by rw [hL j (Array.getElem?_eq_some_iff.1 hj).1]; exact hl, hdj⟩)]
  obtain ⟨t, d⟩ := a
  obtain ⟨t', d'⟩ := a'
  have h1 := h.defers
  have h2 := h'.defers
  simp only at ht h1 h2
  rw [ht, h1, ← h2]

/-- An operation sees its operands alone. -/
theorem exec_of_slots {o : Oper} (hs : ∀ cs b, o.op ≠ .select cs b) {a a' : Act} (h : ∀ t ∈ o.looksAt ops, a.tmps[t]? = a'.tmps[t]?) :
    execOp a.eval o = execOp a'.eval o ∧ Region.wanted o (yielded ops a.tmps) = Region.wanted o (yielded ops a'.tmps) := by
  constructor
  · refine execOp_congr o hs fun x hx => ?_
    cases x with
    | tmp t =>
      have := h t (List.mem_append_left _ (List.mem_filterMap.2 ⟨.tmp t, by simpa using hx, rfl⟩))
      simp [Act.eval, this]
    | _ => rfl
  · unfold Region.wanted
    cases hg : o.guard with
    | none => rfl
    | some gw =>
      obtain ⟨g, want⟩ := gw
      have hy : yielded ops a.tmps g = yielded ops a'.tmps g := by
        unfold yielded
        cases ht : (ops[g]?).bind (·.dst) with
        | none => rfl
        | some t =>
          have := h t (by simp [Oper.looksAt, hg, ht])
          simp [this]
      simp only [hy]

/-- What a reckoning operation yields. -/
def rgQuiet (P : Program) (ops : Array Oper) (C : World → Prop) (o : Oper) (b : Act) (w : World) (v : Value) : Prop :=
  if Region.wanted o (yielded ops b.tmps) then o.quietAt P b C w v else v = undef
theorem rgQuiet_det {C : World → Prop} {o : Oper} {b : Act} {w : World} {v v' : Value} (hp : plainOp o = true) (h : rgQuiet P ops C o b w v) (h' : rgQuiet P ops C o b w v') : v = v' := by
  unfold rgQuiet at h h'
  split at h
  · rename_i hw
    rw [if_pos hw] at h'
    unfold Oper.quietAt at h h'
    have hne := plain_noEnter (P := P) hp b.eval w
    generalize (execOp b.eval o).run P w = r at *
    cases r with
    | ok n w' =>
      cases n <;> simp only [Oper.quietUpon] at h h'
      case value u => rw [← h.2, ← h'.2]
      case skip => rw [h.2, h'.2]
      case enter f args => exact absurd rfl (hne f args w')
    | halt x w' => simp only [Oper.quietUpon] at h
  · rename_i hw
    rw [if_neg hw] at h'
    rw [h, h']
theorem rgQuiet_same {C : World → Prop} {o : Oper} (hs : ∀ cs b, o.op ≠ .select cs b) {a a' : Act} {w : World} {v : Value} (h : ∀ t ∈ o.looksAt ops, a.tmps[t]? = a'.tmps[t]?) (hq : rgQuiet P ops C o a w v) : rgQuiet P ops C o a' w v := by
  obtain ⟨h1, h2⟩ := exec_of_slots hs h
  unfold rgQuiet Oper.quietAt at *
  rw [← h1, ← h2]; exact hq

/-- What an operation that does not look at memory yields. -/
def RgFl (P : Program) (ops : Array Oper) (a0 : Act) (j : Nat) (o : Oper) (vs : Nat → Value) : Prop :=
  ∀ L' vs' b, RgSlots ops a0 L' vs' b → (∀ i, rgDep ops j i = true → L' i = true ∧ vs' i = vs i) → Region.wanted o (yielded ops b.tmps) = true ∧ ∀ w, (execOp b.eval o).run P w = .ok (.value (vs j)) w
theorem RgFl.congr {a0 : Act} {j : Nat} {o : Oper} {vs us : Nat → Value} (h : RgFl P ops a0 j o vs) (hj : us j = vs j) (hd : ∀ i, rgDep ops j i = true → us i = vs i) : RgFl P ops a0 j o us := by
  intro L' vs' b hs hb
  rw [hj]
  exact h L' vs' b hs fun i hi => ⟨(hb i hi).1, (hb i hi).2.trans (hd i hi)⟩
theorem RgFl.of_run {n : Nat} {a0 b : Act} {k : Nat} {o : Oper} {us : Nat → Value} {v : Value} (hsel : ∀ cs b, o.op ≠ .select cs b) (hlooks : ∀ j oj t, ops[j]? = some oj → oj.dst = some t → t ∈ o.looksAt ops → rgDep ops k j = true ∧ j < k) (hs : RgSlots ops a0 (fun j => decide (j < n)) us b) (hkn : k ≤ n)
    (hw : Region.wanted o (yielded ops b.tmps) = true) (hv : ∀ w, (execOp b.eval o).run P w = .ok (.value v) w) : RgFl P ops a0 k o (fun j => if j = k then v else us j) := by
  intro L' vs' b' hs' hd'
  obtain ⟨h1, h2⟩ := exec_of_slots hsel (a := b) (a' := b') (fun t ht => hs.same hs' fun j oj hj hdj => by
    obtain ⟨hd, hlt⟩ := hlooks j oj t hj hdj ht
    obtain ⟨g1, g2⟩ := hd' j hd
    refine ⟨by simp; omega, g1, ?_⟩
    rw [g2]; simp [show j ≠ k by omega])
  rw [← h2, ← h1]
  exact ⟨hw, fun w => by rw [hv w]; simp⟩
/-- What is kept in mind of an operation that has run. -/
def RgRec (P : Program) (ops : Array Oper) (Rel : World → World → Prop) (w0 : World) (a0 : Act) (j : Nat) (o : Oper) (vs : Nat → Value) (w : World) : RgSpec → Prop
  | .reck => ∀ w', Rel w w' → ∀ L' vs' b, RgSlots ops a0 L' vs' b → (∀ i, rgDep ops j i = true → L' i = true ∧ vs' i = vs i) → rgQuiet P ops (fun w => ∃ x : Up Rel w0, w = x.w) o b w' (vs j)
  | .any T _ f A => ∃ x : T, vs j = f x ∧ ∀ w', Rel w w' → A x w'
  | .flt => RgFl P ops a0 j o vs
  | .on T _ f A => ∃ x : T, vs j = f x ∧ ∀ w', Rel w w' → ∀ L' vs' b, RgSlots ops a0 L' vs' b → (∀ i, rgDep ops j i = true → L' i = true ∧ vs' i = vs i) → A (rgSees ops j b.tmps) x w'
end

section
variable {P : Program} {ops : Array Oper} {Rel : World → World → Prop} {w0 : World}

/-- What the Bool says. -/
structure RgOk (ops : Array Oper) (n : Nat) : Prop where
  sel : ∀ (j : Nat) (o : Oper) (cs : Array SelectCase) (b : Bool), ops[j]? = some o → o.op ≠ .select cs b
  down : ∀ i j, j ∈ rgEdges ops i → j < i
  dep : ∀ i j, i < ops.size → rgDep ops i j = true → j < i ∧ (j ∈ rgEdges ops i ∨ ∃ m, m ∈ rgEdges ops i ∧ rgDep ops m j = true)
  looks : ∀ i j oi oj d, ops[i]? = some oi → ops[j]? = some oj → oj.dst = some d → (d ∈ oi.looksAt ops → rgDep ops i j = true) ∧ (i ≠ j → oi.dst ≠ some d)
  le : n ≤ ops.size

theorem rgOk {ks : List Bool} (h : rgCoreB ops ks = true) : RgOk ops ks.length := by
  simp only [rgCoreB, Bool.and_eq_true] at h
  obtain ⟨⟨⟨⟨h1, h2⟩, h3⟩, h5⟩, h7⟩ := h
  refine ⟨Region.noSelect_spec h1, fun i j hj => ?_, fun i j hi hd => ?_, fun i j oi oj d hi hj hd => ?_, by simpa using h5⟩
  · by_cases hi : i < ops.size
    · have := List.all_eq_true.1 h2 i (List.mem_range.2 hi)
      simp only [Bool.and_eq_true] at this
      simpa using List.all_eq_true.1 this.1 j hj
    · simp [rgEdges, Array.getElem?_eq_none (show ops.size ≤ i by omega)] at hj
  · have := List.all_eq_true.1 h2 i (List.mem_range.2 hi)
    simp only [Bool.and_eq_true] at this
    have := List.all_eq_true.1 this.2 j (by simpa [rgDep] using hd)
    simp only [Bool.and_eq_true, Bool.or_eq_true, decide_eq_true_eq, List.contains_iff_mem, List.any_eq_true] at this
    obtain ⟨ha, hb⟩ := this
    exact ⟨ha, hb⟩
  · have h8 := List.all_eq_true.1 (List.all_eq_true.1 h3 i (List.mem_range.2 (Array.getElem?_eq_some_iff.1 hi).1)) j (List.mem_range.2 (Array.getElem?_eq_some_iff.1 hj).1)
    simp only [hi, hj, hd, Bool.and_eq_true, Bool.or_eq_true, beq_iff_eq] at h8
    refine ⟨fun hm => ?_, fun hne => ?_⟩
    · rcases h8.1 with h9 | h9
      · simp [hm] at h9
      · exact h9
    · rcases h8.2 with h9 | h9
      · exact absurd h9 hne
      · simpa using h9
theorem rgTail_all {n : Nat} (h4 : rgTailB ops n = true) : ∀ t, n ≤ t → t < ops.size → ∀ i, i < n → rgDep ops t i = true := fun t ht hts i hi => by
  have := List.all_eq_true.1 h4 t (List.mem_range.2 hts)
  simp only [Bool.or_eq_true, decide_eq_true_eq] at this
  exact List.all_eq_true.1 (this.resolve_left (by omega)) i (List.mem_range.2 hi)

theorem mem_edges {i j : Nat} : j ∈ rgEdges ops i ↔ ∃ o, ops[i]? = some o ∧ ∃ e ∈ o.after, Region.binds .any e = true ∧ e.on = j := by
  unfold rgEdges
  cases ho : ops[i]? with
  | none => simp
  | some o =>
    simp only [List.mem_map, List.mem_filter, Array.mem_toList_iff, Option.some.injEq, exists_eq_left']
    constructor
    · rintro ⟨e, ⟨h1, h2⟩, h3⟩; exact ⟨e, h1, h2, h3⟩
    · rintro ⟨e, h1, h2, h3⟩; exact ⟨e, ⟨h1, h2⟩, h3⟩

/-- All that an operation waits for has run, if what it waits for at first hand has. -/
theorem deps_listed {n : Nat} (ok : RgOk ops n) {listed : Array Bool} (closed : ∀ j, listed.getD j false = true → ∀ m ∈ rgEdges ops j, listed.getD m false = true) :
    ∀ (i : Nat), i < ops.size → (∀ m ∈ rgEdges ops i, listed.getD m false = true) → ∀ j, rgDep ops i j = true → listed.getD j false = true := by
  intro i
  induction i using Nat.strongRecOn with
  | _ i ih =>
    intro hi he j hj
    obtain ⟨_, h | ⟨m, hm, hd⟩⟩ := ok.dep i j hi hj
    · exact he j h
    · exact ih m (ok.down i m hm) (by have := ok.down i m hm; omega) (closed m (he m hm)) j hd

theorem rg_dst {n : Nat} (ok : RgOk ops n) {i : Nat} {o : Oper} (hi : ops[i]? = some o) : ∀ j oj d, ops[j]? = some oj → j ≠ i → o.dst = some d → oj.dst ≠ some d :=
  fun j oj d hj hne hd => (ok.looks j i oj o d hj hi hd).2 hne

/-- The lexical walk at operation i, whose prefix holds what the operations that have run have left. -/
theorem rg_walk {n : Nat} (ok : RgOk ops n) (fl : Nat → Bool) (Q : List Oper → Act → World → Prop) (a0 : Act) (vs : Nat → Value) (listed : Array Bool) (w : World) (hrr : ∀ w, Rel w w) (hw0 : Rel w0 w) (htr : ∀ a b c, Rel a b → Rel b c → Rel a c)
    (closed : ∀ j, listed.getD j false = true → ∀ m ∈ rgEdges ops j, listed.getD m false = true) :
    ∀ (ss : List RgSpec) (l : List Oper) (k : Nat) (b : Act) (us : Nat → Value) (F : List (World → Prop)), (∀ j, l[j]? = ops[k + j]?) → k + ss.length = n → F.length = k →
    (∀ j s o, ss[j]? = some s → ops[k + j]? = some o → s.isReck = true → plainOp o = true) →
    wpRG P ops Rel w0 Q ss l k b F → RgSlots ops a0 (fun j => decide (j < k)) us b → (∀ j, j < k → listed.getD j false = true → us j = vs j) →
    (∀ j, j < k → listed.getD j false = true ∨ fl j = true → ∀ w', Rel w w' → rgF F k j w') →
    (∀ j s o, ss[j]? = some s → ops[k + j]? = some o → listed.getD (k + j) false = true → RgRec P ops Rel w0 a0 (k + j) o vs w s) →
    (∀ j s, ss[j]? = some s → s.isFlt = fl (k + j)) → (∀ j o, j < k → fl j = true → ops[j]? = some o → RgFl P ops a0 j o us) →
    ∀ i, i ≤ ss.length → ∃ b us F, F.length = k + i ∧ wpRG P ops Rel w0 Q (ss.drop i) (l.drop i) (k + i) b F ∧ RgSlots ops a0 (fun j => decide (j < k + i)) us b ∧
      (∀ j, j < k + i → listed.getD j false = true → us j = vs j) ∧ (∀ j, j < k + i → listed.getD j false = true ∨ fl j = true → ∀ w', Rel w w' → rgF F (k + i) j w') ∧ ∀ j o, j < k + i → fl j = true → ops[j]? = some o → RgFl P ops a0 j o us
  | [], l, k, b, us, F, _, _, hF, _, h, hs, hu, hf, _, _, hfl, i, hi => by
    obtain rfl : i = 0 := by simpa using hi
    exact ⟨b, us, F, hF, by simpa using h, hs, hu, hf, hfl⟩
  | s :: ss, l, k, b, us, F, hl, hk, hF, hp, h, hs, hu, hf, hr, hsf, hfl, 0, _ => ⟨b, us, F, hF, by simpa using h, hs, hu, hf, hfl⟩
  | s :: ss, [], k, b, us, F, hl, hk, hF, hp, h, hs, hu, hf, hr, hsf, hfl, i + 1, _ => by cases s <;> exact h.elim
  | s :: ss, o :: l, k, b, us, F, hl, hk, hF, hp, h, hs, hu, hf, hr, hsf, hfl, i + 1, hi => by
    have h0 : ops[k]? = some o := by simpa using (hl 0).symm
    have hks : k < ops.size := (Array.getElem?_eq_some_iff.1 h0).1
    have hdep : listed.getD k false = true → ∀ j, rgDep ops k j = true → j < k ∧ listed.getD j false = true := fun hlk j hj =>
      ⟨(ok.dep k j hks hj).1, deps_listed ok closed k hks (closed k hlk) j hj⟩
    have step : ∀ (v : Value) (A : World → Prop), wpRG P ops Rel w0 Q ss l (k + 1) (b.put o.dst v) (A :: F) → (listed.getD k false = true → v = vs k ∧ ∀ w', Rel w w' → A w') → (fl k = true → RgFl P ops a0 k o (fun j => if j = k then v else us j) ∧ ∀ w', A w') →
        ∃ b us F, F.length = k + (i + 1) ∧ wpRG P ops Rel w0 Q ((s :: ss).drop (i + 1)) ((o :: l).drop (i + 1)) (k + (i + 1)) b F ∧ RgSlots ops a0 (fun j => decide (j < k + (i + 1))) us b ∧
          (∀ j, j < k + (i + 1) → listed.getD j false = true → us j = vs j) ∧ (∀ j, j < k + (i + 1) → listed.getD j false = true ∨ fl j = true → ∀ w', Rel w w' → rgF F (k + (i + 1)) j w') ∧ ∀ j o, j < k + (i + 1) → fl j = true → ops[j]? = some o → RgFl P ops a0 j o us := by
      intro v A hw hA hflk
      have hs' : RgSlots ops a0 (fun j => decide (j < k + 1)) (fun j => if j = k then v else us j) (b.put o.dst v) :=
        hs.put h0 (rg_dst ok h0) v (fun j => by simp; omega) (by simp) (fun j hj _ => by simp [hj])
      have := rg_walk ok fl Q a0 vs listed w hrr hw0 htr closed ss l (k + 1) (b.put o.dst v) _ (A :: F) (fun j => by have := hl (j + 1); simpa [Nat.add_assoc, Nat.add_comm 1 j] using this)
        (by simp only [List.length_cons] at hk; omega) (by simp [hF]) (fun j s' o' hj ho' => hp (j + 1) s' o' (by simpa using hj) (by rw [← ho']; congr 1; omega)) hw hs'
        (fun j hj hlj => by
          by_cases hjk : j = k
          · subst hjk; simp [(hA hlj).1]
          · simp [hjk]; exact hu j (by omega) hlj)
        (fun j hj hlj w' hw' => by
          by_cases hjk : j = k
          · subst hjk; rw [rgF_cons_eq]; exact hlj.elim (fun h => (hA h).2 w' hw') (fun h => (hflk h).2 w')
          · rw [rgF_cons_lt (by omega)]; exact hf j (by omega) hlj w' hw')
        (fun j s' o' hj ho' hlj => by
          have := hr (j + 1) s' o' (by simpa using hj) (by rw [← ho']; congr 1; omega) (by rw [← hlj]; congr 1; omega)
          rwa [show k + (j + 1) = k + 1 + j by omega] at this)
        (fun j s' hj => by rw [hsf (j + 1) s' (by simpa using hj)]; congr 1; omega)
        (fun j o' hj hfj ho' => by
          by_cases hjk : j = k
          · subst hjk
            obtain rfl : o' = o := Option.some.inj (ho'.symm.trans h0)
            exact (hflk hfj).1
          · have hjs : j < ops.size := (Array.getElem?_eq_some_iff.1 ho').1
            refine (hfl j o' (by omega) hfj ho').congr (by simp [hjk]) fun m hm => ?_
            have := (ok.dep j m hjs hm).1
            simp [show m ≠ k by omega])
        i (by simpa using hi)
      simpa [Nat.add_assoc, Nat.add_comm 1 i] using this
    have hnf' : ∀ (v : Value) (A : World → Prop), s.isFlt = false → fl k = true → RgFl P ops a0 k o (fun j => if j = k then v else us j) ∧ ∀ w', A w' := fun v A h1 h2 => by
      have := hsf 0 s rfl
      rw [Nat.add_zero, h1, h2] at this
      cases this
    cases s with
    | flt =>
      simp only [wpRG] at h
      obtain ⟨hwt, v, hv, hw⟩ := h
      refine step v _ hw (fun hlk => ⟨?_, fun _ _ => trivial⟩) fun _ => ⟨RgFl.of_run (fun cs b => ok.sel k o cs b h0) (fun j oj t hj hdj ht => ?_) hs (Nat.le_refl _) hwt hv, fun _ => trivial⟩
      · have hrec := hr 0 .flt o rfl (by simpa using h0) (by simpa using hlk)
        rw [Nat.add_zero] at hrec
        have := (hrec _ us b hs (fun j hj => by
          obtain ⟨h1, h2⟩ := hdep hlk j hj
          exact ⟨by simpa using h1, hu j h1 h2⟩)).2 w
        rw [hv w] at this
        cases this; rfl
      · have hd := (ok.looks k j o oj t h0 hj hdj).1 ht
        exact ⟨hd, (ok.dep k j hks hd).1⟩
    | reck =>
      have hpl : plainOp o = true := hp 0 .reck o rfl (by simpa using h0) rfl
      have key : ∀ v, rgQuiet P ops (fun w => ∃ x : Up Rel w0, w = x.w) o b w v → listed.getD k false = true → v = vs k := by
        intro v hq hlk
        have hrec := hr 0 .reck o rfl (by simpa using h0) (by simpa using hlk) w (hrr w) _ us b hs (fun j hj => by
          obtain ⟨h1, h2⟩ := hdep hlk j (by simpa using hj)
          exact ⟨by simpa using h1, hu j h1 h2⟩)
        rw [Nat.add_zero] at hrec
        exact rgQuiet_det hpl hq hrec
      simp only [wpRG] at h
      by_cases hwt : Region.wanted o (yielded ops b.tmps) = true
      · rw [if_pos hwt] at h
        obtain ⟨v, hv, hw⟩ := h
        exact step v _ hw (fun hlk => ⟨key v (by unfold rgQuiet; rw [if_pos hwt]; exact hv w ⟨⟨w, hw0⟩, rfl⟩) hlk, fun _ _ => trivial⟩) (hnf' _ _ rfl)
      · rw [if_neg hwt] at h
        exact step undef _ h (fun hlk => ⟨key undef (by unfold rgQuiet; rw [if_neg hwt]) hlk, fun _ _ => trivial⟩) (hnf' _ _ rfl)
    | any T x0 f A =>
      simp only [wpRG] at h
      obtain ⟨_, _, hw⟩ := h
      by_cases hlk : listed.getD k false = true
      · obtain ⟨x, hx, hA⟩ := hr 0 (.any T x0 f A) o rfl (by simpa using h0) (by simpa using hlk)
        rw [Nat.add_zero] at hx
        exact step (f x) (A x) (hw x) (fun _ => ⟨hx.symm, hA⟩) (hnf' _ _ rfl)
      · exact step (f x0) (A x0) (hw x0) (fun h => absurd h hlk) (hnf' _ _ rfl)
    | on T x0 f A =>
      simp only [wpRG] at h
      obtain ⟨_, _, hw⟩ := h
      by_cases hlk : listed.getD k false = true
      · obtain ⟨x, hx, hA⟩ := hr 0 (.on T x0 f A) o rfl (by simpa using h0) (by simpa using hlk)
        rw [Nat.add_zero] at hx hA
        exact step (f x) (A (rgSees ops k b.tmps) x) (hw x) (fun _ => ⟨hx.symm, fun w' hw' => hA w' hw' _ us b hs (fun j hj => by
          obtain ⟨h1, h2⟩ := hdep hlk j hj
          exact ⟨by simpa using h1, hu j h1 h2⟩)⟩) (hnf' _ _ rfl)
      · exact step (f x0) (A (rgSees ops k b.tmps) x0) (hw x0) (fun h => absurd h hlk) (hnf' _ _ rfl)
end

section
variable {P : Program} {ops : Array Oper} {Rel : World → World → Prop} {w0 : World}

def rgCount (listed : Array Bool) : Nat → Nat
  | 0 => 0
  | n + 1 => rgCount listed n + (if listed.getD n false = true then 0 else 1)
theorem rgCount_zero {listed : Array Bool} : ∀ {n : Nat}, rgCount listed n = 0 → ∀ i, i < n → listed.getD i false = true
  | 0, _, i, hi => by omega
  | n + 1, h, i, hi => by
    simp only [rgCount] at h
    split at h
    · rename_i hn
      by_cases hin : i = n
      · subst hin; exact hn
      · exact rgCount_zero (by omega) i (by omega)
    · omega
theorem rgCount_set {listed : Array Bool} {i : Nat} (his : i < listed.size) (hf : listed.getD i false = false) : ∀ n, rgCount listed n = rgCount (listed.setIfInBounds i true) n + (if i < n then 1 else 0)
  | 0 => by simp [rgCount]
  | n + 1 => by
    have ih := rgCount_set his hf n
    simp only [rgCount]
    by_cases hin : i = n
    · subst hin
      have : (listed.setIfInBounds i true).getD i false = true := by simp [his]
      rw [hf, this, ih]; simp
    · rw [getD_set_ne false hin, ih]
      by_cases h1 : i < n
      · simp only [h1, show i < n + 1 by omega, if_true]; omega
      · simp only [h1, show ¬ i < n + 1 by omega, if_false]; omega
theorem rgCount_new (m : Nat) : ∀ n, rgCount (Array.replicate m false) n = n
  | 0 => rfl
  | n + 1 => by
    have h : (Array.replicate m false).getD n false = false := by
      rcases Nat.lt_or_ge n m with h | h <;> simp [h]
    simp only [rgCount, rgCount_new m n]
    rw [if_neg (by rw [h]; simp)]

theorem rg_tail {Q : Exit → Act → World → Prop} : ∀ (l : List Oper) (k : Nat) (listed : Array Bool) (a : Act) (w : World), (∀ j, l[j]? = ops[k + j]?) →
    rgSeqB ops l.length k listed = true → wpList P ops Q l a w → wpAny P .any ops Q l.length listed a w
  | [], _, _, _, _, _, hB, h => ⟨by simpa [rgSeqB] using hB, h⟩
  | o :: l, k, listed, a, w, hl, hB, h => by
    have h0 : ops[k]? = some o := by simpa using (hl 0).symm
    simp only [List.length_cons, rgSeqB, Bool.and_eq_true, decide_eq_true_eq] at hB
    refine ⟨fun h1 => (by rw [hB.1] at h1; cases h1), fun i hi => ?_⟩
    rw [hB.1] at hi
    have hik : i = k := by simpa using hi
    subst hik
    have hw : wpOp P ops Q i (wpList P ops Q l) a w := by unfold wpOp; simp only [h0]; exact h
    exact wpOp_mono (fun a' w' h' => rg_tail l (i + 1) _ a' w' (fun j => by have := hl (j + 1); simpa [Nat.add_assoc, Nat.add_comm 1 j] using this) hB.2 h') hw

structure RgInv (P : Program) (ops : Array Oper) (Rel : World → World → Prop) (w0 : World) (a0 : Act) (ss : List RgSpec) (listed : Array Bool) (a : Act) (w : World) : Prop where
  size : listed.size = ops.size
  closed : ∀ j, listed.getD j false = true → ∀ m ∈ rgEdges ops j, listed.getD m false = true
  tail : ∀ t, ss.length ≤ t → listed.getD t false = false
  rel : Rel w0 w
  slots : ∃ vs, RgSlots ops a0 (fun j => listed.getD j false) vs a ∧ ∀ j s o, ss[j]? = some s → ops[j]? = some o → listed.getD j false = true → RgRec P ops Rel w0 a0 j o vs w s

theorem getD_false_true {listed : Array Bool} {i : Nat} (hi : i < listed.size) : listed.getD i true = listed.getD i false := by simp [hi]

/-- How a head ends: where all of it that does not float has run, what is behind it is walked. -/
def RgFin (P : Program) (ops : Array Oper) (Rel : World → World → Prop) (w0 : World) (a0 : Act) (ss : List RgSpec) (fl : Nat → Bool) (Q : Exit → Act → World → Prop) : Prop :=
  ∀ (listed : Array Bool) (a : Act) (w : World), RgInv P ops Rel w0 a0 ss listed a w → (∀ i, i < ss.length → fl i = false → listed.getD i false = true) →
    wpAny P .any ops Q (rgCount listed ss.length + (ops.size - ss.length)) listed a w

theorem rg_any {a0 : Act} {l : List Oper} {ss : List RgSpec} {Q : Exit → Act → World → Prop} {Q' : List Oper → Act → World → Prop} (ok : RgOk ops ss.length) (fl : Nat → Bool) (hsf : ∀ j s, ss[j]? = some s → s.isFlt = fl j)
    (htail : ∀ t, ss.length ≤ t → t < ops.size → ∀ i, i < ss.length → fl i = false → rgDep ops t i = true) (hl : ops = l.toArray) (hrr : ∀ w, Rel w w) (htr : ∀ a b c, Rel a b → Rel b c → Rel a c)
    (hp : ∀ (j : Nat) (s : RgSpec) (o : Oper), ss[j]? = some s → ops[j]? = some o → s.isReck = true → plainOp o = true)
    (h : wpRG P ops Rel w0 Q' ss l 0 a0 []) (fin : RgFin P ops Rel w0 a0 ss fl Q) :
    ∀ (c : Nat) (listed : Array Bool) (a : Act) (w : World), rgCount listed ss.length = c → RgInv P ops Rel w0 a0 ss listed a w → wpAny P .any ops Q (c + (ops.size - ss.length)) listed a w := by
  have hlj : ∀ j, l[j]? = ops[0 + j]? := fun j => by rw [hl]; simp
  intro c
  induction c with
  | zero =>
    intro listed a w hc inv
    have := fin listed a w inv fun i hi _ => rgCount_zero hc i hi
    rwa [hc] at this
  | succ c ih =>
    intro listed a w hc inv
    obtain ⟨vs, hs, hr⟩ := inv.slots
    have hle := ok.le
    by_cases hall : ∀ i, i < ss.length → fl i = false → listed.getD i false = true
    · have := fin listed a w inv hall
      rwa [hc] at this
    -- an operation of the head that has not run, the first of them: it may come up
    have hun0 : ∃ i, i < ss.length ∧ fl i = false ∧ listed.getD i false = false := by
      refine Classical.byContradiction fun hn => hall fun i hi hf => ?_
      cases hx : listed.getD i false with
      | true => rfl
      | false => exact absurd ⟨i, hi, hf, hx⟩ hn
    clear hall
    have hun : ∃ i, i < ss.length ∧ listed.getD i false = false := by
      refine Classical.byContradiction fun hn => ?_
      have : ∀ n, n ≤ ss.length → rgCount listed n = 0 := by
        intro n
        induction n with
        | zero => intro _; rfl
        | succ n ihn =>
          intro hle
          simp only [rgCount, ihn (by omega)]
          rw [if_pos]
          cases hx : listed.getD n false with
          | true => rfl
          | false => exact absurd ⟨n, by omega, hx⟩ hn
      rw [this _ (Nat.le_refl _)] at hc; omega
    have hready : ∀ i, i < ss.length → listed.getD i false = false → Region.ready .any ops listed ≠ [] := by
      intro i
      induction i using Nat.strongRecOn with
      | _ i ihi =>
        intro hi hun
        by_cases he : ∃ m ∈ rgEdges ops i, listed.getD m false = false
        · obtain ⟨m, hm, hm2⟩ := he
          have := ok.down i m hm
          exact ihi m this (by omega) hm2
        · obtain ⟨o, ho⟩ : ∃ o, ops[i]? = some o := ⟨_, Array.getElem?_eq_getElem (show i < ops.size by omega)⟩
          have : i ∈ Region.ready .any ops listed := mem_ready.2 ⟨by rw [getD_false_true (by rw [inv.size]; omega)]; exact hun, o, ho, fun e hee hb => by
            cases hx : listed.getD e.on false with
            | true => rfl
            | false => exact absurd ⟨e.on, mem_edges.2 ⟨o, ho, e, hee, hb, rfl⟩, hx⟩ he⟩
          intro h0; rw [h0] at this; cases this
    clear hun
    obtain ⟨i0, hi0, hi0n, hi0f⟩ := hun0
    rw [show c + 1 + (ops.size - ss.length) = (c + (ops.size - ss.length)) + 1 by omega]
    refine ⟨fun h0 => absurd h0 (hready i0 hi0 hi0f), fun i hi => ?_⟩
    obtain ⟨hiun, o, ho, hall⟩ := mem_ready.1 hi
    have his : i < ops.size := (Array.getElem?_eq_some_iff.1 ho).1
    have hif : listed.getD i false = false := by rw [← getD_false_true (by rw [inv.size]; exact his)]; exact hiun
    have hedge : ∀ m ∈ rgEdges ops i, listed.getD m false = true := fun m hm => by
      obtain ⟨o', ho', e, he, hb, rfl⟩ := mem_edges.1 hm
      obtain rfl : o' = o := Option.some.inj (ho'.symm.trans ho)
      exact hall e he hb
    have hdeps := deps_listed ok inv.closed i his hedge
    have hin : i < ss.length := by
      refine Classical.byContradiction fun hge => ?_
      have := hdeps i0 (htail i (by omega) his i0 hi0 hi0n)
      rw [hi0f] at this; cases this
    obtain ⟨s, hsi⟩ : ∃ s, ss[i]? = some s := ⟨_, List.getElem?_eq_getElem hin⟩
    obtain ⟨b, us, F, hF, hw, hsl, hu, hf, _⟩ := rg_walk ok fl _ a0 vs listed w hrr inv.rel htr inv.closed ss l 0 a0 (fun _ => undef) [] hlj (by omega) rfl
      (fun j s o hj ho => hp j s o hj (by rwa [Nat.zero_add] at ho)) h (by simpa using RgSlots.start (ops := ops) a0 (fun _ => undef)) (fun j hj => by omega) (fun j hj => by omega)
      (fun j s o hj ho hlj => by
        rw [Nat.zero_add] at ho hlj ⊢
        exact hr j s o hj ho hlj) (fun j s hj => by rw [Nat.zero_add]; exact hsf j s hj) (fun j o hj => by omega) i (by omega)
    rw [Nat.zero_add] at hF hw hsl hu hf
    have hsel : ∀ cs b, o.op ≠ .select cs b := fun cs b => ok.sel i o cs b ho
    have hbeq : ∀ t ∈ o.looksAt ops, b.tmps[t]? = a.tmps[t]? := fun t ht => hsl.same hs fun j oj hj hdj => by
      have hd := (ok.looks i j o oj t ho hj hdj).1 ht
      have hlt := (ok.dep i j his hd).1
      exact ⟨by simpa using hlt, hdeps j hd, hu j hlt (hdeps j hd)⟩
    obtain ⟨hex, hwan⟩ := exec_of_slots hsel hbeq
    have hdrop : ss.drop i = s :: ss.drop (i + 1) := by rw [List.drop_eq_getElem_cons hin]; congr 1; rw [List.getElem?_eq_getElem hin] at hsi; exact Option.some.inj hsi
    have hlo : l[i]? = some o := by rw [hlj i, Nat.zero_add]; exact ho
    have hldrop : l.drop i = o :: l.drop (i + 1) := by
      have hlt := (List.getElem?_eq_some_iff.1 hlo).1
      rw [List.drop_eq_getElem_cons hlt]; congr 1; rw [List.getElem?_eq_getElem hlt] at hlo; exact Option.some.inj hlo
    rw [hdrop, hldrop] at hw
    -- the state behind it
    have next : ∀ (v : Value) (w' : World), Rel w w' → (RgRec P ops Rel w0 a0 i o (fun j => if j = i then v else vs j) w' s) →
        wpAny P .any ops Q (c + (ops.size - ss.length)) (listed.setIfInBounds i true) (a.put o.dst v) w' := by
      intro v w' hrel hrec
      have hset : ∀ j, (listed.setIfInBounds i true).getD j false = true ↔ j = i ∨ listed.getD j false = true := fun j => by
        by_cases hji : i = j
        · subst hji; simp [inv.size, his]
        · rw [getD_set_ne false hji]; simp [Ne.symm hji]
      refine ih _ _ _ ?_ ⟨by simp [inv.size], fun j hj m hm => ?_, fun t ht => ?_, htr _ _ _ inv.rel hrel, fun j => if j = i then v else vs j, ?_, fun j s' o' hj ho' hlj => ?_⟩
      · have := rgCount_set (by rw [inv.size]; exact his) hif ss.length
        rw [if_pos hin] at this; omega
      · rw [hset]
        rcases (hset j).1 hj with rfl | hj'
        · exact .inr (hedge m hm)
        · exact .inr (inv.closed j hj' m hm)
      · rw [getD_set_ne false (by omega)]; exact inv.tail t ht
      · exact hs.put ho (rg_dst ok ho) v hset (by simp) (fun j hj _ => by simp [hj])
      · rcases (hset j).1 hlj with rfl | hj'
        · obtain rfl : s' = s := Option.some.inj (hj.symm.trans hsi)
          obtain rfl : o' = o := Option.some.inj (ho'.symm.trans ho)
          exact hrec
        · have hne : j ≠ i := fun e => by subst e; rw [hif] at hj'; cases hj'
          have hold := hr j s' o' hj ho' hj'
          have hjs : j < ops.size := (Array.getElem?_eq_some_iff.1 ho').1
          cases s' with
          | reck =>
            intro w2 hw2 L' vs' b' hs' hd'
            have := hold w2 (htr _ _ _ hrel hw2) L' vs' b' hs' (fun m hm => by
              obtain ⟨h1, h2⟩ := hd' m hm
              have hml := deps_listed ok inv.closed j hjs (inv.closed j hj') m hm
              have hmi : m ≠ i := fun e => by subst e; rw [hif] at hml; cases hml
              exact ⟨h1, by simpa [hmi] using h2⟩)
            simpa [hne] using this
          | any T x0 f A =>
            obtain ⟨x, hx, hA⟩ := hold
            exact ⟨x, by simpa [hne] using hx, fun w2 hw2 => hA w2 (htr _ _ _ hrel hw2)⟩
          | on T x0 f A =>
            obtain ⟨x, hx, hA⟩ := hold
            exact ⟨x, by simpa [hne] using hx, fun w2 hw2 L' vs' b' hs' hd' => hA w2 (htr _ _ _ hrel hw2) L' vs' b' hs' (fun m hm => by
              obtain ⟨h1, h2⟩ := hd' m hm
              have hml := deps_listed ok inv.closed j hjs (inv.closed j hj') m hm
              have hmi : m ≠ i := fun e => by subst e; rw [hif] at hml; cases hml
              exact ⟨h1, by simpa [hmi] using h2⟩)⟩
          | flt =>
            refine RgFl.congr hold (by simp [hne]) fun m hm => ?_
            have hml := deps_listed ok inv.closed j hjs (inv.closed j hj') m hm
            have hmi : m ≠ i := fun e => by subst e; rw [hif] at hml; cases hml
            simp [hmi]
    unfold wpOp
    simp only [ho]
    rw [← hwan]
    cases s with
    | flt =>
      simp only [wpRG] at hw
      obtain ⟨hwt, v, hv, _⟩ := hw
      have hgo := next v w (hrr w) ((RgFl.of_run (us := us) hsel (fun j oj t hj hdj ht => by
        have hd := (ok.looks i j o oj t ho hj hdj).1 ht
        exact ⟨hd, (ok.dep i j his hd).1⟩) hsl (Nat.le_refl _) hwt hv).congr (by simp) (fun m hm => by
          have hlt := (ok.dep i m his hm).1
          simp only [show m ≠ i by omega, if_false]
          exact (hu m hlt (hdeps m hm)).symm))
      rw [if_pos hwt]
      refine .inl ?_
      unfold Oper.wp
      rw [← hex, hv w]
      exact hgo
    | reck =>
      have hq : ∀ v, (∀ w', Rel w w' → rgQuiet P ops (fun w => ∃ x : Up Rel w0, w = x.w) o b w' v) → RgRec P ops Rel w0 a0 i o (fun j => if j = i then v else vs j) w .reck := by
        intro v hv w2 hw2 L' vs' b' hs' hd'
        have := rgQuiet_same hsel (a' := b') (fun t ht => hsl.same hs' fun j oj hj hdj => by
          have hd := (ok.looks i j o oj t ho hj hdj).1 ht
          have hlt := (ok.dep i j his hd).1
          obtain ⟨h1, h2⟩ := hd' j hd
          have hji : j ≠ i := by omega
          exact ⟨by simpa using hlt, h1, by rw [h2, hu j hlt (hdeps j hd)]; simp [hji]⟩) (hv w2 hw2)
        simpa using this
      simp only [wpRG] at hw
      by_cases hwt : Region.wanted o (yielded ops b.tmps) = true
      · rw [if_pos hwt] at hw ⊢
        obtain ⟨v, hv, _⟩ := hw
        refine .inl ?_
        have hvw := hv w ⟨⟨w, inv.rel⟩, rfl⟩
        have hpl : plainOp o = true := hp i .reck o hsi ho rfl
        have hne := plain_noEnter (P := P) hpl b.eval w
        have hgo := next v w (hrr w) (hq v (fun w' hw' => by
          unfold rgQuiet
          rw [if_pos hwt]
          exact hv w' ⟨⟨w', htr _ _ _ inv.rel hw'⟩, rfl⟩))
        unfold Oper.wp
        unfold Oper.quietAt at hvw
        rw [← hex]
        generalize (execOp b.eval o).run P w = r at hvw hne ⊢
        cases r with
        | ok nx w' =>
          cases nx <;> simp only [Oper.quietUpon] at hvw <;> simp only [Oper.upon]
          case value u => obtain ⟨rfl, rfl⟩ := hvw; exact hgo
          case skip => obtain ⟨rfl, rfl⟩ := hvw; exact hgo
          case enter f args => exact absurd rfl (hne f args w')
        | halt x w' => simp only [Oper.quietUpon] at hvw
      · rw [if_neg hwt] at hw ⊢
        exact next undef w (hrr w) (hq undef (fun w' _ => by unfold rgQuiet; rw [if_neg hwt]))
    | any T x0 f A =>
      simp only [wpRG] at hw
      obtain ⟨hst, hrun, _⟩ := hw
      have hrun' := hrun w inv.rel (fun j hj => by
        have hlt := (ok.dep i j his hj).1
        exact hf j hlt (.inl (hdeps j hj)) w (hrr w))
      have hgo : ∀ v w', (Rel w w' ∧ ∃ x : T, v = f x ∧ A x w') → wpAny P .any ops Q (c + (ops.size - ss.length)) (listed.setIfInBounds i true) (a.put o.dst v) w' := by
        rintro v w' ⟨hrel, x, rfl, hA⟩
        exact next (f x) w' hrel ⟨x, by simp, fun w2 hw2 => hst x _ _ hw2 hA⟩
      by_cases hwt : Region.wanted o (yielded ops b.tmps) = true
      · rw [if_pos hwt] at hrun' ⊢
        refine .inl ?_
        unfold Oper.wp
        unfold rgAt at hrun'
        rw [← hex]
        generalize (execOp b.eval o).run P w = r at hrun' ⊢
        cases r with
        | ok nx w' =>
          cases nx <;> simp only [rgUpon] at hrun' <;> simp only [Oper.upon]
          case value u => exact hgo _ _ hrun'
          case skip => exact hgo _ _ hrun'
          case enter f args =>
            refine hrun'.mono fun e w'' he => ?_
            obtain ⟨v, rfl, hv⟩ := he
            exact hgo _ _ hv
        | halt x w' => simp only [rgUpon] at hrun'
      · rw [if_neg hwt] at hrun' ⊢
        exact hgo undef w ⟨hrr w, hrun'⟩
    | on T x0 f A =>
      simp only [wpRG] at hw
      obtain ⟨hst, hrun, _⟩ := hw
      have hrun' := hrun w inv.rel (fun j hj => by
        have hlt := (ok.dep i j his hj).1
        exact hf j hlt (.inl (hdeps j hj)) w (hrr w))
      have hgo : ∀ v w', (Rel w w' ∧ ∃ x : T, v = f x ∧ A (rgSees ops i b.tmps) x w') → wpAny P .any ops Q (c + (ops.size - ss.length)) (listed.setIfInBounds i true) (a.put o.dst v) w' := by
        rintro v w' ⟨hrel, x, rfl, hA⟩
        refine next (f x) w' hrel ⟨x, by simp, fun w2 hw2 L' vs' b' hs' hd' => ?_⟩
        rw [← rgSees_same (t := b.tmps) (fun j oj t hd hj hdj => hsl.same hs' fun j2 oj2 hj2 hdj2 => ?_)]
        · exact hst _ x _ _ hw2 hA
        · have hjj : j2 = j := by
            refine Classical.byContradiction fun hne => ?_
            exact rg_dst ok hj j2 oj2 t hj2 hne hdj hdj2
          subst hjj
          have hlt := (ok.dep i j2 his hd).1
          obtain ⟨h1, h2⟩ := hd' j2 hd
          have hji : j2 ≠ i := by omega
          exact ⟨by simpa using hlt, h1, by rw [h2, hu j2 hlt (hdeps j2 hd)]; simp [hji]⟩
      by_cases hwt : Region.wanted o (yielded ops b.tmps) = true
      · rw [if_pos hwt] at hrun' ⊢
        refine .inl ?_
        unfold Oper.wp
        unfold rgAt at hrun'
        rw [← hex]
        generalize (execOp b.eval o).run P w = r at hrun' ⊢
        cases r with
        | ok nx w' =>
          cases nx <;> simp only [rgUpon] at hrun' <;> simp only [Oper.upon]
          case value u => exact hgo _ _ hrun'
          case skip => exact hgo _ _ hrun'
          case enter f args =>
            refine hrun'.mono fun e w'' he => ?_
            obtain ⟨v, rfl, hv⟩ := he
            exact hgo _ _ hv
        | halt x w' => simp only [rgUpon] at hrun'
      · rw [if_neg hwt] at hrun' ⊢
        exact hgo undef w ⟨hrr w, hrun'⟩

theorem rg_fin {a0 : Act} {l : List Oper} {ss : List RgSpec} {Q : Exit → Act → World → Prop} (ok : RgOk ops ss.length) (fl : Nat → Bool) (hsf : ∀ j s, ss[j]? = some s → s.isFlt = fl j) (hnf : ∀ i, i < ss.length → fl i = false)
    (hseq : rgSeqB ops (ops.size - ss.length) ss.length (rgHead ss.length (ops.size - ss.length)) = true) (hl : ops = l.toArray) (hrr : ∀ w, Rel w w) (htr : ∀ a b c, Rel a b → Rel b c → Rel a c)
    (hp : ∀ (j : Nat) (s : RgSpec) (o : Oper), ss[j]? = some s → ops[j]? = some o → s.isReck = true → plainOp o = true)
    (h : wpRG P ops Rel w0 (fun l a w => wpList P ops Q l a w) ss l 0 a0 []) : RgFin P ops Rel w0 a0 ss fl Q := by
  have hlj : ∀ j, l[j]? = ops[0 + j]? := fun j => by rw [hl]; simp
  intro listed a w inv hall0
  obtain ⟨vs, hs, hr⟩ := inv.slots
  have hall : ∀ i, i < ss.length → listed.getD i false = true := fun i hi => hall0 i hi (hnf i hi)
  have hc : rgCount listed ss.length = 0 := by
    have : ∀ n, n ≤ ss.length → rgCount listed n = 0 := by
      intro n
      induction n with
      | zero => intro _; rfl
      | succ n ihn =>
        intro hle
        simp only [rgCount, ihn (by omega)]
        rw [if_pos (hall n (by omega))]
    exact this _ (Nat.le_refl _)
  rw [hc]
  obtain ⟨b, us, F, hF, hw, hsl, hu, hf, _⟩ := rg_walk ok fl _ a0 vs listed w hrr inv.rel htr inv.closed ss l 0 a0 (fun _ => undef) [] hlj (by omega) rfl
    (fun j s o hj ho => hp j s o hj (by rwa [Nat.zero_add] at ho)) h (by simpa using RgSlots.start (ops := ops) a0 (fun _ => undef)) (fun j hj => by omega) (fun j hj => by omega)
    (fun j s o hj ho hlj => by
      rw [Nat.zero_add] at ho hlj ⊢
      exact hr j s o hj ho hlj) (fun j s hj => by rw [Nat.zero_add]; exact hsf j s hj) (fun j o hj => by omega) ss.length (Nat.le_refl _)
  have hab : b = a := by
    refine hsl.all_same hs (fun j hj => ?_) (fun j hj hlj => ?_)
    · show decide (j < 0 + ss.length) = listed.getD j false
      by_cases hjn : j < ss.length
      · rw [hall j hjn]; simp [hjn]
      · rw [inv.tail j (by omega)]; simp; omega
    · have hjn : j < ss.length := by simpa using hlj
      exact hu j (by omega) (hall j hjn)
  subst hab
  have hle := ok.le
  have hlisted : listed = rgHead ss.length (ops.size - ss.length) := by
    apply Array.ext
    · rw [inv.size]; simp [rgHead]; omega
    · intro i h1 h2
      have e1 : listed.getD i false = listed[i] := by simp [h1]
      rw [← e1]
      by_cases hin : i < ss.length
      · rw [hall i hin]; simp [rgHead, List.getElem_append_left, hin]
      · rw [inv.tail i (by omega)]; simp only [rgHead, List.getElem_toArray]; rw [List.getElem_append_right (by simp; omega)]; simp
  rw [Nat.zero_add]
  have hdl : (l.drop ss.length).length = ops.size - ss.length := by rw [hl]; simp
  have h1 := rg_tail (ops := ops) (P := P) (Q := Q) (l.drop ss.length) ss.length listed b w (fun j => by rw [hl]; simp [List.getElem?_drop]) (by rw [hdl, hlisted]; exact hseq)
    (by
      have := hw
      rw [List.drop_length] at this
      simp only [wpRG] at this
      refine this w inv.rel (fun j => ?_)
      by_cases hj : j < ss.length
      · exact hf j (by omega) (.inl (hall j hj)) w (hrr w)
      · exact rgF_ge (by omega) w)
  rwa [hdl] at h1

theorem rg_tailF {n : Nat} {a0 : Act} {l : List Oper} {Q : Exit → Act → World → Prop} (ok : RgOk ops n) (fl : Nat → Bool) (hl : ops = l.toArray) (chain : ∀ t, n ≤ t → t < ops.size → ∀ i, i < t → n ≤ i → rgDep ops t i = true) :
    ∀ (c : Nat) (listed : Array Bool) (a : Act) (w : World) (k : Nat) (b : Act) (us vs : Nat → Value), n ≤ k → k ≤ ops.size → rgCount listed n + (ops.size - k) = c → listed.size = ops.size →
      (∀ j, listed.getD j false = true → ∀ m ∈ rgEdges ops j, listed.getD m false = true) → (∀ j, j < n → fl j = false → listed.getD j false = true) → (∀ j, n ≤ j → j < k → listed.getD j false = true) → (∀ j, k ≤ j → listed.getD j false = false) →
      RgSlots ops a0 (fun j => decide (j < k)) us b → RgSlots ops a0 (fun j => listed.getD j false) vs a → (∀ j, listed.getD j false = true → vs j = us j) →
      (∀ j o, j < n → fl j = true → ops[j]? = some o → RgFl P ops a0 j o us) → wpTl P ops Q (l.drop k) b w → wpAny P .any ops Q c listed a w := by
  intro c
  induction c with
  | zero =>
    intro listed a w k b us vs hnk hks hc hsz closed hnf htl hun hsb hsa hvu hfl h
    have h0 : rgCount listed n = 0 := by omega
    have hkk : k = ops.size := by omega
    have hall : ∀ j, j < ops.size → listed.getD j false = true := fun j hj => by
      by_cases hjn : j < n
      · exact rgCount_zero h0 j hjn
      · exact htl j (by omega) (by omega)
    have hba : b = a := hsb.all_same hsa (fun j hj => by rw [hall j hj]; simp; omega) (fun j hj _ => (hvu j (hall j hj)).symm)
    subst hba
    have hd : l.drop k = [] := by rw [hkk, hl]; simp
    rw [hd] at h
    refine ⟨?_, h⟩
    refine List.eq_nil_iff_forall_not_mem.2 fun i hi => ?_
    obtain ⟨h1, o, ho, _⟩ := mem_ready.1 hi
    have his : i < ops.size := (Array.getElem?_eq_some_iff.1 ho).1
    rw [getD_false_true (by rw [hsz]; exact his), hall i his] at h1
    cases h1
  | succ c ih =>
    intro listed a w k b us vs hnk hks hc hsz closed hnf htl hun hsb hsa hvu hfl h
    have hready : ∀ i, i < ops.size → listed.getD i false = false → Region.ready .any ops listed ≠ [] := by
      intro i
      induction i using Nat.strongRecOn with
      | _ i ihi =>
        intro hi hiu
        by_cases he : ∃ m ∈ rgEdges ops i, listed.getD m false = false
        · obtain ⟨m, hm, hm2⟩ := he
          have := ok.down i m hm
          exact ihi m this (by omega) hm2
        · obtain ⟨o, ho⟩ : ∃ o, ops[i]? = some o := ⟨_, Array.getElem?_eq_getElem (show i < ops.size by omega)⟩
          have : i ∈ Region.ready .any ops listed := mem_ready.2 ⟨by rw [getD_false_true (by rw [hsz]; omega)]; exact hiu, o, ho, fun e hee hb => by
            cases hx : listed.getD e.on false with
            | true => rfl
            | false => exact absurd ⟨e.on, mem_edges.2 ⟨o, ho, e, hee, hb, rfl⟩, hx⟩ he⟩
          intro h0; rw [h0] at this; cases this
    have hsome : ∃ i, i < ops.size ∧ listed.getD i false = false := by
      by_cases hk : k < ops.size
      · exact ⟨k, hk, hun k (Nat.le_refl _)⟩
      · refine Classical.byContradiction fun hn => ?_
        have : ∀ m, m ≤ n → rgCount listed m = 0 := by
          intro m
          induction m with
          | zero => intro _; rfl
          | succ m ihm =>
            intro hle
            simp only [rgCount, ihm (by omega)]
            rw [if_pos]
            cases hx : listed.getD m false with
            | true => rfl
            | false => exact absurd ⟨m, by have := ok.le; omega, hx⟩ hn
        rw [this n (Nat.le_refl _)] at hc; omega
    obtain ⟨i0, hi0, hi0f⟩ := hsome
    refine ⟨fun h0 => absurd h0 (hready i0 hi0 hi0f), fun i hi => ?_⟩
    obtain ⟨hiun, o, ho, hall⟩ := mem_ready.1 hi
    have his : i < ops.size := (Array.getElem?_eq_some_iff.1 ho).1
    have hif : listed.getD i false = false := by rw [← getD_false_true (by rw [hsz]; exact his)]; exact hiun
    have hedge : ∀ m ∈ rgEdges ops i, listed.getD m false = true := fun m hm => by
      obtain ⟨o', ho', e, he, hb, rfl⟩ := mem_edges.1 hm
      obtain rfl : o' = o := Option.some.inj (ho'.symm.trans ho)
      exact hall e he hb
    have hdeps := deps_listed ok closed i his hedge
    have hset : ∀ j, (listed.setIfInBounds i true).getD j false = true ↔ j = i ∨ listed.getD j false = true := fun j => by
      by_cases hji : i = j
      · subst hji; simp [hsz, his]
      · rw [getD_set_ne false hji]; simp [Ne.symm hji]
    have hclosed : ∀ j, (listed.setIfInBounds i true).getD j false = true → ∀ m ∈ rgEdges ops j, (listed.setIfInBounds i true).getD m false = true := fun j hj m hm => by
      rw [hset]
      rcases (hset j).1 hj with rfl | hj'
      · exact .inr (hedge m hm)
      · exact .inr (closed j hj' m hm)
    have hcount := rgCount_set (by rw [hsz]; exact his) hif n
    unfold wpOp
    simp only [ho]
    by_cases hin : i < n
    · have hfi : fl i = true := by
        cases hx : fl i with
        | true => rfl
        | false => rw [hnf i hin hx] at hif; cases hif
      obtain ⟨hwt, hv⟩ := hfl i o hin hfi ho _ vs a hsa (fun m hm => ⟨hdeps m hm, hvu m (hdeps m hm)⟩)
      rw [if_pos hwt]
      refine .inl ?_
      unfold Oper.wp
      rw [hv w]
      rw [if_pos hin] at hcount
      refine ih _ _ w k b us (fun j => if j = i then us i else vs j) hnk hks (by omega) (by simp [hsz]) hclosed (fun j hj hf => (hset j).2 (.inr (hnf j hj hf))) (fun j hj hjk => (hset j).2 (.inr (htl j hj hjk))) (fun j hj => by rw [getD_set_ne false (by omega)]; exact hun j hj)
        hsb (hsa.put ho (rg_dst ok ho) (us i) hset (by simp) (fun j hj _ => by simp [hj])) (fun j hj => ?_) hfl h
      by_cases hji : j = i
      · subst hji; simp
      · simp only [hji, if_false]; exact hvu j (((hset j).1 hj).resolve_left hji)
    · have hik : i = k := by
        refine Classical.byContradiction fun hne => ?_
        have hki : k < i := by
          refine Classical.byContradiction fun hlt => ?_
          rw [htl i (by omega) (by omega)] at hif; cases hif
        have := hdeps k (chain i (by omega) his k hki hnk)
        rw [hun k (Nat.le_refl _)] at this; cases this
      subst hik
      rw [if_neg hin] at hcount
      have hdrop : l.drop i = o :: l.drop (i + 1) := by
        have hlo : l[i]? = some o := by rw [← ho, hl]; simp
        have hlt := (List.getElem?_eq_some_iff.1 hlo).1
        rw [List.drop_eq_getElem_cons hlt]; congr 1; rw [List.getElem?_eq_getElem hlt] at hlo; exact Option.some.inj hlo
      rw [hdrop] at h
      obtain ⟨hwt, hrun⟩ := h
      have hsel : ∀ cs b, o.op ≠ .select cs b := fun cs b => ok.sel i o cs b ho
      obtain ⟨hex, hwan⟩ := exec_of_slots hsel (a := b) (a' := a) (fun t ht => hsb.same hsa fun j oj hj hdj => by
        have hd := (ok.looks i j o oj t ho hj hdj).1 ht
        have hlt := (ok.dep i j his hd).1
        exact ⟨by simpa using hlt, hdeps j hd, (hvu j (hdeps j hd)).symm⟩)
      rw [← hwan, if_pos hwt]
      refine .inl ?_
      unfold Oper.wp
      unfold rgAt at hrun
      rw [← hex]
      have hgo : ∀ v w', wpTl P ops Q (l.drop (i + 1)) (b.put o.dst v) w' → wpAny P .any ops Q c (listed.setIfInBounds i true) (a.put o.dst v) w' := by
        intro v w' h'
        refine ih _ _ w' (i + 1) (b.put o.dst v) (fun j => if j = i then v else us j) (fun j => if j = i then v else vs j) (by omega) (by omega) (by omega) (by simp [hsz]) hclosed (fun j hj hf => (hset j).2 (.inr (hnf j hj hf)))
          (fun j hj hjk => (hset j).2 (by by_cases hji : j = i; exact .inl hji; exact .inr (htl j hj (by omega)))) (fun j hj => by rw [getD_set_ne false (by omega)]; exact hun j (by omega))
          (hsb.put ho (rg_dst ok ho) v (fun j => by simp; omega) (by simp) (fun j hj _ => by simp [hj])) (hsa.put ho (rg_dst ok ho) v hset (by simp) (fun j hj _ => by simp [hj])) (fun j hj => ?_) (fun j oj hj hf hoj => ?_) h'
        · by_cases hji : j = i
          · simp [hji]
          · simp only [hji, if_false]; exact hvu j (((hset j).1 hj).resolve_left hji)
        · refine (hfl j oj hj hf hoj).congr (by simp [show j ≠ i by omega]) fun m hm => ?_
          have := (ok.dep j m (Array.getElem?_eq_some_iff.1 hoj).1 hm).1
          simp [show m ≠ i by omega]
      generalize (execOp b.eval o).run P w = r at hrun ⊢
      cases r with
      | ok nx w' =>
        cases nx <;> simp only [rgUpon] at hrun <;> simp only [Oper.upon]
        case value u => exact hgo _ _ hrun
        case skip => exact hgo _ _ hrun
        case enter f args =>
          refine hrun.mono fun e w'' he => ?_
          obtain ⟨v, rfl, hv⟩ := he
          exact hgo _ _ hv
      | halt x w' => simp only [rgUpon] at hrun

theorem rg_finF {a0 : Act} {l : List Oper} {ss : List RgSpec} {Q : Exit → Act → World → Prop} (ok : RgOk ops ss.length) (fl : Nat → Bool) (hsf : ∀ j s, ss[j]? = some s → s.isFlt = fl j)
    (chain : ∀ t, ss.length ≤ t → t < ops.size → ∀ i, i < t → ss.length ≤ i → rgDep ops t i = true) (hl : ops = l.toArray) (hrr : ∀ w, Rel w w) (htr : ∀ a b c, Rel a b → Rel b c → Rel a c)
    (hp : ∀ (j : Nat) (s : RgSpec) (o : Oper), ss[j]? = some s → ops[j]? = some o → s.isReck = true → plainOp o = true)
    (h : wpRG P ops Rel w0 (fun l a w => wpTl P ops Q l a w) ss l 0 a0 []) : RgFin P ops Rel w0 a0 ss fl Q := by
  have hlj : ∀ j, l[j]? = ops[0 + j]? := fun j => by rw [hl]; simp
  intro listed a w inv hall
  obtain ⟨vs, hs, hr⟩ := inv.slots
  obtain ⟨b, us, F, hF, hw, hsl, hu, hf, hfl⟩ := rg_walk ok fl _ a0 vs listed w hrr inv.rel htr inv.closed ss l 0 a0 (fun _ => undef) [] hlj (by omega) rfl
    (fun j s o hj ho => hp j s o hj (by rwa [Nat.zero_add] at ho)) h (by simpa using RgSlots.start (ops := ops) a0 (fun _ => undef)) (fun j hj => by omega) (fun j hj => by omega)
    (fun j s o hj ho hlj => by
      rw [Nat.zero_add] at ho hlj ⊢
      exact hr j s o hj ho hlj) (fun j s hj => by rw [Nat.zero_add]; exact hsf j s hj) (fun j o hj => by omega) ss.length (Nat.le_refl _)
  rw [Nat.zero_add] at hF hw hsl hu hf hfl
  rw [List.drop_length] at hw
  simp only [wpRG] at hw
  have hwT := hw w inv.rel (fun j => by
    by_cases hj : j < ss.length
    · refine hf j hj ?_ w (hrr w)
      cases hx : fl j with
      | true => exact .inr rfl
      | false => exact .inl (hall j hj hx)
    · exact rgF_ge (by omega) w)
  refine rg_tailF ok fl hl chain _ listed a w ss.length b us vs (Nat.le_refl _) ok.le rfl inv.size inv.closed hall (fun j h1 h2 => by omega) (fun j hj => inv.tail j hj) hsl hs (fun j hj => ?_) hfl hwT
  have hjn : j < ss.length := by
    refine Classical.byContradiction fun hn => ?_
    rw [inv.tail j (by omega)] at hj; cases hj
  exact (hu j hjn hj).symm

theorem rg_start {a : Act} {w : World} {l : List Oper} {ss : List RgSpec} {Q : Exit → Act → World → Prop} {Q' : List Oper → Act → World → Prop} (ks : List Bool) (hks : ks = ss.map RgSpec.isReck) (fs : List Bool) (hfs : fs = ss.map RgSpec.isFlt) (hC : rgCoreB l.toArray ks = true)
    (htail : ∀ t, ss.length ≤ t → t < l.toArray.size → ∀ i, i < ss.length → fs.getD i false = false → rgDep l.toArray t i = true) (hrr : ∀ w, Rel w w) (htr : ∀ a b c, Rel a b → Rel b c → Rel a c)
    (h : wpRG P l.toArray Rel w Q' ss l 0 a []) (fin : RgOk l.toArray ss.length → (∀ j s, ss[j]? = some s → s.isFlt = fs.getD j false) → (∀ (j : Nat) (s : RgSpec) (o : Oper), ss[j]? = some s → l.toArray[j]? = some o → s.isReck = true → plainOp o = true) → RgFin P l.toArray Rel w a ss (fun j => fs.getD j false) Q) :
    wpAny P .any l.toArray Q l.toArray.size (Array.replicate l.toArray.size false) a w := by
  subst hks hfs
  have ok := rgOk hC
  rw [List.length_map] at ok
  have hk : rgKindsB l.toArray (ss.map RgSpec.isReck) = true := by
    simp only [rgCoreB, Bool.and_eq_true] at hC
    exact hC.2
  have hp : ∀ (j : Nat) (s : RgSpec) (o : Oper), ss[j]? = some s → l.toArray[j]? = some o → s.isReck = true → plainOp o = true := fun j s o hj ho hs => by
    have := List.all_eq_true.1 hk j (List.mem_range.2 (by rw [List.length_map]; exact (List.getElem?_eq_some_iff.1 hj).1))
    rw [List.getD_eq_getElem?_getD, List.getElem?_map, hj] at this
    simp only [ho, Option.map_some, Option.getD_some, hs, Bool.not_true, Bool.false_or] at this
    exact this
  have hsf : ∀ j s, ss[j]? = some s → s.isFlt = (ss.map RgSpec.isFlt).getD j false := fun j s hj => by
    rw [List.getD_eq_getElem?_getD, List.getElem?_map, hj]; rfl
  have hff : ∀ m j, (Array.replicate m false).getD j false = false := fun m j => by
    rcases Nat.lt_or_ge j m with h | h <;> simp [h]
  have := rg_any ok (fun j => (ss.map RgSpec.isFlt).getD j false) hsf htail rfl hrr htr hp h (fin ok hsf hp) ss.length (Array.replicate l.toArray.size false) a w (rgCount_new _ _)
    ⟨by simp, fun j hj => (by rw [hff] at hj; cases hj), fun t _ => hff _ _, hrr _, fun _ => undef, by
      have := RgSlots.start (ops := l.toArray) a (fun _ => undef)
      simpa only [hff] using this, fun j s o _ _ hj => by rw [hff] at hj; cases hj⟩
  have hle := ok.le
  rwa [show ss.length + (l.toArray.size - ss.length) = l.toArray.size by omega] at this

/-- ████ A REGION THAT DRAWS ITS ORDER, WALKED ONCE ████ -/
theorem wp_region_rg {id : Nat} {Q : Exit → Act → World → Prop} {a : Act} {w : World} {l : List Oper} (ss : List RgSpec) (Rel : World → World → Prop) (hm : P.follows .mixedOrders = true) (hB : rgB l.toArray (ss.map RgSpec.isReck) (ss.map RgSpec.isFlt) = true)
    (hrr : ∀ w, Rel w w) (htr : ∀ a b c, Rel a b → Rel b c → Rel a c)
    (h : wpRG P l.toArray Rel w.drew (fun l' a w => wpList P l.toArray Q l' a w) ss l 0 a []) : (Code.region id l.toArray true).wp P Q a w := by
  simp only [rgB, Bool.and_eq_true, Bool.not_eq_true'] at hB
  obtain ⟨⟨⟨hC, hT⟩, hS⟩, hN⟩ := hB
  rw [List.length_map] at hT hS
  refine wp_region_any hm ?_
  refine rg_start _ rfl _ rfl hC (fun t h1 h2 i hi _ => rgTail_all hT t h1 h2 i hi) hrr htr h fun ok hsf hp => rg_fin ok _ hsf (fun i hi => ?_) hS rfl hrr htr hp h
  cases hx : (ss.map RgSpec.isFlt).getD i false with
  | false => rfl
  | true =>
    have hm : true ∈ ss.map RgSpec.isFlt := by
      rw [List.getD_eq_getElem?_getD] at hx
      cases hy : (ss.map RgSpec.isFlt)[i]? with
      | none => rw [hy] at hx; cases hx
      | some v => rw [hy] at hx; cases hx; exact List.mem_of_getElem? hy
    have : (ss.map RgSpec.isFlt).contains true = true := by simpa using hm
    rw [hN] at this; cases this

/-- ████ .. where some operations float ████ -/
theorem wp_region_rgF {id : Nat} {Q : Exit → Act → World → Prop} {a : Act} {w : World} {l : List Oper} (ss : List RgSpec) (Rel : World → World → Prop) (hm : P.follows .mixedOrders = true) (hB : rgFB l.toArray (ss.map RgSpec.isReck) (ss.map RgSpec.isFlt) = true)
    (hrr : ∀ w, Rel w w) (htr : ∀ a b c, Rel a b → Rel b c → Rel a c)
    (h : wpRG P l.toArray Rel w.drew (fun l' a w => wpTl P l.toArray Q l' a w) ss l 0 a []) : (Code.region id l.toArray true).wp P Q a w := by
  simp only [rgFB, Bool.and_eq_true] at hB
  obtain ⟨hC, hT⟩ := hB
  rw [List.length_map] at hT
  have htl : ∀ t, ss.length ≤ t → t < l.toArray.size → ∀ i, i < t → (ss.map RgSpec.isFlt).getD i false = false → rgDep l.toArray t i = true := fun t h1 h2 i hi hf => by
    have := List.all_eq_true.1 hT t (List.mem_range.2 h2)
    simp only [Bool.or_eq_true, decide_eq_true_eq] at this
    have := List.all_eq_true.1 (this.resolve_left (by omega)) i (List.mem_range.2 hi)
    rw [hf] at this
    simpa using this
  refine wp_region_any hm ?_
  refine rg_start _ rfl _ rfl hC (fun t h1 h2 i hi hf => htl t h1 h2 i (by omega) hf) hrr htr h fun ok hsf hp => rg_finF ok _ hsf (fun t h1 h2 i hi hi2 => htl t h1 h2 i hi ?_) rfl hrr htr hp h
  rw [List.getD_eq_getElem?_getD, List.getElem?_eq_none (by rw [List.length_map]; exact hi2)]; rfl
end

section
variable {P : Program} {ops : Array Oper} {Rel : World → World → Prop} {w0 : World} {Q : List Oper → Act → World → Prop} {ss : List RgSpec} {o : Oper} {l : List Oper} {k : Nat} {a : Act} {F : List (World → Prop)}
theorem wpRG_reck (hg : Region.wanted o (yielded ops a.tmps) = true) (h : ∀ K : Act → Prop, (∀ a', wpRG P ops Rel w0 Q ss l (k + 1) a' ((fun _ => True) :: F) → K a') → o.quiet P a (fun w => ∃ x : Up Rel w0, w = x.w) K) :
    wpRG P ops Rel w0 Q (.reck :: ss) (o :: l) k a F := by
  simp only [wpRG]; rw [if_pos hg]; exact h _ fun _ h => h
theorem wpRG_skip (hg : Region.wanted o (yielded ops a.tmps) = false) (h : wpRG P ops Rel w0 Q ss l (k + 1) (a.put o.dst undef) ((fun _ => True) :: F)) :
    wpRG P ops Rel w0 Q (.reck :: ss) (o :: l) k a F := by
  simp only [wpRG]; rw [if_neg (by rw [hg]; exact Bool.false_ne_true)]; exact h
theorem wpRG_any {T : Type} {x0 : T} {f : T → Value} {A : T → World → Prop} (hg : Region.wanted o (yielded ops a.tmps) = true)
    (hst : ∀ x w w', Rel w w' → A x w → A x w')
    (hrun : ∀ w, Rel w0 w → (∀ j, rgDep ops k j = true → rgF F k j w) → ∀ R : Value → World → Prop, (∀ x w', Rel w w' → A x w' → R (f x) w') → rgAt P o a w R)
    (h : ∀ x : T, wpRG P ops Rel w0 Q ss l (k + 1) (a.put o.dst (f x)) ((A x) :: F)) : wpRG P ops Rel w0 Q (.any T x0 f A :: ss) (o :: l) k a F := by
  simp only [wpRG]
  refine ⟨hst, fun w hw hF => ?_, h⟩
  rw [if_pos hg]
  exact hrun w hw hF _ fun x w' hr hA => ⟨hr, x, rfl, hA⟩
theorem wpRG_on {T : Type} {x0 : T} {f : T → Value} {A : (Nat → Value) → T → World → Prop} (hg : Region.wanted o (yielded ops a.tmps) = true)
    (hst : ∀ s x w w', Rel w w' → A s x w → A s x w')
    (hrun : ∀ w, Rel w0 w → (∀ j, rgDep ops k j = true → rgF F k j w) → ∀ R : Value → World → Prop, (∀ x w', Rel w w' → A (rgSees ops k a.tmps) x w' → R (f x) w') → rgAt P o a w R)
    (h : ∀ x : T, wpRG P ops Rel w0 Q ss l (k + 1) (a.put o.dst (f x)) ((A (rgSees ops k a.tmps) x) :: F)) : wpRG P ops Rel w0 Q (.on T x0 f A :: ss) (o :: l) k a F := by
  simp only [wpRG]
  refine ⟨hst, fun w hw hF => ?_, h⟩
  rw [if_pos hg]
  exact hrun w hw hF _ fun x w' hr hA => ⟨hr, x, rfl, hA⟩
theorem wpRG_flt {v : Value} (hg : Region.wanted o (yielded ops a.tmps) = true) (hv : ∀ w, (execOp a.eval o).run P w = .ok (.value v) w)
    (h : wpRG P ops Rel w0 Q ss l (k + 1) (a.put o.dst v) ((fun _ => True) :: F)) : wpRG P ops Rel w0 Q (.flt :: ss) (o :: l) k a F := by
  simp only [wpRG]; exact ⟨hg, v, hv, h⟩
theorem wpTl_cons {Q : Exit → Act → World → Prop} {w : World} (hg : Region.wanted o (yielded ops a.tmps) = true) (h : ∀ R : Value → World → Prop, (∀ v w', wpTl P ops Q l (a.put o.dst v) w' → R v w') → rgAt P o a w R) : wpTl P ops Q (o :: l) a w :=
  ⟨hg, h _ fun _ _ h => h⟩
theorem wpTl_nil {Q : Exit → Act → World → Prop} {w : World} (h : Q .normal a w) : wpTl P ops Q [] a w := h
theorem wpRG_end (h : ∀ w, Rel w0 w → (∀ j, rgF F k j w) → Q l a w) : wpRG P ops Rel w0 Q [] l k a F := by
  simp only [wpRG]; exact h
end
theorem GrB.cell {w w' : World} {b : Nat} (h : GrB w b w') {p : Addr} {v : Value} (hp : w.cell? p = some v) (hb : p.block ≠ b) : w'.cell? p = some v := by
  rw [World.cell?_of_block (w := w) (h.block _ (World.block_lt_of_cell? w _ hp) (by simpa using hb))]; exact hp
/-- .. one block is written, from o1 to o2, once; all else grows. -/
def StR (b : Nat) (o1 o2 : Obj) (w w' : World) : Prop := GrB w b w' ∧ (w.heap[b]? = some o1 → w'.heap[b]? = some o1 ∨ w'.heap[b]? = some o2) ∧ (w.heap[b]? = some o2 → w'.heap[b]? = some o2)
theorem StR.refl (b : Nat) (o1 o2 : Obj) (w : World) : StR b o1 o2 w w := ⟨GrB.refl _ _, .inl, id⟩
theorem StR.trans {b : Nat} {o1 o2 : Obj} (x y z : World) (h : StR b o1 o2 x y) (g : StR b o1 o2 y z) : StR b o1 o2 x z :=
  ⟨h.1.trans g.1, fun e => (h.2.1 e).elim g.2.1 (fun e => .inr (g.2.2 e)), fun e => g.2.2 (h.2.2 e)⟩
theorem StR.of_gr {b : Nat} {o1 o2 : Obj} {w w' : World} (h : Gr w w') : StR b o1 o2 w w' :=
  ⟨GrB.of_gr h, fun e => .inl (h.heap e), fun e => h.heap e⟩
theorem StR.written {b : Nat} {o1 o2 : Obj} {w w' : World} (h : GrB w b w') (e : w'.heap[b]? = some o2) : StR b o1 o2 w w' := ⟨h, fun _ => .inr e, fun _ => e⟩
/-- an operation that makes bytes; rows; a number of its own. -/
abbrev spB (n : Nat) (l : List UInt8) : RgSpec := .any (Option Addr × Nat) (none, 0) (fun x => .slice x.1 n x.2) (fun x w => Bs w x.1 n x.2 l)
abbrev spBss (n : Nat) (ls : List (List UInt8)) : RgSpec := .any (Option Addr × Nat) (none, 0) (fun x => .slice x.1 n x.2) (fun x w => Bss w x.1 n x.2 ls)
abbrev spO (base n : Nat) (l : List UInt8) : RgSpec := .any (Option Addr × Nat) (none, 0) (fun x => .slice x.1 n x.2) (fun x w => OwnV w base (.slice x.1 n x.2) l)
abbrev spF (base n : Nat) (l : List UInt8) : RgSpec := .any (Option Addr × Nat) (none, 0) (fun x => .slice x.1 n x.2) (fun x w => Bs w x.1 n x.2 l ∧ ∀ y, x.1 = some y → base ≤ y.block)
abbrev spV (v : Value) : RgSpec := .any Unit () (fun _ => v) (fun _ _ => True)
theorem rgAt_call {P : Program} {o : Oper} {a : Act} {w w' : World} {R : Value → World → Prop} {f : FuncId} {args : Array Value} (he : (execOp a.eval o).run P w = .ok (.enter f args) w')
    (h : Calls P f args w' fun e w'' => ∃ v, e = .returned v ∧ R v w'') : rgAt P o a w R := by unfold rgAt; rw [he]; exact h
end Go.Proofs.YtddopoojmadpjaaGreatDoor
