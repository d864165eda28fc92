/-
  A region that draws its order: its head by the rule, its tail by hand.
-/
import Derived.Test.YtddopoojmadpjaaGreatDoorRegionLast
namespace Go.Proofs.YtddopoojmadpjaaGreatDoor
open Go
set_option linter.unusedVariables false
def rgAB (ops : Array Oper) (ks fs : List Bool) : Bool := rgCoreB ops ks && rgTailB ops ks.length && !fs.contains true
section
variable {P : Program} {ops : Array Oper} {Rel : World → World → Prop} {w0 : World}
theorem rg_finA {a0 : Act} {l : List Oper} {ss : List RgSpec} {Q : Exit → Act → World → Prop} (ok : RgOk ops ss.length) (fl : Nat → Bool) (hsf : ∀ j s, ss[j]? = some s → s.isFlt = fl j) (hnf : ∀ i, i < ss.length → fl i = false)
    (hl : ops = l.toArray) (hrr : ∀ w, Rel w w) (htr : ∀ a b c, Rel a b → Rel b c → Rel a c)
    (hp : ∀ (j : Nat) (s : RgSpec) (o : Oper), ss[j]? = some s → ops[j]? = some o → s.isReck = true → plainOp o = true)
    (h : wpRG P ops Rel w0 (fun _ a w => wpAny P .any ops Q (ops.size - ss.length) (rgHead ss.length (ops.size - ss.length)) a w) ss l 0 a0 []) : RgFin P ops Rel w0 a0 ss fl Q := by
  have hlj : ∀ j, l[j]? = ops[0 + j]? := fun j => by rw [hl]; simp
  intro listed a w inv hall0
  obtain ⟨vs, hs, hr⟩ := inv.slots
  have hall : ∀ i, i < ss.length → listed.getD i false = true := fun i hi => hall0 i hi (hnf i hi)
  have hc : rgCount listed ss.length = 0 := by
    have : ∀ n, n ≤ ss.length → rgCount listed n = 0 := by
      intro n
      induction n with
      | zero => intro _; rfl
      | succ n ihn =>
        intro hle
        simp only [rgCount, ihn (by omega)]
        rw [if_pos (hall n (by omega))]
    exact this _ (Nat.le_refl _)
  rw [hc]
  obtain ⟨b, us, F, hF, hw, hsl, hu, hf, _⟩ := rg_walk ok fl _ a0 vs listed w hrr inv.rel htr inv.closed ss l 0 a0 (fun _ => undef) [] hlj (by omega) rfl
    (fun j s o hj ho => hp j s o hj (by rwa [Nat.zero_add] at ho)) h (by simpa using RgSlots.start (ops := ops) a0 (fun _ => undef)) (fun j hj => by omega) (fun j hj => by omega)
    (fun j s o hj ho hlj => by
      rw [Nat.zero_add] at ho hlj ⊢
      exact hr j s o hj ho hlj) (fun j s hj => by rw [Nat.zero_add]; exact hsf j s hj) (fun j o hj => by omega) ss.length (Nat.le_refl _)
  have hab : b = a := by
    refine hsl.all_same hs (fun j hj => ?_) (fun j hj hlj => ?_)
    · show decide (j < 0 + ss.length) = listed.getD j false
      by_cases hjn : j < ss.length
      · rw [hall j hjn]; simp [hjn]
      · rw [inv.tail j (by omega)]; simp; omega
    · have hjn : j < ss.length := by simpa using hlj
      exact hu j (by omega) (hall j hjn)
  subst hab
  have hle := ok.le
  have hlisted : listed = rgHead ss.length (ops.size - ss.length) := by
    apply Array.ext
    · rw [inv.size]; simp [rgHead]; omega
    · intro i h1 h2
      have e1 : listed.getD i false = listed[i] := by simp [h1]
      rw [← e1]
      by_cases hin : i < ss.length
      · rw [hall i hin]; simp [rgHead, List.getElem_append_left, hin]
      · rw [inv.tail i (by omega)]; simp only [rgHead, List.getElem_toArray]; rw [List.getElem_append_right (by simp; omega)]; simp
  rw [Nat.zero_add]
  have h1 : wpAny P .any ops Q (ops.size - ss.length) (rgHead ss.length (ops.size - ss.length)) b w := by
    have := hw
    rw [List.drop_length] at this
    simp only [wpRG] at this
    refine this w inv.rel (fun j => ?_)
    by_cases hj : j < ss.length
    · exact hf j (by omega) (.inl (hall j hj)) w (hrr w)
    · exact rgF_ge (by omega) w
  rw [hlisted]
  exact h1
end
section
variable {P : Program} {ops : Array Oper} {Rel : World → World → Prop} {w0 : World}
/-- ████ THE HEAD BY THE RULE, THE TAIL BY HAND ████ -/
theorem wp_region_rgA {id : Nat} {Q : Exit → Act → World → Prop} {a : Act} {w : World} {l : List Oper} (ss : List RgSpec) (Rel : World → World → Prop) (hm : P.follows .mixedOrders = true) (hB : rgAB l.toArray (ss.map RgSpec.isReck) (ss.map RgSpec.isFlt) = true)
    (hrr : ∀ w, Rel w w) (htr : ∀ a b c, Rel a b → Rel b c → Rel a c)
    (h : wpRG P l.toArray Rel w.drew (fun _ a w => wpAny P .any l.toArray Q (l.toArray.size - ss.length) (rgHead ss.length (l.toArray.size - ss.length)) a w) ss l 0 a []) : (Code.region id l.toArray true).wp P Q a w := by
  simp only [rgAB, Bool.and_eq_true, Bool.not_eq_true'] at hB
  obtain ⟨⟨hC, hT⟩, hN⟩ := hB
  rw [List.length_map] at hT
  refine wp_region_any hm ?_
  refine rg_start _ rfl _ rfl hC (fun t h1 h2 i hi _ => rgTail_all hT t h1 h2 i hi) hrr htr h fun ok hsf hp => rg_finA ok _ hsf (fun i hi => ?_) rfl hrr htr hp h
  cases hx : (ss.map RgSpec.isFlt).getD i false with
  | false => rfl
  | true =>
    have hm : true ∈ ss.map RgSpec.isFlt := by
      rw [List.getD_eq_getElem?_getD] at hx
      cases hy : (ss.map RgSpec.isFlt)[i]? with
      | none => rw [hy] at hx; cases hx
      | some v => rw [hy] at hx; cases hx; exact List.mem_of_getElem? hy
    have : (ss.map RgSpec.isFlt).contains true = true := by simpa using hm
    rw [hN] at this; cases this

end
end Go.Proofs.YtddopoojmadpjaaGreatDoor
