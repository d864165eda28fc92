/-
  Counts in a map, in plain words: their total, as entries come, and as one is raised.
-/
import Derived.Test.YtdmijoochgmhiaaGreatDoorBase
import Derived.Maps.Ext
namespace Go.Proofs.YtdmijoochgmhiaaGreatDoor
open Go.RowKit Go.Maps
set_option linter.unusedVariables false

def valOf : DataW Unit → Int
  | .lit (.int _ c) => c
  | _ => 0
def totE : List (Lit × DataW Unit) → Int
  | [] => 0
  | p :: es => valOf p.2 + totE es
def totL (left : Lit → Bool) : List (Lit × DataW Unit) → Int
  | [] => 0
  | p :: es => (if left p.1 = true then 0 else valOf p.2) + totL left es
def tot : DataW Unit → Int
  | .map es => totE es
  | _ => 0
def totD (left : Lit → Bool) : DataW Unit → Int
  | .map es => totL left es
  | _ => 0
theorem totL_none (left : Lit → Bool) : ∀ es : List (Lit × DataW Unit), (∀ p ∈ es, left p.1 = false) → totL left es = totE es
  | [], _ => rfl
  | p :: es, h => by
    simp only [totL, totE, totL_none left es fun q hq => h q (.tail _ hq)]
    rw [if_neg (by rw [h p (.head _)]; exact Bool.false_ne_true)]
theorem totL_all (left : Lit → Bool) : ∀ es : List (Lit × DataW Unit), (∀ p ∈ es, left p.1 = true) → totL left es = 0
  | [], _ => rfl
  | p :: es, h => by
    simp only [totL, totL_all left es fun q hq => h q (.tail _ hq)]
    rw [if_pos (h p (.head _))]; rfl
theorem totL_congr {l1 l2 : Lit → Bool} : ∀ es : List (Lit × DataW Unit), (∀ p ∈ es, l1 p.1 = l2 p.1) → totL l1 es = totL l2 es
  | [], _ => rfl
  | p :: es, h => by simp only [totL, totL_congr es fun q hq => h q (.tail _ hq), h p (.head _)]
/-- an entry has come. -/
theorem totL_step (left : Lit → Bool) (kl : Lit) (d : DataW Unit) (hl : left kl = true) : ∀ es : List (Lit × DataW Unit), es.Pairwise (fun p q => p.1 ≠ q.1) → (∀ zd, (DataW.map es).atKey kl zd = d) →
    totL (fun z => left z && !z.sameKey kl) es = totL left es + valOf d
  | [], _, hat => by
    have h1 : (DataW.nil : DataW Unit) = d := hat .nil
    have h2 : (DataW.lit (.int .i64 0) : DataW Unit) = d := hat _
    rw [← h1] at h2; cases h2
  | p :: es, hp, hat => by
    cases hp with
    | cons h0 h1 =>
      by_cases hs : p.1.sameKey kl = true
      · have hpk : p.1 = kl := WideAt.sameKey_eq hs
        have hd : p.2 = d := by have := hat .nil; simpa [DataW.atKey, List.find?_cons, hs] using this
        have ht : totL (fun z => left z && !z.sameKey kl) es = totL left es := totL_congr es fun q hq => by
          have : q.1.sameKey kl = false := by
            cases hx : q.1.sameKey kl with
            | false => rfl
            | true => exact absurd ((hpk.trans (WideAt.sameKey_eq hx).symm)) (h0 q hq)
          simp [this]
        simp only [totL, ht, hs, hd]
        rw [if_neg (by simp), if_pos (by rw [hpk]; exact hl)]; omega
      · have hs' : p.1.sameKey kl = false := by simpa using hs
        have ih := totL_step left kl d hl es h1 fun zd => by
          have := hat zd
          simpa [DataW.atKey, List.find?_cons, hs'] using this
        simp only [totL, ih, hs', Bool.not_false, Bool.and_true]; omega
theorem totE_insert (x : Lit × DataW Unit) : ∀ es : List (Lit × DataW Unit), totE (DataW.insert x es) = valOf x.2 + totE es
  | [] => rfl
  | y :: r => by
    unfold DataW.insert
    split
    · rfl
    · simp only [totE, totE_insert x r]; omega
theorem totE_split (k : Lit) : ∀ es : List (Lit × DataW Unit), es.Pairwise (fun p q => p.1 ≠ q.1) → totE es = totE (es.filter fun p => !p.1.sameKey k) + valOf ((DataW.map es).atKey k (.lit (.int .i64 0)))
  | [], _ => rfl
  | p :: es, hp => by
    cases hp with
    | cons h0 h1 =>
      by_cases hs : p.1.sameKey k = true
      · have hf : es.filter (fun p => !p.1.sameKey k) = es := List.filter_eq_self.2 fun q hq => by
          cases hx : q.1.sameKey k with
          | false => rfl
          | true => exact absurd ((WideAt.sameKey_eq hs).trans (WideAt.sameKey_eq hx).symm) (h0 q hq)
        simp only [totE, List.filter_cons, hs, Bool.not_true, Bool.false_eq_true, if_false, hf, DataW.atKey, List.find?_cons]; omega
      · have hs' : p.1.sameKey k = false := by simpa using hs
        have ih := totE_split k es h1
        simp only [totE, List.filter_cons, hs', Bool.not_false, if_true, ih, DataW.atKey, List.find?_cons]; omega
theorem Canon.apart {D : DataW Unit} (h : Canon D) : ∃ es, D = .map es ∧ es.Pairwise (fun p q => p.1 ≠ q.1) := by
  obtain ⟨es, he, hr, _⟩ := h
  exact ⟨es, he, apart_of_rising hr⟩
theorem tot_put {D : DataW Unit} (h : Canon D) (k : Lit) (d : DataW Unit) : tot (D.put k d) = tot D - valOf (D.atKey k (.lit (.int .i64 0))) + valOf d := by
  obtain ⟨es, rfl, hp⟩ := Canon.apart h
  have := totE_split k es hp
  show totE (DataW.insert (k, d) (es.filter fun p => !p.1.sameKey k)) = totE es - _ + _
  rw [totE_insert]
  show valOf d + _ = _
  omega
theorem totD_start {D : DataW Unit} (h : Canon D) : totD (has D) D = 0 := by
  obtain ⟨es, rfl, _, hk⟩ := h
  exact totL_all _ es fun p hp => by
    rw [has_eq, List.any_eq_true]
    exact ⟨p, hp, WideAt.sameKey_self (hk p hp)⟩
theorem totD_step {D : DataW Unit} (h : Canon D) {left : Lit → Bool} {kl : Lit} {d : DataW Unit} (hl : left kl = true) (hat : ∀ zd, D.atKey kl zd = d) : totD (fun z => left z && !z.sameKey kl) D = totD left D + valOf d := by
  obtain ⟨es, rfl, hp⟩ := Canon.apart h
  exact totL_step left kl d hl es hp hat
theorem totD_end {D : DataW Unit} (h : Canon D) {left : Lit → Bool} (hl : ∀ k, left k = false) : totD left D = tot D := by
  obtain ⟨es, rfl, _⟩ := h
  exact totL_none left es fun p _ => hl p.1

/-- no entry is below 0. -/
def NonNeg : DataW Unit → Prop
  | .map es => ∀ p ∈ es, 0 ≤ valOf p.2
  | _ => True
theorem totL_le (left : Lit → Bool) : ∀ es : List (Lit × DataW Unit), (∀ p ∈ es, 0 ≤ valOf p.2) → 0 ≤ totL left es ∧ totL left es ≤ totE es
  | [], _ => ⟨Int.le_refl _, Int.le_refl _⟩
  | p :: es, h => by
    have ih := totL_le left es fun q hq => h q (.tail _ hq)
    have h0 := h p (.head _)
    simp only [totL, totE]
    split <;> omega
theorem totD_le {D : DataW Unit} (h : NonNeg D) (left : Lit → Bool) : 0 ≤ totD left D ∧ totD left D ≤ tot D := by
  cases D <;> first | exact totL_le left _ h | exact ⟨Int.le_refl _, Int.le_refl _⟩
theorem mem_insert (x y : Lit × DataW Unit) : ∀ es : List (Lit × DataW Unit), y ∈ DataW.insert x es → y = x ∨ y ∈ es
  | [], h => by simpa [DataW.insert] using h
  | z :: r, h => by
    unfold DataW.insert at h
    split at h
    · simpa using h
    · rcases List.mem_cons.1 h with h | h
      · exact .inr (by rw [h]; exact .head _)
      · rcases mem_insert x y r h with h | h
        · exact .inl h
        · exact .inr (.tail _ h)
theorem NonNeg.put {D : DataW Unit} (h : NonNeg D) (k : Lit) (d : DataW Unit) (hd : 0 ≤ valOf d) : NonNeg (D.put k d) := by
  cases D with
  | map es =>
    intro p hp
    rcases mem_insert (k, d) p _ hp with h1 | h1
    · rw [h1]; exact hd
    · exact h p (List.mem_filter.1 h1).1
  | _ => trivial

/-- D holds how often each of these was told. -/
def CntOk (D : DataW Unit) (es : List Nat) : Prop := (∀ e : Nat, D.atKey (.int .i64 (e : Int)) (.lit (.int .i64 0)) = .lit (.int .i64 (es.count e : Nat))) ∧ tot D = es.length ∧ NonNeg D
theorem CntOk.nil : CntOk (.map []) [] := ⟨fun e => rfl, rfl, fun _ h => by cases h⟩
theorem CntOk.put {D : DataW Unit} {es : List Nat} (h : CntOk D es) (hc : Canon D) (e : Nat) : CntOk (D.put (.int .i64 (e : Int)) (.lit (.int .i64 ((es.count e : Nat) + 1 : Int)))) (e :: es) := by
  refine ⟨fun e' => ?_, ?_, h.2.2.put _ _ (by show (0 : Int) ≤ (es.count e : Nat) + 1; omega)⟩
  · by_cases he : e' = e
    · subst he
      rw [atKey_put_same (by obtain ⟨x, hx, _⟩ := hc; exact ⟨x, hx⟩) (show WideAt.IsKeyLit (.int .i64 (e' : Int)) from trivial), List.count_cons_self]; simp
    · rw [atKey_put_other (fun c => he (by simp at c; omega)), h.1 e', List.count_cons_of_ne (Ne.symm he)]
  · rw [tot_put hc, h.1 e, h.2.1]
    simp only [valOf, List.length_cons]; omega
end Go.Proofs.YtdmijoochgmhiaaGreatDoor
