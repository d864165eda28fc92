/-
  A gate, whatever came to it: its methods, in one contract each.
-/
import Derived.Test.YtdmijoochgmhiaaGreatDoorGateNil
namespace Go.Proofs.YtdmijoochgmhiaaGreatDoor
open Go.RowKit Go.Maps
set_option linter.unusedVariables false

/-- THE COUNTS OF A GATE that told these, one behind the other: no map, or one that holds how often each was told. -/
def GateAt (w : World) (g : Option Nat) (es : List Nat) : Prop :=
  (g = none ∧ es = []) ∨ ∃ b D, g = some b ∧ CntMap w b es.length D ∧ CntOk D es
theorem GateAt.none (w : World) : GateAt w none [] := .inl ⟨rfl, rfl⟩
theorem GateAt.gr {w w' : World} {g : Option Nat} {es : List Nat} (h : GateAt w g es) (hg : Gr w w') : GateAt w' g es := by
  rcases h with h | ⟨b, D, h1, h2, h3⟩
  · exact .inl h
  · exact .inr ⟨b, D, h1, h2.gr hg, h3⟩
theorem GateAt.ne {w : World} {g : Option Nat} {es : List Nat} {b : Nat} {cs : Array Value} {t : TypeId} {m : Nat × Nat} (h : GateAt w g es) (hc : w.heap[b]? = some (.cells cs t m)) : g ≠ some b := by
  rcases h with ⟨rfl, _⟩ | ⟨b', D, rfl, ⟨es', cl, h1, _⟩, _⟩
  · exact fun e => by cases e
  · intro e
    obtain rfl : b' = b := by simpa using e
    rw [h1] at hc; cases hc
theorem GateAt.grc {w w' : World} {g : Option Nat} {es : List Nat} {x y : Nat} (h : GateAt w g es) (hg : GrC w x y w') (hx : g ≠ some x) (hy : g ≠ some y) : GateAt w' g es := by
  rcases h with h | ⟨b, D, rfl, h2, h3⟩
  · exact .inl h
  · exact .inr ⟨b, D, rfl, h2.grc hg (fun e => hx (by rw [e])) (fun e => hy (by rw [e])), h3⟩
theorem GateAt.grb {w w' : World} {g : Option Nat} {es : List Nat} {x : Nat} (h : GateAt w g es) (hg : GrB w x w') (hx : g ≠ some x) : GateAt w' g es := h.grc (GrC.of_grb (c := x) hg) hx hx
theorem cntNil_put (E : Nat) : CntOk ((DataW.map [] : DataW Unit).put (.int .i64 (E : Int)) (.lit (.int .i64 1))) [E] := by
  have := CntOk.put CntOk.nil canon_empty E
  simpa using this

theorem gateCount_any (n s q : Int) (id : Nat) (g : Option Nat) (es : List Nat) (e : Nat) (he : e ≤ 1000000) (w : World) (h : GateAt w g es) :
    Calls Tryz.prog 26 #[.agg #[.int .i64 n, .int .i64 s, .int .i64 q, .int .u32 (id : Int), .map g], .int .i64 (e : Int)] w fun e' w' => e' = .returned (.int .i64 (es.count e : Nat)) ∧ Gr w w' := by
  have hw : (Lit.int .i64 (e : Int)).wf = true := WalkArith.wf_i64 ⟨by omega, by omega⟩
  rcases h with ⟨rfl, rfl⟩ | ⟨b, D, rfl, h2, h3⟩
  · exact gateCount_nil n s q id e hw w
  · refine (gateCount_own n s q id b _ D e hw w h2).mono ?_
    rintro e' w' ⟨c, rfl, hc, hg⟩
    have := h3.1 e
    rw [hc] at this
    obtain rfl : c = (es.count e : Nat) := by simpa using this
    exact ⟨rfl, hg⟩

theorem gateLook_any (n s q : Int) (id : Nat) (hlo : -9223372036854775808 ≤ n) (hm : n ≤ 9223372036854775807) (hsl : -9223372036854775808 ≤ s) (hsm : s ≤ 9223372036854775807) (a : Option Addr) (len cap : Nat) (l : List UInt8) (g : Option Nat) (es : List Nat) (hl : es.length ≤ 1000) (w : World) (htab : Tab w) (hs : Bs w a len cap l) (hmx : len ≤ 140737488355328) (h : GateAt w g es) :
    Calls Tryz.prog 39 #[.agg #[.int .i64 n, .int .i64 s, .int .i64 q, .int .u32 (id : Int), .map g], .slice a len cap] w fun e w' => ∃ g' a1 k1 c1 a2 k2 c2, e = .returned (.tuple #[.agg #[.int .i64 n, .int .i64 s, .int .i64 q, .int .u32 (id : Int), .map (some g')], .agg #[.int .u8 ((packGot n s q id l).m : Int), .int .u32 ((packGot n s q id l).o : Int), .int .u32 ((packGot n s q id l).nn : Int), .int .u8 ((packGot n s q id l).md : Int), .slice a1 k1 c1, .int .u64 ((packGot n s q id l).sd : Int), .slice a2 k2 c2], .int .i64 (packErr n s q id l : Nat)]) ∧
      GateAt w' (some g') (packErr n s q id l :: es) ∧ Bs w' a1 k1 c1 (packGot n s q id l).lb ∧ Bs w' a2 k2 c2 (packGot n s q id l).lp ∧ Gr w w' := by
  rcases h with ⟨rfl, rfl⟩ | ⟨b, D, rfl, h2, h3⟩
  · refine (gateLook_nil n s q id hlo hm hsl hsm a len cap l w htab hs hmx).mono ?_
    rintro e w' ⟨g', a1, k1, c1, a2, k2, c2, he, hm', hb1, hb2, hg⟩
    exact ⟨g', a1, k1, c1, a2, k2, c2, he, .inr ⟨g', _, rfl, hm', cntNil_put _⟩, hb1, hb2, hg⟩
  · have hle := h2.size_le
    have hcl : es.count (packErr n s q id l) ≤ es.length := List.count_le_length
    refine (gateLook_own n s q id hlo hm hsl hsm a len cap l b _ D w htab hs hmx h2 (by omega) _ (h3.1 _) (by omega) (by omega)).mono ?_
    rintro e w' ⟨g', a1, k1, c1, a2, k2, c2, he, hm', hb1, hb2, hg⟩
    exact ⟨g', a1, k1, c1, a2, k2, c2, he, .inr ⟨g', _, rfl, hm'.mono (by simp; omega), h3.put (h2.canon cntLaw) _⟩, hb1, hb2, hg⟩

/-- gate.New, of whatever plan. -/
theorem gateNew_any (n s q : Int) (id : Nat) (hlo : -9223372036854775808 ≤ n) (hm : n ≤ 9223372036854775807) (hsl : -9223372036854775808 ≤ s) (hsm : s ≤ 9223372036854775807) (w : World) :
    Calls Tryz.prog 37 #[.agg #[.int .i64 n, .int .i64 s, .int .i64 q, .int .u32 (id : Int)]] w fun e w' => e = .returned (.tuple #[if planErr n s q = 0 then .agg #[.int .i64 n, .int .i64 s, .int .i64 q, .int .u32 (id : Int), .map none] else .agg #[.int .i64 0, .int .i64 0, .int .i64 0, .int .u32 0, .map none], .int .i64 (planErr n s q : Nat)]) ∧ Gr w w' := by
  by_cases hP : planErr n s q = 0
  · rw [if_pos hP, hP]; exact gateNew_ok n s q id hlo hm hsl hsm hP w
  · rw [if_neg hP]; exact gateNew_bad n s q id hlo hm hsl hsm hP w
end Go.Proofs.YtdmijoochgmhiaaGreatDoor
