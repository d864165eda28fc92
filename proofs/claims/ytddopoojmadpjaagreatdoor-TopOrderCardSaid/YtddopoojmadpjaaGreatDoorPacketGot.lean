/-
  What packet.Read tells, in one contract.
-/
import Derived.Test.YtddopoojmadpjaaGreatDoorPacketReadOk
namespace Go.Proofs.YtddopoojmadpjaaGreatDoor
open Go.RowKit
set_option linter.unusedVariables false

theorem packErr_len {n s q : Int} {id : Nat} {l : List UInt8} (h0 : packErr n s q id l = 0) : ∃ sz W : Nat, s = (sz : Int) ∧ widthN (headM l) q = (W : Int) ∧ l.length = 10 + W + sz + 4 := by
  obtain ⟨hP, hH, hL, _, _⟩ := packErr_zero h0
  obtain ⟨_, _, L3, L4, _, _, _⟩ := pack_len hP hH
  refine ⟨s.toNat, (widthN (headM l) q).toNat, by omega, by omega, by omega⟩
theorem packErr_le (n s q : Int) (id : Nat) (l : List UInt8) : packErr n s q id l ≤ 19 := by
  unfold packErr
  split
  · unfold planErr planFit
    repeat (split <;> try omega)
  · split
    · unfold headErr
      repeat (split <;> try omega)
    · repeat (split <;> try omega)

/-- what is read of bytes, whichever side reads: the packet, and what is wrong. -/
structure PackGot (n s q : Int) (id : Nat) (l : List UInt8) where
  m : Nat
  o : Nat
  nn : Nat
  md : Nat
  sd : Nat
  lb : List UInt8
  lp : List UInt8
def packGot (n s q : Int) (id : Nat) (l : List UInt8) : PackGot n s q id l :=
  if packErr n s q id l = 0 then
    let lw := (l.take (10 + (widthN (headM l) q).toNat)).drop 10
    ⟨headM l, headO l, headN l, headM l, readSeed (headM l) lw, readBytes (headM l) lw, (l.take (10 + (widthN (headM l) q).toNat + s.toNat)).drop (10 + (widthN (headM l) q).toNat)⟩
  else ⟨0, 0, 0, 0, 0, [], []⟩

theorem packRead_all (n s q : Int) (id : Nat) (hlo : -9223372036854775808 ≤ n) (hm : n ≤ 9223372036854775807) (hsl : -9223372036854775808 ≤ s) (hsm : s ≤ 9223372036854775807) (a : Option Addr) (len cap : Nat) (l : List UInt8) (w : World) (htab : Tab w) (hs : Bs w a len cap l) (hmx : len ≤ 140737488355328) :
    Calls Tryz.prog 45 #[.agg #[.int .i64 n, .int .i64 s, .int .i64 q, .int .u32 (id : Int)], .slice a len cap] w fun e w' => ∃ a1 k1 c1 a2 k2 c2, e = .returned (.tuple #[.agg #[.int .u8 ((packGot n s q id l).m : Int), .int .u32 ((packGot n s q id l).o : Int), .int .u32 ((packGot n s q id l).nn : Int), .int .u8 ((packGot n s q id l).md : Int), .slice a1 k1 c1, .int .u64 ((packGot n s q id l).sd : Int), .slice a2 k2 c2], .int .i64 (packErr n s q id l : Nat)]) ∧ Bs w' a1 k1 c1 (packGot n s q id l).lb ∧ Bs w' a2 k2 c2 (packGot n s q id l).lp ∧ Gr w w' := by
  by_cases h0 : packErr n s q id l = 0
  · obtain ⟨sz, W, rfl, hW, hlen⟩ := packErr_len h0
    have hl := hs.1
    obtain rfl : len = 10 + W + sz + 4 := by omega
    rw [packGot, if_pos h0, hW, h0]
    refine (packRead_ok n sz W q id hlo hm hsm a cap l w htab hs hmx hW h0).mono ?_
    rintro e w' ⟨a1, k1, c1, a2, c2, he, h1, h2, hg⟩
    exact ⟨a1, k1, c1, a2, sz, c2, he, h1, h2, hg⟩
  · rw [packGot, if_neg h0]
    refine (packRead_bad n s q id hlo hm hsl hsm a len cap l w htab hs hmx h0).mono ?_
    rintro e w' ⟨he, hg⟩
    exact ⟨none, 0, 0, none, 0, 0, he, Bs.nil _, Bs.nil _, hg⟩
/-- .. and what is handed back is new. -/
theorem packRead_fresh (n s q : Int) (id : Nat) (hlo : -9223372036854775808 ≤ n) (hm : n ≤ 9223372036854775807) (hsl : -9223372036854775808 ≤ s) (hsm : s ≤ 9223372036854775807) (a : Option Addr) (len cap : Nat) (l : List UInt8) (w : World) (htab : Tab w) (hs : Bs w a len cap l) (hmx : len ≤ 140737488355328) :
    Calls Tryz.prog 45 #[.agg #[.int .i64 n, .int .i64 s, .int .i64 q, .int .u32 (id : Int)], .slice a len cap] w fun e w' => ∃ a1 k1 c1 a2 k2 c2, e = .returned (.tuple #[.agg #[.int .u8 ((packGot n s q id l).m : Int), .int .u32 ((packGot n s q id l).o : Int), .int .u32 ((packGot n s q id l).nn : Int), .int .u8 ((packGot n s q id l).md : Int), .slice a1 k1 c1, .int .u64 ((packGot n s q id l).sd : Int), .slice a2 k2 c2], .int .i64 (packErr n s q id l : Nat)]) ∧ Bs w' a1 k1 c1 (packGot n s q id l).lb ∧ Bs w' a2 k2 c2 (packGot n s q id l).lp ∧ Gr w w' ∧ (∀ x, a1 = some x → w.heap.size ≤ x.block) ∧ (∀ x, a2 = some x → w.heap.size ≤ x.block) := by
  by_cases h0 : packErr n s q id l = 0
  · obtain ⟨sz, W, rfl, hW, hlen⟩ := packErr_len h0
    have hl := hs.1
    obtain rfl : len = 10 + W + sz + 4 := by omega
    rw [packGot, if_pos h0, hW, h0]
    refine (packRead_okF n sz W q id hlo hm hsm a cap l w htab hs hmx hW h0).mono ?_
    rintro e w' ⟨a1, k1, c1, a2, c2, he, h1, h2, hg, f1, f2⟩
    exact ⟨a1, k1, c1, a2, sz, c2, he, h1, h2, hg, f1, f2⟩
  · rw [packGot, if_neg h0]
    refine (packRead_bad n s q id hlo hm hsl hsm a len cap l w htab hs hmx h0).mono ?_
    rintro e w' ⟨he, hg⟩
    exact ⟨none, 0, 0, none, 0, 0, he, Bs.nil _, Bs.nil _, hg, (fun _ h => by cases h), (fun _ h => by cases h)⟩
end Go.Proofs.YtddopoojmadpjaaGreatDoor
