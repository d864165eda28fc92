/-
  What a packet is written as, and its equation: each function in one contract, of whatever packet.
-/
import Derived.Test.YtdmijoochgmhiaaGreatDoorPacketEq
namespace Go.Proofs.YtdmijoochgmhiaaGreatDoor
open Go.RowKit
set_option linter.unusedVariables false

/-- what a packet is written as, where nothing is wrong; its vector; what it carries. -/
def wText (n s q : Int) (id m o nn md : Nat) (l : List UInt8) (seed : Nat) (lp : List UInt8) : List UInt8 := if fitErr n s q id m o md l.length lp.length = 0 then packText m o nn l seed lp else []
def wVec (n s q : Int) (id m o nn md : Nat) (l : List UInt8) (seed : Nat) (lp : List UInt8) : List UInt8 := if fitErr n s q id m o md l.length lp.length = 0 then rowVec m l seed q.toNat else []
def wData (n s q : Int) (id m o nn md : Nat) (l : List UInt8) (seed : Nat) (lp : List UInt8) : List UInt8 := if fitErr n s q id m o md l.length lp.length = 0 then lp else []

theorem fitErr_q {n s q : Int} {id m o md k k' : Nat} (h : fitErr n s q id m o md k k' = 0) : ∃ q' : Nat, q = (q' : Int) ∧ q' ≤ 4096 := by
  obtain ⟨hP, _⟩ := fitErr_zero h
  obtain ⟨e1, e2⟩ := planErr_zero hP
  obtain ⟨f1, f2, f3, f4⟩ := planFit_zero e1
  have hp := planNeed_pos f1 f2
  exact ⟨q.toNat, by omega, by omega⟩

theorem packWrite_all (n s q : Int) (id m o nn md k k' seed : Nat) (hid : id < 4294967296) (hn : nn < 4294967296) (hlo : -9223372036854775808 ≤ n) (hm : n ≤ 9223372036854775807) (hsl : -9223372036854775808 ≤ s) (hsm : s ≤ 9223372036854775807) (a a' : Option Addr) (c c' : Nat) (l lp : List UInt8) (w : World) (htab : Tab w)
    (hs : Bs w a k c l) (hs' : Bs w a' k' c' lp) (hk : k ≤ 1000000000) (hk' : k' ≤ 1000000000) :
    Calls Tryz.prog 34 #[.agg #[.int .u8 (m : Int), .int .u32 (o : Int), .int .u32 (nn : Int), .int .u8 (md : Int), .slice a k c, .int .u64 (seed : Int), .slice a' k' c'], .agg #[.int .i64 n, .int .i64 s, .int .i64 q, .int .u32 (id : Int)]] w fun e w' => ∃ a1 k1 c1, e = .returned (.tuple #[.slice a1 k1 c1, .int .i64 (fitErr n s q id m o md k k' : Nat)]) ∧ OwnV w' w.heap.size (.slice a1 k1 c1) (wText n s q id m o nn md l seed lp) ∧ Gr w w' := by
  unfold wText
  rw [hs.1, hs'.1]
  by_cases h0 : fitErr n s q id m o md k k' = 0
  · obtain ⟨q', rfl, hq'⟩ := fitErr_q h0
    obtain ⟨_, _, h3, h4, _⟩ := fitErr_zero h0
    subst h3 h4
    rw [if_pos h0, h0]
    refine (packWrite_ok n s q' o md nn k k' seed hid hn hlo hm hsl hsm a a' c c' l lp w htab hs hs' hk hk' (by omega) h0).mono ?_
    rintro e w' ⟨a1, c1, he, ho, hg⟩
    exact ⟨a1, _, c1, he, ho, hg⟩
  · rw [if_neg h0]
    refine (packWrite_bad n s q id m o md k k' nn seed hlo hm hsl hsm (by omega) (by omega) a a' c c' w h0).mono ?_
    rintro e w' ⟨he, hg⟩
    exact ⟨none, 0, 0, he, OwnV.nil _ _, hg⟩

theorem packEq_all (n s q : Int) (id m o nn md k k' seed : Nat) (hsd : seed < 18446744073709551616) (hlo : -9223372036854775808 ≤ n) (hm : n ≤ 9223372036854775807) (hsl : -9223372036854775808 ≤ s) (hsm : s ≤ 9223372036854775807) (a a' : Option Addr) (c c' : Nat) (l lp : List UInt8) (w : World)
    (hs : Bs w a k c l) (hs' : Bs w a' k' c' lp) (hk : k ≤ 1000000000) (hk' : k' ≤ 1000000000) :
    Calls Tryz.prog 40 #[.agg #[.int .u8 (m : Int), .int .u32 (o : Int), .int .u32 (nn : Int), .int .u8 (md : Int), .slice a k c, .int .u64 (seed : Int), .slice a' k' c'], .agg #[.int .i64 n, .int .i64 s, .int .i64 q, .int .u32 (id : Int)]] w fun e w' => ∃ a1 k1 c1 a2 k2 c2, e = .returned (.tuple #[.agg #[.slice a1 k1 c1, .slice a2 k2 c2], .int .i64 (fitErr n s q id m o md k k' : Nat)]) ∧ OwnV w' w.heap.size (.slice a1 k1 c1) (wVec n s q id m o nn md l seed lp) ∧ OwnV w' w.heap.size (.slice a2 k2 c2) (wData n s q id m o nn md l seed lp) ∧ Gr w w' := by
  unfold wVec wData
  rw [hs.1, hs'.1]
  by_cases h0 : fitErr n s q id m o md k k' = 0
  · obtain ⟨q', rfl, hq'⟩ := fitErr_q h0
    obtain ⟨_, _, h3, h4, _⟩ := fitErr_zero h0
    subst h3 h4
    rw [if_pos h0, if_pos h0, h0]
    refine (packEq_ok n s q' o md nn k k' seed hsd hlo hm hsl hsm a a' c c' l lp w hs hs' hk hk' (by omega) h0).mono ?_
    rintro e w' ⟨a1, c1, a2, c2, he, ho, ho', hg⟩
    exact ⟨a1, _, c1, a2, _, c2, he, ho, ho', hg⟩
  · rw [if_neg h0, if_neg h0]
    refine (packEq_bad n s q id m o md k k' nn seed hlo hm hsl hsm (by omega) (by omega) a a' c c' w h0).mono ?_
    rintro e w' ⟨he, hg⟩
    exact ⟨none, 0, 0, none, 0, 0, he, OwnV.nil _ _, OwnV.nil _ _, hg⟩
end Go.Proofs.YtdmijoochgmhiaaGreatDoor
