/-
  What the document writes a packet as, and its vector: each function in one contract.
-/
import Derived.Test.YtdmijoochgmhiabDoorPacketAll
import Derived.Test.YtdmijoochgmhiabDoorPacketWriteRef
namespace Go.Proofs.YtdmijoochgmhiabDoor
open Go.RowKit
set_option linter.unusedVariables false

theorem refWrite_all (n s q : Int) (id m o nn md k k' seed : Nat) (hid : id < 4294967296) (hn : nn < 4294967296) (hsd : seed < 18446744073709551616) (hm : n ≤ 9223372036854775807) (hsm : s ≤ 9223372036854775807) (a a' : Option Addr) (c c' : Nat) (l lp : List UInt8) (w : World)
    (hs : Bs w a k c l) (hs' : Bs w a' k' c' lp) (hk : k ≤ 1000000000) (hk' : k' ≤ 1000000000) :
    Calls Tryd.prog 22 #[.agg #[.int .i64 n, .int .i64 s, .int .i64 q, .int .u32 (id : Int)], .agg #[.int .u8 (m : Int), .int .u32 (o : Int), .int .u32 (nn : Int), .int .u8 (md : Int), .slice a k c, .int .u64 (seed : Int), .slice a' k' c']] w fun e w' => ∃ a1 k1 c1, e = .returned (.tuple #[.slice a1 k1 c1, .int .i64 (fitErr n s q id m o md k k' : Nat)]) ∧ Bs w' a1 k1 c1 (wText n s q id m o nn md l seed lp) ∧ Gr w w' := by
  unfold wText
  rw [hs.1, hs'.1]
  by_cases h0 : fitErr n s q id m o md k k' = 0
  · obtain ⟨q', rfl, hq'⟩ := fitErr_q h0
    obtain ⟨_, _, h3, h4, _⟩ := fitErr_zero h0
    subst h3 h4
    rw [if_pos h0, h0]
    refine (refWrite_ok n s q' o md nn k k' seed hid hn hsd hm hsm a a' c c' l lp w hs hs' hk hk' h0).mono ?_
    rintro e w' ⟨a1, c1, he, ho, hg⟩
    exact ⟨a1, _, c1, he, ho, hg⟩
  · rw [if_neg h0]
    refine (refWrite_bad n s q id m o md k k' nn seed hm hsm (by omega) (by omega) a a' c c' w h0).mono ?_
    rintro e w' ⟨he, hg⟩
    exact ⟨none, 0, 0, he, Bs.nil _, hg⟩

set_option maxRecDepth 100000 in
set_option maxHeartbeats 1000000 in
theorem refPackVec_ok (n s : Int) (q : Nat) (id m o nn md k k' seed : Nat) (hsd : seed < 18446744073709551616) (a a' : Option Addr) (c c' : Nat) (l lp : List UInt8) (w : World)
    (hs : Bs w a k c l) (hk : k ≤ 1000000000) (h0 : fitErr n s q id m o md k k' = 0) :
    Calls Tryd.prog 27 #[.agg #[.int .i64 n, .int .i64 s, .int .i64 (q : Int), .int .u32 (id : Int)], .agg #[.int .u8 (m : Int), .int .u32 (o : Int), .int .u32 (nn : Int), .int .u8 (md : Int), .slice a k c, .int .u64 (seed : Int), .slice a' k' c']] w fun e w' => ∃ a1 c1, e = .returned (.slice a1 q c1) ∧ Bs w' a1 q c1 (rowVec md l seed q) ∧ Gr w w' := by
  have hrow := fitErr_row h0
  have HV := Lib.hid fun w hs => refVector_ok md a k c l seed hsd q w hs (by omega) hrow
  have HS := Lib.hid hs
  clear hrow h0 hs
  go_enter Tryd.func27, Tryd.ntmps27
  go_wp2_with fail
  refine (HV.out _ (HS.out.below (((Gr.refl w).alloc _).alloc _))).mono ?_
  rintro e w1 ⟨a1, c1, rfl, hb1, hg1⟩
  have hgw := (((Gr.refl w).alloc _).alloc _).trans hg1
  clear hg1
  go_wp2
  go_ret
  exact ⟨a1, c1, rfl, hb1, hgw⟩
end Go.Proofs.YtdmijoochgmhiabDoor
