/-
  What packet.Read and the document's Read tell is the same: both in one statement.
-/
import Derived.Test.YtdmijoochgmhiabDoorPacketLawRef
import Derived.Test.YtdmijoochgmhiabDoorPacketGot
import Derived.Test.YtdmijoochgmhiabDoorPacketRefOk
import Derived.Test.YtdmijoochgmhiabDoorPacketRefBad
namespace Go.Proofs.YtdmijoochgmhiabDoor
open Go.RowKit
set_option linter.unusedVariables false

theorem refPack_all (n s q : Int) (id : Nat) (hlo : -9223372036854775808 ≤ n) (hm : n ≤ 9223372036854775807) (hsl : -9223372036854775808 ≤ s) (hsm : s ≤ 9223372036854775807) (a : Option Addr) (len cap : Nat) (l : List UInt8) (w : World) (htab : Tab w) (hs : Bs w a len cap l) (hmx : len ≤ 140737488355328) :
    Calls Tryd.prog 9 #[.agg #[.int .i64 n, .int .i64 s, .int .i64 q, .int .u32 (id : Int)], .slice a len cap] w fun e w' => ∃ a1 k1 c1 a2 k2 c2, e = .returned (.tuple #[.agg #[.int .u8 ((packGot n s q id l).m : Int), .int .u32 ((packGot n s q id l).o : Int), .int .u32 ((packGot n s q id l).nn : Int), .int .u8 ((packGot n s q id l).md : Int), .slice a1 k1 c1, .int .u64 ((packGot n s q id l).sd : Int), .slice a2 k2 c2], .int .i64 (packErr n s q id l : Nat)]) ∧ Bs w' a1 k1 c1 (packGot n s q id l).lb ∧ Bs w' a2 k2 c2 (packGot n s q id l).lp ∧ Gr w w' := by
  by_cases h0 : packErr n s q id l = 0
  · obtain ⟨sz, W, rfl, hW, hlen⟩ := packErr_len h0
    have hl := hs.1
    obtain rfl : len = 10 + W + sz + 4 := by omega
    rw [packGot, if_pos h0, hW, h0]
    refine (refPack_ok n sz W q id hlo hm hsm a cap l w htab hs hmx hW h0).mono ?_
    rintro e w' ⟨a1, k1, c1, a2, c2, he, h1, h2, hg⟩
    exact ⟨a1, k1, c1, a2, sz, c2, he, h1, h2, hg⟩
  · rw [packGot, if_neg h0]
    refine (refPack_bad n s q id hlo hm hsl hsm a len cap l w htab hs hmx h0).mono ?_
    rintro e w' ⟨he, hg⟩
    exact ⟨none, 0, 0, none, 0, 0, he, Bs.nil _, Bs.nil _, hg⟩
end Go.Proofs.YtdmijoochgmhiabDoor
