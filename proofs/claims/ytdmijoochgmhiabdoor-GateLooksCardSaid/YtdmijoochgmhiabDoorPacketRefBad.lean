/-
  The document's Read of a packet: every way out with an error.
-/
import Derived.Test.YtdmijoochgmhiabDoorPacketRefSum
import Derived.Test.YtdmijoochgmhiabDoorPacketRefId
namespace Go.Proofs.YtdmijoochgmhiabDoor
open Go.RowKit
set_option linter.unusedVariables false

theorem refPack_bad (n s q : Int) (id : Nat) (hlo : -9223372036854775808 ≤ n) (hm : n ≤ 9223372036854775807) (hsl : -9223372036854775808 ≤ s) (hsm : s ≤ 9223372036854775807) (a : Option Addr) (len cap : Nat) (l : List UInt8) (w : World) (htab : Tab w) (hs : Bs w a len cap l) (hmx : len ≤ 140737488355328) (h0 : packErr n s q id l ≠ 0) :
    Calls Tryd.prog 9 #[.agg #[.int .i64 n, .int .i64 s, .int .i64 q, .int .u32 (id : Int)], .slice a len cap] w fun e w' => e = .returned (.tuple #[packZ, .int .i64 (packErr n s q id l : Nat)]) ∧ Gr w w' := by
  by_cases hP : planErr n s q = 0
  · by_cases hH : headErr l = 0
    · by_cases hL : (l.length : Int) = 14 + widthN (headM l) q + s
      · by_cases hC : get4 (l.drop (l.length - 4)) = crc (l.take (l.length - 4))
        · have hO : headO l ≠ id := fun c => h0 (by rw [packErr, if_neg (by simpa using hP), if_neg (by simpa using hH), if_neg (by simpa using hL), if_neg (by simpa using hC), if_neg (by simpa using c)])
          exact refPack_id n s q id hlo hm hsl hsm a len cap l w htab hs hmx hP hH hL hC hO
        · exact refPack_sum n s q id hlo hm hsl hsm a len cap l w htab hs hmx hP hH hL hC
      · exact refPack_len n s q id hlo hm hsl hsm a len cap l w htab hs hmx hP hH h0 hL
    · rw [show packErr n s q id l = headErr l by rw [packErr, if_neg (by simpa using hP), if_pos hH]]
      exact refPack_head n s q id hlo hm hsl hsm a len cap l w hs hP hH
  · rw [show packErr n s q id l = planErr n s q by rw [packErr, if_pos hP]]
    exact refPack_plan n s q id hlo hm hsl hsm a len cap w hP
end Go.Proofs.YtdmijoochgmhiabDoor
