/-
  What the document writes and reads a head as: each function in one contract.
-/
import Derived.Test.YtdmijoochgmhiabDoorHeadReadRef
import Derived.Test.YtdmijoochgmhiabDoorHeadAll
namespace Go.Proofs.YtdmijoochgmhiabDoor
open Go.RowKit

theorem refHeadBytes_all (m o n : Nat) (ho : o < 4294967296) (hn : n < 4294967296) (w : World) :
    Calls Tryd.prog 47 #[.agg #[.int .u8 (m : Int), .int .u32 (o : Int), .int .u32 (n : Int)]] w fun e w' => ∃ a k cap, e = .returned (.tuple #[.slice a k cap, .int .i64 (if m ≤ 1 then 0 else 8)]) ∧ Bs w' a k cap (if m ≤ 1 then headL m o n else []) ∧ Gr w w' := by
  by_cases hm : m ≤ 1
  · simp only [if_pos hm]
    exact (refHeadBytes_ok m o n hm ho hn w).mono fun e w' ⟨a, cap, he, hb, hg⟩ => ⟨a, 10, cap, he, hb, hg⟩
  · simp only [if_neg hm]
    exact (refHeadBytes_not m o n hm w).mono fun e w' ⟨he, hg⟩ => ⟨none, 0, 0, he, Bs.nil _, hg⟩
theorem refHeadRead_all (a : Option Addr) (len cap : Nat) (l : List UInt8) (w : World) (hs : Bs w a len cap l) :
    Calls Tryd.prog 35 #[.slice a len cap] w fun e w' => ∃ a' k cap', e = .returned (.tuple #[.agg #[.int .u8 (readM l : Int), .int .u32 (readO l : Int), .int .u32 (readN l : Int)], .slice a' k cap', .int .i64 (headErr l : Nat)]) ∧ Bs w' a' k cap' (readL l) ∧ Gr w w' := by
  by_cases h0 : headErr l = 0
  · unfold readM readO readN readL
    simp only [if_pos h0]
    rw [h0]
    exact (refHeadRead_ok a len cap l w hs h0).mono fun e w' ⟨a', cap', he, hb, hg⟩ => ⟨a', len - 10, cap', he, hb, hg⟩
  · unfold readM readO readN readL
    simp only [if_neg h0]
    exact (refHeadRead_bad a len cap l w hs h0).mono fun e w' ⟨he, hg⟩ => ⟨none, 0, 0, he, Bs.nil _, hg⟩
end Go.Proofs.YtdmijoochgmhiabDoor
