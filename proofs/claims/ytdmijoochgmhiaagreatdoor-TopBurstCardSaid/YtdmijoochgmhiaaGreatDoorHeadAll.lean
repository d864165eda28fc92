/-
  What a head is written as, and what is read: each function in one contract.
-/
import Derived.Test.YtdmijoochgmhiaaGreatDoorHeadRead
namespace Go.Proofs.YtdmijoochgmhiaaGreatDoor
open Go.RowKit

/-- what a head is written as, and what is read. -/
theorem headBytes_all (m o n : Nat) (ho : o < 4294967296) (hn : n < 4294967296) (w : World) :
    Calls Tryz.prog 67 #[.agg #[.int .u8 (m : Int), .int .u32 (o : Int), .int .u32 (n : Int)]] w fun e w' => ∃ a k cap, e = .returned (.tuple #[.slice a k cap, .int .i64 (if m ≤ 1 then 0 else 8)]) ∧ Bs w' a k cap (if m ≤ 1 then headL m o n else []) ∧ Gr w w' := by
  by_cases hm : m ≤ 1
  · simp only [if_pos hm]
    exact (headBytes_ok m o n hm ho hn w).mono fun e w' ⟨a, cap, he, hb, hg⟩ => ⟨a, 10, cap, he, hb.bs'.1, hg⟩
  · simp only [if_neg hm]
    exact (headBytes_not m o n hm w).mono fun e w' ⟨he, hg⟩ => ⟨none, 0, 0, he, Bs.nil _, hg⟩
theorem headCheck_all (m : Nat) (o n : Int) (w : World) :
    Calls Tryz.prog 90 #[.agg #[.int .u8 (m : Int), .int .u32 o, .int .u32 n]] w fun e w' => e = .returned (.int .i64 (if m ≤ 1 then 0 else 8)) ∧ Gr w w' := by
  by_cases hm : m ≤ 1
  · simp only [if_pos hm]; exact headCheck_ok m o n hm w
  · simp only [if_neg hm]; exact headCheck_not m o n hm w
/-- what is read. -/
def readM (l : List UInt8) : Nat := if headErr l = 0 then headM l else 0
def readO (l : List UInt8) : Nat := if headErr l = 0 then headO l else 0
def readN (l : List UInt8) : Nat := if headErr l = 0 then headN l else 0
def readL (l : List UInt8) : List UInt8 := if headErr l = 0 then l.drop 10 else []
theorem headRead_all (a : Option Addr) (len cap : Nat) (l : List UInt8) (w : World) (hs : Bs w a len cap l) (hmx : len ≤ 140737488355328) :
    Calls Tryz.prog 48 #[.slice a len cap] w fun e w' => ∃ a' k cap', e = .returned (.tuple #[.agg #[.int .u8 (readM l : Int), .int .u32 (readO l : Int), .int .u32 (readN l : Int)], .slice a' k cap', .int .i64 (headErr l : Nat)]) ∧ Bs w' a' k cap' (readL l) ∧ Gr w w' := by
  by_cases h0 : headErr l = 0
  · unfold readM readO readN readL
    simp only [if_pos h0]
    rw [h0]
    exact (headRead_ok a len cap l w hs h0 hmx).mono fun e w' ⟨a', cap', he, hb, hg⟩ => ⟨a', len - 10, cap', he, hb, hg⟩
  · unfold readM readO readN readL
    simp only [if_neg h0]
    exact (headRead_bad a len cap l w hs h0).mono fun e w' ⟨he, hg⟩ => ⟨none, 0, 0, he, Bs.nil _, hg⟩
end Go.Proofs.YtdmijoochgmhiaaGreatDoor
