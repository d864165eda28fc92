/-
  The walk of the document's Put.
-/
import Derived.Test.YtdmijoochgmhiacDoorPut4
namespace Go.Proofs.YtdmijoochgmhiacDoor
open Go.RowKit

set_option maxHeartbeats 400000 in
theorem refPut_any (n : Nat) (hn : n < 4294967296) (w : World) :
    Calls Tryd.prog 60 #[.int .u32 (n : Int)] w fun e w' => ∃ v, e = .returned v ∧ Fresh w w' v (put4 n) := by
  go_enter Tryd.func60, Tryd.ntmps60
  go_wp2
  go_ret
  refine ⟨_, rfl, _, _, rfl, Bs.of_alloc ?_ rfl (by simp [put4, maxLen]) rfl, ?_, (Gr.refl _).alloc _⟩
  · simp [u8s, put4, UInt8.toNat_ofNat']; omega
  · intro x hx; cases hx; exact Nat.le_refl _
end Go.Proofs.YtdmijoochgmhiacDoor
