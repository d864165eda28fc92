/-
  The walk of the chapter's example of heads.
-/
import Derived.Test.YtdmijoochgmhiabHeadReadRef
import Derived.Test.YtdmijoochgmhiabSame
namespace Go.Proofs.Ytdmijoochgmhiab
open Go.RowKit

theorem headL_ex : headL 1 7 258 = [1, 1, 7, 0, 0, 0, 2, 1, 0, 0] := by decide
set_option maxRecDepth 100000 in
set_option maxHeartbeats 2000000 in
theorem headAwake_any (w : World) : Calls Try.prog 31 #[] w fun e w' => e = .returned (.bool true) ∧ Gr w w' := by
  have hb : Hid (∀ w : World, Bs (w.alloc (.cells #[.int .u8 1, .int .u8 1, .int .u8 7, .int .u8 0, .int .u8 0, .int .u8 0, .int .u8 2, .int .u8 1, .int .u8 0, .int .u8 0] 5)) (some ⟨w.heap.size, 0, none⟩) 10 10 [1, 1, 7, 0, 0, 0, 2, 1, 0, 0]) :=
    fun w => Bs.of_alloc rfl rfl (by decide) rfl
  have hs := sameB_of headL_ex
  go_enter Try.func31, Try.ntmps31
  go_wp2_with fail
  refine (headBytes_ok 1 7 258 (by decide) (by decide) (by decide) w).mono ?_
  rintro e w1 ⟨a1, cap1, rfl, ho1, hg1⟩
  go_wp2_with fail
  refine (same_any _ _ _ _ _ _ _ _ _ (ho1.bs'.1.below ((Gr.refl _).alloc _)) (hb.out w1)).mono ?_
  rintro e w2 ⟨rfl, hg2⟩
  go_wp2
  go_ret
  exact ⟨rfl, (hg1.alloc _).trans hg2⟩
end Go.Proofs.Ytdmijoochgmhiab
