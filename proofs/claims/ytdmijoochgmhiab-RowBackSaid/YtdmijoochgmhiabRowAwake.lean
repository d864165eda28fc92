/-
  The walk of the chapter's example of rows.
-/
import Derived.Test.YtdmijoochgmhiabRowRead
namespace Go.Proofs.Ytdmijoochgmhiab
open Go.RowKit

theorem mixList_ex : mixList 0 1 = [175] := by decide +kernel
set_option maxRecDepth 100000 in
set_option maxHeartbeats 1000000 in
theorem rowAwake_any (w : World) : Calls Try.prog 37 #[] w fun e w' => e = .returned (.bool true) ∧ Gr w w' := by
  have hb : Hid (∀ w : World, Bs (w.alloc (.cells #[.int .u8 175] 5)) (some ⟨w.heap.size, 0, none⟩) 1 1 [175]) := fun w => Bs.of_alloc rfl rfl (by decide) rfl
  have hs := sameB_of mixList_ex
  have hv : Hid (rowVec 1 [] 0 1 = mixList 0 1) := rfl
  go_enter Try.func37, Try.ntmps37
  go_wp2_with fail
  refine (seeded_any 0 w).mono ?_
  rintro e w1 ⟨rfl, hg1⟩
  go_wp2_with fail
  refine (rowVector_ok 1 none 0 0 [] 0 (by decide) 1 w1 (Bs.nil _) (by decide) (by decide)).mono ?_
  rintro e w2 ⟨v, rfl, ⟨a2, cap2, rfl, hb2, _, hg2⟩, _⟩
  rw [hv.out] at hb2 ⊢
  go_wp2_with fail
  refine (same_any a2 _ _ cap2 _ _ (mixList 0 1) [175] _ (hb2.below ((Gr.refl _).alloc _)) (hb.out w2)).mono ?_
  rintro e w3 ⟨rfl, hg3⟩
  go_wp2
  go_ret
  exact ⟨rfl, ((hg1.trans hg2).alloc _).trans hg3⟩
end Go.Proofs.Ytdmijoochgmhiab
