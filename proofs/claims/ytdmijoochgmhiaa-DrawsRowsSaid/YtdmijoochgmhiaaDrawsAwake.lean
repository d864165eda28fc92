/-
  The walk of the chapter's example of draws.
-/
import Derived.Test.YtdmijoochgmhiaaDrawsOf
import Derived.Test.YtdmijoochgmhiaaSame
namespace Go.Proofs.Ytdmijoochgmhiaa
open Go.RowKit
set_option linter.unusedVariables false

set_option maxRecDepth 100000 in
set_option maxHeartbeats 1000000 in
theorem drawsAwake (w : World) : Calls Try.prog 19 #[] w fun e w' => e = .returned (.bool true) ∧ Gr w w' := by
  have HO : Hid (∀ a w, Bss w a 2 2 [[1, 2], [3]] → Calls Try.prog 20 #[.slice a 2 2] w fun e w' => e = .returned (.agg #[.string (str [1, 2, 3])]) ∧ Gr w w') :=
    fun a w h => drawsOf a 2 2 [[1, 2], [3]] w h (by decide) (by decide)
  have HT : Hid (∀ w, Calls Try.prog 21 #[.agg #[.string (str [1, 2, 3])], .int .i64 2] w fun e w' => ∃ b c, e = .returned (.tuple #[.agg #[.string (str [3])], .slice (some ⟨b, 0, none⟩) 2 c, .int .i64 0]) ∧ Bs w' (some ⟨b, 0, none⟩) 2 c [1, 2] ∧ Gr w w') :=
    fun w => drawsTake_ok [1, 2, 3] 2 (by decide) (by decide) w
  have HL : Hid (∀ w, Calls Try.prog 22 #[.agg #[.string (str [3])]] w fun e w' => e = .returned (.int .i64 1) ∧ Gr w w') := fun w => drawsLeft [3] w
  obtain ⟨S, eS⟩ : ∃ S, str [1, 2, 3] = S := ⟨_, rfl⟩
  obtain ⟨S3, eS3⟩ : ∃ S, str [3] = S := ⟨_, rfl⟩
  rw [eS] at HO HT
  rw [eS3] at HT HL
  have hst := sameB_self [1, 2]
  clear eS eS3
  go_enter Try.func19, Try.ntmps19
  go_wp2_with fail
  have hb1 : Bs (w.alloc (.cells #[.int .u8 1, .int .u8 2] 5)) (some ⟨w.heap.size, 0, none⟩) 2 2 [1, 2] := Bs.of_alloc rfl rfl (by decide) rfl
  have hb2 : Bs ((w.alloc (.cells #[.int .u8 1, .int .u8 2] 5)).alloc (.cells #[.int .u8 3] 5)) (some ⟨w.heap.size + 1, 0, none⟩) 1 1 [3] := Bs.of_alloc rfl rfl (by decide) (by simp)
  refine (HO.out _ _ (Bss.of_alloc2 (hb1.below ((Gr.refl _).alloc _)) hb2 (by simp))).mono ?_
  rintro e w1 ⟨rfl, hg1⟩
  have hgw1 := ((((Gr.refl w).alloc _).alloc _).alloc _).trans hg1
  clear hg1 hb1 hb2
  go_wp2_with fail
  refine (HT.out _).mono ?_
  rintro e w2 ⟨b, c, rfl, hb, hg2⟩
  have hgw2 := hgw1.trans hg2
  have HB := Lib.hid hb
  clear hg2 hgw1 hb
  go_wp2_with fail
  have h3 : Gr w2 ((w2.alloc (.cells #[.string S3] 42)).alloc (.cells #[.int .u8 1, .int .u8 2] 5)) := ((Gr.refl w2).alloc _).alloc _
  refine (same_any _ _ 2 c 2 2 [1, 2] [1, 2] _ (HB.out.below h3) (Bs.of_alloc rfl rfl (by decide) (by simp))).mono ?_
  rintro e w3 ⟨rfl, hg3⟩
  have hA := hg3.heap (Gr.heap ((Gr.refl _).alloc (.cells #[.int .u8 1, .int .u8 2] 5)) (heap_alloc_new w2 (.cells #[.string S3] 42)))
  obtain ⟨x0, _⟩ := cell1 hA
  have hgw3 := hgw2.trans (h3.trans hg3)
  clear hg3 h3 hA hgw2
  go_wp2_with fail
  refine (HL.out _).mono ?_
  rintro e w4 ⟨rfl, hg4⟩
  have hgw4 := hgw3.trans hg4
  clear hg4 hgw3
  go_wp2
  go_ret
  exact ⟨rfl, hgw4⟩
end Go.Proofs.Ytdmijoochgmhiaa
