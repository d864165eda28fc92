/-
  Of the law PacketReads: how great a plan is.
-/
import Derived.Test.YtdmijoochgmhiacDoorPacket
import Derived.Test.YtdmijoochgmhiacDoorPacketRead
namespace Go.Proofs.YtdmijoochgmhiacDoor
open Go.RowKit
set_option linter.unusedVariables false

/-- is the plan none, or a small one? -/
def pSmall (n s q : Int) : Bool := if planErr n s q ≠ 0 then true else if q ≤ 300 then decide (s ≤ 300) else false

set_option maxRecDepth 100000 in
set_option maxHeartbeats 1000000 in
theorem packSmall_any (n s q : Int) (id : Int) (hlo : -9223372036854775808 ≤ n) (hm : n ≤ 9223372036854775807) (hsl : -9223372036854775808 ≤ s) (hsm : s ≤ 9223372036854775807) (w : World) :
    Calls Tryd.prog 10 #[.agg #[.int .i64 n, .int .i64 s, .int .i64 q, .int .u32 id]] w fun e w' => e = .returned (.bool (pSmall n s q)) ∧ Gr w w' := by
  have CC := planCheck_any n s q id hlo hm hsl hsm
  by_cases hP : planErr n s q = 0
  · rw [hP] at CC
    have HC := Lib.hid CC
    clear CC
    by_cases hq : q ≤ 300
    · have hr : Hid (pSmall n s q = decide (s ≤ 300)) := by show _ = _; simp [pSmall, hP, hq]
      go_enter Tryd.func10, Tryd.ntmps10
      go_wp2_with fail
      refine (HC.out _).mono ?_
      rintro e w1 ⟨rfl, hg⟩
      obtain ⟨p0, p1, p2, p3⟩ := p_four_cells (hg.heap (heap_alloc_new w _))
      have hgw := ((Gr.refl w).alloc _).trans hg
      clear hg
      go_wp2
      go_ret
      exact ⟨by rw [hr.out]; rfl, hgw⟩
    · have hr : Hid (pSmall n s q = false) := by show _ = _; simp [pSmall, hP, hq]
      go_enter Tryd.func10, Tryd.ntmps10
      go_wp2_with fail
      refine (HC.out _).mono ?_
      rintro e w1 ⟨rfl, hg⟩
      obtain ⟨p0, p1, p2, p3⟩ := p_four_cells (hg.heap (heap_alloc_new w _))
      have hgw := ((Gr.refl w).alloc _).trans hg
      clear hg
      go_wp2
      go_ret
      exact ⟨by rw [hr.out]; rfl, hgw⟩
  · have hr : Hid (pSmall n s q = true) := by show _ = _; simp [pSmall, hP]
    obtain ⟨E, hE⟩ : ∃ E, planErr n s q = E := ⟨_, rfl⟩
    rw [hE] at CC hP
    have HC := Lib.hid CC
    have ht : ((E : Int) != 0) = true := by rw [bne_iff_ne]; omega
    clear CC hE hP
    go_enter Tryd.func10, Tryd.ntmps10
    go_wp2_with fail
    refine (HC.out _).mono ?_
    rintro e w1 ⟨rfl, hg⟩
    have hgw := ((Gr.refl w).alloc _).trans hg
    clear hg
    go_wp2
    go_ret
    exact ⟨by rw [hr.out]; rfl, hgw⟩

theorem pack19 : lenN 5 2 3 0 = 19 ∧ lenE 5 2 3 0 = 0 ∧ lenN 5 2 3 1 = 24 ∧ lenE 5 2 3 1 = 0 := by decide
set_option maxRecDepth 100000 in
set_option maxHeartbeats 1000000 in
theorem packAwake (w : World) : Calls Tryd.prog 17 #[] w fun e w' => e = .returned (.bool true) ∧ Gr w w' := by
  have HO : Hid (∀ w, Calls Tryd.prog 32 #[.int .i64 5, .int .i64 2, .int .u32 0] w fun e w' => e = .returned (.tuple #[.agg #[.int .i64 5, .int .i64 2, .int .i64 3, .int .u32 0], .int .i64 0]) ∧ Gr w w') := by
    intro w
    refine (planOf_any 5 2 0 (by decide) (by decide) (by decide) (by decide) w).mono ?_
    rintro e w' ⟨he, hg⟩
    refine ⟨?_, hg⟩
    rw [he, show planFit 5 2 = 0 by decide, if_pos rfl, show planNeed 5 2 = 3 by decide]
    rfl
  have H0 : Hid (∀ w, Calls Tryd.prog 46 #[.agg #[.int .i64 5, .int .i64 2, .int .i64 3, .int .u32 0], .int .u8 0] w fun e w' => e = .returned (.tuple #[.int .i64 19, .int .i64 0]) ∧ Gr w w') := by
    intro w
    have := packLength_any 5 2 3 0 0 (by decide) (by decide) (by decide) (by decide) w
    rw [pack19.1, pack19.2.1] at this
    exact this
  have H1 : Hid (∀ w, Calls Tryd.prog 46 #[.agg #[.int .i64 5, .int .i64 2, .int .i64 3, .int .u32 0], .int .u8 1] w fun e w' => e = .returned (.tuple #[.int .i64 24, .int .i64 0]) ∧ Gr w w') := by
    intro w
    have := packLength_any 5 2 3 0 1 (by decide) (by decide) (by decide) (by decide) w
    rw [pack19.2.2.1, pack19.2.2.2] at this
    exact this
  go_enter Tryd.func17, Tryd.ntmps17
  go_wp2_with fail
  refine (HO.out _).mono ?_
  rintro e w1 ⟨rfl, hg1⟩
  go_wp2_with fail
  refine (H0.out _).mono ?_
  rintro e w2 ⟨rfl, hg2⟩
  obtain ⟨p0, p1, p2, p3⟩ := p_four_cells (hg2.heap (heap_alloc_new w1 _))
  have hg := (hg1.alloc _).trans hg2
  clear hg1 hg2
  go_wp2_with fail
  refine (H1.out _).mono ?_
  rintro e w3 ⟨rfl, hg3⟩
  have hgw := hg.trans hg3
  clear hg hg3
  go_wp2
  go_ret
  exact ⟨rfl, hgw⟩
end Go.Proofs.YtdmijoochgmhiacDoor
