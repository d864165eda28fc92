/-
  Of the law PacketReads: how great a plan is.
-/
import Derived.Test.YtdmijoochgmhiabDoorPacket
import Derived.Test.YtdmijoochgmhiabDoorPacketRead
import Derived.Test.YtdmijoochgmhiabDoorSame
namespace Go.Proofs.YtdmijoochgmhiabDoor
open Go.RowKit
set_option linter.unusedVariables false

/-- is the plan none, or a small one? -/
def pSmall (n s q : Int) : Bool := if planErr n s q ≠ 0 then true else if q ≤ 300 then decide (s ≤ 300) else false

set_option maxRecDepth 100000 in
set_option maxHeartbeats 1000000 in
theorem packSmall_any (n s q : Int) (id : Int) (hlo : -9223372036854775808 ≤ n) (hm : n ≤ 9223372036854775807) (hsl : -9223372036854775808 ≤ s) (hsm : s ≤ 9223372036854775807) (w : World) :
    Calls Tryd.prog 7 #[.agg #[.int .i64 n, .int .i64 s, .int .i64 q, .int .u32 id]] w fun e w' => e = .returned (.bool (pSmall n s q)) ∧ Gr w w' := by
  have CC := planCheck_any n s q id hlo hm hsl hsm
  by_cases hP : planErr n s q = 0
  · rw [hP] at CC
    have HC := Lib.hid CC
    clear CC
    by_cases hq : q ≤ 300
    · have hr : Hid (pSmall n s q = decide (s ≤ 300)) := by show _ = _; simp [pSmall, hP, hq]
      go_enter Tryd.func7, Tryd.ntmps7
      go_wp2_with fail
      refine (HC.out _).mono ?_
      rintro e w1 ⟨rfl, hg⟩
      obtain ⟨p0, p1, p2, p3⟩ := p_four_cells (hg.heap (heap_alloc_new w _))
      have hgw := ((Gr.refl w).alloc _).trans hg
      clear hg
      go_wp2
      go_ret
      exact ⟨by rw [hr.out]; rfl, hgw⟩
    · have hr : Hid (pSmall n s q = false) := by show _ = _; simp [pSmall, hP, hq]
      go_enter Tryd.func7, Tryd.ntmps7
      go_wp2_with fail
      refine (HC.out _).mono ?_
      rintro e w1 ⟨rfl, hg⟩
      obtain ⟨p0, p1, p2, p3⟩ := p_four_cells (hg.heap (heap_alloc_new w _))
      have hgw := ((Gr.refl w).alloc _).trans hg
      clear hg
      go_wp2
      go_ret
      exact ⟨by rw [hr.out]; rfl, hgw⟩
  · have hr : Hid (pSmall n s q = true) := by show _ = _; simp [pSmall, hP]
    obtain ⟨E, hE⟩ : ∃ E, planErr n s q = E := ⟨_, rfl⟩
    rw [hE] at CC hP
    have HC := Lib.hid CC
    have ht : ((E : Int) != 0) = true := by rw [bne_iff_ne]; omega
    clear CC hE hP
    go_enter Tryd.func7, Tryd.ntmps7
    go_wp2_with fail
    refine (HC.out _).mono ?_
    rintro e w1 ⟨rfl, hg⟩
    have hgw := ((Gr.refl w).alloc _).trans hg
    clear hg
    go_wp2
    go_ret
    exact ⟨by rw [hr.out]; rfl, hgw⟩

set_option maxRecDepth 100000 in
set_option maxHeartbeats 1000000 in
theorem packRef_any (m o n md sd : Int) (a a' : Option Addr) (k c k' c' : Nat) (w : World) :
    Calls Tryd.prog 11 #[.agg #[.int .u8 m, .int .u32 o, .int .u32 n, .int .u8 md, .slice a k c, .int .u64 sd, .slice a' k' c']] w fun e w' => e = .returned (.agg #[.int .u8 m, .int .u32 o, .int .u32 n, .int .u8 md, .slice a k c, .int .u64 sd, .slice a' k' c']) ∧ Gr w w' := by
  have hG := ((Gr.refl w).alloc (.cells #[.int .u8 m, .int .u32 o, .int .u32 n, .int .u8 md, .slice a k c, .int .u64 sd, .slice a' k' c'] 34)).alloc (.cells #[.int .u8 m, .int .u32 o, .int .u32 n, .int .u8 md, .slice a k c, .int .u64 sd, .slice a' k' c'] 40)
  go_enter Tryd.func11, Tryd.ntmps11
  go_wp2
  refine bodyPost_ret (v := .agg #[.int .u8 m, .int .u32 o, .int .u32 n, .int .u8 md, .slice a k c, .int .u64 sd, .slice a' k' c']) ?_ rfl ⟨rfl, hG⟩
  simp [results, Tryd.results11, go_sem]

theorem pack19 : lenN 5 2 3 0 = 19 ∧ lenE 5 2 3 0 = 0 ∧ lenN 5 2 3 1 = 24 ∧ lenE 5 2 3 1 = 0 := by decide
set_option maxRecDepth 100000 in
set_option maxHeartbeats 1000000 in
theorem packAwake (w : World) : Calls Tryd.prog 6 #[] w fun e w' => e = .returned (.bool true) ∧ Gr w w' := by
  have HO : Hid (∀ w, Calls Tryd.prog 28 #[.int .i64 5, .int .i64 2, .int .u32 0] w fun e w' => e = .returned (.tuple #[.agg #[.int .i64 5, .int .i64 2, .int .i64 3, .int .u32 0], .int .i64 0]) ∧ Gr w w') := by
    intro w
    refine (planOf_any 5 2 0 (by decide) (by decide) (by decide) (by decide) w).mono ?_
    rintro e w' ⟨he, hg⟩
    refine ⟨?_, hg⟩
    rw [he, show planFit 5 2 = 0 by decide, if_pos rfl, show planNeed 5 2 = 3 by decide]
    rfl
  have H0 : Hid (∀ w, Calls Tryd.prog 23 #[.agg #[.int .i64 5, .int .i64 2, .int .i64 3, .int .u32 0], .int .u8 0] w fun e w' => e = .returned (.tuple #[.int .i64 19, .int .i64 0]) ∧ Gr w w') := by
    intro w
    have := packLength_any 5 2 3 0 0 (by decide) (by decide) (by decide) (by decide) w
    rw [pack19.1, pack19.2.1] at this
    exact this
  have H1 : Hid (∀ w, Calls Tryd.prog 23 #[.agg #[.int .i64 5, .int .i64 2, .int .i64 3, .int .u32 0], .int .u8 1] w fun e w' => e = .returned (.tuple #[.int .i64 24, .int .i64 0]) ∧ Gr w w') := by
    intro w
    have := packLength_any 5 2 3 0 1 (by decide) (by decide) (by decide) (by decide) w
    rw [pack19.2.2.1, pack19.2.2.2] at this
    exact this
  go_enter Tryd.func6, Tryd.ntmps6
  go_wp2_with fail
  refine (HO.out _).mono ?_
  rintro e w1 ⟨rfl, hg1⟩
  go_wp2_with fail
  refine (H0.out _).mono ?_
  rintro e w2 ⟨rfl, hg2⟩
  obtain ⟨p0, p1, p2, p3⟩ := p_four_cells (hg2.heap (heap_alloc_new w1 _))
  have hg := (hg1.alloc _).trans hg2
  clear hg1 hg2
  go_wp2_with fail
  refine (H1.out _).mono ?_
  rintro e w3 ⟨rfl, hg3⟩
  have hgw := hg.trans hg3
  clear hg hg3
  go_wp2
  go_ret
  exact ⟨rfl, hgw⟩

set_option maxRecDepth 100000 in
set_option maxHeartbeats 2000000 in
/-- two packets of the same head, row and load are the same. -/
theorem packSame_eq (m o n md sd : Int) (a a' b b' : Option Addr) (k c k' c' j d j' d' : Nat) (l l' : List UInt8) (w : World) (h1 : Bs w a k c l) (h2 : Bs w a' k' c' l') (h3 : Bs w b j d l) (h4 : Bs w b' j' d' l') :
    Calls Tryd.prog 10 #[.agg #[.int .u8 m, .int .u32 o, .int .u32 n, .int .u8 md, .slice a k c, .int .u64 sd, .slice a' k' c'], .agg #[.int .u8 m, .int .u32 o, .int .u32 n, .int .u8 md, .slice b j d, .int .u64 sd, .slice b' j' d']] w fun e w' => e = .returned (.bool true) ∧ Gr w w' := by
  have H1 := Lib.hid h1
  have H2 := Lib.hid h2
  have H3 := Lib.hid h3
  have H4 := Lib.hid h4
  have S := sameB_self l
  have S' := sameB_self l'
  clear h1 h2 h3 h4
  go_enter Tryd.func10, Tryd.ntmps10
  go_wp2_with fail
  have hg0 : Gr w ((w.alloc (.cells #[.int .u8 m, .int .u32 o, .int .u32 n, .int .u8 md, .slice a k c, .int .u64 sd, .slice a' k' c'] 40)).alloc (.cells #[.int .u8 m, .int .u32 o, .int .u32 n, .int .u8 md, .slice b j d, .int .u64 sd, .slice b' j' d'] 40)) := ((Gr.refl w).alloc _).alloc _
  refine (same_any a b k c j d l l _ (H1.out.below hg0) (H3.out.below hg0)).mono ?_
  rintro e w1 ⟨rfl, hg1⟩
  rw [S]
  have hgw := hg0.trans hg1
  obtain ⟨p0, p1, p2, p3, p4, p5, p6, _⟩ := seven_cells (hg1.heap (Gr.heap (Gr.alloc (Gr.refl _) _) (heap_alloc_new w _)))
  have hB := hg1.heap (heap_alloc_new _ _)
  simp only [World.alloc, Array.size_push] at hB
  obtain ⟨q0, q1, q2, q3, q4, q5, q6, _⟩ := seven_cells hB
  clear hB hg1 hg0
  go_wp2_with fail
  refine (same_any a' b' k' c' j' d' l' l' _ (H2.out.below hgw) (H4.out.below hgw)).mono ?_
  rintro e w2 ⟨rfl, hg2⟩
  rw [S']
  have hgw2 := hgw.trans hg2
  clear hg2 hgw
  go_wp2
  go_ret
  exact ⟨rfl, hgw2⟩
end Go.Proofs.YtdmijoochgmhiabDoor
