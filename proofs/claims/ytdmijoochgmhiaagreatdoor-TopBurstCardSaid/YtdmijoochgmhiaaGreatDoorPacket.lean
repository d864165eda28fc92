/-
  The walks of packet.Length, and of the document's.
-/
import Derived.Test.YtdmijoochgmhiaaGreatDoorHeadAll
import Derived.Test.YtdmijoochgmhiaaGreatDoorRowRead
import Derived.Test.YtdmijoochgmhiaaGreatDoorPlan
import Derived.Test.YtdmijoochgmhiaaGreatDoorSum
import Derived.Test.YtdmijoochgmhiaaGreatDoorRegion
namespace Go.Proofs.YtdmijoochgmhiaaGreatDoor
open Go.RowKit
set_option linter.unusedVariables false

/-- with how many bytes a packet is written; what is wrong. -/
def lenE (n s q : Int) (mode : Nat) : Nat := if planErr n s q ≠ 0 then planErr n s q else widthE mode q
def lenN (n s q : Int) (mode : Nat) : Int := if lenE n s q mode ≠ 0 then 0 else 14 + widthN mode q + s
theorem lenE_zero {n s q : Int} {mode : Nat} (h : lenE n s q mode = 0) : planErr n s q = 0 ∧ widthE mode q = 0 := by
  unfold lenE at h
  by_cases a : planErr n s q ≠ 0
  · rw [if_pos a] at h; exact absurd h a
  rw [if_neg a] at h
  exact ⟨by simpa using a, h⟩
theorem widthN_le {mode : Nat} {k : Int} : 0 ≤ widthN mode k ∧ widthN mode k ≤ 4096 := by
  unfold widthN
  split
  · omega
  · split
    · omega
    · split <;> omega
theorem p_four_cells {W : World} {R : Nat} {v0 v1 v2 v3 : Value} {t : TypeId} (h : W.heap[R]? = some (.cells #[v0, v1, v2, v3] t)) :
    W.cell? ⟨R, 0, none⟩ = some v0 ∧ W.cell? ⟨R, 1, none⟩ = some v1 ∧ W.cell? ⟨R, 2, none⟩ = some v2 ∧ W.cell? ⟨R, 3, none⟩ = some v3 := by
  refine ⟨?_, ?_, ?_, ?_⟩ <;> simp [World.cell?, h]

set_option maxHeartbeats 1000000 in
theorem packLength_any (n s q : Int) (id : Int) (mode : Nat) (hlo : -9223372036854775808 ≤ n) (hm : n ≤ 9223372036854775807) (hsl : -9223372036854775808 ≤ s) (hsm : s ≤ 9223372036854775807) (w : World) :
    Calls Tryz.prog 49 #[.agg #[.int .i64 n, .int .i64 s, .int .i64 q, .int .u32 id], .int .u8 (mode : Int)] w fun e w' => e = .returned (.tuple #[.int .i64 (lenN n s q mode), .int .i64 (lenE n s q mode : Nat)]) ∧ Gr w w' := by
  have CC := planCheck_any n s q id hlo hm hsl hsm
  by_cases hP : planErr n s q = 0
  · have he : lenE n s q mode = widthE mode q := by rw [lenE, if_neg (by simpa using hP)]
    rw [hP] at CC
    have HC := Lib.hid CC
    have hsp := planFit_zero (planErr_zero hP).1
    have CW := width_any mode q
    by_cases hW : widthE mode q = 0
    · have hn : Hid (lenN n s q mode = 14 + widthN mode q + s) := by show _ = _; rw [lenN, if_neg (by rw [he, hW]; simp)]
      have he2 : Hid (lenE n s q mode = 0) := by show _ = _; rw [he, hW]
      have hwl := widthN_le (mode := mode) (k := q)
      rw [hW] at CW
      obtain ⟨W, hWe⟩ : ∃ W, widthN mode q = W := ⟨_, rfl⟩
      rw [hWe] at CW hn hwl
      have HW := Lib.hid CW
      obtain ⟨_, hs1, hs2, _⟩ := hsp
      obtain ⟨hw1, hw2⟩ := hwl
      clear CC CW hP he hW hWe
      go_enter Tryz.func49, Tryz.ntmps49
      go_wp2_with fail
      refine (HC.out _).mono ?_
      rintro e w1 ⟨rfl, hg⟩
      obtain ⟨c0, c1, c2, c3⟩ := p_four_cells (hg.heap (heap_alloc_new w _))
      have hgw := ((Gr.refl w).alloc _).trans hg
      clear hg
      go_wp2_with fail
      refine (HW.out _).mono ?_
      rintro e w2 ⟨rfl, rfl⟩
      go_wp2
      go_ret2
      exact ⟨by rw [hn.out, he2.out, show (14 : Int) + W + s = 10 + W + s + 4 by omega]; rfl, hgw⟩
    · have hn : Hid (lenN n s q mode = 0) := by show _ = _; rw [lenN, if_pos (by rw [he]; exact hW)]
      have he2 := Lib.hid he
      obtain ⟨E, hE⟩ : ∃ E, widthE mode q = E := ⟨_, rfl⟩
      rw [hE] at CW hW
      have HE := Lib.hid hE
      have HW := Lib.hid CW
      have ht : ((E : Int) != 0) = true := by rw [bne_iff_ne]; omega
      clear CC CW hP he hW hE hsp
      go_enter Tryz.func49, Tryz.ntmps49
      go_wp2_with fail
      refine (HC.out _).mono ?_
      rintro e w1 ⟨rfl, hg⟩
      obtain ⟨c0, c1, c2, c3⟩ := p_four_cells (hg.heap (heap_alloc_new w _))
      have hgw := ((Gr.refl w).alloc _).trans hg
      clear hg
      go_wp2_with fail
      refine (HW.out _).mono ?_
      rintro e w2 ⟨rfl, rfl⟩
      go_wp2
      go_ret2
      exact ⟨by rw [hn.out, he2.out, HE.out]; rfl, hgw⟩
  · have he : lenE n s q mode = planErr n s q := by rw [lenE, if_pos hP]
    have hn : Hid (lenN n s q mode = 0) := by show _ = _; rw [lenN, if_pos (by rw [he]; exact hP)]
    have he2 := Lib.hid he
    obtain ⟨E, hE⟩ : ∃ E, planErr n s q = E := ⟨_, rfl⟩
    rw [hE] at CC hP
    have HE := Lib.hid hE
    have HC := Lib.hid CC
    have ht : ((E : Int) != 0) = true := by rw [bne_iff_ne]; omega
    clear CC hP he hE
    go_enter Tryz.func49, Tryz.ntmps49
    go_wp2_with fail
    refine (HC.out _).mono ?_
    rintro e w1 ⟨rfl, hg⟩
    have hgw := ((Gr.refl w).alloc _).trans hg
    clear hg
    go_wp2
    go_ret2
    exact ⟨by rw [hn.out, he2.out, HE.out]; rfl, hgw⟩

end Go.Proofs.YtdmijoochgmhiaaGreatDoor
