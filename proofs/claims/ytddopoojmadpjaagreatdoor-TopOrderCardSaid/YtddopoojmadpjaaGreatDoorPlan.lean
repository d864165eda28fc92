/-
  The walks of package plan (Check, Of and what they go through), and of the document's Check.
-/
import Derived.Test.YtddopoojmadpjaaGreatDoorRows
import Derived.Test.YtddopoojmadpjaaGreatDoorBase
import Derived.Lib.Hide
import Derived.Deep.QuietTactic
import Derived.BigQuiet
namespace Go.Proofs.YtddopoojmadpjaaGreatDoor
open Go.RowKit

/-- how many symbols a length needs. -/
def planNeed (len size : Int) : Int := if len = 0 then 1 else (len - 1) / size + 1
/-- what is wrong with a length and a size; with a plan. -/
def planFit (len size : Int) : Nat := if len < 0 then 2 else if size < 1 ∨ 65535 < size then 4 else if 4096 < planNeed len size then 5 else 0
def planErr (len size sym : Int) : Nat := if planFit len size ≠ 0 then planFit len size else if sym ≠ planNeed len size then 14 else 0
/-- what the document counts. -/
def refNeed (len size : Int) : Int := if 4096 < planNeed len size then 4097 else planNeed len size
theorem planNeed_of {len size : Int} {k : Int} (hk : 0 ≤ k) (h1 : 1 ≤ size) (hlo : k = 0 ∨ k * size < len) (hhi : len ≤ (k + 1) * size) (h0 : 0 ≤ len) : planNeed len size = k + 1 := by
  unfold planNeed
  by_cases hl : len = 0
  · rw [if_pos hl]
    rcases hlo with rfl | hlo
    · rfl
    · have := Int.mul_nonneg hk (show (0 : Int) ≤ size by omega); omega
  · rw [if_neg hl]
    congr 1
    apply Int.le_antisymm
    · have : (len - 1) / size < k + 1 := Int.ediv_lt_of_lt_mul (by omega) (by omega)
      omega
    · refine (Int.le_ediv_iff_mul_le (by omega)).2 ?_
      rcases hlo with rfl | hlo
      · omega
      · omega
theorem planNeed_pos {len size : Int} (h0 : 0 ≤ len) (h1 : 1 ≤ size) : 1 ≤ planNeed len size := by
  unfold planNeed
  split
  · decide
  · have : 0 ≤ (len - 1) / size := Int.ediv_nonneg (by omega) (by omega)
    omega
theorem planNeed_le {len size : Int} (h0 : 0 ≤ len) : planNeed len size ≤ len + 1 := by
  unfold planNeed
  split
  · omega
  · have : (len - 1) / size ≤ len - 1 := Int.ediv_le_self _ (by omega)
    omega
theorem planNeed_lt {len size : Int} {k : Int} (h1 : 1 ≤ size) (hlo : k * size < len) (hk : 0 ≤ k) : k < planNeed len size := by
  unfold planNeed
  have := Int.mul_nonneg hk (show (0 : Int) ≤ size by omega)
  rw [if_neg (by omega)]
  have : k ≤ (len - 1) / size := (Int.le_ediv_iff_mul_le (by omega)).2 (by omega)
  omega
theorem planFit_zero {len size : Int} (h : planFit len size = 0) : 0 ≤ len ∧ 1 ≤ size ∧ size ≤ 65535 ∧ planNeed len size ≤ 4096 := by
  unfold planFit at h
  by_cases a : len < 0
  · rw [if_pos a] at h; cases h
  rw [if_neg a] at h
  by_cases b : size < 1 ∨ 65535 < size
  · rw [if_pos b] at h; cases h
  rw [if_neg b] at h
  by_cases c : 4096 < planNeed len size
  · rw [if_pos c] at h; cases h
  exact ⟨by omega, by omega, by omega, by omega⟩
theorem planErr_zero {len size sym : Int} (h : planErr len size sym = 0) : planFit len size = 0 ∧ sym = planNeed len size := by
  unfold planErr at h
  by_cases a : planFit len size ≠ 0
  · rw [if_pos a] at h; exact absurd h a
  rw [if_neg a] at h
  by_cases b : sym ≠ planNeed len size
  · rw [if_pos b] at h; cases h
  exact ⟨by simpa using a, by simpa using b⟩

set_option maxHeartbeats 400000 in
theorem needed_any (len size : Int) (h0 : 0 ≤ len) (h1 : 1 ≤ size) (hm : len ≤ 9223372036854775807) (w : World) :
    Calls Tryz.prog 60 #[.int .i64 len, .int .i64 size] w fun e w' => e = .returned (.int .i64 (planNeed len size)) ∧ w = w' := by
  by_cases hl : len = 0
  · have HE : Hid (planNeed len size = 1) := by show _ = _; rw [planNeed, if_pos hl]
    have ht : ((len : Int) == 0) = true := by rw [beq_iff_eq]; exact hl
    clear hl
    go_enter Tryz.func60, Tryz.ntmps60
    go_wp2
    go_ret
    exact ⟨by rw [HE.out]; rfl, rfl⟩
  · have HE : Hid (planNeed len size = (len - 1) / size + 1) := by show _ = _; rw [planNeed, if_neg hl]
    have ht : ((len : Int) == 0) = false := by rw [beq_eq_false_iff_ne]; exact hl
    have b0 : 0 ≤ len - 1 := by omega
    have b1 : 0 ≤ (len - 1) / size := Int.ediv_nonneg b0 (by omega)
    have b2 : (len - 1) / size ≤ len - 1 := Int.ediv_le_self _ b0
    clear hl
    go_enter Tryz.func60, Tryz.ntmps60
    go_wp2
    go_ret
    exact ⟨by rw [HE.out]; rfl, rfl⟩

set_option maxHeartbeats 400000 in
theorem planFits_any (len size : Int) (hlo : -9223372036854775808 ≤ len) (hm : len ≤ 9223372036854775807) (hsl : -9223372036854775808 ≤ size) (hsm : size ≤ 9223372036854775807) (w : World) :
    Calls Tryz.prog 59 #[.int .i64 len, .int .i64 size] w fun e w' => e = .returned (.int .i64 (planFit len size : Nat)) ∧ w = w' := by
  by_cases a : len < 0
  · have HE : Hid (planFit len size = 2) := by show _ = _; rw [planFit, if_pos a]
    go_enter Tryz.func59, Tryz.ntmps59
    go_wp2
    go_ret
    exact ⟨by rw [HE.out]; rfl, rfl⟩
  by_cases b : size < 1
  · have HE : Hid (planFit len size = 4) := by show _ = _; rw [planFit, if_neg a, if_pos (.inl b)]
    go_enter Tryz.func59, Tryz.ntmps59
    go_wp2
    go_ret
    exact ⟨by rw [HE.out]; rfl, rfl⟩
  by_cases c : 65535 < size
  · have HE : Hid (planFit len size = 4) := by show _ = _; rw [planFit, if_neg a, if_pos (.inr c)]
    go_enter Tryz.func59, Tryz.ntmps59
    go_wp2
    go_ret
    exact ⟨by rw [HE.out]; rfl, rfl⟩
  have HE : Hid (planFit len size = if 4096 < planNeed len size then 5 else 0) := by show _ = _; rw [planFit, if_neg a, if_neg (by omega)]
  have CN := Lib.hid (needed_any len size (by omega) (by omega) hm)
  obtain ⟨q, hq⟩ : ∃ q, planNeed len size = q := ⟨_, rfl⟩
  rw [hq] at HE CN
  clear hq
  by_cases d : 4096 < q
  · go_enter Tryz.func59, Tryz.ntmps59
    go_wp2_with fail
    refine (CN.out w).mono ?_
    rintro e w1 ⟨rfl, rfl⟩
    go_wp2
    go_ret
    exact ⟨by rw [HE.out, if_pos d]; rfl, rfl⟩
  · go_enter Tryz.func59, Tryz.ntmps59
    go_wp2_with fail
    refine (CN.out w).mono ?_
    rintro e w1 ⟨rfl, rfl⟩
    go_wp2
    go_ret
    exact ⟨by rw [HE.out, if_neg (by omega)]; rfl, rfl⟩

set_option maxHeartbeats 1000000 in
theorem planCheck_any (len size sym : Int) (id : Int) (hlo : -9223372036854775808 ≤ len) (hm : len ≤ 9223372036854775807) (hsl : -9223372036854775808 ≤ size) (hsm : size ≤ 9223372036854775807) (w : World) :
    Calls Tryz.prog 62 #[.agg #[.int .i64 len, .int .i64 size, .int .i64 sym, .int .u32 id]] w fun e w' => e = .returned (.int .i64 (planErr len size sym : Nat)) ∧ Gr w w' := by
  have CF := Lib.hid (planFits_any len size hlo hm hsl hsm)
  by_cases a : planFit len size = 0
  · have hz := planFit_zero a
    have HE : Hid (planErr len size sym = if sym ≠ planNeed len size then 14 else 0) := by show _ = _; rw [planErr, if_neg (by simpa using a)]
    have CN := Lib.hid (needed_any len size hz.1 hz.2.1 hm)
    have A := Lib.hid a
    obtain ⟨q, hq⟩ : ∃ q, planNeed len size = q := ⟨_, rfl⟩
    rw [hq] at HE CN
    clear hq hz a
    by_cases b : sym ≠ q
    · have hb : ((sym : Int) != q) = true := by rw [bne_iff_ne]; exact b
      have B := Lib.hid b
      clear b
      go_enter Tryz.func62, Tryz.ntmps62
      go_wp2_with fail
      refine (CF.out _).mono ?_
      rintro e w1 ⟨rfl, rfl⟩
      rw [A.out]
      go_wp2
      go_quiet ((go_at_call 60; refine Calls.quiet_of_same ((CN.out _).mono fun _ _ ⟨h1, h2⟩ => ⟨h1, h2.symm⟩)))
      go_wp2
      go_ret
      exact ⟨by rw [HE.out, if_pos B.out]; rfl, ((Gr.refl w).alloc _).drewN _⟩
    · have hb : ((sym : Int) != q) = false := by simpa using b
      have B := Lib.hid b
      clear b
      go_enter Tryz.func62, Tryz.ntmps62
      go_wp2_with fail
      refine (CF.out _).mono ?_
      rintro e w1 ⟨rfl, rfl⟩
      rw [A.out]
      go_wp2
      go_quiet ((go_at_call 60; refine Calls.quiet_of_same ((CN.out _).mono fun _ _ ⟨h1, h2⟩ => ⟨h1, h2.symm⟩)))
      go_wp2
      go_ret
      exact ⟨by rw [HE.out, if_neg B.out]; rfl, ((Gr.refl w).alloc _).drewN _⟩
  · have HE : Hid (planErr len size sym = planFit len size) := by show _ = _; rw [planErr, if_pos a]
    obtain ⟨q, hq⟩ : ∃ q, planFit len size = q := ⟨_, rfl⟩
    rw [hq] at HE CF a
    have ht : ((q : Int) != 0) = true := by rw [bne_iff_ne]; omega
    clear hq a
    go_enter Tryz.func62, Tryz.ntmps62
    go_wp2_with fail
    refine (CF.out _).mono ?_
    rintro e w1 ⟨rfl, rfl⟩
    go_wp2
    go_ret
    exact ⟨by rw [HE.out]; rfl, (Gr.refl w).alloc _⟩

set_option maxHeartbeats 1000000 in
theorem planOf_any (len size : Int) (id : Int) (hlo : -9223372036854775808 ≤ len) (hm : len ≤ 9223372036854775807) (hsl : -9223372036854775808 ≤ size) (hsm : size ≤ 9223372036854775807) (w : World) :
    Calls Tryz.prog 28 #[.int .i64 len, .int .i64 size, .int .u32 id] w fun e w' => e = .returned (.tuple #[if planFit len size = 0 then .agg #[.int .i64 len, .int .i64 size, .int .i64 (planNeed len size), .int .u32 id] else .agg #[.int .i64 0, .int .i64 0, .int .i64 0, .int .u32 0], .int .i64 (planFit len size : Nat)]) ∧ Gr w w' := by
  have CF := Lib.hid (planFits_any len size hlo hm hsl hsm)
  by_cases a : planFit len size = 0
  · have hz := planFit_zero a
    have CN := Lib.hid (needed_any len size hz.1 hz.2.1 hm)
    have A := Lib.hid a
    rw [if_pos a]
    obtain ⟨q, hq⟩ : ∃ q, planNeed len size = q := ⟨_, rfl⟩
    rw [hq] at CN ⊢
    clear hq hz a
    go_enter Tryz.func28, Tryz.ntmps28
    go_wp2_with fail
    refine (CF.out _).mono ?_
    rintro e w1 ⟨rfl, rfl⟩
    rw [A.out]
    go_wp2_with fail
    refine (CN.out _).mono ?_
    rintro e w1 ⟨rfl, rfl⟩
    go_wp2
    refine bodyPost_ret (v := .tuple #[.agg #[.int .i64 len, .int .i64 size, .int .i64 q, .int .u32 id], .int .i64 0]) ?_ rfl ⟨by rw [A.out]; rfl, ?_⟩
    · simp [results, Tryz.results28, go_sem]
    · exact (Gr.refl w).alloc _
  · rw [if_neg a]
    obtain ⟨q, hq⟩ : ∃ q, planFit len size = q := ⟨_, rfl⟩
    rw [hq] at CF a ⊢
    have ht : ((q : Int) != 0) = true := by rw [bne_iff_ne]; omega
    clear hq a
    go_enter Tryz.func28, Tryz.ntmps28
    go_wp2_with fail
    refine (CF.out _).mono ?_
    rintro e w1 ⟨rfl, rfl⟩
    go_wp2
    refine bodyPost_ret (v := .tuple #[.agg #[.int .i64 0, .int .i64 0, .int .i64 0, .int .u32 0], .int .i64 (q : Int)]) ?_ rfl ⟨rfl, ?_⟩
    · simp [results, Tryz.results28, go_sem]
    · exact (Gr.refl w).alloc _
theorem planOf_ok (len size : Int) (id : Int) (hm : len ≤ 9223372036854775807) (h : planFit len size = 0) (w : World) :
    Calls Tryz.prog 28 #[.int .i64 len, .int .i64 size, .int .u32 id] w fun e w' => e = .returned (.tuple #[.agg #[.int .i64 len, .int .i64 size, .int .i64 (planNeed len size), .int .u32 id], .int .i64 0]) ∧ Gr w w' := by
  obtain ⟨h0, h1, h2, h3⟩ := planFit_zero h
  exact (planOf_any len size id (by omega) hm (by omega) (by omega) w).mono fun e w' ⟨he, hg⟩ => ⟨by rw [he, if_pos h, h]; rfl, hg⟩
theorem planOf_bad (len size : Int) (id : Int) (hlo : -9223372036854775808 ≤ len) (hm : len ≤ 9223372036854775807) (hsl : -9223372036854775808 ≤ size) (hsm : size ≤ 9223372036854775807) (h : planFit len size ≠ 0) (w : World) :
    Calls Tryz.prog 28 #[.int .i64 len, .int .i64 size, .int .u32 id] w fun e w' => e = .returned (.tuple #[.agg #[.int .i64 0, .int .i64 0, .int .i64 0, .int .u32 0], .int .i64 (planFit len size : Nat)]) ∧ Gr w w' :=
  (planOf_any len size id hlo hm hsl hsm w).mono fun e w' ⟨he, hg⟩ => ⟨by rw [he, if_neg h], hg⟩
end Go.Proofs.YtddopoojmadpjaaGreatDoor
