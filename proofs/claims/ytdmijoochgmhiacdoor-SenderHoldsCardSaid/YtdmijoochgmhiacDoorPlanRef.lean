/-
  The walks of the document's Needs and Check of a plan.
-/
import Derived.Test.YtdmijoochgmhiacDoorPlan
namespace Go.Proofs.YtdmijoochgmhiacDoor
open Go.RowKit

set_option maxRecDepth 100000 in
set_option maxHeartbeats 1000000 in
theorem refNeeds_any (len size : Int) (h0 : 0 ≤ len) (h1 : 1 ≤ size) (hm : len ≤ 9223372036854775807) (hsm : size ≤ 9223372036854775807) (w : World) :
    Calls Tryd.prog 83 #[.int .i64 len, .int .i64 size] w fun e w' => e = .returned (.int .i64 (refNeed len size)) ∧ w = w' := by
  go_enter Tryd.func83, Tryd.ntmps83
  go_wp2
  go_loop [0, 5] (fun x n => ∃ (k : Nat) (r : Int), k ≤ 4097 ∧ n = .int .i64 k ∧ x = .int .i64 r ∧ 0 ≤ r ∧ r ≤ len ∧ r = len - k * size ∧ (k = 0 ∨ 0 < r)) (fun _ n => (4097 - intOf n).toNat)
  case atStart => exact ⟨0, len, by omega, rfl, rfl, h0, by omega, by simp, .inl rfl⟩
  case round =>
    obtain ⟨k, r, hk, rfl, rfl, hr0, hrl, hr, hkr⟩ := hrel
    have HR := Lib.hid hr
    have HKR := Lib.hid hkr
    have hks : Hid ((k : Int) = 0 ∨ (k : Int) * size < len) := by
      show _ ∨ _
      rcases HKR.out with h | h
      · left; omega
      · right; have := HR.out; omega
    have hsucc : Hid (((k : Int) + 1) * size = (k : Int) * size + size) := by show _ = _; rw [Int.add_mul]; omega
    clear hr hkr
    by_cases hlt : k < 4097
    · have hlt' : (k : Int) ≤ 4096 := by omega
      by_cases hrs : r ≤ size
      · have HN : Hid (refNeed len size = (k : Int) + 1) := by
          show _ = _
          have hpn := planNeed_of (len := len) (size := size) (k := (k : Int)) (by omega) h1 hks.out (by have := hsucc.out; have := HR.out; omega) h0
          unfold refNeed
          rw [hpn]
          split <;> omega
        by_cases hk0 : k = 0
        · subst hk0
          go_wp2
          go_ret
          exact ⟨by rw [HN.out]; rfl, rfl⟩
        · have hk1 : ((k : Int) == 0) = false := by rw [beq_eq_false_iff_ne]; omega
          have hr1 : 0 < r := HKR.out.resolve_left hk0
          clear hk0
          go_wp2
          go_ret
          exact ⟨by rw [HN.out]; rfl, rfl⟩
      · have hrs' : size < r := by omega
        by_cases hk0 : k = 0
        · subst hk0
          go_wp2
          go_round
          case rel => exact ⟨1, r - size, by omega, rfl, rfl, by omega, by omega, by have := HR.out; simp at this ⊢; omega, .inr (by omega)⟩
          case measure => simp [intOf]
        · have hk1 : ((k : Int) == 0) = false := by rw [beq_eq_false_iff_ne]; omega
          have hr1 : 0 < r := HKR.out.resolve_left hk0
          clear hk0
          go_wp2
          go_round
          case rel => exact ⟨k + 1, r - size, by omega, by go_num, rfl, by omega, by omega, by have h1 := HR.out; have h2 := hsucc.out; push_cast; omega, .inr (by omega)⟩
          case measure => simp [intOf]; omega
    · have hk' : k = 4097 := by omega
      have HN : Hid (refNeed len size = 4097) := by
        show _ = _
        have hpn := planNeed_lt (len := len) (size := size) (k := (k : Int)) h1 (hks.out.resolve_left (by omega)) (by omega)
        unfold refNeed
        rw [if_pos (by omega)]
      have hlt' : (4096 : Int) < (k : Int) := by omega
      clear hk' hlt
      go_wp2
      go_ret
      exact ⟨by rw [HN.out]; rfl, rfl⟩

set_option maxHeartbeats 1000000 in
theorem refCheck_any (len size sym : Int) (id : Int) (hm : len ≤ 9223372036854775807) (hsm : size ≤ 9223372036854775807) (w : World) :
    Calls Tryd.prog 52 #[.agg #[.int .i64 len, .int .i64 size, .int .i64 sym, .int .u32 id]] w fun e w' => e = .returned (.int .i64 (planErr len size sym : Nat)) ∧ Gr w w' := by
  by_cases a : len < 0
  · have HE : Hid (planErr len size sym = 2) := by
      show _ = _
      have : planFit len size = 2 := by rw [planFit, if_pos a]
      rw [planErr, this]; rfl
    go_enter Tryd.func52, Tryd.ntmps52
    go_wp2
    go_ret
    exact ⟨by rw [HE.out]; rfl, (Gr.refl w).alloc _⟩
  by_cases b : size < 1
  · have HE : Hid (planErr len size sym = 4) := by
      show _ = _
      have : planFit len size = 4 := by rw [planFit, if_neg a, if_pos (.inl b)]
      rw [planErr, this]; rfl
    go_enter Tryd.func52, Tryd.ntmps52
    go_wp2
    go_ret
    exact ⟨by rw [HE.out]; rfl, (Gr.refl w).alloc _⟩
  by_cases c : 65535 < size
  · have HE : Hid (planErr len size sym = 4) := by
      show _ = _
      have : planFit len size = 4 := by rw [planFit, if_neg a, if_pos (.inr c)]
      rw [planErr, this]; rfl
    go_enter Tryd.func52, Tryd.ntmps52
    go_wp2
    go_ret
    exact ⟨by rw [HE.out]; rfl, (Gr.refl w).alloc _⟩
  have CN := Lib.hid (refNeeds_any len size (by omega) (by omega) hm hsm)
  by_cases d : 4096 < planNeed len size
  · have HE : Hid (planErr len size sym = 5) := by
      show _ = _
      have : planFit len size = 5 := by rw [planFit, if_neg a, if_neg (by omega), if_pos d]
      rw [planErr, this]; rfl
    have HN : Hid (refNeed len size = 4097) := by show _ = _; rw [refNeed, if_pos d]
    clear d
    go_enter Tryd.func52, Tryd.ntmps52
    go_wp2_with fail
    refine (CN.out _).mono ?_
    rintro e w1 ⟨rfl, rfl⟩
    rw [HN.out]
    go_wp2
    go_ret
    exact ⟨by rw [HE.out]; rfl, (Gr.refl w).alloc _⟩
  have HF : planFit len size = 0 := by rw [planFit, if_neg a, if_neg (by omega), if_neg d]
  have HE : Hid (planErr len size sym = if sym ≠ planNeed len size then 14 else 0) := by show _ = _; rw [planErr, if_neg (by simpa using HF)]
  have HN : Hid (refNeed len size = planNeed len size) := by show _ = _; rw [refNeed, if_neg d]
  obtain ⟨q, hq⟩ : ∃ q, planNeed len size = q := ⟨_, rfl⟩
  rw [hq] at HE HN d
  rw [HN.out] at CN
  clear hq HF HN
  by_cases e : sym ≠ q
  · have hb : ((sym : Int) != q) = true := by rw [bne_iff_ne]; exact e
    have B := Lib.hid e
    clear e
    go_enter Tryd.func52, Tryd.ntmps52
    go_wp2_with fail
    refine (CN.out _).mono ?_
    rintro e w1 ⟨rfl, rfl⟩
    go_wp2
    go_quiet ((go_at_call 83; refine Calls.quiet_of_same ((CN.out _).mono fun _ _ ⟨h1, h2⟩ => ⟨h1, h2.symm⟩)))
    go_wp2
    go_ret
    exact ⟨by rw [HE.out, if_pos B.out]; rfl, ((Gr.refl w).alloc _).drewN _⟩
  · have hb : ((sym : Int) != q) = false := by simpa using e
    have B := Lib.hid e
    clear e
    go_enter Tryd.func52, Tryd.ntmps52
    go_wp2_with fail
    refine (CN.out _).mono ?_
    rintro e w1 ⟨rfl, rfl⟩
    go_wp2
    go_quiet ((go_at_call 83; refine Calls.quiet_of_same ((CN.out _).mono fun _ _ ⟨h1, h2⟩ => ⟨h1, h2.symm⟩)))
    go_wp2
    go_ret
    exact ⟨by rw [HE.out, if_neg B.out]; rfl, ((Gr.refl w).alloc _).drewN _⟩
end Go.Proofs.YtdmijoochgmhiacDoor
