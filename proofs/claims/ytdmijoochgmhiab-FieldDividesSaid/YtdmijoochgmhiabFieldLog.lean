/-
  The walks of field.Log and of the document's Exp.
-/
import Derived.Test.YtdmijoochgmhiabRefPow
namespace Go.Proofs.Ytdmijoochgmhiab
open Go.RowKit

/-- n powers of 2 from p on. -/
def pows : Nat → Nat → List Nat
  | 0, _ => []
  | n + 1, p => p :: pows n (fmul p 2)
theorem pows_mem : ∀ (n m : Nat) (x : Nat), x ∈ pows n (fpow 2 m) → ∃ k, k < m + n ∧ fpow 2 k = x
  | 0, _, _, h => by cases h
  | n + 1, m, x, h => by
    rcases List.mem_cons.mp h with h | h
    · exact ⟨m, by omega, h.symm⟩
    · obtain ⟨k, hk, e⟩ := pows_mem n (m + 1) x h
      exact ⟨k, by omega, e⟩
set_option maxRecDepth 100000 in
theorem pows_all : (List.range 256).all (fun a => a == 0 || (pows 255 1).contains a) = true := by decide +kernel
theorem log_is {a : Nat} (ha : a < 256) (h0 : a ≠ 0) : ∃ k, k < 255 ∧ fpow 2 k = a := by
  have h := List.all_eq_true.mp pows_all a (List.mem_range.mpr ha)
  rw [Bool.or_eq_true, beq_iff_eq] at h
  rcases h with h | h
  · exact absurd h h0
  · obtain ⟨k, hk, e⟩ := pows_mem 255 0 a (List.contains_iff_mem.mp h)
    exact ⟨k, by omega, e⟩
theorem fpow2_ne (k : Nat) : fpow 2 k ≠ 0 := by
  intro h
  induction k with
  | zero => revert h; decide
  | succ k ih => exact ih (fmul_eq_zero (fpow_lt 2 k) (by decide) h (by decide))

/-- no power below k is a. -/
def Sought (a k : Nat) : Prop := ∀ j, j < k → fpow 2 j ≠ a

set_option maxRecDepth 100000 in
set_option maxHeartbeats 1000000 in
theorem fieldLog_zero (w : World) :
    Calls Try.prog 16 #[.int .u8 0] w fun e w' => e = .returned (.tuple #[.int .i64 0, .int .i64 3]) ∧ w = w' := by
  go_enter Try.func16, Try.ntmps16
  go_wp2
  go_loop [4, 6] (fun s i => ∃ k : Nat, k ≤ 255 ∧ i = .int .i64 k ∧ s = .int .u8 (fpow 2 k : Nat)) (fun _ i => 255 - (intOf i).toNat)
  case atStart => exact ⟨0, Nat.zero_le _, rfl, rfl⟩
  case round =>
    obtain ⟨k, hk, rfl, rfl⟩ := hrel
    have hql := fpow_lt 2 k
    have hqn := fpow2_ne k
    obtain ⟨q, hq⟩ : ∃ q, fpow 2 k = q := ⟨_, rfl⟩
    rw [hq] at hql hqn ⊢
    have HN : Hid (fpow 2 (k + 1) = fmul q 2) := by show fpow 2 (k + 1) = _; rw [← hq]; rfl
    clear hq
    by_cases hlt : k < 255
    · have ht : ((q : Int) == 0) = false := by rw [beq_eq_false_iff_ne]; omega
      clear hqn
      go_wp2_with fail
      refine (times_any q 2 hql (by decide) w).mono ?_
      rintro e w1 ⟨rfl, rfl⟩
      go_wp2
      go_round
      case rel => exact ⟨k + 1, by omega, by go_num, by rw [HN.out] <;> rfl⟩
      case measure => simp [intOf]; omega
    · obtain rfl : k = 255 := by omega
      clear hqn
      go_wp2
      go_ret2
      exact ⟨rfl, rfl⟩
set_option maxRecDepth 100000 in
set_option maxHeartbeats 1000000 in
theorem fieldLog_any (a : Nat) (ha : a < 256) (h0 : a ≠ 0) (w : World) :
    Calls Try.prog 16 #[.int .u8 (a : Int)] w fun e w' => ∃ k : Nat, k < 255 ∧ fpow 2 k = a ∧ e = .returned (.tuple #[.int .i64 (k : Int), .int .i64 0]) ∧ w = w' := by
  have H0 := Lib.hid h0
  clear h0
  go_enter Try.func16, Try.ntmps16
  go_wp2
  go_loop [4, 6] (fun s i => ∃ k : Nat, k ≤ 255 ∧ i = .int .i64 k ∧ s = .int .u8 (fpow 2 k : Nat) ∧ Sought a k) (fun _ i => 255 - (intOf i).toNat)
  case atStart => exact ⟨0, Nat.zero_le _, rfl, rfl, fun j hj => absurd hj (Nat.not_lt_zero j)⟩
  case round =>
    obtain ⟨k, hk, rfl, rfl, HA⟩ := hrel
    have hql := fpow_lt 2 k
    obtain ⟨q, hq⟩ : ∃ q, fpow 2 k = q := ⟨_, rfl⟩
    rw [hq] at hql ⊢
    have HQ := Lib.hid hq
    have HN : Hid (fpow 2 (k + 1) = fmul q 2) := by show fpow 2 (k + 1) = _; rw [← hq]; rfl
    clear hq
    by_cases hlt : k < 255
    · by_cases hone : q = a
      · have ht : ((q : Int) == (a : Int)) = true := by rw [beq_iff_eq]; omega
        have HK : Hid (fpow 2 k = a) := by show _ = _; rw [HQ.out, hone]
        clear hone
        go_wp2
        go_ret2
        exact ⟨k, hlt, HK.out, rfl, rfl⟩
      · have ht : ((q : Int) == (a : Int)) = false := by rw [beq_eq_false_iff_ne]; omega
        have HO : Hid (fpow 2 k ≠ a) := by show _ ≠ _; rw [HQ.out]; exact hone
        clear hone
        go_wp2_with fail
        refine (times_any q 2 hql (by decide) w).mono ?_
        rintro e w1 ⟨rfl, rfl⟩
        go_wp2
        go_round
        case rel =>
          refine ⟨k + 1, by omega, by go_num, by rw [HN.out] <;> rfl, fun j hj => ?_⟩
          by_cases e : j = k
          · subst e; exact HO.out
          · exact HA j (by omega)
        case measure => simp [intOf]; omega
    · exfalso
      obtain ⟨j, hj, e⟩ := log_is ha H0.out
      exact HA j (by omega) e

set_option maxRecDepth 100000 in
set_option maxHeartbeats 1000000 in
theorem refExp_any (n : Int) (h1 : -9223372036854775808 ≤ n) (h2 : n ≤ 9223372036854775807) (w : World) :
    Calls Try.prog 18 #[.int .i64 n] w fun e w' => e = .returned (.int .u8 (fpow 2 (turnN n) : Nat)) ∧ w = w' := by
  have htl := turnN_lt n
  obtain ⟨t, HT0⟩ : ∃ t, turnN n = t := ⟨_, rfl⟩
  rw [HT0] at htl ⊢
  by_cases h0 : 0 ≤ n
  · have HT : Hid (n % 255 = (t : Int)) := by show _ = _; unfold turnN at HT0; omega
    clear HT0
    go_enter Try.func18, Try.ntmps18
    go_wp2_with fail
    rw [HT.out]
    refine (refPow_any 2 (by decide) t (Nat.lt_trans htl (by decide)) w).mono ?_
    rintro e w1 ⟨rfl, rfl⟩
    go_wp2
    go_ret
    exact ⟨rfl, rfl⟩
  · have ht : n.tmod 255 = -((-n) % 255) := by
      rw [← Int.neg_neg n, Int.neg_tmod, Int.tmod_eq_emod_of_nonneg (by omega), Int.neg_neg]
    obtain ⟨m, hm⟩ : ∃ m : Int, n.tmod 255 = m := ⟨_, rfl⟩
    have hb : -255 < m ∧ m ≤ 0 := by omega
    by_cases hz : m = 0
    · have HT : Hid (t = 0) := by show _ = _; unfold turnN at HT0; omega
      subst hz
      obtain rfl := HT.out
      clear ht HT0
      go_enter Try.func18, Try.ntmps18
      go_wp2_with fail
      refine (refPow_any 2 (by decide) 0 (by decide) w).mono ?_
      rintro e w1 ⟨rfl, rfl⟩
      go_wp2
      go_ret
      exact ⟨rfl, rfl⟩
    · have HT : Hid (m + 255 = (t : Int)) := by show _ = _; unfold turnN at HT0; omega
      have hneg : m < 0 := by omega
      have hlo : -255 < m := hb.1
      clear ht hb hz HT0
      go_enter Try.func18, Try.ntmps18
      go_wp2_with fail
      rw [HT.out]
      refine (refPow_any 2 (by decide) t (Nat.lt_trans htl (by decide)) w).mono ?_
      rintro e w1 ⟨rfl, rfl⟩
      go_wp2
      go_ret
      exact ⟨rfl, rfl⟩
end Go.Proofs.Ytdmijoochgmhiab
