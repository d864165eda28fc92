/-
  The walks of the document's product, and of layer 1's awake.
-/
import Derived.Test.YtdmijoochgmhiabField
namespace Go.Proofs.Ytdmijoochgmhiab
open Go.RowKit

set_option maxHeartbeats 400000 in
theorem fieldExp_any (n : Int) (h1 : -9223372036854775808 ≤ n) (h2 : n ≤ 9223372036854775807) (w : World) :
    Calls Try.prog 17 #[.int .i64 n] w fun e w' => e = .returned (.int .u8 (fpow 2 (turnN n) : Nat)) ∧ w = w' := by
  go_enter Try.func17, Try.ntmps17
  go_wp2_with fail
  refine (turn_any n h1 h2 w).mono ?_
  rintro e w1 ⟨rfl, rfl⟩
  go_wp2_with fail
  refine (power_any 2 (by decide) (turnN n) (by have := turnN_lt n; omega) w).mono ?_
  rintro e w1 ⟨rfl, rfl⟩
  go_wp2
  go_ret
  exact ⟨rfl, rfl⟩

theorem field_check1 : fprod [2, 128] = 29 := by decide +kernel
theorem field_check2 : fprod [3, 3] = 5 := by decide +kernel
theorem field_check3 : fpow 2 (turnN 8) = 29 := by decide +kernel

set_option maxRecDepth 100000 in
set_option maxHeartbeats 400000 in
theorem fieldAwake_any (w : World) :
    Calls Try.prog 11 #[] w fun e w' => e = .returned (.bool true) ∧ Gr w w' := by
  go_enter Try.func11, Try.ntmps11
  go_wp2_with fail
  refine (fieldMul_any _ 2 2 [2, 128] _ (Bs.of_alloc (by rfl) rfl (by decide) rfl)).mono ?_
  rintro e w1 ⟨rfl, rfl⟩
  rw [field_check1]
  go_wp2_with fail
  refine (fieldMul_any _ 2 2 [3, 3] _ (Bs.of_alloc (by rfl) rfl (by decide) (by simp))).mono ?_
  rintro e w1 ⟨rfl, rfl⟩
  rw [field_check2]
  go_wp2_with fail
  refine (fieldExp_any 8 (by decide) (by decide) _).mono ?_
  rintro e w1 ⟨rfl, rfl⟩
  rw [field_check3]
  go_wp2
  go_ret
  exact ⟨rfl, (by repeat (first | assumption | exact Gr.refl _ | (refine Gr.alloc ?_ _) | (refine Gr.drew ?_) | (refine Gr.drewN ?_ _) | (refine Gr.trans ?_ (by assumption))))⟩

theorem refSum_lt (a b : Nat) (ha : a < 256) : ∀ k, k ≤ 8 → refSum a b k < 32768
  | 0, _ => by show 0 < 32768; decide
  | k + 1, h => by
    have ih := refSum_lt a b ha k (by omega)
    unfold refSum; split
    · have h1 : a * 2 ^ k < 32768 := by
        have h2 : 2 ^ k ≤ 2 ^ 7 := Nat.pow_le_pow_right (by decide) (by omega)
        have h3 : a * 2 ^ k ≤ 255 * 2 ^ 7 := Nat.mul_le_mul (by omega) h2
        omega
      exact Nat.xor_lt_two_pow (n := 15) ih h1
    · exact ih
/-- what is left of the sum behind the rounds of the powers 14 to k + 8. -/
def redFrom (s : Nat) : Nat → Nat
  | 0 => s
  | j + 1 => let t := redFrom s j; if t / 2 ^ (14 - j) % 2 = 1 then t ^^^ 285 * 2 ^ (6 - j) else t
theorem redFrom_lt (s : Nat) (h : s < 32768) : ∀ j, j ≤ 7 → redFrom s j < 32768
  | 0, _ => h
  | j + 1, hj => by
    have ih := redFrom_lt s h j (by omega)
    show (if redFrom s j / 2 ^ (14 - j) % 2 = 1 then redFrom s j ^^^ 285 * 2 ^ (6 - j) else redFrom s j) < 32768
    split
    · have h2 : 2 ^ (6 - j) ≤ 2 ^ 6 := Nat.pow_le_pow_right (by decide) (by omega)
      exact Nat.xor_lt_two_pow (n := 15) ih (by omega)
    · exact ih
theorem redFrom_all (s : Nat) : redFrom s 7 = refRed 7 s := by
  simp only [redFrom, refRed]; rfl

theorem tmod_bit (x k : Nat) : ((x : Int) / 2 ^ k).tmod 2 = ((x / 2 ^ k % 2 : Nat) : Int) := by
  rw [show ((x : Int) / 2 ^ k) = ((x / 2 ^ k : Nat) : Int) by simp]
  generalize x / 2 ^ k = y
  rw [Int.tmod_eq_emod_of_nonneg (by omega)]; omega
theorem u64_small (z : Nat) (h : z < 32768) : IntKind.u64.wrap (z : Int) = (z : Int) := by
  rw [IntKind.wrap_u64]; omega

set_option maxHeartbeats 1000000 in
theorem refMul_any (a b : Nat) (ha : a < 256) (hb : b < 256) (w : World) :
    Calls Try.prog 20 #[.int .u8 (a : Int), .int .u8 (b : Int)] w fun e w' => e = .returned (.int .u8 (fmul a b : Nat)) ∧ w = w' := by
  go_enter Try.func20, Try.ntmps20
  go_wp2
  go_loop [5, 6] (fun s i => ∃ k : Nat, k ≤ 8 ∧ i = .int .i64 k ∧ s = .int .u64 (refSum a b k : Nat)) (fun _ i => 8 - (intOf i).toNat)
  case atStart => exact ⟨0, Nat.zero_le _, rfl, rfl⟩
  case round =>
    obtain ⟨k, hk, rfl, rfl⟩ := hrel
    have hsl := refSum_lt a b ha k hk
    obtain ⟨s, hs⟩ : ∃ s, refSum a b k = s := ⟨_, rfl⟩
    rw [hs] at hsl ⊢
    have HS := Lib.hid hs
    clear hs
    by_cases hlt : k < 8
    · have hbd := tmod_bit b k
      by_cases hbit : b / 2 ^ k % 2 = 1
      · rw [hbit] at hbd
        have ht : (((b : Int) / 2 ^ k).tmod 2 == 1) = true := by rw [hbd]; rfl
        have hak : a * 2 ^ k < 32768 := by
          have h2 : 2 ^ k ≤ 2 ^ 7 := Nat.pow_le_pow_right (by decide) (by omega)
          have h3 : a * 2 ^ k ≤ 255 * 2 ^ 7 := Nat.mul_le_mul (by omega) h2
          omega
        have HN : Hid (bits .xor .u64 (s : Int) (IntKind.u64.wrap ((a : Int) * 2 ^ k)) = ((refSum a b (k + 1) : Nat) : Int)) := by
          show _ = _
          have e : ((a : Int) * 2 ^ k) = ((a * 2 ^ k : Nat) : Int) := by simp
          rw [e, u64_small _ hak, u64_xor_nat s (a * 2 ^ k) (Nat.lt_trans hsl (by decide)) (Nat.lt_trans hak (by decide)), refSum, if_pos hbit, HS.out]
        clear hbd hbit hak
        go_wp2
        go_round
        case rel => exact ⟨k + 1, by omega, by go_num, by rw [HN.out]⟩
        case measure => simp [intOf]; omega
      · have ht : (((b : Int) / 2 ^ k).tmod 2 == 1) = false := by rw [hbd, beq_eq_false_iff_ne]; omega
        have HN : Hid (refSum a b (k + 1) = s) := by show _ = _; rw [refSum, if_neg hbit, HS.out]
        clear hbd hbit
        go_wp2
        go_round
        case rel => exact ⟨k + 1, by omega, by go_num, by rw [HN.out]⟩
        case measure => simp [intOf]; omega
    · obtain rfl : k = 8 := by omega
      go_wp2
      go_loop [5, 7] (fun t i => ∃ c : Nat, 7 ≤ c ∧ c ≤ 14 ∧ i = .int .i64 c ∧ t = .int .u64 (redFrom s (14 - c) : Nat)) (fun _ i => (intOf i).toNat)
      case atStart => exact ⟨14, by omega, by omega, rfl, rfl⟩
      case round =>
        obtain ⟨c, hc1, hc2, rfl, rfl⟩ := hrel
        have htl := redFrom_lt s hsl (14 - c) (by omega)
        obtain ⟨t, ht⟩ : ∃ t, redFrom s (14 - c) = t := ⟨_, rfl⟩
        rw [ht] at htl ⊢
        have HT := Lib.hid ht
        clear ht
        by_cases hlt : 8 ≤ c
        · have HR : Hid (redFrom s (14 - (c - 1)) = if t / 2 ^ c % 2 = 1 then t ^^^ 285 * 2 ^ (c - 8) else t) := by
            show _ = _
            rw [show 14 - (c - 1) = (14 - c) + 1 by omega]
            show (if redFrom s (14 - c) / 2 ^ (14 - (14 - c)) % 2 = 1 then redFrom s (14 - c) ^^^ 285 * 2 ^ (6 - (14 - c)) else redFrom s (14 - c)) = _
            rw [HT.out, show 14 - (14 - c) = c by omega, show 6 - (14 - c) = c - 8 by omega]
          have hbd := tmod_bit t c
          by_cases hbit : t / 2 ^ c % 2 = 1
          · rw [hbit] at hbd
            have htt : (((t : Int) / 2 ^ c).tmod 2 == 1) = true := by rw [hbd]; rfl
            have h2 : 2 ^ (c - 8) ≤ 2 ^ 6 := Nat.pow_le_pow_right (by decide) (by omega)
            have hcl : 285 * 2 ^ (c - 8) < 32768 := by omega
            have HN : Hid (bits .xor .u64 (t : Int) (IntKind.u64.wrap (285 * 2 ^ (c - 8))) = ((redFrom s (14 - (c - 1)) : Nat) : Int)) := by
              show _ = _
              have e : ((285 : Int) * 2 ^ (c - 8)) = ((285 * 2 ^ (c - 8) : Nat) : Int) := by simp
              rw [e, u64_small _ hcl, u64_xor_nat t _ (Nat.lt_trans htl (by decide)) (Nat.lt_trans hcl (by decide)), HR.out, if_pos hbit]
            clear hbd hbit h2 hcl
            go_wp2
            go_round
            case rel => exact ⟨c - 1, by omega, by omega, by congr 1; omega, by rw [HN.out]⟩
            case measure => simp [intOf]; omega
          · have htt : (((t : Int) / 2 ^ c).tmod 2 == 1) = false := by rw [hbd, beq_eq_false_iff_ne]; omega
            have HN : Hid (redFrom s (14 - (c - 1)) = t) := by show _ = _; rw [HR.out, if_neg hbit]
            clear hbd hbit
            go_wp2
            go_round
            case rel => exact ⟨c - 1, by omega, by omega, by congr 1; omega, by rw [HN.out]⟩
            case measure => simp [intOf]; omega
        · obtain rfl : c = 7 := by omega
          go_wp2
          go_ret
          refine ⟨?_, rfl⟩
          have e : fmul a b = t % 256 := by rw [← refMul_eq ha hb, refMul, HS.out, ← redFrom_all, HT.out]
          rw [e]
          rfl
end Go.Proofs.Ytdmijoochgmhiab
