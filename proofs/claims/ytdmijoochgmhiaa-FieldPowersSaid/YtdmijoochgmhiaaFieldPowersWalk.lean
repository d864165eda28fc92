/-
  The walk of law FieldPowers.
-/
import Derived.Test.YtdmijoochgmhiaaRefPow
namespace Go.Proofs.Ytdmijoochgmhiaa
open Go.RowKit

theorem fpow_turn {a : Nat} (ha : a < 256) (h0 : a ≠ 0) (m : Nat) : fpow a (turnN (m : Int)) = fpow a m := by
  have e : turnN (m : Int) = m % 255 := by unfold turnN; omega
  rw [e, fpow_mod ha h0]
theorem fpow_turn_neg {a : Nat} (ha : a < 256) (h0 : a ≠ 0) (m : Nat) : fpow a (turnN (-(m : Int))) = fpow (finv a) m := by
  have hl := finv_lt a
  have h1 : ∀ k, fmul (fpow a k) (fpow (finv a) k) = 1 := by
    intro k
    induction k with
    | zero => exact fmul_one (fpow_lt a 0)
    | succ k ih =>
      show fmul (fmul (fpow a k) a) (fmul (fpow (finv a) k) (finv a)) = 1
      rw [fmul_assoc (fpow_lt a k) ha (fmul_lt (fpow_lt _ k) _), fmul_comm (fpow_lt (finv a) k) hl, ← fmul_assoc ha hl (fpow_lt _ k), fmul_finv ha h0, one_fmul (fpow_lt _ k)]
      exact ih
  have h2 : fmul (fpow a m) (fpow a (turnN (-(m : Int)))) = 1 := by
    rw [← fpow_add ha, ← fpow_mod ha h0]
    have e : (m + turnN (-(m : Int))) % 255 = 0 := by unfold turnN; omega
    rw [e]; rfl
  have e1 := inv_unique (fpow_lt a m) (fpow_lt (finv a) m) (h1 m)
  have e2 := inv_unique (fpow_lt a m) (fpow_lt a _) h2
  rw [e1, e2]

set_option maxRecDepth 100000 in
set_option maxHeartbeats 1000000 in
theorem fieldPowers_walk (w : World) (a : Nat) (ha : a < 256) (n : Int) (h1 : -9223372036854775808 ≤ n) (h2 : n ≤ 9223372036854775807) :
    Calls Try.prog 9 #[.int .u8 (a : Int), .int .i64 n] w fun e w' => e = .returned (.bool true) ∧ Gr w w' := by
  by_cases hneg : n < 0
  · by_cases h0 : a = 0
    · subst h0
      have hv : powV 0 n = 0 := by unfold powV; rw [if_neg (by omega), if_neg (by simp)]
      have he : powE 0 n = 3 := by unfold powE; rw [if_neg (by omega), if_neg (by simp), if_pos hneg]
      have HV := Lib.hid hv
      have HE := Lib.hid he
      clear hv he
      go_enter Try.func9, Try.ntmps9
      go_wp2_with fail
      refine (fieldAwake_any w).mono ?_
      rintro e w1 ⟨rfl, hg1⟩
      go_wp2_with fail
      refine (fieldPow_any 0 ha n h1 h2 w1).mono ?_
      rintro e w2 ⟨rfl, rfl⟩
      rw [HV.out, HE.out]
      go_wp2
      go_ret
      exact ⟨rfl, hg1⟩
    · obtain ⟨m, hm⟩ : ∃ m : Nat, n = -(m : Int) - 1 := ⟨(-(n + 1)).toNat, by omega⟩
      have hv : powV a n = fpow (finv a) (m + 1) := by
        unfold powV; rw [if_neg (by omega), if_pos h0, ← fpow_turn_neg ha h0 (m + 1), show (-(((m + 1 : Nat)) : Int)) = n by omega]
      have he : powE a n = 0 := by unfold powE; rw [if_neg (by omega), if_pos h0]
      have HV := Lib.hid hv
      have HE := Lib.hid he
      have H0 := Lib.hid h0
      have hml : Hid (m + 1 < 2 ^ 64) := by show m + 1 < 2 ^ 64; simp only [Nat.reducePow]; omega
      have h0' : ((a : Int) == 0) = false := by rw [beq_eq_false_iff_ne]; omega
      have hneg' : -(n + 1) = (m : Int) := by omega
      have hlo : -9223372036854775807 ≤ n + 1 := by omega
      have HM := Lib.hid hm
      clear hv he h0 hm
      go_enter Try.func9, Try.ntmps9
      go_wp2_with fail
      refine (fieldAwake_any w).mono ?_
      rintro e w1 ⟨rfl, hg1⟩
      go_wp2_with fail
      refine (fieldPow_any a ha n h1 h2 w1).mono ?_
      rintro e w2 ⟨rfl, rfl⟩
      rw [HV.out, HE.out]
      go_wp2_with fail
      refine (refInv_any a ha H0.out w1).mono ?_
      rintro e w2 ⟨rfl, rfl⟩
      go_wp2_with fail
      rw [show ((m : Int) + 1) = ((m + 1 : Nat) : Int) by simp]
      obtain ⟨m', hm'⟩ : ∃ m', m + 1 = m' := ⟨_, rfl⟩
      rw [hm'] at hml ⊢
      clear hm'
      refine (refPow_any (finv a) (finv_lt a) m' hml.out w1).mono ?_
      rintro e w2 ⟨rfl, rfl⟩
      go_wp2
      go_ret
      exact ⟨rfl, hg1⟩
  · obtain ⟨m, rfl⟩ := Int.eq_ofNat_of_zero_le (show 0 ≤ n by omega)
    have hv : powV a (m : Int) = fpow a m := by
      unfold powV
      by_cases hm : (m : Int) = 0
      · obtain rfl : m = 0 := by omega
        rfl
      · rw [if_neg hm]
        by_cases h0 : a = 0
        · subst h0; rw [if_neg (by simp), fpow_zero_base (by omega)]
        · rw [if_pos h0, fpow_turn ha h0]
    have he : powE a (m : Int) = 0 := by
      unfold powE
      by_cases hm : (m : Int) = 0
      · rw [if_pos hm]
      · rw [if_neg hm]
        by_cases h0 : a = 0
        · subst h0; rw [if_neg (by simp), if_neg hneg]
        · rw [if_pos h0]
    have HV := Lib.hid hv
    have HE := Lib.hid he
    have hml : Hid (m < 2 ^ 64) := by show m < 2 ^ 64; simp only [Nat.reducePow]; omega
    clear hv he
    go_enter Try.func9, Try.ntmps9
    go_wp2_with fail
    refine (fieldAwake_any w).mono ?_
    rintro e w1 ⟨rfl, hg1⟩
    go_wp2_with fail
    refine (fieldPow_any a ha m h1 h2 w1).mono ?_
    rintro e w2 ⟨rfl, rfl⟩
    rw [HV.out, HE.out]
    go_wp2_with fail
    refine (refPow_any a ha m hml.out w1).mono ?_
    rintro e w2 ⟨rfl, rfl⟩
    go_wp2
    go_ret
    exact ⟨rfl, hg1⟩
end Go.Proofs.Ytdmijoochgmhiaa
