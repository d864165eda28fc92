/-
  The walks of field.Inv, field.Div and field.Log.
-/
import Derived.Test.YtdmijoochgmhiabRefPow
namespace Go.Proofs.Ytdmijoochgmhiab
open Go.RowKit

set_option maxHeartbeats 400000 in
theorem fieldInv_zero (w : World) :
    Calls Try.prog 15 #[.int .u8 0] w fun e w' => e = .returned (.tuple #[.int .u8 0, .int .i64 3]) ∧ w = w' := by
  go_enter Try.func15, Try.ntmps15
  go_wp2
  go_ret2
  exact ⟨rfl, rfl⟩
set_option maxHeartbeats 400000 in
theorem fieldInv_any (a : Nat) (ha : a < 256) (h0 : a ≠ 0) (w : World) :
    Calls Try.prog 15 #[.int .u8 (a : Int)] w fun e w' => e = .returned (.tuple #[.int .u8 (finv a : Nat), .int .i64 0]) ∧ w = w' := by
  have h0' : ((a : Int) == 0) = false := by rw [beq_eq_false_iff_ne]; omega
  clear h0
  go_enter Try.func15, Try.ntmps15
  go_wp2_with fail
  refine (power_any a ha 254 (by decide) w).mono ?_
  rintro e w1 ⟨rfl, rfl⟩
  go_wp2
  go_ret2
  exact ⟨rfl, rfl⟩
set_option maxHeartbeats 400000 in
theorem fieldDiv_zero (a : Nat) (w : World) :
    Calls Try.prog 14 #[.int .u8 (a : Int), .int .u8 0] w fun e w' => e = .returned (.tuple #[.int .u8 0, .int .i64 3]) ∧ w = w' := by
  go_enter Try.func14, Try.ntmps14
  go_wp2_with fail
  refine (fieldInv_zero w).mono ?_
  rintro e w1 ⟨rfl, rfl⟩
  go_wp2
  go_ret2
  exact ⟨rfl, rfl⟩
theorem fieldDiv_zero' (a b : Nat) (h : b = 0) (w : World) :
    Calls Try.prog 14 #[.int .u8 (a : Int), .int .u8 (b : Int)] w fun e w' => e = .returned (.tuple #[.int .u8 0, .int .i64 3]) ∧ w = w' := by
  subst h; exact fieldDiv_zero a w
set_option maxHeartbeats 400000 in
theorem fieldDiv_any (a b : Nat) (ha : a < 256) (hb : b < 256) (h0 : b ≠ 0) (w : World) :
    Calls Try.prog 14 #[.int .u8 (a : Int), .int .u8 (b : Int)] w fun e w' => e = .returned (.tuple #[.int .u8 (fmul a (finv b) : Nat), .int .i64 0]) ∧ w = w' := by
  have H0 := Lib.hid h0
  clear h0
  go_enter Try.func14, Try.ntmps14
  go_wp2_with fail
  refine (fieldInv_any b hb H0.out w).mono ?_
  rintro e w1 ⟨rfl, rfl⟩
  go_wp2_with fail
  refine (times_any a (finv b) ha (finv_lt b) w).mono ?_
  rintro e w1 ⟨rfl, rfl⟩
  go_wp2
  go_ret2
  exact ⟨rfl, rfl⟩
end Go.Proofs.Ytdmijoochgmhiab
