/-
  The walks of the document's inverse and power.
-/
import Derived.Test.YtdmijoochgmhiabRefField
namespace Go.Proofs.Ytdmijoochgmhiab
open Go.RowKit

/-- none below k is the inverse. -/
def Tried (a k : Nat) : Prop := ∀ j, j < k → fmul a j ≠ 1
set_option maxRecDepth 100000 in
set_option maxHeartbeats 1000000 in
theorem refInv_any (a : Nat) (ha : a < 256) (h0 : a ≠ 0) (w : World) :
    Calls Try.prog 19 #[.int .u8 (a : Int)] w fun e w' => e = .returned (.int .u8 (finv a : Nat)) ∧ w = w' := by
  have H0 := Lib.hid h0
  clear h0
  go_enter Try.func19, Try.ntmps19
  go_wp2
  go_loop [3] (fun i => ∃ k : Nat, k ≤ 256 ∧ i = .int .i64 k ∧ Tried a k) (fun i => 256 - (intOf i).toNat)
  case atStart => exact ⟨1, by omega, rfl, fun j hj => by obtain rfl : j = 0 := by omega
                                                          rw [fmul_zero]; decide⟩
  case round =>
    obtain ⟨k, hk, rfl, HA⟩ := hrel
    by_cases hlt : k < 256
    · go_wp2_with fail
      refine (refMul_any a k ha hlt w).mono ?_
      rintro e w1 ⟨rfl, rfl⟩
      by_cases hone : fmul a k = 1
      · have HK : Hid (finv a = k) := (inv_unique ha hlt hone).symm
        rw [hone]
        clear hone
        go_wp2
        go_ret
        refine ⟨?_, rfl⟩
        rw [HK.out]
        rfl
      · have ht : (((fmul a k : Nat) : Int) == 1) = false := by rw [beq_eq_false_iff_ne]; omega
        have HO := Lib.hid hone
        clear hone
        go_wp2
        go_round
        case rel =>
          refine ⟨k + 1, by omega, by go_num, fun j hj => ?_⟩
          by_cases e : j = k
          · subst e; exact HO.out
          · exact HA j (by omega)
        case measure => simp [intOf]; omega
    · exfalso
      exact HA (finv a) (Nat.lt_of_lt_of_le (finv_lt a) (by omega)) (fmul_finv ha H0.out)

/-- what holds at the head of a round of the document's power. -/
def PowRel (a n : Nat) (x m p : Value) : Prop :=
  ∃ y k q : Nat, x = .int .u8 (y : Int) ∧ m = .int .u64 (k : Int) ∧ p = .int .u8 (q : Int) ∧ y < 256 ∧ q < 256 ∧ k ≤ n ∧ fmul q (fpow y k) = fpow a n

set_option maxHeartbeats 1000000 in
theorem refPow_any (a : Nat) (ha : a < 256) (n : Nat) (hn : n < 2 ^ 64) (w : World) :
    Calls Try.prog 48 #[.int .u8 (a : Int), .int .u64 (n : Int)] w fun e w' => e = .returned (.int .u8 (fpow a n : Nat)) ∧ w = w' := by
  have HN := Lib.hid hn
  clear hn
  go_enter Try.func48, Try.ntmps48
  go_wp2
  go_loop [0, 1, 5] (fun x m p => PowRel a n x m p) (fun _ m _ => (intOf m).toNat)
  case atStart => exact ⟨a, n, 1, rfl, rfl, rfl, ha, by decide, Nat.le_refl _, one_fmul (fpow_lt a n)⟩
  case round =>
    obtain ⟨y, k, q, rfl, rfl, rfl, hy, hq, hkn, hinv⟩ := hrel
    have HI := Lib.hid hinv
    have HK := Lib.hid hkn
    clear hinv hkn
    by_cases hpos : 0 < k
    · have hkw : Hid (IntKind.u64.wrap ((k : Int) / 2) = ((k / 2 : Nat) : Int)) := by
        show _ = _
        have h1 := HN.out
        have h2 := HK.out
        simp only [Nat.reducePow] at h1
        rw [IntKind.wrap_u64]; omega
      have hkl : Hid (k / 2 ≤ n) := by show _ ≤ _; have := HK.out; omega
      by_cases hodd : k % 2 = 1
      · have ht : ((k : Int) % 2 == 1) = true := by rw [beq_iff_eq]; omega
        have HI2 : Hid (fmul (fmul q y) (fpow (fmul y y) (k / 2)) = fpow a n) := by
          show _ = _
          rw [← HI.out, fmul_assoc hq hy (fpow_lt _ _)]
          congr 1
          have e : k = 2 * (k / 2) + 1 := by omega
          conv => rhs; rw [e, fpow_odd hy]
          exact fmul_comm hy (fpow_lt _ _)
        clear hodd
        go_wp2_with fail
        refine (refMul_any q y hq hy w).mono ?_
        rintro e w1 ⟨rfl, rfl⟩
        go_wp2_with fail
        refine (refMul_any y y hy hy w).mono ?_
        rintro e w1 ⟨rfl, rfl⟩
        go_wp2
        go_round
        case rel => exact ⟨fmul y y, k / 2, fmul q y, rfl, by rw [hkw.out], rfl, fmul_lt hy y, fmul_lt hq y, hkl.out, HI2.out⟩
        case measure => simp only [intOf]; rw [hkw.out]; omega
      · have ht : ((k : Int) % 2 == 1) = false := by rw [beq_eq_false_iff_ne]; omega
        have HI2 : Hid (fmul q (fpow (fmul y y) (k / 2)) = fpow a n) := by
          show _ = _
          rw [← HI.out]
          congr 1
          have e : k = 2 * (k / 2) := by omega
          conv => rhs; rw [e, fpow_two hy]
          rfl
        clear hodd
        go_wp2_with fail
        refine (refMul_any y y hy hy w).mono ?_
        rintro e w1 ⟨rfl, rfl⟩
        go_wp2
        go_round
        case rel => exact ⟨fmul y y, k / 2, q, rfl, by rw [hkw.out], rfl, fmul_lt hy y, hq, hkl.out, HI2.out⟩
        case measure => simp only [intOf]; rw [hkw.out]; omega
    · obtain rfl : k = 0 := by omega
      have HE : Hid (fpow a n = q) := by show _ = _; rw [← HI.out]; exact fmul_one hq
      go_wp2
      go_ret
      exact ⟨by rw [HE.out]; rfl, rfl⟩
end Go.Proofs.Ytdmijoochgmhiab
