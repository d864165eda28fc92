/-
  The walk of the document's reading of a seed.
-/
import Derived.Test.YtdmijoochgmhiabDoorSeed
namespace Go.Proofs.YtdmijoochgmhiabDoor
open Go.RowKit
set_option linter.unusedVariables false

set_option maxHeartbeats 1000000 in
theorem refEight_any (a : Option Addr) (len cap : Nat) (l : List UInt8) (w : World) (hs : Bs w a len cap l) (h8 : 8 ≤ len) :
    Calls Tryd.prog 39 #[.slice a len cap] w fun e w' => e = .returned (.int .u64 (seedTo (l.take 8) : Nat)) ∧ w = w' := by
  obtain ⟨b, off, rfl, _, _⟩ := hs.at_ (by omega)
  have hm : len ≤ 9223372036854775807 := by have h1 := hs.2.1; have h2 := hs.2.2.1; unfold maxLen at h2; omega
  have L1 : Hid (l.length = len) := hs.1
  go_enter Tryd.func39, Tryd.ntmps39
  go_wp2
  go_loop [3, 4] (fun s i => ∃ k : Nat, k ≤ 8 ∧ i = .int .i64 k ∧ s = .int .u64 (seedTo (l.take k) : Nat)) (fun _ i => 8 - (intOf i).toNat)
  case atStart => exact ⟨0, by omega, rfl, rfl⟩
  case round =>
    obtain ⟨k, hk, rfl, rfl⟩ := hrel
    obtain ⟨q, hq⟩ : ∃ q, seedTo (l.take k) = q := ⟨_, rfl⟩
    rw [hq]
    have HQ := Lib.hid hq
    clear hq
    by_cases hlt : k < 8
    · obtain ⟨x, hx, hcx⟩ := hs.get (show k < len by omega)
      have HX := Lib.hid hx
      clear hx
      have hxl := x.toNat_lt
      have hbd : Hid (q * 256 + x.toNat < 2 ^ 64) := by
        show q * 256 + x.toNat < _
        have h1 := seedTo_lt k (l.take k) (by rw [List.length_take, L1.out]; omega)
        rw [HQ.out] at h1
        have h2 : 256 ^ k ≤ 256 ^ 7 := Nat.pow_le_pow_right (by decide) (by omega)
        have h3 : q + 1 ≤ 256 ^ 7 := Nat.lt_of_lt_of_le h1 h2
        have h4 : (q + 1) * 256 ≤ 256 ^ 7 * 256 := Nat.mul_le_mul_right _ h3
        have h5 : (256 : Nat) ^ 7 * 256 = 2 ^ 64 := by decide
        rw [h5] at h4
        exact Nat.lt_of_lt_of_le (by omega) h4
      have h1 : IntKind.u64.wrap (256 * (q : Int)) = 256 * (q : Int) := by
        have := u64_shl8 q (Nat.lt_of_le_of_lt (Nat.le_add_right _ _) hbd.out)
        rw [Int.mul_comm] at this; rw [this]; simp [Int.mul_comm]
      have h2 : IntKind.u64.wrap (256 * (q : Int) + (x.toNat : Int)) = ((q * 256 + x.toNat : Nat) : Int) := by
        have := hbd.out
        rw [IntKind.wrap_u64]; simp only [Nat.reducePow] at this; omega
      have HN : Hid (seedTo (l.take (k + 1)) = q * 256 + x.toNat) := by
        show _ = _
        rw [List.take_add_one, HX.out, ← HQ.out]; exact seedTo_snoc _ _
      go_wp2
      go_round
      case rel => exact ⟨k + 1, by omega, by go_num, by rw [HN.out]; rfl⟩
      case measure => simp [intOf]; omega
    · obtain rfl : k = 8 := by omega
      go_wp2
      go_ret
      exact ⟨by rw [HQ.out]; rfl, rfl⟩
end Go.Proofs.YtdmijoochgmhiabDoor
