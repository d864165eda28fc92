/-
  A bit of a number of 32; a bit of a byte turned.
-/
import Derived.Test.YtddopoojmadpjaaGreatDoorSum
namespace Go.Proofs.YtddopoojmadpjaaGreatDoor
open Go.RowKit

theorem u32_bit (p j : Nat) (hp : p < 4294967296) : bits .and .u32 ((p : Int) / 2 ^ j) 1 = ((p / 2 ^ j % 2 : Nat) : Int) := by
  have h := u32_and_nat (p / 2 ^ j) 1 (Nat.lt_of_le_of_lt (Nat.div_le_self _ _) hp) (by decide)
  rw [Nat.and_one_is_mod] at h
  rw [← h]; simp
theorem u8_turn (x : UInt8) (J : Nat) : bits .xor .u8 (x.toNat : Int) (2 ^ (J % 8) % 256) = ((x ^^^ UInt8.ofNat (2 ^ (J % 8))).toNat : Int) := by
  have hx := x.toNat_lt
  have hm : 2 ^ (J % 8) < 256 := by
    have : 2 ^ (J % 8) < 2 ^ 8 := Nat.pow_lt_pow_right (by omega) (by omega)
    omega
  have h := u8_xor_nat x.toNat (2 ^ (J % 8)) (by omega) hm
  rw [UInt8.toNat_xor, UInt8.toNat_ofNat', show (2 : Nat) ^ 8 = 256 by rfl, Nat.mod_eq_of_lt hm, ← h]
  congr 1
  have e : ((2 ^ (J % 8) : Nat) : Int) = (2 : Int) ^ (J % 8) := by simp
  rw [← e]; clear e h; generalize 2 ^ (J % 8) = y at hm ⊢; omega
end Go.Proofs.YtddopoojmadpjaaGreatDoor
