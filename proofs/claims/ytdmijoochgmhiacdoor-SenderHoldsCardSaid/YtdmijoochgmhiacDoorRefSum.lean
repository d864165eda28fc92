/-
  The walks of the document's Sum and Put.
-/
import Derived.Test.YtdmijoochgmhiacDoorSum
import Derived.Lib.Hide
import Derived.Test.YtdmijoochgmhiacDoorRefPut4
namespace Go.Proofs.YtdmijoochgmhiacDoor
open Go.RowKit

theorem crcSteps_succ (m r : Nat) : crcSteps (m + 1) r = crcStep (crcSteps m r) := by rw [crcSteps_add]; rfl

set_option maxHeartbeats 1000000 in
theorem refSum_any (a : Option Addr) (len cap : Nat) (l : List UInt8) (w : World) (hl : Bs w a len cap l) :
    Calls Tryd.prog 61 #[.slice a len cap] w fun e w' => e = .returned (.int .u32 (crc l : Nat)) ∧ w = w' := by
  have b1 : len ≤ 9223372036854775807 := by have h1 := hl.2.1; have h2 := hl.2.2.1; unfold maxLen at h2; omega
  have L1 : Hid (l.length = len) := hl.1
  go_enter Tryd.func61, Tryd.ntmps61
  go_wp2
  go_loop [3, 4] (fun r i => ∃ k : Nat, k ≤ len ∧ i = .int .i64 k ∧ r = .int .u32 (crcReg 4294967295 (l.take k) : Nat)) (fun _ i => len - (intOf i).toNat)
  case atStart => exact ⟨0, Nat.zero_le _, rfl, rfl⟩
  case round =>
    obtain ⟨k, hk, rfl, rfl⟩ := hrel
    obtain ⟨c, hc⟩ : ∃ c, crcReg 4294967295 (l.take k) = c := ⟨_, rfl⟩
    have hclt : c < 4294967296 := by rw [← hc]; exact crcReg_lt _ (by decide)
    rw [hc]
    have HC := Lib.hid hc
    clear hc
    by_cases hlt : k < len
    · obtain ⟨b, off, rfl, _, _⟩ := hl.at_ (by omega)
      obtain ⟨x, hx, hcx⟩ := hl.get hlt
      have HX := Lib.hid hx
      clear hx
      have hx256 := x.toNat_lt
      have hxor := u32_xor_nat c x.toNat hclt (by omega)
      have hq : c ^^^ x.toNat < 4294967296 := Nat.xor_lt_two_pow (n := 32) hclt (by omega)
      go_wp2
      clear hcx hxor
      generalize hy : c ^^^ x.toNat = y at *
      have HY := Lib.hid hy
      clear hy
      go_loop [3, 5] (fun r i => ∃ m : Nat, m ≤ 8 ∧ i = .int .i64 m ∧ r = .int .u32 (crcSteps m y : Nat)) (fun _ i => 8 - (intOf i).toNat)
      case atStart => exact ⟨0, by omega, rfl, rfl⟩
      case round =>
        obtain ⟨m, hm, rfl, rfl⟩ := hrel
        obtain ⟨d, hd⟩ : ∃ d, crcSteps m y = d := ⟨_, rfl⟩
        have hdlt : d < 4294967296 := by rw [← hd]; exact crcSteps_lt m hq
        rw [hd]
        have HD := Lib.hid hd
        clear hd
        by_cases hlm : m < 8
        · by_cases hodd : d % 2 = 1
          · have ht : ((d : Int) % 2 == 1) = true := by rw [beq_iff_eq]; omega
            have hxo := u32_xor_nat (d / 2) 3988292384 (by omega) (by decide)
            rw [show ((d / 2 : Nat) : Int) = (d : Int) / 2 by omega] at hxo
            have hn : Hid (crcSteps (m + 1) y = d / 2 ^^^ 3988292384) := by show crcSteps (m + 1) y = _; rw [crcSteps_succ, HD.out, crcStep, if_pos hodd]
            go_wp2
            go_round
            case rel => exact ⟨m + 1, by omega, by go_num, by rw [hn.out]; exact congrArg _ hxo⟩
            case measure => simp [intOf]; omega
          · have ht : ((d : Int) % 2 == 1) = false := by rw [beq_eq_false_iff_ne]; omega
            have hn : Hid (crcSteps (m + 1) y = d / 2) := by show crcSteps (m + 1) y = _; rw [crcSteps_succ, HD.out, crcStep, if_neg hodd]
            go_wp2
            go_round
            case rel => exact ⟨m + 1, by omega, by go_num, by rw [hn.out]; rfl⟩
            case measure => simp [intOf]; omega
        · obtain rfl : m = 8 := by omega
          go_wp2
          go_round
          case rel =>
            refine ⟨k + 1, by omega, by go_num, ?_⟩
            have e : crcReg 4294967295 (l.take (k + 1)) = d := by
              rw [List.take_add_one, HX.out, crcReg_append, HC.out]
              show crcSteps 8 (c ^^^ x.toNat) = d
              rw [HY.out, HD.out]
            rw [e]
          case measure => simp [intOf]; omega
    · have hlen : k = len := by omega
      subst hlen
      go_wp2
      go_ret
      refine ⟨?_, rfl⟩
      have e : crc l = 4294967295 - c := by rw [crc, ← HC.out, List.take_of_length_le (by rw [L1.out]; exact Nat.le_refl _)]
      rw [e]
      show Ending.returned (.int .u32 (4294967295 - (c : Int))) = _
      congr 2; omega

end Go.Proofs.YtdmijoochgmhiacDoor
