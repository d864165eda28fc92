/-
  The walk of the document's Same: are two slices of bytes the same?
-/
import Derived.Test.YtdmijoochgmhiaaGreatDoorRows
import Derived.Test.YtdmijoochgmhiaaGreatDoorBase
import Derived.Deep.QuietTactic
import Derived.BigQuiet
import Derived.Lib.Hide
namespace Go.Proofs.YtdmijoochgmhiaaGreatDoor
open Go.RowKit

/-- are they the same? -/
def sameB (l m : List UInt8) : Bool := decide (l = m)
theorem sameB_self (l : List UInt8) : sameB l l = true := decide_eq_true rfl
theorem sameB_of {l m : List UInt8} (h : l = m) : sameB l m = true := decide_eq_true h
theorem sameB_ne {l m : List UInt8} (h : l ≠ m) : sameB l m = false := decide_eq_false h

set_option maxHeartbeats 1000000 in
theorem same_q (a a' : Option Addr) (len cap len' cap' : Nat) (l m : List UInt8) (w : World) (hl : Bs w a len cap l) (hm : Bs w a' len' cap' m) :
    Calls Tryz.prog 22 #[.slice a len cap, .slice a' len' cap'] w fun e w' => e = .returned (.bool (sameB l m)) ∧ ∃ n, w' = w.drewN n := by
  have b1 : len ≤ 9223372036854775807 := by have h1 := hl.2.1; have h2 := hl.2.2.1; unfold maxLen at h2; omega
  have b2 : len' ≤ 9223372036854775807 := by have h1 := hm.2.1; have h2 := hm.2.2.1; unfold maxLen at h2; omega
  have L1 : Hid (l.length = len) := hl.1
  have L2 : Hid (m.length = len') := hm.1
  by_cases hne : len = len'
  · subst hne
    go_enter Tryz.func22, Tryz.ntmps22
    go_wp2
    go_loopw [5] (fun i wr => ∃ k : Nat, k ≤ len ∧ i = .int .i64 k ∧ l.take k = m.take k ∧ ∃ n, wr = w.drewN n) (fun i _ => len - (intOf i).toNat)
    case atStart => exact ⟨0, Nat.zero_le _, rfl, rfl, 0, rfl⟩
    case round =>
      obtain ⟨k, hk, rfl, he, n, hw⟩ := hrel
      have HE := Lib.hid he
      have hb : Gr w wr := by rw [hw]; exact (Gr.refl _).drewN _
      have HW := Lib.hid hw
      clear he hw
      by_cases hlt : k < len
      · obtain ⟨b, off, rfl, _, _⟩ := hl.at_ (by omega)
        obtain ⟨b', off', rfl, _, _⟩ := hm.at_ (by omega)
        obtain ⟨x, hx, hcx⟩ := (hl.below hb).get hlt
        obtain ⟨y, hy, hcy⟩ := (hm.below hb).get hlt
        have HX := Lib.hid hx
        have HY := Lib.hid hy
        clear hx hy
        by_cases hxy : x = y
        · subst hxy
          have ht : ((x.toNat : Int) != (x.toNat : Int)) = false := by simp
          go_wp2
          go_quiet (fail)
          go_wp2
          go_roundw
          case rel => exact ⟨k + 1, by omega, by go_num, by rw [List.take_add_one, List.take_add_one, HE.out, HX.out, HY.out], n + nq, by rw [HW.out]; exact World.drewN_drewN _ _ _⟩
          case measure => simp [intOf]; omega
        · have hxn : x.toNat ≠ y.toNat := fun h => hxy (UInt8.toNat_inj.1 h)
          have ht : ((x.toNat : Int) != (y.toNat : Int)) = true := by rw [bne_iff_ne]; omega
          go_wp2
          go_quiet (fail)
          go_wp2
          go_ret
          refine ⟨?_, n + nq, by rw [HW.out]; exact World.drewN_drewN _ _ _⟩
          have : sameB l m = false := sameB_ne fun h => hxy (by have := HX.out; rw [h, HY.out] at this; exact (Option.some.inj this).symm)
          rw [this]; rfl
      · go_wp2
        go_ret
        refine ⟨?_, n, HW.out⟩
        obtain rfl : k = len := by omega
        have h := HE.out
        rw [List.take_of_length_le (by rw [L1.out]; exact Nat.le_refl _), List.take_of_length_le (by rw [L2.out]; exact Nat.le_refl _)] at h
        rw [sameB_of h]; rfl
  · have ht : ((len : Int) != (len' : Int)) = true := by rw [bne_iff_ne]; omega
    have hs : sameB l m = false := sameB_ne fun h => hne (by rw [← L1.out, ← L2.out, h])
    go_enter Tryz.func22, Tryz.ntmps22
    go_wp2
    go_ret
    exact ⟨by rw [hs]; rfl, 0, rfl⟩
theorem same_any (a a' : Option Addr) (len cap len' cap' : Nat) (l m : List UInt8) (w : World) (hl : Bs w a len cap l) (hm : Bs w a' len' cap' m) :
    Calls Tryz.prog 22 #[.slice a len cap, .slice a' len' cap'] w fun e w' => e = .returned (.bool (sameB l m)) ∧ Gr w w' :=
  (same_q a a' len cap len' cap' l m w hl hm).mono fun _ _ ⟨he, _, hw⟩ => ⟨he, by rw [hw]; exact (Gr.refl _).drewN _⟩
end Go.Proofs.YtdmijoochgmhiaaGreatDoor
