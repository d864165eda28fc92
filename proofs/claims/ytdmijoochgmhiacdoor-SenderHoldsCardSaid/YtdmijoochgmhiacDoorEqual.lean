/-
  The walk of slices.Equal, of bytes.
-/
import Derived.Test.YtdmijoochgmhiacDoorSame
namespace Go.Proofs.YtdmijoochgmhiacDoor
open Go.RowKit

set_option maxHeartbeats 1000000 in
theorem sliceEqual_any (a a' : Option Addr) (len cap len' cap' : Nat) (l m : List UInt8) (w : World) (hl : Bs w a len cap l) (hm : Bs w a' len' cap' m) :
    Calls Tryd.prog 69 #[.slice a len cap, .slice a' len' cap'] w fun e w' => e = .returned (.bool (sameB l m)) ∧ Gr w w' := by
  have b1 : len ≤ 9223372036854775807 := by have h1 := hl.2.1; have h2 := hl.2.2.1; unfold maxLen at h2; omega
  have b2 : len' ≤ 9223372036854775807 := by have h1 := hm.2.1; have h2 := hm.2.2.1; unfold maxLen at h2; omega
  have L1 : Hid (l.length = len) := hl.1
  have L2 : Hid (m.length = len') := hm.1
  by_cases hne : len = len'
  · subst hne
    go_enter Tryd.func69, Tryd.ntmps69
    go_wp2
    go_loopw [13] (fun i wr => ∃ k : Nat, k ≤ len ∧ i = .int .i64 k ∧ l.take k = m.take k ∧ ∃ n, wr = w.drewN n) (fun i _ => len - (intOf i).toNat)
    case atStart => exact ⟨0, Nat.zero_le _, rfl, rfl, 0, rfl⟩
    case round =>
      obtain ⟨k, hk, rfl, he, n, hw⟩ := hrel
      have HE := Lib.hid he
      have hb : Gr w wr := by rw [hw]; exact (Gr.refl _).drewN _
      have HW := Lib.hid hw
      clear he hw
      by_cases hlt : k < len
      · obtain ⟨b, off, rfl, _, _⟩ := hl.at_ (by omega)
        obtain ⟨b', off', rfl, _, _⟩ := hm.at_ (by omega)
        obtain ⟨x, hx, hcx⟩ := (hl.below hb).get hlt
        obtain ⟨y, hy, hcy⟩ := (hm.below hb).get hlt
        have HX := Lib.hid hx
        have HY := Lib.hid hy
        clear hx hy
        by_cases hxy : x = y
        · subst hxy
          have ht : ((x.toNat : Int) != (x.toNat : Int)) = false := by simp
          go_wp2
          go_quiet (fail)
          go_wp2
          go_roundw
          case rel => exact ⟨k + 1, by omega, by go_num, by rw [List.take_add_one, List.take_add_one, HE.out, HX.out, HY.out], n + nq, by rw [HW.out]; exact World.drewN_drewN _ _ _⟩
          case measure => simp [intOf]; omega
        · have hxn : x.toNat ≠ y.toNat := fun h => hxy (UInt8.toNat_inj.1 h)
          have ht : ((x.toNat : Int) != (y.toNat : Int)) = true := by rw [bne_iff_ne]; omega
          go_wp2
          go_quiet (fail)
          go_wp2
          go_ret
          refine ⟨?_, hb.drewN _⟩
          have : sameB l m = false := sameB_ne fun h => hxy (by have := HX.out; rw [h, HY.out] at this; exact (Option.some.inj this).symm)
          rw [this]; rfl
      · go_wp2
        go_ret
        refine ⟨?_, hb⟩
        obtain rfl : k = len := by omega
        have h := HE.out
        rw [List.take_of_length_le (by rw [L1.out]; exact Nat.le_refl _), List.take_of_length_le (by rw [L2.out]; exact Nat.le_refl _)] at h
        rw [sameB_of h]; rfl
  · have ht : ((len : Int) != (len' : Int)) = true := by rw [bne_iff_ne]; omega
    have hs : sameB l m = false := sameB_ne fun h => hne (by rw [← L1.out, ← L2.out, h])
    go_enter Tryd.func69, Tryd.ntmps69
    go_wp2
    go_ret
    exact ⟨by rw [hs]; rfl, Gr.refl _⟩
end Go.Proofs.YtdmijoochgmhiacDoor
