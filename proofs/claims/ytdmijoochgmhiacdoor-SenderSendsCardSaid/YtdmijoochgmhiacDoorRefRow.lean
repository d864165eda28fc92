/-
  The walks of the document's vector of a source, and of what it is written as.
-/
import Derived.Test.YtdmijoochgmhiacDoorRow
import Derived.Test.YtdmijoochgmhiacDoorRefMix
import Derived.Test.YtdmijoochgmhiacDoorRefPut8
namespace Go.Proofs.YtdmijoochgmhiacDoor
open Go.RowKit
set_option linter.unusedVariables false

set_option maxHeartbeats 1000000 in
theorem refVector_ok (mode : Nat) (a : Option Addr) (len cap : Nat) (l : List UInt8) (seed : Nat) (hseed : seed < 18446744073709551616) (k : Nat) (w : World) (hs : Bs w a len cap l) (hm : len ≤ 140737488355328) (hE : rowErr mode len k = 0) :
    Calls Tryd.prog 55 #[.int .u8 (mode : Int), .slice a len cap, .int .u64 (seed : Int), .int .i64 (k : Int)] w fun e w' => ∃ a' c', e = .returned (.tuple #[.slice a' k c', .int .i64 0]) ∧ Bs w' a' k c' (rowVec mode l seed k) ∧ Gr w w' := by
  have hz := rowErr_zero hE
  have hw := widthE_zero hz.1
  have CW := refWidth_any mode k
  rw [hz.1] at CW
  have HW := Lib.hid CW
  have HSe := Lib.hid hseed
  have hk2 := hw.2.2
  clear CW hE hseed
  by_cases h1 : mode = 1
  · have ht : ((mode : Int) == 1) = true := by rw [beq_iff_eq]; omega
    have hv : Hid (rowVec mode l seed k = mixList seed k) := by show _ = _; rw [rowVec, if_neg (by omega)]
    clear h1 hz
    go_enter Tryd.func55, Tryd.ntmps55
    go_wp2_with fail
    refine (HW.out _).mono ?_
    rintro e w1 ⟨rfl, rfl⟩
    go_wp2_with fail
    refine (refBytes_any seed k (by omega) w).mono ?_
    rintro e w2 ⟨a2, cap2, rfl, hb2, hg2⟩
    go_wp2
    go_ret2
    exact ⟨a2, cap2, rfl, by rw [hv.out]; exact hb2, hg2⟩
  · have ht : ((mode : Int) == 1) = false := by rw [beq_eq_false_iff_ne]; omega
    have hk : len = k := by have := hz.2 (by omega); omega
    have hv : Hid (rowVec mode l seed k = l) := by show _ = _; rw [rowVec, if_pos (by omega)]
    subst hk
    clear h1 hz
    go_enter Tryd.func55, Tryd.ntmps55
    go_wp2_with fail
    refine (HW.out _).mono ?_
    rintro e w1 ⟨rfl, rfl⟩
    go_wp2
    go_ret2
    exact ⟨a, cap, rfl, by rw [hv.out]; exact hs, Gr.refl _⟩

set_option maxHeartbeats 1000000 in
theorem refVector_bad (mode : Nat) (a : Option Addr) (len cap : Nat) (seed : Int) (k : Int) (hm : len ≤ 9223372036854775807) (w : World) (hE : rowErr mode len k ≠ 0) :
    Calls Tryd.prog 55 #[.int .u8 (mode : Int), .slice a len cap, .int .u64 seed, .int .i64 k] w fun e w' => e = .returned (.tuple #[.slice none 0 0, .int .i64 (rowErr mode len k : Nat)]) ∧ Gr w w' := by
  have CW := refWidth_any mode k
  by_cases hw : widthE mode k = 0
  · have hr : rowErr mode len k = if mode = 0 ∧ (len : Int) ≠ k then 4 else 0 := by rw [rowErr, if_neg (by simpa using hw)]
    have h4 : mode = 0 ∧ (len : Int) ≠ k := by
      refine Classical.byContradiction fun h => hE ?_
      rw [hr, if_neg h]
    have HR : Hid (rowErr mode len k = 4) := by show _ = _; rw [hr, if_pos h4]
    rw [hw] at CW
    have HW := Lib.hid CW
    have ht : ((mode : Int) == 1) = false := by rw [beq_eq_false_iff_ne]; omega
    have ht2 : ((len : Int) != k) = true := by rw [bne_iff_ne]; exact h4.2
    clear CW hr h4 hE hw
    go_enter Tryd.func55, Tryd.ntmps55
    go_wp2_with fail
    refine (HW.out _).mono ?_
    rintro e w1 ⟨rfl, rfl⟩
    go_wp2
    go_ret2
    exact ⟨by rw [HR.out]; rfl, Gr.refl _⟩
  · have HR : Hid (rowErr mode len k = widthE mode k) := by show _ = _; rw [rowErr, if_pos hw]
    obtain ⟨E, eE⟩ : ∃ E, widthE mode k = E := ⟨_, rfl⟩
    rw [eE] at CW HR hw
    have HW := Lib.hid CW
    have ht : ((E : Int) != 0) = true := by rw [bne_iff_ne]; omega
    clear CW eE hw hE
    go_enter Tryd.func55, Tryd.ntmps55
    go_wp2_with fail
    refine (HW.out _).mono ?_
    rintro e w1 ⟨rfl, rfl⟩
    go_wp2
    go_ret2
    exact ⟨by rw [HR.out]; rfl, Gr.refl _⟩

set_option maxHeartbeats 1000000 in
theorem refRowWrite_ok (mode : Nat) (a : Option Addr) (len cap : Nat) (l : List UInt8) (seed : Nat) (hseed : seed < 18446744073709551616) (k : Nat) (w : World) (hs : Bs w a len cap l) (hm : len ≤ 140737488355328) (hE : rowErr mode len k = 0) :
    Calls Tryd.prog 59 #[.int .u8 (mode : Int), .slice a len cap, .int .u64 (seed : Int), .int .i64 (k : Int)] w fun e w' => ∃ a' k' c', e = .returned (.tuple #[.slice a' k' c', .int .i64 0]) ∧ Bs w' a' k' c' (rowText mode l seed) ∧ Gr w w' := by
  have HV := Lib.hid (refVector_ok mode a len cap l seed hseed k w hs hm hE)
  have hz := rowErr_zero hE
  have hw := widthE_zero hz.1
  by_cases h1 : mode = 1
  · have ht : ((mode : Int) == 1) = true := by rw [beq_iff_eq]; omega
    have hv : Hid (rowText mode l seed = put8 seed) := by show _ = _; rw [rowText, if_neg (by omega)]
    have HSe := Lib.hid hseed
    clear h1 hz hE hseed hw
    go_enter Tryd.func59, Tryd.ntmps59
    go_wp2_with fail
    refine (HV.out).mono ?_
    rintro e w1 ⟨a1, c1, rfl, hb1, hg1⟩
    go_wp2_with fail
    refine (refPut8_any seed HSe.out w1).mono ?_
    rintro e w2 ⟨a2, cap2, rfl, hb2, hg2⟩
    go_wp2
    go_ret2
    exact ⟨a2, 8, cap2, rfl, by rw [hv.out]; exact hb2, hg1.trans hg2⟩
  · have ht : ((mode : Int) == 1) = false := by rw [beq_eq_false_iff_ne]; omega
    have hv : Hid (rowText mode l seed = rowVec mode l seed k) := by show _ = _; rw [rowText, rowVec, if_pos (by omega), if_pos (by omega)]
    clear h1 hz hE hseed hw
    go_enter Tryd.func59, Tryd.ntmps59
    go_wp2_with fail
    refine (HV.out).mono ?_
    rintro e w1 ⟨a1, c1, rfl, hb1, hg1⟩
    go_wp2
    go_ret2
    exact ⟨a1, k, c1, rfl, by rw [hv.out]; exact hb1, hg1⟩
end Go.Proofs.YtdmijoochgmhiacDoor
