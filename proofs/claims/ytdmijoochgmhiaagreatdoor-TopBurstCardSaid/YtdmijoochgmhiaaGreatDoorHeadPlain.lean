/-
  Heads as bytes: what is written is read, and the other way round.
-/
import Derived.Test.YtdmijoochgmhiaaGreatDoorHeadRead
namespace Go.Proofs.YtdmijoochgmhiaaGreatDoor
open Go.RowKit

theorem headErr_headL (m o n : Nat) (hm : m ≤ 1) (l : List UInt8) : headErr (headL m o n ++ l) = 0 := by
  have e0 : (headL m o n ++ l).getD 0 0 = 1 := by simp [headL]
  have e1 : (headL m o n ++ l).getD 1 0 = UInt8.ofNat m := by simp [headL]
  have e2 : (UInt8.ofNat m).toNat = m := by rw [UInt8.toNat_ofNat']; omega
  have e3 : ¬ (headL m o n ++ l).length < 10 := by simp [headL, put4]
  unfold headErr
  rw [if_neg e3, e0, e1, e2, if_neg (by decide), if_neg (by omega)]
theorem headM_headL (m o n : Nat) (hm : m ≤ 1) (l : List UInt8) : headM (headL m o n ++ l) = m := by
  have e1 : (headL m o n ++ l).getD 1 0 = UInt8.ofNat m := by simp [headL]
  unfold headM; rw [e1, UInt8.toNat_ofNat']; omega
theorem headO_headL (m o n : Nat) (ho : o < 4294967296) (l : List UInt8) : headO (headL m o n ++ l) = o := by
  have e : ((headL m o n ++ l).take 6).drop 2 = put4 o := by simp [headL, put4]
  unfold headO; rw [e, get4_put4 o ho]
theorem headN_headL (m o n : Nat) (hn : n < 4294967296) (l : List UInt8) : headN (headL m o n ++ l) = n := by
  have e : ((headL m o n ++ l).take 10).drop 6 = put4 n := by simp [headL, put4]
  unfold headN; rw [e, get4_put4 n hn]
theorem drop_headL (m o n : Nat) (l : List UInt8) : (headL m o n ++ l).drop 10 = l := by simp [headL, put4]
theorem headL_length (m o n : Nat) : (headL m o n).length = 10 := by simp [headL, put4]
/-- what is read is written as it was. -/
theorem headL_read (l : List UInt8) (h : headErr l = 0) : headL (headM l) (headO l) (headN l) ++ l.drop 10 = l := by
  obtain ⟨h1, h2, h3⟩ := headErr_zero h
  match l, h1, h2, h3 with
  | x0 :: x1 :: x2 :: x3 :: x4 :: x5 :: x6 :: x7 :: x8 :: x9 :: r, _, h2, h3 =>
    have e0 : x0 = 1 := UInt8.toNat_inj.1 (by simpa using h2)
    have e1 : UInt8.ofNat x1.toNat = x1 := by simp
    have e2 := put4_get4 [x2, x3, x4, x5] rfl
    have e3 := put4_get4 [x6, x7, x8, x9] rfl
    simp only [headL, headM, headO, headN, List.getD_cons_succ, List.getD_cons_zero, List.take_succ_cons, List.take_zero, List.drop_succ_cons, List.drop_zero, e1, e2, e3, e0]
    rfl
end Go.Proofs.YtdmijoochgmhiaaGreatDoor
