/-
  The walk of gate.Gate.Seen.
-/
import Derived.Test.YtdmijoochgmhiacDoorGate
import Derived.Test.YtdmijoochgmhiacDoorCounts
import Derived.Maps.RangeWalk
namespace Go.Proofs.YtdmijoochgmhiacDoor
open Go.RowKit Go.Maps
set_option linter.unusedVariables false

set_option maxRecDepth 100000 in
set_option maxHeartbeats 2000000 in
theorem gateSeen_own (n s q : Int) (id : Nat) (b k : Nat) (D : DataW Unit) (w : World) (h : CntMap w b k D) (hnn : NonNeg D) (ht : tot D ≤ 1000000) :
    Calls Tryd.prog 16 #[.agg #[.int .i64 n, .int .i64 s, .int .i64 q, .int .u32 (id : Int), .map (some b)]] w fun e w' => e = .returned (.int .i64 (tot D)) ∧ Gr w w' := by
  have hown := CntMap.gr h ((Gr.refl w).alloc (.cells #[.int .i64 n, .int .i64 s, .int .i64 q, .int .u32 (id : Int), .map (some b)] 31))
  have hcan := h.canon cntLaw
  have hbl := h.lt
  have e1 : (w.alloc (.cells #[.int .i64 n, .int .i64 s, .int .i64 q, .int .u32 (id : Int), .map (some b)] 31)).heap.size = w.heap.size + 1 := by simp
  have HCAN := Lib.hid hcan
  have HNN := Lib.hid hnn
  clear hcan hnn h
  go_enter Tryd.func16, Tryd.ntmps16
  go_wp2_with (at_range; refine wpList_range_own _ rfl _ 29 rfl 32 3 cntLaw Tryd.underlying29 _ b k _ rfl hown ?_; intro w0 hrg0 hg0 hs0)
  go_frame
  rw [e1] at hrg0 hs0 ⊢
  have hgr0 : Gr w w0 := Gr.grown ((Gr.refl w).alloc _) hg0 (fun j hj => by cases hj)
  have hz0 : w0.heap.size = w.heap.size + 2 := by omega
  clear hown e1 hg0 hs0
  go_loopw [3] (fun acc wr => ∃ (left : Lit → Bool) (cnt : Nat), wr.ranges Tryd.prog 32 (plainElem Tryd.prog 3) b (w.heap.size + 1) k D left cnt ∧ acc = .int .i64 (totD left D) ∧ Gr w wr)
    (fun _ wr => wr.rangeLeft b (w.heap.size + 1))
  case atStart => exact ⟨_, _, hrg0, by rw [totD_start HCAN.out], hgr0⟩
  case round =>
    obtain ⟨left, cnt, hrg, rfl, hnx⟩ := hrel
    obtain ⟨S, eS⟩ : ∃ S, totD left D = S := ⟨_, rfl⟩
    have hS := totD_le HNN.out left
    rw [eS] at hS ⊢
    obtain ⟨hS0, hS1⟩ := hS
    have HS := Lib.hid eS
    clear eS
    go_wp2_with (at_next; refine wpList_next_ranges_ii _ rfl _ rfl 32 3 .i64 .i64 cntLaw Tryd.underlying32 Tryd.underlying3 b (w.heap.size + 1) k _ _ _ rfl hrg ?_ ?_)
    · intro hc0 hl0
      have hfin : Hid (S = tot D) := by show _ = _; rw [← HS.out, totD_end HCAN.out hl0]
      go_wp2
      go_ret
      exact ⟨by rw [hfin.out]; rfl, hnx⟩
    · intro x c w1 cnt1 hwx hwc hlx hat hrg1 hlt hg1 hs1 hen
      have hnew := totD_step HCAN.out hlx hat
      have hle := totD_le HNN.out (fun z => left z && !z.sameKey (.int .i64 x))
      rw [hnew, HS.out] at hle
      rw [HS.out] at hnew
      have hv : valOf (DataW.lit (.int .i64 c) : DataW Unit) = c := rfl
      rw [hv] at hnew hle
      obtain ⟨hle1, hle2⟩ := hle
      have HNEW := Lib.hid hnew
      have hcb : S + c ≤ 1000000 := by omega
      have hgr1 : Gr w w1 := Gr.grown hnx hg1 (fun j hj => by cases hj; exact Nat.le_succ _)
      have HLT := Lib.hid hlt
      have HG1 := Lib.hid hgr1
      clear hnew hat hlt hg1 hgr1 hv
      go_wp2
      go_roundw
      case rel => exact ⟨_, cnt1, hrg1, by rw [HNEW.out], HG1.out⟩
      case measure => rw [hrg1.left_eq, hrg.left_eq]; exact HLT.out
end Go.Proofs.YtdmijoochgmhiacDoor
