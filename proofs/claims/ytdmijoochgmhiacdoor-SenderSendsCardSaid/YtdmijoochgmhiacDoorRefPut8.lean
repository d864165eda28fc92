/-
  The walk of the document's Put of a state.
-/
import Derived.Test.YtdmijoochgmhiacDoorSeed
namespace Go.Proofs.YtdmijoochgmhiacDoor
open Go.RowKit

set_option maxRecDepth 100000 in
set_option maxHeartbeats 1000000 in
theorem refPut8_any (s : Nat) (hs : s < 18446744073709551616) (w : World) :
    Calls Tryd.prog 90 #[.int .u64 (s : Int)] w fun e w' => ∃ a cap, e = .returned (.slice a 8 cap) ∧ Bs w' a 8 cap (put8 s) ∧ Gr w w' := by
  have Hs := Lib.hid hs
  clear hs
  go_enter Tryd.func90, Tryd.ntmps90
  go_wp2
  go_loopw [0, 3, 4] (fun x v i wr => ∃ j : Nat, j ≤ 8 ∧ i = .int .i64 j ∧ x = .int .u64 (s / 2 ^ (8 * j) : Nat) ∧ OwnV wr w.heap.size v (tail8 s j) ∧ Gr w wr) (fun _ _ i _ => 8 - (intOf i).toNat)
  case atStart => exact ⟨0, by omega, rfl, by simp, OwnV.nil _ _, Gr.refl _⟩
  case round =>
    obtain ⟨j, hj, rfl, rfl, hown, hg⟩ := hrel
    obtain ⟨z, hz⟩ : ∃ z, s / 2 ^ (8 * j) = z := ⟨_, rfl⟩
    rw [hz]
    have HZ := Lib.hid hz
    have hzl : Hid (z < 18446744073709551616) := by show z < _; rw [← hz]; exact Nat.lt_of_le_of_lt (Nat.div_le_self _ _) Hs.out
    clear hz
    have hzn : Hid (IntKind.u64.wrap ((z : Int) / 256) = ((z / 256 : Nat) : Int)) := by show _ = _; rw [IntKind.wrap_u64]; have := hzl.out; omega
    have hzz : Hid (s / 2 ^ (8 * (j + 1)) = z / 256) := by show _ = _; rw [show 8 * (j + 1) = 8 * j + 8 by omega, Nat.pow_add, ← Nat.div_div_eq_div_mul, HZ.out]
    obtain ⟨av, capv, hv, hbv, _⟩ := hown.bs
    rw [tail8_length] at hv hbv
    rw [hv] at hown ⊢
    clear hv
    by_cases hlt : j < 8
    · have ho1 : OwnV (wr.alloc (.cells #[.int .u8 ((z : Int) % 256)] 5)) w.heap.size (.slice (some ⟨wr.heap.size, 0, none⟩) 1 1) [UInt8.ofNat z] :=
        OwnV.made hg.size rfl (by simp [u8s, UInt8.toNat_ofNat']) (by simp [maxLen])
      have hsrc := hbv.below ((Gr.refl _).alloc (.cells #[.int .u8 ((z : Int) % 256)] 5))
      have hq : ([UInt8.ofNat z] : List UInt8).length + j ≤ 140737488355328 := by show 1 + j ≤ _; omega
      have hbase : w.heap.size ≤ (wr.alloc (.cells #[.int .u8 ((z : Int) % 256)] 5)).heap.size := (hg.alloc _).size
      go_wp2_with (at_builtin; refine wpList_append_bytes rfl (.tmp 12) (.tmp 13) rfl w.heap.size _ [UInt8.ofNat z] rfl ho1 av j capv (tail8 s j) rfl hsrc hq hbase ?_; intro v2 w2 ho2 hg2 hn2)
      have ht2 : [UInt8.ofNat z] ++ tail8 s j = tail8 s (j + 1) := by rw [tail8_succ, HZ.out]; rfl
      rw [ht2] at ho2
      have hg3 : Gr w w2 := Gr.grown (hg.alloc _) hg2 (fun q hq => (ho1.lt q hq).1)
      clear hg2 hn2 hsrc ho1 ht2
      go_wp2
      go_roundw
      case rel => exact ⟨j + 1, by omega, by go_num, by rw [hzz.out, hzn.out], ho2, hg3⟩
      case measure => simp [intOf]; omega
    · obtain rfl : j = 8 := by omega
      go_wp2
      go_ret
      exact ⟨av, capv, rfl, by rw [← tail8_all]; exact hbv, hg⟩
end Go.Proofs.YtdmijoochgmhiacDoor
