/-
  The walk of bytes.Clone.
-/
import Derived.Test.YtdmijoochgmhiaaGreatDoorSlices
namespace Go.Proofs.YtdmijoochgmhiaaGreatDoor
open Go.RowKit
set_option linter.unusedVariables false

set_option maxHeartbeats 1000000 in
theorem byteClone_own (a : Option Addr) (len cap : Nat) (l : List UInt8) (w : World) (hs : Bs w a len cap l) (hm : len ≤ 140737488355328) :
    Calls Tryz.prog 53 #[.slice a len cap] w fun e w' => ∃ v, e = .returned v ∧ OwnV w' w.heap.size v l ∧ Gr w w' := by
  have hnl := fun (w : World) => Lib.run_eql_slice_nil (P := Tryz.prog) w 22 5 a len cap 0 0 Tryz.underlying22
  cases a with
  | none =>
    obtain rfl : cap = 0 := hs.2.2.2.1 rfl
    obtain rfl : len = 0 := by have := hs.2.1; omega
    obtain rfl : l = [] := List.eq_nil_of_length_eq_zero hs.1
    go_enter Tryz.func53, Tryz.ntmps53
    go_wp2
    go_ret
    exact ⟨_, rfl, OwnV.nil _ _, Gr.refl _⟩
  | some ad =>
    have hown : OwnV (w.alloc (.cells #[] 5)) w.heap.size (.slice (some ⟨w.heap.size, 0, none⟩) 0 0) [] := OwnV.made (Nat.le_refl _) rfl rfl (Nat.zero_le _)
    have hsrc : Bs (w.alloc (.cells #[] 5)) (some ad) len cap l := hs.below ((Gr.refl _).alloc _)
    have hq : ([] : List UInt8).length + len ≤ 140737488355328 := by simpa using hm
    have hbase : w.heap.size ≤ (w.alloc (.cells #[] 5)).heap.size := ((Gr.refl w).alloc _).size
    go_enter Tryz.func53, Tryz.ntmps53
    go_wp2_with (at_builtin; refine wpList_append_bytes rfl (.tmp 5) (.tmp 6) rfl w.heap.size _ [] rfl hown (some ad) len cap l rfl hsrc hq hbase ?_; intro v2 w2 ho2 hg2 hn2)
    go_wp2
    go_ret
    exact ⟨_, rfl, ho2, ((Gr.refl w).alloc _).grown hg2 (fun k hk => by cases hk; exact Nat.le_refl _)⟩
end Go.Proofs.YtdmijoochgmhiaaGreatDoor
