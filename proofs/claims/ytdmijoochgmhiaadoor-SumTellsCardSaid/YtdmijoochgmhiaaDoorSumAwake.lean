/-
  The walk of layer 4's awake.
-/
import Derived.Test.YtdmijoochgmhiaaDoorSum
import Derived.Lib.SlBytesConst
import Derived.Deep.RegionWith
import Derived.Deep.Cut
import Derived.Lib.Hide
namespace Go.Proofs.YtdmijoochgmhiaaDoor
open Go.RowKit

theorem crc_check : crc [49, 50, 51, 52, 53, 54, 55, 56, 57] = 3421780262 := by decide +kernel
theorem crc_none : crc [] = 0 := by decide

set_option maxHeartbeats 400000 in
set_option maxRecDepth 100000 in
theorem sumAwake_any (w : World) (htab : Tab w) :
    Calls Tryd.prog 5 #[] w fun e w' => e = .returned (.bool true) ∧ Gr w w' := by
  have kc := fun (w : World) (C : Array Value) (n c : Nat) => Lib.run_convert_bytes_const (P := Tryd.prog) w 22 5 C n c Tryd.underlying22 Tryd.underlying5
  go_enter Tryd.func5, Tryd.ntmps5
  go_wp2_with fail
  have hb0 : Gr w (w.alloc (.cells #[.int .u8 49, .int .u8 50, .int .u8 51, .int .u8 52, .int .u8 53, .int .u8 54, .int .u8 55, .int .u8 56, .int .u8 57] 5 (9, 10))) := (Gr.refl _).alloc _
  have hs : Bs (w.alloc (.cells #[.int .u8 49, .int .u8 50, .int .u8 51, .int .u8 52, .int .u8 53, .int .u8 54, .int .u8 55, .int .u8 56, .int .u8 57] 5 (9, 10))) (some ⟨w.heap.size, 0, none⟩) 9 9 [49, 50, 51, 52, 53, 54, 55, 56, 57] :=
    Bs.of_heap (heap_alloc_new _ _) rfl rfl (by decide)
  have hs1 := Bss.of_alloc1 (b := w.heap.size + 1) (t := 22) hs (by simp)
  have hb1 := hb0.alloc (.cells #[.slice (some ⟨w.heap.size, 0, none⟩) 9 9] 22)
  refine (of_any _ 1 1 _ _ (htab.below hb1) hs1).mono ?_
  rintro e w1 ⟨rfl, hb2⟩
  have h1 := crc_check
  have h0 := crc_none
  go_wp2_with fail
  refine (of_any none 0 0 [] w1 (htab.below (hb1.trans hb2)) (Bss.nil _)).mono ?_
  rintro e w2 ⟨rfl, hb3⟩
  go_wp2
  go_ret
  exact ⟨rfl, (hb1.trans hb2).trans hb3⟩
end Go.Proofs.YtdmijoochgmhiaaDoor
