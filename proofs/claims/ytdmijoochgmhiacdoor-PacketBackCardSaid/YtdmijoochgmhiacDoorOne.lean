/-
  Of the law PacketWrites: a packet as it is handed in.
-/
import Derived.Test.YtdmijoochgmhiacDoorPacketLaw
namespace Go.Proofs.YtdmijoochgmhiacDoor
open Go.RowKit
set_option linter.unusedVariables false

set_option maxRecDepth 100000 in
set_option maxHeartbeats 1000000 in
theorem oneMake_any (m o n md sd : Int) (a a' : Option Addr) (k c k' c' : Nat) (w : World) :
    Calls Tryd.prog 20 #[.agg #[.int .u8 m, .int .u32 o, .int .u32 n, .int .u8 md, .slice a k c, .int .u64 sd, .slice a' k' c']] w fun e w' => e = .returned (.agg #[.int .u8 m, .int .u32 o, .int .u32 n, .int .u8 md, .slice a k c, .int .u64 sd, .slice a' k' c']) ∧ Gr w w' := by
  have hG := ((Gr.refl w).alloc (.cells #[.int .u8 m, .int .u32 o, .int .u32 n, .int .u8 md, .slice a k c, .int .u64 sd, .slice a' k' c'] 52)).alloc (.cells #[.int .u8 m, .int .u32 o, .int .u32 n, .int .u8 md, .slice a k c, .int .u64 sd, .slice a' k' c'] 42)
  go_enter Tryd.func20, Tryd.ntmps20
  go_wp2
  refine bodyPost_ret (v := .agg #[.int .u8 m, .int .u32 o, .int .u32 n, .int .u8 md, .slice a k c, .int .u64 sd, .slice a' k' c']) ?_ rfl ⟨rfl, hG⟩
  simp [results, Tryd.results20, go_sem]

def fewOne (k k' : Nat) : Bool := decide (k ≤ 300 ∧ k' ≤ 300)
set_option maxHeartbeats 1000000 in
theorem oneFew_any (m o n md sd : Int) (a a' : Option Addr) (k c k' c' : Nat) (hk : k ≤ 9223372036854775807) (hk' : k' ≤ 9223372036854775807) (w : World) :
    Calls Tryd.prog 18 #[.agg #[.int .u8 m, .int .u32 o, .int .u32 n, .int .u8 md, .slice a k c, .int .u64 sd, .slice a' k' c']] w fun e w' => e = .returned (.bool (fewOne k k')) ∧ Gr w w' := by
  by_cases h1 : k ≤ 300
  · by_cases h2 : k' ≤ 300
    · have HR : Hid (fewOne k k' = true) := by show _ = _; simp [fewOne, h1, h2]
      have t1 : (k : Int) ≤ 300 := by omega
      have t2 : (k' : Int) ≤ 300 := by omega
      clear h1 h2
      go_enter Tryd.func18, Tryd.ntmps18
      go_wp2
      go_ret
      exact ⟨by rw [HR.out]; rfl, (Gr.refl w).alloc _⟩
    · have HR : Hid (fewOne k k' = false) := by show _ = _; simp [fewOne, h2]
      have t1 : (k : Int) ≤ 300 := by omega
      have t2 : ¬ (k' : Int) ≤ 300 := by omega
      clear h1 h2
      go_enter Tryd.func18, Tryd.ntmps18
      go_wp2
      go_ret
      exact ⟨by rw [HR.out]; rfl, (Gr.refl w).alloc _⟩
  · have HR : Hid (fewOne k k' = false) := by show _ = _; simp [fewOne, h1]
    have t1 : ¬ (k : Int) ≤ 300 := by omega
    clear h1
    go_enter Tryd.func18, Tryd.ntmps18
    go_wp2
    go_ret
    exact ⟨by rw [HR.out]; rfl, (Gr.refl w).alloc _⟩
end Go.Proofs.YtdmijoochgmhiacDoor
