/-
  The walk of row.Same.
-/
import Derived.Test.YtdmijoochgmhiacDoorRow
import Derived.Test.YtdmijoochgmhiacDoorEqual
namespace Go.Proofs.YtdmijoochgmhiacDoor
open Go.RowKit

/-- are two sources the same? -/
def rowSame (m m' : Nat) (l l' : List UInt8) (s s' : Nat) : Bool := if m ≠ m' then false else if m = 1 then decide (s = s') else sameB l l'

set_option maxRecDepth 100000 in
set_option maxHeartbeats 1000000 in
theorem rowSame_any (m m' : Nat) (a a' : Option Addr) (len cap len' cap' : Nat) (l l' : List UInt8) (s s' : Nat) (w : World) (hl : Bs w a len cap l) (hl' : Bs w a' len' cap' l') :
    Calls Tryd.prog 37 #[.agg #[.int .u8 (m : Int), .slice a len cap, .int .u64 (s : Int)], .agg #[.int .u8 (m' : Int), .slice a' len' cap', .int .u64 (s' : Int)]] w fun e w' => e = .returned (.bool (rowSame m m' l l' s s')) ∧ Gr w w' := by
  by_cases hm : m = m'
  · subst hm
    have ht : ((m : Int) != (m : Int)) = false := by simp
    by_cases h1 : m = 1
    · subst h1
      have hr : Hid (rowSame 1 1 l l' s s' = decide (s = s')) := by show _ = _; simp [rowSame]
      have hd : Hid (((s : Int) == (s' : Int)) = decide (s = s')) := by show _ = _; rw [Bool.eq_iff_iff]; simp; omega
      go_enter Tryd.func37, Tryd.ntmps37
      go_wp2
      go_ret
      exact ⟨by rw [hr.out, ← hd.out]; rfl, ((Gr.refl w).alloc _).alloc _⟩
    · have hr : Hid (rowSame m m l l' s s' = sameB l l') := by show _ = _; simp [rowSame, h1]
      have h1' : ((m : Int) == 1) = false := by rw [beq_eq_false_iff_ne]; omega
      clear h1
      go_enter Tryd.func37, Tryd.ntmps37
      go_wp2_with fail
      refine (sliceEqual_any a a' len cap len' cap' l l' _ (hl.below (((Gr.refl w).alloc _).alloc _)) (hl'.below (((Gr.refl w).alloc _).alloc _))).mono ?_
      rintro e w1 ⟨rfl, hg⟩
      go_wp2
      go_ret
      exact ⟨by rw [hr.out]; rfl, (((Gr.refl w).alloc _).alloc _).trans hg⟩
  · have hr : Hid (rowSame m m' l l' s s' = false) := by show _ = _; rw [rowSame, if_pos hm]
    have ht : ((m : Int) != (m' : Int)) = true := by rw [bne_iff_ne]; omega
    clear hm
    go_enter Tryd.func37, Tryd.ntmps37
    go_wp2
    go_ret
    exact ⟨by rw [hr.out]; rfl, ((Gr.refl w).alloc _).alloc _⟩
end Go.Proofs.YtdmijoochgmhiacDoor
