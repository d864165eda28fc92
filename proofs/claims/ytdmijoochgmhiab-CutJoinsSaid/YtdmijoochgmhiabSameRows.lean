/-
  The walk of the document's Same of rows, at rows that are the same.
-/
import Derived.Test.YtdmijoochgmhiabSame
namespace Go.Proofs.Ytdmijoochgmhiab
open Go.RowKit

set_option maxRecDepth 100000 in
set_option maxHeartbeats 1000000 in
theorem sameRows_eq (a a' : Option Addr) (len cap cap' : Nat) (ls : List (List UInt8)) (w : World) (hl : Bss w a len cap ls) (hm : Bss w a' len cap' ls) :
    Calls Try.prog 25 #[.slice a len cap, .slice a' len cap'] w fun e w' => e = .returned (.bool true) ∧ Gr w w' := by
  have b1 : len ≤ 9223372036854775807 := by have h1 := hl.2.1; have h2 := hl.2.2.1; unfold maxLen at h2; omega
  go_enter Try.func25, Try.ntmps25
  go_wp2
  go_loopw [13] (fun i wr => ∃ k : Nat, k ≤ len ∧ i = .int .i64 k ∧ ∃ n, wr = w.drewN n) (fun i _ => len - (intOf i).toNat)
  case atStart => exact ⟨0, Nat.zero_le _, rfl, 0, rfl⟩
  case round =>
    obtain ⟨k, hk, rfl, n, hw⟩ := hrel
    have hb : Gr w wr := by rw [hw]; exact (Gr.refl _).drewN _
    have HW := Lib.hid hw
    clear hw
    by_cases hlt : k < len
    · obtain ⟨b, off, rfl, _⟩ := (hl.below hb).at_ (by omega)
      obtain ⟨b', off', rfl, _⟩ := (hm.below hb).at_ (by omega)
      obtain ⟨l, a1, n1, c1, hl1, hc1, hb1⟩ := (hl.below hb).get hlt
      obtain ⟨l', a2, n2, c2, hl2, hc2, hb2⟩ := (hm.below hb).get hlt
      obtain rfl : l' = l := Option.some.inj (hl2.symm.trans hl1)
      have hst := sameB_self l'
      clear hl1 hl2
      go_wp2
      go_quiet ((go_at_call 26; refine Calls.quiet_of (same_q a1 a2 n1 c1 n2 c2 l' l' _ (hb1.below ((Gr.refl _).drewN _)) (hb2.below ((Gr.refl _).drewN _)))))
      go_wp2
      go_roundw
      case rel => exact ⟨k + 1, by omega, by go_num, n + nq, by rw [HW.out]; exact World.drewN_drewN _ _ _⟩
      case measure => simp [intOf]; omega
    · go_wp2
      go_ret
      exact ⟨rfl, hb⟩
end Go.Proofs.Ytdmijoochgmhiab
