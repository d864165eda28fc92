/-
  The walk of the document's reading of four bytes of a head.
-/
import Derived.Test.YtdmijoochgmhiabDoorHead
namespace Go.Proofs.YtdmijoochgmhiabDoor
open Go.RowKit

set_option maxRecDepth 100000 in
set_option maxHeartbeats 1000000 in
theorem four_any (a : Option Addr) (cap : Nat) (l : List UInt8) (w : World) (hs : Bs w a 4 cap l) :
    Calls Tryd.prog 63 #[.slice a 4 cap] w fun e w' => e = .returned (.int .u32 (get4 l : Nat)) ∧ w = w' := by
  obtain ⟨b, off, rfl, hb, _⟩ := hs.at_ (by decide)
  go_enter Tryd.func63, Tryd.ntmps63
  go_wp2
  go_loop [3, 4] (fun s i => ∃ k q : Nat, k ≤ 4 ∧ i = .int .i64 (3 - (k : Int)) ∧ s = .int .u32 (q : Int) ∧ q = fourTo l k) (fun _ i => (intOf i + 1).toNat)
  case atStart => exact ⟨0, 0, by omega, rfl, rfl, rfl⟩
  case round =>
    obtain ⟨k, q, hk, rfl, rfl, hq⟩ := hrel
    have HQ := Lib.hid hq
    clear hq
    by_cases hlt : k < 4
    · obtain ⟨x, hx, hc⟩ := hs.get (i := 3 - k) (by omega)
      have hql : Hid (256 * q < 4294967296) := by
        show _ < _
        have h := fourTo_lt l k
        have h2 : 256 ^ k ≤ 256 ^ 3 := Nat.pow_le_pow_right (by decide) (by omega)
        rw [← HQ.out] at h; omega
      have HN : Hid (256 * q + x.toNat = fourTo l (k + 1)) := by show _ = _; rw [HQ.out]; simp only [fourTo, List.getD_eq_getElem?_getD, hx, Option.getD_some]
      have hxl := x.toNat_lt
      have h1 := hql.out
      have hi : (3 - (k : Int)).toNat = 3 - k := by omega
      clear hx
      go_wp2
      go_round
      case rel => exact ⟨k + 1, 256 * q + x.toNat, by omega, by congr 1; omega, by first | rfl | (congr 1; omega), HN.out⟩
      case measure => simp [intOf]; omega
    · obtain rfl : k = 4 := by omega
      have HE : Hid (q = get4 l) := by show _ = _; rw [HQ.out, fourTo_get]
      go_wp2
      go_ret
      exact ⟨by rw [← HE.out]; rfl, rfl⟩
end Go.Proofs.YtdmijoochgmhiabDoor
