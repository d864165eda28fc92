/-
  The walks of sum.Put and sum.Get.
-/
import Derived.Test.YtdmijoochgmhiaaGreatDoorRows
import Derived.Test.YtdmijoochgmhiaaGreatDoorBase
import Derived.Lib.Hide
import Derived.Deep.QuietTactic
import Derived.BigQuiet
namespace Go.Proofs.YtdmijoochgmhiaaGreatDoor
open Go.RowKit

/-- a number as four bytes. -/
def put4 (n : Nat) : List UInt8 := [UInt8.ofNat n, UInt8.ofNat (n / 256), UInt8.ofNat (n / 65536), UInt8.ofNat (n / 16777216)]
/-- the number that four bytes are. -/
def get4 (l : List UInt8) : Nat := (l.getD 0 0).toNat + 256 * (l.getD 1 0).toNat + 65536 * (l.getD 2 0).toNat + 16777216 * (l.getD 3 0).toNat
theorem get4_lt (l : List UInt8) : get4 l < 4294967296 := by
  have h0 := (l.getD 0 0).toNat_lt
  have h1 := (l.getD 1 0).toNat_lt
  have h2 := (l.getD 2 0).toNat_lt
  have h3 := (l.getD 3 0).toNat_lt
  unfold get4; omega
theorem get4_put4 (n : Nat) (h : n < 4294967296) : get4 (put4 n) = n := by
  simp [get4, put4, UInt8.toNat_ofNat']; omega
theorem put4_get4 (l : List UInt8) (h : l.length = 4) : put4 (get4 l) = l := by
  match l, h with
  | [a, b, c, d], _ =>
    have h0 := a.toNat_lt
    have h1 := b.toNat_lt
    have h2 := c.toNat_lt
    have h3 := d.toNat_lt
    simp only [put4, get4, List.getD_cons_zero, List.getD_cons_succ]
    have e : ∀ (x : UInt8) (m : Nat), m % 256 = x.toNat → UInt8.ofNat m = x := fun x m hm => by
      apply UInt8.toNat_inj.1; rw [UInt8.toNat_ofNat']; simpa using hm
    rw [e a _ (by omega), e b _ (by omega), e c _ (by omega), e d _ (by omega)]

set_option maxHeartbeats 400000 in
theorem sumPut_any (n : Nat) (hn : n < 4294967296) (w : World) :
    Calls Tryz.prog 70 #[.int .u32 (n : Int)] w fun e w' => ∃ v, e = .returned v ∧ Fresh w w' v (put4 n) := by
  go_enter Tryz.func70, Tryz.ntmps70
  go_wp2
  go_ret
  refine ⟨_, rfl, _, _, rfl, Bs.of_alloc ?_ rfl (by simp [put4, maxLen]) rfl, ?_, (Gr.refl _).alloc _⟩
  · simp [u8s, put4, UInt8.toNat_ofNat']; omega
  · intro x hx; cases hx; exact Nat.le_refl _

theorem or_shift (x y i : Nat) (hx : x < 2 ^ i) : x ||| y * 2 ^ i = x + y * 2 ^ i := by
  have h := Nat.two_pow_add_eq_or_of_lt hx y
  rw [Nat.or_comm, Nat.mul_comm y, ← h, Nat.add_comm]
theorem u32_or_shift (x y i : Nat) (hx : x < 2 ^ i) (hi : i ≤ 32) (hy : x + y * 2 ^ i < 4294967296) (z : Int) (hz : z = ((y * 2 ^ i : Nat) : Int)) : bits .or .u32 (x : Int) z = ((x + y * 2 ^ i : Nat) : Int) := by
  have hp : 2 ^ i ≤ 2 ^ 32 := Nat.pow_le_pow_right (by decide) hi
  rw [hz, u32_or_nat x _ (by omega) (by omega), or_shift x y i hx]
theorem or_four (a b c d : Nat) (ha : a < 256) (hb : b < 256) (hc : c < 256) (hd : d < 256) :
    bits .or .u32 (bits .or .u32 (bits .or .u32 (a : Int) ((b : Int) * 256)) ((c : Int) * 65536)) ((d : Int) * 16777216) = ((a + 256 * b + 65536 * c + 16777216 * d : Nat) : Int) := by
  rw [u32_or_shift a b 8 (by omega) (by decide) (by omega) _ (by omega), u32_or_shift (a + b * 2 ^ 8) c 16 (by omega) (by decide) (by omega) _ (by omega),
    u32_or_shift (a + b * 2 ^ 8 + c * 2 ^ 16) d 24 (by omega) (by decide) (by omega) _ (by omega)]
  congr 1; omega

set_option maxHeartbeats 400000 in
theorem sumGet_any (a : Option Addr) (len cap : Nat) (l : List UInt8) (w : World) (hs : Bs w a len cap l) :
    Calls Tryz.prog 50 #[.slice a len cap] w fun e w' => e = .returned (.tuple #[.int .u32 ((if len = 4 then get4 l else 0 : Nat) : Int), .int .i64 (if len = 4 then 0 else 4)]) ∧ Gr w w' := by
  have hm : len ≤ 9223372036854775807 := by have h1 := hs.2.1; have h2 := hs.2.2.1; unfold maxLen at h2; omega
  by_cases h4 : len = 4
  · subst h4
    simp only [if_pos]
    obtain ⟨b, off, rfl, hb, _⟩ := hs.at_ (by omega)
    obtain ⟨x0, e0, c0⟩ := hs.get (i := 0) (by omega)
    obtain ⟨x1, e1, c1⟩ := hs.get (i := 1) (by omega)
    obtain ⟨x2, e2, c2⟩ := hs.get (i := 2) (by omega)
    obtain ⟨x3, e3, c3⟩ := hs.get (i := 3) (by omega)
    have hx0 := x0.toNat_lt
    have hx1 := x1.toNat_lt
    have hx2 := x2.toNat_lt
    have hx3 := x3.toNat_lt
    have hg : Hid (get4 l = x0.toNat + 256 * x1.toNat + 65536 * x2.toNat + 16777216 * x3.toNat) := by
      show get4 l = _; simp only [get4, List.getD_eq_getElem?_getD, e0, e1, e2, e3, Option.getD_some]
    rw [Nat.add_zero] at c0
    clear e0 e1 e2 e3
    go_enter Tryz.func50, Tryz.ntmps50
    go_wp2
    go_quiet (fail)
    go_wp2
    go_ret2
    refine ⟨?_, (Gr.refl _).drewN _⟩
    show Ending.returned (.tuple #[.int .u32 (bits .or .u32 (bits .or .u32 (bits .or .u32 (x0.toNat : Int) ((x1.toNat : Int) * 256)) ((x2.toNat : Int) * 65536)) ((x3.toNat : Int) * 16777216)), .int .i64 0]) = _
    rw [or_four _ _ _ _ hx0 hx1 hx2 hx3, hg.out]
  · have h4' : ((len : Int) != 4) = true := by rw [bne_iff_ne]; omega
    rw [if_neg h4, if_neg h4]
    go_enter Tryz.func50, Tryz.ntmps50
    go_wp2
    go_ret2
    exact ⟨rfl, Gr.refl _⟩
theorem sumGet_four (a : Option Addr) (cap : Nat) (l : List UInt8) (w : World) (hs : Bs w a 4 cap l) :
    Calls Tryz.prog 50 #[.slice a 4 cap] w fun e w' => e = .returned (.tuple #[.int .u32 (get4 l : Nat), .int .i64 0]) ∧ Gr w w' :=
  (sumGet_any a 4 cap l w hs).mono fun e w' ⟨he, hg⟩ => ⟨by rw [he, if_pos rfl, if_pos rfl], hg⟩
end Go.Proofs.YtdmijoochgmhiaaGreatDoor
