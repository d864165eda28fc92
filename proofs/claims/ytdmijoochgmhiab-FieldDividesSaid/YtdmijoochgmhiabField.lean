/-
  The walks of package field.
-/
import Derived.Test.YtdmijoochgmhiabRows
import Derived.Test.YtdmijoochgmhiabBase
import Derived.Test.YtdmijoochgmhiabFieldPlain
import Derived.Lib.Hide
namespace Go.Proofs.Ytdmijoochgmhiab
open Go.RowKit

theorem u8_and1 (y : Nat) (h : y < 256) : bits .and .u8 (y : Int) 1 = ((y % 2 : Nat) : Int) := by
  have h1 := u8_and_nat y 1 h (by decide)
  rw [Nat.and_one_is_mod] at h1; exact h1
theorem u8_and128 : ∀ x, x < 256 → x &&& 128 = if x / 128 % 2 = 1 then 128 else 0 := by decide +kernel

/-- what holds at the head of a round of times. -/
def TimesRel (a b : Nat) (a' b' p i : Value) : Prop :=
  ∃ j x y q : Nat, j ≤ 8 ∧ i = .int .i64 j ∧ a' = .int .u8 (x : Int) ∧ b' = .int .u8 (y : Int) ∧ p = .int .u8 (q : Int) ∧ x < 256 ∧ y < 256 ∧ q < 256 ∧ mulTo (8 - j) q x y = fmul a b

set_option maxHeartbeats 1000000 in
theorem times_any (a b : Nat) (ha : a < 256) (hb : b < 256) (w : World) :
    Calls Try.prog 45 #[.int .u8 (a : Int), .int .u8 (b : Int)] w fun e w' => e = .returned (.int .u8 (fmul a b : Nat)) ∧ w = w' := by
  go_enter Try.func45, Try.ntmps45
  go_wp2
  go_loop [0, 1, 5, 7] (fun a' b' p i => TimesRel a b a' b' p i) (fun _ _ _ i => 8 - (intOf i).toNat)
  case atStart => exact ⟨0, a, b, 0, by omega, rfl, rfl, rfl, rfl, ha, hb, by omega, rfl⟩
  case round =>
    obtain ⟨j, x, y, q, hj, rfl, rfl, rfl, rfl, hx, hy, hq, hmul⟩ := hrel
    have HM := Lib.hid hmul
    clear hmul
    by_cases hlt : j < 8
    · have Hstep : Hid (mulTo (8 - (j + 1)) (if y % 2 = 1 then q ^^^ x else q) (xt x) (y / 2) = fmul a b) := by
        show _ = _
        rw [← HM.out, show 8 - j = (8 - (j + 1)) + 1 by omega]; rfl
      have hx2 : bits .xor .u8 ((x : Int) * 2 % 256) 29 = ((x * 2 % 256 ^^^ 29 : Nat) : Int) := by
        have h := u8_xor_nat (x * 2 % 256) 29 (by omega) (by decide)
        rw [show ((x * 2 % 256 : Nat) : Int) = (x : Int) * 2 % 256 by omega] at h
        exact h
      have hqx := u8_xor_nat q x hq hx
      have Hqx : Hid (q ^^^ x < 256) := Nat.xor_lt_two_pow (n := 8) hq hx
      have X1 : Hid (xt x = if x / 128 % 2 = 1 then x * 2 % 256 ^^^ 29 else x * 2 % 256) := rfl
      clear HM
      by_cases hodd : y % 2 = 1
      · have hand : bits .and .u8 (y : Int) 1 = 1 := (u8_and1 y hy).trans (by rw [hodd]; rfl)
        have HM : Hid (mulTo (8 - (j + 1)) (q ^^^ x) (xt x) (y / 2) = fmul a b) := by have := Hstep.out; rw [if_pos hodd] at this; exact this
        by_cases htop : x / 128 % 2 = 1
        · have h128 : bits .and .u8 (x : Int) 128 = 128 := (u8_and_nat x 128 hx (by decide)).trans (by rw [u8_and128 x hx, if_pos htop]; rfl)
          have X2 : Hid (xt x = x * 2 % 256 ^^^ 29) := by have := X1.out; rw [if_pos htop] at this; exact this
          clear hodd htop
          go_wp2
          go_round
          case rel => exact ⟨j + 1, xt x, y / 2, q ^^^ x, by omega, by go_num, by rw [X2.out] <;> rfl, rfl, rfl, xt_lt x, by omega, Hqx.out, HM.out⟩
          case measure => simp [intOf]; omega
        · have h128 : bits .and .u8 (x : Int) 128 = 0 := (u8_and_nat x 128 hx (by decide)).trans (by rw [u8_and128 x hx, if_neg htop]; rfl)
          have X2 : Hid (xt x = x * 2 % 256) := by have := X1.out; rw [if_neg htop] at this; exact this
          clear hodd htop
          go_wp2
          go_round
          case rel => exact ⟨j + 1, xt x, y / 2, q ^^^ x, by omega, by go_num, by rw [X2.out] <;> rfl, rfl, rfl, xt_lt x, by omega, Hqx.out, HM.out⟩
          case measure => simp [intOf]; omega
      · have hev : y % 2 = 0 := by omega
        have hand : bits .and .u8 (y : Int) 1 = 0 := (u8_and1 y hy).trans (by rw [hev]; rfl)
        have HM : Hid (mulTo (8 - (j + 1)) q (xt x) (y / 2) = fmul a b) := by have := Hstep.out; rw [if_neg hodd] at this; exact this
        by_cases htop : x / 128 % 2 = 1
        · have h128 : bits .and .u8 (x : Int) 128 = 128 := (u8_and_nat x 128 hx (by decide)).trans (by rw [u8_and128 x hx, if_pos htop]; rfl)
          have X2 : Hid (xt x = x * 2 % 256 ^^^ 29) := by have := X1.out; rw [if_pos htop] at this; exact this
          clear hodd htop hev
          go_wp2
          go_round
          case rel => exact ⟨j + 1, xt x, y / 2, q, by omega, by go_num, by rw [X2.out] <;> rfl, rfl, rfl, xt_lt x, by omega, hq, HM.out⟩
          case measure => simp [intOf]; omega
        · have h128 : bits .and .u8 (x : Int) 128 = 0 := (u8_and_nat x 128 hx (by decide)).trans (by rw [u8_and128 x hx, if_neg htop]; rfl)
          have X2 : Hid (xt x = x * 2 % 256) := by have := X1.out; rw [if_neg htop] at this; exact this
          clear hodd htop hev
          go_wp2
          go_round
          case rel => exact ⟨j + 1, xt x, y / 2, q, by omega, by go_num, by rw [X2.out] <;> rfl, rfl, rfl, xt_lt x, by omega, hq, HM.out⟩
          case measure => simp [intOf]; omega
    · obtain rfl : j = 8 := by omega
      have HE : Hid (fmul a b = q) := by show _ = _; rw [← HM.out]; rfl
      go_wp2
      go_ret
      exact ⟨by rw [HE.out]; rfl, rfl⟩

/-- the sum of all, the product of all. -/
def fsum (l : List UInt8) : Nat := l.foldl (fun s b => s ^^^ b.toNat) 0
def fprod (l : List UInt8) : Nat := l.foldl (fun p b => fmul p b.toNat) 1
theorem fsum_snoc (l : List UInt8) (b : UInt8) : fsum (l ++ [b]) = fsum l ^^^ b.toNat := by simp [fsum]
theorem fprod_snoc (l : List UInt8) (b : UInt8) : fprod (l ++ [b]) = fmul (fprod l) b.toNat := by simp [fprod]
theorem fsum_lt (l : List UInt8) : fsum l < 256 := by
  have key : ∀ (l : List UInt8) (s : Nat), s < 256 → l.foldl (fun s b => s ^^^ b.toNat) s < 256 := by
    intro l
    induction l with
    | nil => intro s h; exact h
    | cons b l ih => intro s h; exact ih _ (Nat.xor_lt_two_pow (n := 8) h (by have := b.toNat_lt; omega))
  exact key l 0 (by decide)
theorem fprod_lt (l : List UInt8) : fprod l < 256 := by
  have key : ∀ (l : List UInt8) (p : Nat), p < 256 → l.foldl (fun p b => fmul p b.toNat) p < 256 := by
    intro l
    induction l with
    | nil => intro s h; exact h
    | cons b l ih => intro s h; exact ih _ (fmul_lt h _)
  exact key l 1 (by decide)

set_option maxHeartbeats 1000000 in
theorem fieldAdd_any (a : Option Addr) (len cap : Nat) (l : List UInt8) (w : World) (hs : Bs w a len cap l) :
    Calls Try.prog 12 #[.slice a len cap] w fun e w' => e = .returned (.int .u8 (fsum l : Nat)) ∧ w = w' := by
  have hm : len ≤ 9223372036854775807 := by have h1 := hs.2.1; have h2 := hs.2.2.1; unfold maxLen at h2; omega
  have L1 : Hid (l.length = len) := hs.1
  go_enter Try.func12, Try.ntmps12
  go_wp2
  go_loop [3, 8] (fun s i => ∃ k : Nat, k ≤ len ∧ i = .int .i64 k ∧ s = .int .u8 (fsum (l.take k) : Nat)) (fun _ i => len - (intOf i).toNat)
  case atStart => exact ⟨0, Nat.zero_le _, rfl, rfl⟩
  case round =>
    obtain ⟨k, hk, rfl, rfl⟩ := hrel
    have hql := fsum_lt (l.take k)
    obtain ⟨q, hq⟩ : ∃ q, fsum (l.take k) = q := ⟨_, rfl⟩
    rw [hq] at hql ⊢
    have HQ := Lib.hid hq
    clear hq
    by_cases hlt : k < len
    · obtain ⟨b, off, rfl, _, _⟩ := hs.at_ (by omega)
      obtain ⟨x, hx, hcx⟩ := hs.get hlt
      have HN : Hid (fsum (l.take (k + 1)) = q ^^^ x.toNat) := by show _ = _; rw [List.take_add_one, hx, ← HQ.out]; exact fsum_snoc _ _
      clear hx
      have hxor := u8_xor_nat q x.toNat hql x.toNat_lt
      go_wp2
      go_round
      case rel => exact ⟨k + 1, by omega, by go_num, by rw [HN.out] <;> rfl⟩
      case measure => simp [intOf]; omega
    · have HE : Hid (fsum l = q) := by show fsum l = q; rw [← HQ.out, List.take_of_length_le (by rw [L1.out]; omega)]
      go_wp2
      go_ret
      exact ⟨by rw [HE.out]; rfl, rfl⟩

set_option maxHeartbeats 1000000 in
theorem fieldMul_any (a : Option Addr) (len cap : Nat) (l : List UInt8) (w : World) (hs : Bs w a len cap l) :
    Calls Try.prog 13 #[.slice a len cap] w fun e w' => e = .returned (.int .u8 (fprod l : Nat)) ∧ w = w' := by
  have hm : len ≤ 9223372036854775807 := by have h1 := hs.2.1; have h2 := hs.2.2.1; unfold maxLen at h2; omega
  have L1 : Hid (l.length = len) := hs.1
  go_enter Try.func13, Try.ntmps13
  go_wp2
  go_loop [3, 8] (fun s i => ∃ k : Nat, k ≤ len ∧ i = .int .i64 k ∧ s = .int .u8 (fprod (l.take k) : Nat)) (fun _ i => len - (intOf i).toNat)
  case atStart => exact ⟨0, Nat.zero_le _, rfl, rfl⟩
  case round =>
    obtain ⟨k, hk, rfl, rfl⟩ := hrel
    have hql := fprod_lt (l.take k)
    obtain ⟨q, hq⟩ : ∃ q, fprod (l.take k) = q := ⟨_, rfl⟩
    rw [hq] at hql ⊢
    have HQ := Lib.hid hq
    clear hq
    by_cases hlt : k < len
    · obtain ⟨b, off, rfl, _, _⟩ := hs.at_ (by omega)
      obtain ⟨x, hx, hcx⟩ := hs.get hlt
      have HN : Hid (fprod (l.take (k + 1)) = fmul q x.toNat) := by show _ = _; rw [List.take_add_one, hx, ← HQ.out]; exact fprod_snoc _ _
      clear hx
      go_wp2_with fail
      refine (times_any q x.toNat hql x.toNat_lt w).mono ?_
      rintro e w1 ⟨rfl, rfl⟩
      go_wp2
      go_round
      case rel => exact ⟨k + 1, by omega, by go_num, by rw [HN.out] <;> rfl⟩
      case measure => simp [intOf]; omega
    · have HE : Hid (fprod l = q) := by show fprod l = q; rw [← HQ.out, List.take_of_length_le (by rw [L1.out]; omega)]
      go_wp2
      go_ret
      exact ⟨by rw [HE.out]; rfl, rfl⟩

set_option maxHeartbeats 1000000 in
theorem power_any (a : Nat) (ha : a < 256) (n : Nat) (hn : n ≤ 255) (w : World) :
    Calls Try.prog 46 #[.int .u8 (a : Int), .int .i64 (n : Int)] w fun e w' => e = .returned (.int .u8 (fpow a n : Nat)) ∧ w = w' := by
  go_enter Try.func46, Try.ntmps46
  go_wp2
  go_loop [5, 7] (fun s i => ∃ k : Nat, k ≤ n ∧ i = .int .i64 k ∧ s = .int .u8 (fpow a k : Nat)) (fun _ i => n - (intOf i).toNat)
  case atStart => exact ⟨0, Nat.zero_le _, rfl, rfl⟩
  case round =>
    obtain ⟨k, hk, rfl, rfl⟩ := hrel
    have hql := fpow_lt a k
    obtain ⟨q, hq⟩ : ∃ q, fpow a k = q := ⟨_, rfl⟩
    rw [hq] at hql ⊢
    by_cases hlt : k < n
    · have HN : Hid (fpow a (k + 1) = fmul q a) := by show fpow a (k + 1) = _; rw [← hq]; rfl
      clear hq
      go_wp2_with fail
      refine (times_any q a hql ha w).mono ?_
      rintro e w1 ⟨rfl, rfl⟩
      go_wp2
      go_round
      case rel => exact ⟨k + 1, by omega, by go_num, by rw [HN.out] <;> rfl⟩
      case measure => simp [intOf]; omega
    · obtain rfl : k = n := by omega
      have HQ := Lib.hid hq
      clear hq
      go_wp2
      go_ret
      exact ⟨by rw [HQ.out]; rfl, rfl⟩

/-- n modulo 255, from 0 on. -/
def turnN (n : Int) : Nat := (n % 255).toNat
theorem turnN_lt (n : Int) : turnN n < 255 := by unfold turnN; omega
set_option maxHeartbeats 400000 in
theorem turn_any (n : Int) (h1 : -9223372036854775808 ≤ n) (h2 : n ≤ 9223372036854775807) (w : World) :
    Calls Try.prog 47 #[.int .i64 n] w fun e w' => e = .returned (.int .i64 (turnN n : Nat)) ∧ w = w' := by
  by_cases h0 : 0 ≤ n
  · have HT : Hid (((turnN n : Nat) : Int) = n % 255) := by show _ = _; unfold turnN; omega
    go_enter Try.func47, Try.ntmps47
    go_wp2
    go_ret
    exact ⟨by rw [HT.out]; rfl, rfl⟩
  · have ht : n.tmod 255 = -((-n) % 255) := by
      rw [← Int.neg_neg n, Int.neg_tmod, Int.tmod_eq_emod_of_nonneg (by omega), Int.neg_neg]
    obtain ⟨m, hm⟩ : ∃ m : Int, n.tmod 255 = m := ⟨_, rfl⟩
    have hb : -255 < m ∧ m ≤ 0 := by omega
    by_cases hz : m = 0
    · have HT : Hid (((turnN n : Nat) : Int) = 0) := by show _ = _; unfold turnN; omega
      subst hz
      clear ht
      go_enter Try.func47, Try.ntmps47
      go_wp2
      go_ret
      exact ⟨by rw [HT.out]; rfl, rfl⟩
    · have HT : Hid (((turnN n : Nat) : Int) = m + 255) := by show _ = _; unfold turnN; omega
      have hneg : m < 0 := by omega
      have hlo : -255 < m := hb.1
      clear ht hb hz
      go_enter Try.func47, Try.ntmps47
      go_wp2
      go_ret
      exact ⟨by rw [HT.out]; rfl, rfl⟩
end Go.Proofs.Ytdmijoochgmhiab
