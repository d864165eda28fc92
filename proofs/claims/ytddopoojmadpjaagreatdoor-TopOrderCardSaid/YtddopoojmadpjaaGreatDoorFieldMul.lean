/-
  The walks of the field's products.
-/
import Derived.Test.YtddopoojmadpjaaGreatDoorRows
import Derived.Test.YtddopoojmadpjaaGreatDoorBase
import Derived.Test.YtddopoojmadpjaaGreatDoorFieldPlain
import Derived.Lib.Hide
namespace Go.Proofs.YtddopoojmadpjaaGreatDoor
open Go.RowKit

theorem u8_and1 (y : Nat) (h : y < 256) : bits .and .u8 (y : Int) 1 = ((y % 2 : Nat) : Int) := by
  have h1 := u8_and_nat y 1 h (by decide)
  rw [Nat.and_one_is_mod] at h1; exact h1
theorem u8_and128 : ∀ x, x < 256 → x &&& 128 = if x / 128 % 2 = 1 then 128 else 0 := by decide +kernel

/-- what holds at the head of a round of times. -/
def TimesRel (a b : Nat) (a' b' p i : Value) : Prop :=
  ∃ j x y q : Nat, j ≤ 8 ∧ i = .int .i64 j ∧ a' = .int .u8 (x : Int) ∧ b' = .int .u8 (y : Int) ∧ p = .int .u8 (q : Int) ∧ x < 256 ∧ y < 256 ∧ q < 256 ∧ mulTo (8 - j) q x y = fmul a b

set_option maxHeartbeats 1000000 in
theorem times_any (a b : Nat) (ha : a < 256) (hb : b < 256) (w : World) :
    Calls Tryz.prog 129 #[.int .u8 (a : Int), .int .u8 (b : Int)] w fun e w' => e = .returned (.int .u8 (fmul a b : Nat)) ∧ w = w' := by
  go_enter Tryz.func129, Tryz.ntmps129
  go_wp2
  go_loop [0, 1, 5, 7] (fun a' b' p i => TimesRel a b a' b' p i) (fun _ _ _ i => 8 - (intOf i).toNat)
  case atStart => exact ⟨0, a, b, 0, by omega, rfl, rfl, rfl, rfl, ha, hb, by omega, rfl⟩
  case round =>
    obtain ⟨j, x, y, q, hj, rfl, rfl, rfl, rfl, hx, hy, hq, hmul⟩ := hrel
    have HM := Lib.hid hmul
    clear hmul
    by_cases hlt : j < 8
    · have Hstep : Hid (mulTo (8 - (j + 1)) (if y % 2 = 1 then q ^^^ x else q) (xt x) (y / 2) = fmul a b) := by
        show _ = _
        rw [← HM.out, show 8 - j = (8 - (j + 1)) + 1 by omega]; rfl
      have hx2 : bits .xor .u8 ((x : Int) * 2 % 256) 29 = ((x * 2 % 256 ^^^ 29 : Nat) : Int) := by
        have h := u8_xor_nat (x * 2 % 256) 29 (by omega) (by decide)
        rw [show ((x * 2 % 256 : Nat) : Int) = (x : Int) * 2 % 256 by omega] at h
        exact h
      have hqx := u8_xor_nat q x hq hx
      have Hqx : Hid (q ^^^ x < 256) := Nat.xor_lt_two_pow (n := 8) hq hx
      have X1 : Hid (xt x = if x / 128 % 2 = 1 then x * 2 % 256 ^^^ 29 else x * 2 % 256) := rfl
      clear HM
      by_cases hodd : y % 2 = 1
      · have hand : bits .and .u8 (y : Int) 1 = 1 := (u8_and1 y hy).trans (by rw [hodd]; rfl)
        have HM : Hid (mulTo (8 - (j + 1)) (q ^^^ x) (xt x) (y / 2) = fmul a b) := by have := Hstep.out; rw [if_pos hodd] at this; exact this
        by_cases htop : x / 128 % 2 = 1
        · have h128 : bits .and .u8 (x : Int) 128 = 128 := (u8_and_nat x 128 hx (by decide)).trans (by rw [u8_and128 x hx, if_pos htop]; rfl)
          have X2 : Hid (xt x = x * 2 % 256 ^^^ 29) := by have := X1.out; rw [if_pos htop] at this; exact this
          clear hodd htop
          go_wp2
          go_round
          case rel => exact ⟨j + 1, xt x, y / 2, q ^^^ x, by omega, by go_num, by rw [X2.out] <;> rfl, rfl, rfl, xt_lt x, by omega, Hqx.out, HM.out⟩
          case measure => simp [intOf]; omega
        · have h128 : bits .and .u8 (x : Int) 128 = 0 := (u8_and_nat x 128 hx (by decide)).trans (by rw [u8_and128 x hx, if_neg htop]; rfl)
          have X2 : Hid (xt x = x * 2 % 256) := by have := X1.out; rw [if_neg htop] at this; exact this
          clear hodd htop
          go_wp2
          go_round
          case rel => exact ⟨j + 1, xt x, y / 2, q ^^^ x, by omega, by go_num, by rw [X2.out] <;> rfl, rfl, rfl, xt_lt x, by omega, Hqx.out, HM.out⟩
          case measure => simp [intOf]; omega
      · have hev : y % 2 = 0 := by omega
        have hand : bits .and .u8 (y : Int) 1 = 0 := (u8_and1 y hy).trans (by rw [hev]; rfl)
        have HM : Hid (mulTo (8 - (j + 1)) q (xt x) (y / 2) = fmul a b) := by have := Hstep.out; rw [if_neg hodd] at this; exact this
        by_cases htop : x / 128 % 2 = 1
        · have h128 : bits .and .u8 (x : Int) 128 = 128 := (u8_and_nat x 128 hx (by decide)).trans (by rw [u8_and128 x hx, if_pos htop]; rfl)
          have X2 : Hid (xt x = x * 2 % 256 ^^^ 29) := by have := X1.out; rw [if_pos htop] at this; exact this
          clear hodd htop hev
          go_wp2
          go_round
          case rel => exact ⟨j + 1, xt x, y / 2, q, by omega, by go_num, by rw [X2.out] <;> rfl, rfl, rfl, xt_lt x, by omega, hq, HM.out⟩
          case measure => simp [intOf]; omega
        · have h128 : bits .and .u8 (x : Int) 128 = 0 := (u8_and_nat x 128 hx (by decide)).trans (by rw [u8_and128 x hx, if_neg htop]; rfl)
          have X2 : Hid (xt x = x * 2 % 256) := by have := X1.out; rw [if_neg htop] at this; exact this
          clear hodd htop hev
          go_wp2
          go_round
          case rel => exact ⟨j + 1, xt x, y / 2, q, by omega, by go_num, by rw [X2.out] <;> rfl, rfl, rfl, xt_lt x, by omega, hq, HM.out⟩
          case measure => simp [intOf]; omega
    · obtain rfl : j = 8 := by omega
      have HE : Hid (fmul a b = q) := by show _ = _; rw [← HM.out]; rfl
      go_wp2
      go_ret
      exact ⟨by rw [HE.out]; rfl, rfl⟩


def fprod (l : List UInt8) : Nat := l.foldl (fun p b => fmul p b.toNat) 1
theorem fprod_snoc (l : List UInt8) (b : UInt8) : fprod (l ++ [b]) = fmul (fprod l) b.toNat := by simp [fprod]
theorem fprod_lt (l : List UInt8) : fprod l < 256 := by
  have key : ∀ (l : List UInt8) (p : Nat), p < 256 → l.foldl (fun p b => fmul p b.toNat) p < 256 := by
    intro l
    induction l with
    | nil => intro s h; exact h
    | cons b l ih => intro s h; exact ih _ (fmul_lt h _)
  exact key l 1 (by decide)

set_option maxHeartbeats 1000000 in
theorem fieldMul_any (a : Option Addr) (len cap : Nat) (l : List UInt8) (w : World) (hs : Bs w a len cap l) :
    Calls Tryz.prog 126 #[.slice a len cap] w fun e w' => e = .returned (.int .u8 (fprod l : Nat)) ∧ w = w' := by
  have hm : len ≤ 9223372036854775807 := by have h1 := hs.2.1; have h2 := hs.2.2.1; unfold maxLen at h2; omega
  have L1 : Hid (l.length = len) := hs.1
  go_enter Tryz.func126, Tryz.ntmps126
  go_wp2
  go_loop [3, 8] (fun s i => ∃ k : Nat, k ≤ len ∧ i = .int .i64 k ∧ s = .int .u8 (fprod (l.take k) : Nat)) (fun _ i => len - (intOf i).toNat)
  case atStart => exact ⟨0, Nat.zero_le _, rfl, rfl⟩
  case round =>
    obtain ⟨k, hk, rfl, rfl⟩ := hrel
    have hql := fprod_lt (l.take k)
    obtain ⟨q, hq⟩ : ∃ q, fprod (l.take k) = q := ⟨_, rfl⟩
    rw [hq] at hql ⊢
    have HQ := Lib.hid hq
    clear hq
    by_cases hlt : k < len
    · obtain ⟨b, off, rfl, _, _⟩ := hs.at_ (by omega)
      obtain ⟨x, hx, hcx⟩ := hs.get hlt
      have HN : Hid (fprod (l.take (k + 1)) = fmul q x.toNat) := by show _ = _; rw [List.take_add_one, hx, ← HQ.out]; exact fprod_snoc _ _
      clear hx
      go_wp2_with fail
      refine (times_any q x.toNat hql x.toNat_lt w).mono ?_
      rintro e w1 ⟨rfl, rfl⟩
      go_wp2
      go_round
      case rel => exact ⟨k + 1, by omega, by go_num, by rw [HN.out] <;> rfl⟩
      case measure => simp [intOf]; omega
    · have HE : Hid (fprod l = q) := by show fprod l = q; rw [← HQ.out, List.take_of_length_le (by rw [L1.out]; omega)]
      go_wp2
      go_ret
      exact ⟨by rw [HE.out]; rfl, rfl⟩

theorem refSum_lt (a b : Nat) (ha : a < 256) : ∀ k, k ≤ 8 → refSum a b k < 32768
  | 0, _ => by show 0 < 32768; decide
  | k + 1, h => by
    have ih := refSum_lt a b ha k (by omega)
    unfold refSum; split
    · have h1 : a * 2 ^ k < 32768 := by
        have h2 : 2 ^ k ≤ 2 ^ 7 := Nat.pow_le_pow_right (by decide) (by omega)
        have h3 : a * 2 ^ k ≤ 255 * 2 ^ 7 := Nat.mul_le_mul (by omega) h2
        omega
      exact Nat.xor_lt_two_pow (n := 15) ih h1
    · exact ih
/-- what is left of the sum behind the rounds of the powers 14 to k + 8. -/
def redFrom (s : Nat) : Nat → Nat
  | 0 => s
  | j + 1 => let t := redFrom s j; if t / 2 ^ (14 - j) % 2 = 1 then t ^^^ 285 * 2 ^ (6 - j) else t
theorem redFrom_lt (s : Nat) (h : s < 32768) : ∀ j, j ≤ 7 → redFrom s j < 32768
  | 0, _ => h
  | j + 1, hj => by
    have ih := redFrom_lt s h j (by omega)
    show (if redFrom s j / 2 ^ (14 - j) % 2 = 1 then redFrom s j ^^^ 285 * 2 ^ (6 - j) else redFrom s j) < 32768
    split
    · have h2 : 2 ^ (6 - j) ≤ 2 ^ 6 := Nat.pow_le_pow_right (by decide) (by omega)
      exact Nat.xor_lt_two_pow (n := 15) ih (by omega)
    · exact ih
theorem redFrom_all (s : Nat) : redFrom s 7 = refRed 7 s := by
  simp only [redFrom, refRed]; rfl

theorem tmod_bit (x k : Nat) : ((x : Int) / 2 ^ k).tmod 2 = ((x / 2 ^ k % 2 : Nat) : Int) := by
  rw [show ((x : Int) / 2 ^ k) = ((x / 2 ^ k : Nat) : Int) by simp]
  generalize x / 2 ^ k = y
  rw [Int.tmod_eq_emod_of_nonneg (by omega)]; omega
theorem u64_small (z : Nat) (h : z < 32768) : IntKind.u64.wrap (z : Int) = (z : Int) := by
  rw [IntKind.wrap_u64]; omega

end Go.Proofs.YtddopoojmadpjaaGreatDoor
