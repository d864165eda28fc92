/-
  The walks of the field's products.
-/
import Derived.Test.YtdmijoochgmhiacDoorRows
import Derived.Test.YtdmijoochgmhiacDoorBase
import Derived.Test.YtdmijoochgmhiacDoorFieldPlain
import Derived.Lib.Hide
namespace Go.Proofs.YtdmijoochgmhiacDoor
open Go.RowKit

theorem u8_and1 (y : Nat) (h : y < 256) : bits .and .u8 (y : Int) 1 = ((y % 2 : Nat) : Int) := by
  have h1 := u8_and_nat y 1 h (by decide)
  rw [Nat.and_one_is_mod] at h1; exact h1
theorem u8_and128 : ∀ x, x < 256 → x &&& 128 = if x / 128 % 2 = 1 then 128 else 0 := by decide +kernel

/-- what holds at the head of a round of times. -/
def TimesRel (a b : Nat) (a' b' p i : Value) : Prop :=
  ∃ j x y q : Nat, j ≤ 8 ∧ i = .int .i64 j ∧ a' = .int .u8 (x : Int) ∧ b' = .int .u8 (y : Int) ∧ p = .int .u8 (q : Int) ∧ x < 256 ∧ y < 256 ∧ q < 256 ∧ mulTo (8 - j) q x y = fmul a b

set_option maxHeartbeats 1000000 in
theorem times_any (a b : Nat) (ha : a < 256) (hb : b < 256) (w : World) :
    Calls Tryd.prog 104 #[.int .u8 (a : Int), .int .u8 (b : Int)] w fun e w' => e = .returned (.int .u8 (fmul a b : Nat)) ∧ w = w' := by
  go_enter Tryd.func104, Tryd.ntmps104
  go_wp2
  go_loop [0, 1, 5, 7] (fun a' b' p i => TimesRel a b a' b' p i) (fun _ _ _ i => 8 - (intOf i).toNat)
  case atStart => exact ⟨0, a, b, 0, by omega, rfl, rfl, rfl, rfl, ha, hb, by omega, rfl⟩
  case round =>
    obtain ⟨j, x, y, q, hj, rfl, rfl, rfl, rfl, hx, hy, hq, hmul⟩ := hrel
    have HM := Lib.hid hmul
    clear hmul
    by_cases hlt : j < 8
    · have Hstep : Hid (mulTo (8 - (j + 1)) (if y % 2 = 1 then q ^^^ x else q) (xt x) (y / 2) = fmul a b) := by
        show _ = _
        rw [← HM.out, show 8 - j = (8 - (j + 1)) + 1 by omega]; rfl
      have hx2 : bits .xor .u8 ((x : Int) * 2 % 256) 29 = ((x * 2 % 256 ^^^ 29 : Nat) : Int) := by
        have h := u8_xor_nat (x * 2 % 256) 29 (by omega) (by decide)
        rw [show ((x * 2 % 256 : Nat) : Int) = (x : Int) * 2 % 256 by omega] at h
        exact h
      have hqx := u8_xor_nat q x hq hx
      have Hqx : Hid (q ^^^ x < 256) := Nat.xor_lt_two_pow (n := 8) hq hx
      have X1 : Hid (xt x = if x / 128 % 2 = 1 then x * 2 % 256 ^^^ 29 else x * 2 % 256) := rfl
      clear HM
      by_cases hodd : y % 2 = 1
      · have hand : bits .and .u8 (y : Int) 1 = 1 := (u8_and1 y hy).trans (by rw [hodd]; rfl)
        have HM : Hid (mulTo (8 - (j + 1)) (q ^^^ x) (xt x) (y / 2) = fmul a b) := by have := Hstep.out; rw [if_pos hodd] at this; exact this
        by_cases htop : x / 128 % 2 = 1
        · have h128 : bits .and .u8 (x : Int) 128 = 128 := (u8_and_nat x 128 hx (by decide)).trans (by rw [u8_and128 x hx, if_pos htop]; rfl)
          have X2 : Hid (xt x = x * 2 % 256 ^^^ 29) := by have := X1.out; rw [if_pos htop] at this; exact this
          clear hodd htop
          go_wp2
          go_round
          case rel => exact ⟨j + 1, xt x, y / 2, q ^^^ x, by omega, by go_num, by rw [X2.out] <;> rfl, rfl, rfl, xt_lt x, by omega, Hqx.out, HM.out⟩
          case measure => simp [intOf]; omega
        · have h128 : bits .and .u8 (x : Int) 128 = 0 := (u8_and_nat x 128 hx (by decide)).trans (by rw [u8_and128 x hx, if_neg htop]; rfl)
          have X2 : Hid (xt x = x * 2 % 256) := by have := X1.out; rw [if_neg htop] at this; exact this
          clear hodd htop
          go_wp2
          go_round
          case rel => exact ⟨j + 1, xt x, y / 2, q ^^^ x, by omega, by go_num, by rw [X2.out] <;> rfl, rfl, rfl, xt_lt x, by omega, Hqx.out, HM.out⟩
          case measure => simp [intOf]; omega
      · have hev : y % 2 = 0 := by omega
        have hand : bits .and .u8 (y : Int) 1 = 0 := (u8_and1 y hy).trans (by rw [hev]; rfl)
        have HM : Hid (mulTo (8 - (j + 1)) q (xt x) (y / 2) = fmul a b) := by have := Hstep.out; rw [if_neg hodd] at this; exact this
        by_cases htop : x / 128 % 2 = 1
        · have h128 : bits .and .u8 (x : Int) 128 = 128 := (u8_and_nat x 128 hx (by decide)).trans (by rw [u8_and128 x hx, if_pos htop]; rfl)
          have X2 : Hid (xt x = x * 2 % 256 ^^^ 29) := by have := X1.out; rw [if_pos htop] at this; exact this
          clear hodd htop hev
          go_wp2
          go_round
          case rel => exact ⟨j + 1, xt x, y / 2, q, by omega, by go_num, by rw [X2.out] <;> rfl, rfl, rfl, xt_lt x, by omega, hq, HM.out⟩
          case measure => simp [intOf]; omega
        · have h128 : bits .and .u8 (x : Int) 128 = 0 := (u8_and_nat x 128 hx (by decide)).trans (by rw [u8_and128 x hx, if_neg htop]; rfl)
          have X2 : Hid (xt x = x * 2 % 256) := by have := X1.out; rw [if_neg htop] at this; exact this
          clear hodd htop hev
          go_wp2
          go_round
          case rel => exact ⟨j + 1, xt x, y / 2, q, by omega, by go_num, by rw [X2.out] <;> rfl, rfl, rfl, xt_lt x, by omega, hq, HM.out⟩
          case measure => simp [intOf]; omega
    · obtain rfl : j = 8 := by omega
      have HE : Hid (fmul a b = q) := by show _ = _; rw [← HM.out]; rfl
      go_wp2
      go_ret
      exact ⟨by rw [HE.out]; rfl, rfl⟩


def fprod (l : List UInt8) : Nat := l.foldl (fun p b => fmul p b.toNat) 1
theorem fprod_snoc (l : List UInt8) (b : UInt8) : fprod (l ++ [b]) = fmul (fprod l) b.toNat := by simp [fprod]
theorem fprod_lt (l : List UInt8) : fprod l < 256 := by
  have key : ∀ (l : List UInt8) (p : Nat), p < 256 → l.foldl (fun p b => fmul p b.toNat) p < 256 := by
    intro l
    induction l with
    | nil => intro s h; exact h
    | cons b l ih => intro s h; exact ih _ (fmul_lt h _)
  exact key l 1 (by decide)

set_option maxHeartbeats 1000000 in
theorem fieldMul_any (a : Option Addr) (len cap : Nat) (l : List UInt8) (w : World) (hs : Bs w a len cap l) :
    Calls Tryd.prog 102 #[.slice a len cap] w fun e w' => e = .returned (.int .u8 (fprod l : Nat)) ∧ w = w' := by
  have hm : len ≤ 9223372036854775807 := by have h1 := hs.2.1; have h2 := hs.2.2.1; unfold maxLen at h2; omega
  have L1 : Hid (l.length = len) := hs.1
  go_enter Tryd.func102, Tryd.ntmps102
  go_wp2
  go_loop [3, 8] (fun s i => ∃ k : Nat, k ≤ len ∧ i = .int .i64 k ∧ s = .int .u8 (fprod (l.take k) : Nat)) (fun _ i => len - (intOf i).toNat)
  case atStart => exact ⟨0, Nat.zero_le _, rfl, rfl⟩
  case round =>
    obtain ⟨k, hk, rfl, rfl⟩ := hrel
    have hql := fprod_lt (l.take k)
    obtain ⟨q, hq⟩ : ∃ q, fprod (l.take k) = q := ⟨_, rfl⟩
    rw [hq] at hql ⊢
    have HQ := Lib.hid hq
    clear hq
    by_cases hlt : k < len
    · obtain ⟨b, off, rfl, _, _⟩ := hs.at_ (by omega)
      obtain ⟨x, hx, hcx⟩ := hs.get hlt
      have HN : Hid (fprod (l.take (k + 1)) = fmul q x.toNat) := by show _ = _; rw [List.take_add_one, hx, ← HQ.out]; exact fprod_snoc _ _
      clear hx
      go_wp2_with fail
      refine (times_any q x.toNat hql x.toNat_lt w).mono ?_
      rintro e w1 ⟨rfl, rfl⟩
      go_wp2
      go_round
      case rel => exact ⟨k + 1, by omega, by go_num, by rw [HN.out] <;> rfl⟩
      case measure => simp [intOf]; omega
    · have HE : Hid (fprod l = q) := by show fprod l = q; rw [← HQ.out, List.take_of_length_le (by rw [L1.out]; omega)]
      go_wp2
      go_ret
      exact ⟨by rw [HE.out]; rfl, rfl⟩

theorem refSum_lt (a b : Nat) (ha : a < 256) : ∀ k, k ≤ 8 → refSum a b k < 32768
  | 0, _ => by show 0 < 32768; decide
  | k + 1, h => by
    have ih := refSum_lt a b ha k (by omega)
    unfold refSum; split
    · have h1 : a * 2 ^ k < 32768 := by
        have h2 : 2 ^ k ≤ 2 ^ 7 := Nat.pow_le_pow_right (by decide) (by omega)
        have h3 : a * 2 ^ k ≤ 255 * 2 ^ 7 := Nat.mul_le_mul (by omega) h2
        omega
      exact Nat.xor_lt_two_pow (n := 15) ih h1
    · exact ih
/-- what is left of the sum behind the rounds of the powers 14 to k + 8. -/
def redFrom (s : Nat) : Nat → Nat
  | 0 => s
  | j + 1 => let t := redFrom s j; if t / 2 ^ (14 - j) % 2 = 1 then t ^^^ 285 * 2 ^ (6 - j) else t
theorem redFrom_lt (s : Nat) (h : s < 32768) : ∀ j, j ≤ 7 → redFrom s j < 32768
  | 0, _ => h
  | j + 1, hj => by
    have ih := redFrom_lt s h j (by omega)
    show (if redFrom s j / 2 ^ (14 - j) % 2 = 1 then redFrom s j ^^^ 285 * 2 ^ (6 - j) else redFrom s j) < 32768
    split
    · have h2 : 2 ^ (6 - j) ≤ 2 ^ 6 := Nat.pow_le_pow_right (by decide) (by omega)
      exact Nat.xor_lt_two_pow (n := 15) ih (by omega)
    · exact ih
theorem redFrom_all (s : Nat) : redFrom s 7 = refRed 7 s := by
  simp only [redFrom, refRed]; rfl

theorem tmod_bit (x k : Nat) : ((x : Int) / 2 ^ k).tmod 2 = ((x / 2 ^ k % 2 : Nat) : Int) := by
  rw [show ((x : Int) / 2 ^ k) = ((x / 2 ^ k : Nat) : Int) by simp]
  generalize x / 2 ^ k = y
  rw [Int.tmod_eq_emod_of_nonneg (by omega)]; omega
theorem u64_small (z : Nat) (h : z < 32768) : IntKind.u64.wrap (z : Int) = (z : Int) := by
  rw [IntKind.wrap_u64]; omega

set_option maxHeartbeats 1000000 in
theorem refMul_any (a b : Nat) (ha : a < 256) (hb : b < 256) (w : World) :
    Calls Tryd.prog 89 #[.int .u8 (a : Int), .int .u8 (b : Int)] w fun e w' => e = .returned (.int .u8 (fmul a b : Nat)) ∧ w = w' := by
  go_enter Tryd.func89, Tryd.ntmps89
  go_wp2
  go_loop [5, 6] (fun s i => ∃ k : Nat, k ≤ 8 ∧ i = .int .i64 k ∧ s = .int .u64 (refSum a b k : Nat)) (fun _ i => 8 - (intOf i).toNat)
  case atStart => exact ⟨0, Nat.zero_le _, rfl, rfl⟩
  case round =>
    obtain ⟨k, hk, rfl, rfl⟩ := hrel
    have hsl := refSum_lt a b ha k hk
    obtain ⟨s, hs⟩ : ∃ s, refSum a b k = s := ⟨_, rfl⟩
    rw [hs] at hsl ⊢
    have HS := Lib.hid hs
    clear hs
    by_cases hlt : k < 8
    · have hbd := tmod_bit b k
      by_cases hbit : b / 2 ^ k % 2 = 1
      · rw [hbit] at hbd
        have ht : (((b : Int) / 2 ^ k).tmod 2 == 1) = true := by rw [hbd]; rfl
        have hak : a * 2 ^ k < 32768 := by
          have h2 : 2 ^ k ≤ 2 ^ 7 := Nat.pow_le_pow_right (by decide) (by omega)
          have h3 : a * 2 ^ k ≤ 255 * 2 ^ 7 := Nat.mul_le_mul (by omega) h2
          omega
        have HN : Hid (bits .xor .u64 (s : Int) (IntKind.u64.wrap ((a : Int) * 2 ^ k)) = ((refSum a b (k + 1) : Nat) : Int)) := by
          show _ = _
          have e : ((a : Int) * 2 ^ k) = ((a * 2 ^ k : Nat) : Int) := by simp
          rw [e, u64_small _ hak, u64_xor_nat s (a * 2 ^ k) (Nat.lt_trans hsl (by decide)) (Nat.lt_trans hak (by decide)), refSum, if_pos hbit, HS.out]
        clear hbd hbit hak
        go_wp2
        go_round
        case rel => exact ⟨k + 1, by omega, by go_num, by rw [HN.out]⟩
        case measure => simp [intOf]; omega
      · have ht : (((b : Int) / 2 ^ k).tmod 2 == 1) = false := by rw [hbd, beq_eq_false_iff_ne]; omega
        have HN : Hid (refSum a b (k + 1) = s) := by show _ = _; rw [refSum, if_neg hbit, HS.out]
        clear hbd hbit
        go_wp2
        go_round
        case rel => exact ⟨k + 1, by omega, by go_num, by rw [HN.out]⟩
        case measure => simp [intOf]; omega
    · obtain rfl : k = 8 := by omega
      go_wp2
      go_loop [5, 7] (fun t i => ∃ c : Nat, 7 ≤ c ∧ c ≤ 14 ∧ i = .int .i64 c ∧ t = .int .u64 (redFrom s (14 - c) : Nat)) (fun _ i => (intOf i).toNat)
      case atStart => exact ⟨14, by omega, by omega, rfl, rfl⟩
      case round =>
        obtain ⟨c, hc1, hc2, rfl, rfl⟩ := hrel
        have htl := redFrom_lt s hsl (14 - c) (by omega)
        obtain ⟨t, ht⟩ : ∃ t, redFrom s (14 - c) = t := ⟨_, rfl⟩
        rw [ht] at htl ⊢
        have HT := Lib.hid ht
        clear ht
        by_cases hlt : 8 ≤ c
        · have HR : Hid (redFrom s (14 - (c - 1)) = if t / 2 ^ c % 2 = 1 then t ^^^ 285 * 2 ^ (c - 8) else t) := by
            show _ = _
            rw [show 14 - (c - 1) = (14 - c) + 1 by omega]
            show (if redFrom s (14 - c) / 2 ^ (14 - (14 - c)) % 2 = 1 then redFrom s (14 - c) ^^^ 285 * 2 ^ (6 - (14 - c)) else redFrom s (14 - c)) = _
            rw [HT.out, show 14 - (14 - c) = c by omega, show 6 - (14 - c) = c - 8 by omega]
          have hbd := tmod_bit t c
          by_cases hbit : t / 2 ^ c % 2 = 1
          · rw [hbit] at hbd
            have htt : (((t : Int) / 2 ^ c).tmod 2 == 1) = true := by rw [hbd]; rfl
            have h2 : 2 ^ (c - 8) ≤ 2 ^ 6 := Nat.pow_le_pow_right (by decide) (by omega)
            have hcl : 285 * 2 ^ (c - 8) < 32768 := by omega
            have HN : Hid (bits .xor .u64 (t : Int) (IntKind.u64.wrap (285 * 2 ^ (c - 8))) = ((redFrom s (14 - (c - 1)) : Nat) : Int)) := by
              show _ = _
              have e : ((285 : Int) * 2 ^ (c - 8)) = ((285 * 2 ^ (c - 8) : Nat) : Int) := by simp
              rw [e, u64_small _ hcl, u64_xor_nat t _ (Nat.lt_trans htl (by decide)) (Nat.lt_trans hcl (by decide)), HR.out, if_pos hbit]
            clear hbd hbit h2 hcl
            go_wp2
            go_round
            case rel => exact ⟨c - 1, by omega, by omega, by congr 1; omega, by rw [HN.out]⟩
            case measure => simp [intOf]; omega
          · have htt : (((t : Int) / 2 ^ c).tmod 2 == 1) = false := by rw [hbd, beq_eq_false_iff_ne]; omega
            have HN : Hid (redFrom s (14 - (c - 1)) = t) := by show _ = _; rw [HR.out, if_neg hbit]
            clear hbd hbit
            go_wp2
            go_round
            case rel => exact ⟨c - 1, by omega, by omega, by congr 1; omega, by rw [HN.out]⟩
            case measure => simp [intOf]; omega
        · obtain rfl : c = 7 := by omega
          go_wp2
          go_ret
          refine ⟨?_, rfl⟩
          have e : fmul a b = t % 256 := by rw [← refMul_eq ha hb, refMul, HS.out, ← redFrom_all, HT.out]
          rw [e]
          rfl
end Go.Proofs.YtdmijoochgmhiacDoor
