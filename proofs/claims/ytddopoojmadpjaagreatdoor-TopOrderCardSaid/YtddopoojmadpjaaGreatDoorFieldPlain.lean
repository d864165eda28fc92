/-
  Bytes that can be divided, in plain Lean: the product is bilinear, commutative, associative; every byte but 0 has one inverse; the document's product, power and remainder are the same.
-/
namespace Go.Proofs.YtddopoojmadpjaaGreatDoor
/-- x times 2, below 256. -/
def xt (a : Nat) : Nat := if a / 128 % 2 = 1 then a * 2 % 256 ^^^ 29 else a * 2 % 256
/-- the program's product, k rounds: product, a, b. -/
def mulTo : Nat → Nat → Nat → Nat → Nat
  | 0, p, _, _ => p
  | k + 1, p, a, b => mulTo k (if b % 2 = 1 then p ^^^ a else p) (xt a) (b / 2)
def fmul (a b : Nat) : Nat := mulTo 8 0 a b
/-- the document's: the sum, k rounds from i on. -/
def refSum (a b : Nat) : Nat → Nat
  | 0 => 0
  | k + 1 => if b / 2 ^ k % 2 = 1 then refSum a b k ^^^ a * 2 ^ k else refSum a b k
/-- the document's: rounds of the remainder, of the power i + 7 first. -/
def refRed : Nat → Nat → Nat
  | 0, s => s
  | k + 1, s => refRed k (if s / 2 ^ (k + 8) % 2 = 1 then s ^^^ 285 * 2 ^ k else s)
def refMul (a b : Nat) : Nat := refRed 7 (refSum a b 8) % 256

theorem xt_lt (a : Nat) : xt a < 256 := by
  unfold xt; split
  · exact Nat.xor_lt_two_pow (n := 8) (by omega) (by omega)
  · omega
theorem xor_div_pow (a b n : Nat) : (a ^^^ b) / 2 ^ n = a / 2 ^ n ^^^ b / 2 ^ n := by
  apply Nat.eq_of_testBit_eq; intro i; simp [Nat.testBit_xor, Nat.testBit_div_two_pow]
theorem xor_mod_pow (a b n : Nat) : (a ^^^ b) % 2 ^ n = a % 2 ^ n ^^^ b % 2 ^ n := by
  apply Nat.eq_of_testBit_eq; intro i; simp only [Nat.testBit_xor, Nat.testBit_mod_two_pow]; by_cases h : i < n <;> simp [h]
theorem xor_mul_pow (a b n : Nat) : (a ^^^ b) * 2 ^ n = a * 2 ^ n ^^^ b * 2 ^ n := by
  apply Nat.eq_of_testBit_eq; intro i; simp only [Nat.testBit_xor, Nat.testBit_mul_two_pow]; by_cases h : n ≤ i <;> simp [h]
theorem bit01 (a : Nat) : a % 2 = 0 ∨ a % 2 = 1 := by omega
theorem xor_bit (a b : Nat) : (a ^^^ b) % 2 = (a % 2 + b % 2) % 2 := by
  have h := Nat.testBit_xor a b 0
  simp only [Nat.testBit_zero] at h
  rcases bit01 a with ha | ha <;> rcases bit01 b with hb | hb <;> rcases bit01 (a ^^^ b) with hc | hc <;> simp_all
/-- if a bit, x. -/
def on (c x : Nat) : Nat := if c % 2 = 1 then x else 0
theorem on_xor (c d x : Nat) : on (c ^^^ d) x = on c x ^^^ on d x := by
  unfold on; rw [xor_bit]
  rcases bit01 c with ha | ha <;> rcases bit01 d with hb | hb <;> simp [ha, hb]
theorem on_xor' (c x y : Nat) : on c (x ^^^ y) = on c x ^^^ on c y := by
  unfold on; split <;> simp
theorem xt_on (a : Nat) : xt a = a * 2 % 256 ^^^ on (a / 128) 29 := by
  unfold xt on; split <;> simp
theorem xor4 (a b c d : Nat) : (a ^^^ b) ^^^ (c ^^^ d) = (a ^^^ c) ^^^ (b ^^^ d) := by ac_rfl
theorem xt_xor (a b : Nat) : xt (a ^^^ b) = xt a ^^^ xt b := by
  rw [xt_on, xt_on, xt_on, xor4]
  have e1 := xor_div_pow a b 7
  have e2 := xor_mul_pow a b 1
  have e3 := xor_mod_pow (a * 2) (b * 2) 8
  simp only [Nat.reducePow] at e1 e2 e3
  rw [e1, on_xor, e2, e3]
theorem mulTo_xor : ∀ (k p q a c b : Nat), mulTo k (p ^^^ q) (a ^^^ c) b = mulTo k p a b ^^^ mulTo k q c b
  | 0, _, _, _, _, _ => rfl
  | k + 1, p, q, a, c, b => by
    show mulTo k _ (xt (a ^^^ c)) _ = mulTo k _ (xt a) _ ^^^ mulTo k _ (xt c) _
    rw [xt_xor, ← mulTo_xor k]
    congr 1
    split <;> first | exact xor4 _ _ _ _ | rfl
theorem mulTo_xor' : ∀ (k p q a b c : Nat), mulTo k (p ^^^ q) a (b ^^^ c) = mulTo k p a b ^^^ mulTo k q a c
  | 0, _, _, _, _, _ => rfl
  | k + 1, p, q, a, b, c => by
    have e := xor_div_pow b c 1
    simp only [Nat.reducePow] at e
    show mulTo k _ (xt a) ((b ^^^ c) / 2) = mulTo k _ (xt a) _ ^^^ mulTo k _ (xt a) _
    rw [e, ← mulTo_xor' k]
    congr 1
    rw [xor_bit]
    rcases bit01 b with h1 | h1 <;> rcases bit01 c with h2 | h2 <;> simp [h1, h2]
    · ac_rfl
    · ac_rfl
    · have : p ^^^ a ^^^ (q ^^^ a) = p ^^^ q ^^^ (a ^^^ a) := by ac_rfl
      rw [this, Nat.xor_self, Nat.xor_zero]
theorem fmul_xor (a c b : Nat) : fmul (a ^^^ c) b = fmul a b ^^^ fmul c b := by
  have := mulTo_xor 8 0 0 a c b; simpa [fmul] using this
theorem fmul_xor' (a b c : Nat) : fmul a (b ^^^ c) = fmul a b ^^^ fmul a c := by
  have := mulTo_xor' 8 0 0 a b c; simpa [fmul] using this
theorem mulTo_lt : ∀ (k p a b : Nat), p < 256 → a < 256 → mulTo k p a b < 256
  | 0, _, _, _, h, _ => h
  | k + 1, p, a, b, h, ha => mulTo_lt k _ _ _ (by split; exact Nat.xor_lt_two_pow (n := 8) h ha; exact h) (xt_lt a)
theorem fmul_lt {a : Nat} (h : a < 256) (b : Nat) : fmul a b < 256 := mulTo_lt 8 0 a b (by decide) h
/-- what is linear, and alike at eight powers, is alike below 256. -/
theorem lin_ext {f g : Nat → Nat} (hf : ∀ a b, f (a ^^^ b) = f a ^^^ f b) (hg : ∀ a b, g (a ^^^ b) = g a ^^^ g b) (h : ∀ i, i < 8 → f (2 ^ i) = g (2 ^ i)) :
    ∀ a, a < 256 → f a = g a := by
  have z : ∀ {f : Nat → Nat}, (∀ a b, f (a ^^^ b) = f a ^^^ f b) → f 0 = 0 := fun {f} hf => by
    have := hf 0 0; rw [Nat.xor_self, Nat.xor_self] at this; exact this
  have key : ∀ n, n ≤ 8 → ∀ a, a < 2 ^ n → f a = g a := by
    intro n
    induction n with
    | zero => intro _ a ha; obtain rfl : a = 0 := by simpa using ha
              rw [z hf, z hg]
    | succ n ih =>
      intro hn a ha
      by_cases hlt : a < 2 ^ n
      · exact ih (by omega) a hlt
      · have hp := Nat.pow_succ (n := 2) (m := n)
        have e : a = 2 ^ n ^^^ (a - 2 ^ n) := by
          have h := Nat.two_pow_add_eq_or_of_lt (i := n) (b := a - 2 ^ n) (by omega) 1
          apply Nat.eq_of_testBit_eq; intro i
          rw [Nat.testBit_xor]
          have h2 : a = 2 ^ n ||| (a - 2 ^ n) := by rw [Nat.mul_one] at h; rw [← h]; omega
          have h3 : a.testBit i = ((2 ^ n).testBit i || (a - 2 ^ n).testBit i) := by
            rw [← Nat.testBit_or, ← h2]
          rw [h3, Nat.testBit_two_pow]
          by_cases hi : n = i
          · subst hi; rw [Nat.testBit_lt_two_pow (show a - 2 ^ n < 2 ^ n by omega)]; simp
          · simp [hi]
        rw [e, hf, hg, h n (by omega), ih (by omega) _ (by omega)]
  exact fun a ha => key 8 (Nat.le_refl _) a (by simpa using ha)
theorem fmul_comm {a b : Nat} (ha : a < 256) (hb : b < 256) : fmul a b = fmul b a := by
  have base : ∀ i, i < 8 → ∀ j, j < 8 → fmul (2 ^ i) (2 ^ j) = fmul (2 ^ j) (2 ^ i) := by decide +kernel
  refine lin_ext (f := fun a => fmul a b) (g := fun a => fmul b a) (fun x y => fmul_xor x y b) (fun x y => fmul_xor' b x y) (fun i hi => ?_) a ha
  exact lin_ext (f := fun b => fmul (2 ^ i) b) (g := fun b => fmul b (2 ^ i)) (fun x y => fmul_xor' _ x y) (fun x y => fmul_xor x y _) (fun j hj => base i hi j hj) b hb
theorem fmul_assoc {a b c : Nat} (ha : a < 256) (hb : b < 256) (hc : c < 256) : fmul (fmul a b) c = fmul a (fmul b c) := by
  have base : ∀ i, i < 8 → ∀ j, j < 8 → ∀ k, k < 8 → fmul (fmul (2 ^ i) (2 ^ j)) (2 ^ k) = fmul (2 ^ i) (fmul (2 ^ j) (2 ^ k)) := by decide +kernel
  refine lin_ext (f := fun a => fmul (fmul a b) c) (g := fun a => fmul a (fmul b c)) (fun x y => by simp only [fmul_xor]) (fun x y => by simp only [fmul_xor]) (fun i hi => ?_) a ha
  refine lin_ext (f := fun b => fmul (fmul (2 ^ i) b) c) (g := fun b => fmul (2 ^ i) (fmul b c)) (fun x y => by simp only [fmul_xor, fmul_xor']) (fun x y => by simp only [fmul_xor, fmul_xor']) (fun j hj => ?_) b hb
  exact lin_ext (f := fun c => fmul (fmul (2 ^ i) (2 ^ j)) c) (g := fun c => fmul (2 ^ i) (fmul (2 ^ j) c)) (fun x y => by simp only [fmul_xor']) (fun x y => by simp only [fmul_xor']) (fun k hk => base i hi j hj k hk) c hc
theorem fmul_one {a : Nat} (ha : a < 256) : fmul a 1 = a :=
  lin_ext (f := fun a => fmul a 1) (g := fun a => a) (fun x y => fmul_xor x y 1) (fun _ _ => rfl) (by decide +kernel) a ha
theorem one_fmul {a : Nat} (ha : a < 256) : fmul 1 a = a := by rw [fmul_comm (by decide) ha, fmul_one ha]
theorem fmul_zero (a : Nat) : fmul a 0 = 0 := by have := fmul_xor' a 0 0; rw [Nat.xor_self, Nat.xor_self] at this; exact this
theorem zero_fmul (a : Nat) : fmul 0 a = 0 := by have := fmul_xor 0 0 a; rw [Nat.xor_self, Nat.xor_self] at this; exact this
/-- a to the n. -/
def fpow (a : Nat) : Nat → Nat
  | 0 => 1
  | n + 1 => fmul (fpow a n) a
theorem fpow_lt (a : Nat) : ∀ n, fpow a n < 256
  | 0 => by show 1 < 256; decide
  | n + 1 => fmul_lt (fpow_lt a n) a
theorem fpow_add {a : Nat} (ha : a < 256) (m : Nat) : ∀ n, fpow a (m + n) = fmul (fpow a m) (fpow a n)
  | 0 => (fmul_one (fpow_lt a m)).symm
  | n + 1 => by show fmul (fpow a (m + n)) a = fmul _ (fmul (fpow a n) a); rw [fpow_add ha m n, fmul_assoc (fpow_lt a m) (fpow_lt a n) ha]
theorem fpow_mul {a : Nat} (ha : a < 256) (m : Nat) : ∀ n, fpow a (m * n) = fpow (fpow a m) n
  | 0 => rfl
  | n + 1 => by rw [Nat.mul_succ, fpow_add ha, fpow_mul ha m n]; rfl
def fsq (a : Nat) : Nat := fmul a a
theorem fpow_two {a : Nat} (ha : a < 256) (n : Nat) : fpow a (2 * n) = fpow (fsq a) n := by
  rw [fpow_mul ha]; show fpow (fmul (fmul 1 a) a) n = _; rw [one_fmul ha]; rfl
theorem fsq_lt {a : Nat} (ha : a < 256) : fsq a < 256 := fmul_lt ha a
theorem fpow_odd {a : Nat} (ha : a < 256) (n : Nat) : fpow a (2 * n + 1) = fmul (fpow (fsq a) n) a := by
  show fmul (fpow a (2 * n)) a = _; rw [fpow_two ha]
/-- a to the 255. -/
def f255 (a : Nat) : Nat :=
  let b := fsq a; let c := fsq b; let d := fsq c; let e := fsq d; let f := fsq e; let g := fsq f; let h := fsq g
  fmul (fmul (fmul (fmul (fmul (fmul (fmul h g) f) e) d) c) b) a
theorem fpow_255' {a : Nat} (ha : a < 256) : fpow a 255 = f255 a := by
  have h1 := fsq_lt ha
  have h2 := fsq_lt h1
  have h3 := fsq_lt h2
  have h4 := fsq_lt h3
  have h5 := fsq_lt h4
  have h6 := fsq_lt h5
  have h7 := fsq_lt h6
  rw [show 255 = 2 * 127 + 1 by rfl, fpow_odd ha, show 127 = 2 * 63 + 1 by rfl, fpow_odd h1, show 63 = 2 * 31 + 1 by rfl, fpow_odd h2, show 31 = 2 * 15 + 1 by rfl, fpow_odd h3,
    show 15 = 2 * 7 + 1 by rfl, fpow_odd h4, show 7 = 2 * 3 + 1 by rfl, fpow_odd h5, show 3 = 2 * 1 + 1 by rfl, fpow_odd h6]
  show fmul (fmul (fmul (fmul (fmul (fmul (fmul (fmul 1 _) _) _) _) _) _) _) _ = _
  rw [one_fmul h7]; rfl
theorem f255_one : ∀ a, a < 256 → a ≠ 0 → f255 a = 1 := by decide +kernel
theorem fpow_255 {a : Nat} (ha : a < 256) (h0 : a ≠ 0) : fpow a 255 = 1 := by rw [fpow_255' ha]; exact f255_one a ha h0
theorem fpow_one' (n : Nat) : fpow 1 n = 1 := by
  induction n with
  | zero => rfl
  | succ n ih => show fmul (fpow 1 n) 1 = 1; rw [ih]; exact fmul_one (by decide)
theorem fpow_mod {a : Nat} (ha : a < 256) (h0 : a ≠ 0) (n : Nat) : fpow a (n % 255) = fpow a n := by
  have e : n = 255 * (n / 255) + n % 255 := by omega
  conv => rhs; rw [e]
  rw [fpow_add ha, fpow_mul ha, fpow_255 ha h0, fpow_one', one_fmul (fpow_lt a _)]
/-- the inverse. -/
def finv (a : Nat) : Nat := fpow a 254
theorem finv_lt (a : Nat) : finv a < 256 := fpow_lt a 254
theorem finv_fmul {a : Nat} (ha : a < 256) (h0 : a ≠ 0) : fmul (finv a) a = 1 := fpow_255 ha h0
theorem fmul_finv {a : Nat} (ha : a < 256) (h0 : a ≠ 0) : fmul a (finv a) = 1 := by rw [fmul_comm ha (finv_lt a), finv_fmul ha h0]
theorem inv_unique {a b : Nat} (ha : a < 256) (hb : b < 256) (h : fmul a b = 1) : b = finv a := by
  have h0 : a ≠ 0 := by intro h0; subst h0; rw [zero_fmul] at h; cases h
  have : fmul (finv a) (fmul a b) = finv a := by rw [h, fmul_one (finv_lt a)]
  rw [← fmul_assoc (finv_lt a) ha hb, finv_fmul ha h0, one_fmul hb] at this; exact this
/-- the document's and the program's products are alike. -/
theorem refSum_xor (a c b : Nat) : ∀ k, refSum (a ^^^ c) b k = refSum a b k ^^^ refSum c b k
  | 0 => by simp [refSum]
  | k + 1 => by
    unfold refSum; rw [refSum_xor a c b k]; split
    · rw [xor_mul_pow, xor4]
    · rfl
theorem refSum_on (a b k : Nat) : refSum a b (k + 1) = refSum a b k ^^^ on (b / 2 ^ k) (a * 2 ^ k) := by
  rw [refSum]; unfold on; split <;> simp
theorem refSum_xor' (a b c : Nat) : ∀ k, refSum a (b ^^^ c) k = refSum a b k ^^^ refSum a c k
  | 0 => by simp [refSum]
  | k + 1 => by rw [refSum_on, refSum_on, refSum_on, refSum_xor' a b c k, xor_div_pow, on_xor, xor4]
theorem refRed_xor : ∀ (k s t : Nat), refRed k (s ^^^ t) = refRed k s ^^^ refRed k t
  | 0, _, _ => rfl
  | k + 1, s, t => by
    have e : ∀ s, (if s / 2 ^ (k + 8) % 2 = 1 then s ^^^ 285 * 2 ^ k else s) = s ^^^ on (s / 2 ^ (k + 8)) (285 * 2 ^ k) := fun s => by unfold on; split <;> simp
    show refRed k _ = refRed k _ ^^^ refRed k _
    rw [e, e, e, ← refRed_xor k, xor_div_pow, on_xor, xor4]
theorem refMul_xor (a c b : Nat) : refMul (a ^^^ c) b = refMul a b ^^^ refMul c b := by
  unfold refMul; rw [refSum_xor, refRed_xor]; exact xor_mod_pow _ _ 8
theorem refMul_xor' (a b c : Nat) : refMul a (b ^^^ c) = refMul a b ^^^ refMul a c := by
  unfold refMul; rw [refSum_xor', refRed_xor]; exact xor_mod_pow _ _ 8
theorem refMul_eq {a b : Nat} (ha : a < 256) (hb : b < 256) : refMul a b = fmul a b := by
  have base : ∀ i, i < 8 → ∀ j, j < 8 → refMul (2 ^ i) (2 ^ j) = fmul (2 ^ i) (2 ^ j) := by decide +kernel
  refine lin_ext (f := fun a => refMul a b) (g := fun a => fmul a b) (fun x y => refMul_xor x y b) (fun x y => fmul_xor x y b) (fun i hi => ?_) a ha
  exact lin_ext (f := fun b => refMul (2 ^ i) b) (g := fun b => fmul (2 ^ i) b) (fun x y => refMul_xor' _ x y) (fun x y => fmul_xor' _ x y) (fun j hj => base i hi j hj) b hb
/-- the document's power, by the digits: enough rounds. -/
def powTo : Nat → Nat → Nat → Nat → Nat
  | 0, p, _, _ => p
  | k + 1, p, a, n => if n = 0 then p else powTo k (if n % 2 = 1 then fmul p a else p) (fmul a a) (n / 2)
theorem powTo_eq : ∀ (k p a n : Nat), p < 256 → a < 256 → n < 2 ^ k → powTo k p a n = fmul p (fpow a n)
  | 0, p, a, n, hp, _, hn => by obtain rfl : n = 0 := by simpa using hn
                                exact (fmul_one hp).symm
  | k + 1, p, a, n, hp, ha, hn => by
    unfold powTo
    by_cases h0 : n = 0
    · subst h0; rw [if_pos rfl]; exact (fmul_one hp).symm
    · rw [if_neg h0]
      have hn2 : n / 2 < 2 ^ k := by rw [Nat.pow_succ] at hn; omega
      by_cases h1 : n % 2 = 1
      · rw [if_pos h1, powTo_eq k _ _ _ (fmul_lt hp a) (fmul_lt ha a) hn2, fmul_assoc hp ha (fpow_lt _ _)]
        congr 1
        have e : n = 2 * (n / 2) + 1 := by omega
        conv => rhs; rw [e, fpow_odd ha]
        exact fmul_comm ha (fpow_lt _ _)
      · rw [if_neg h1, powTo_eq k _ _ _ hp (fmul_lt ha a) hn2]
        congr 1
        have e : n = 2 * (n / 2) := by omega
        conv => rhs; rw [e, fpow_two ha]
        rfl
theorem fpow_zero_base {n : Nat} (h : n ≠ 0) : fpow 0 n = 0 := by
  cases n with
  | zero => exact absurd rfl h
  | succ n => exact fmul_zero _
theorem fmul_eq_zero {a b : Nat} (ha : a < 256) (hb : b < 256) (h : fmul a b = 0) (hb0 : b ≠ 0) : a = 0 := by
  have : fmul (fmul a b) (finv b) = 0 := by rw [h, zero_fmul]
  rw [fmul_assoc ha hb (finv_lt b), fmul_finv hb hb0, fmul_one ha] at this; exact this
end Go.Proofs.YtddopoojmadpjaaGreatDoor
