/-
  The sum of 32 bits, in plain Lean: the register is linear; half a byte at once; a burst of 32 bits is seen.
-/
namespace Go.Proofs.YtdmijoochgmhiaaGreatDoor
theorem xor_div_two' (a b : Nat) : (a ^^^ b) / 2 = a / 2 ^^^ b / 2 := by
  apply Nat.eq_of_testBit_eq; intro i
  simp [Nat.testBit_xor, Nat.testBit_div_two]
theorem xor_mod_two' (a b : Nat) : (a ^^^ b) % 2 = (a % 2 + b % 2) % 2 := by
  have h := Nat.testBit_xor a b 0
  simp only [Nat.testBit_zero] at h
  have ha : a % 2 = 0 ∨ a % 2 = 1 := by omega
  have hb : b % 2 = 0 ∨ b % 2 = 1 := by omega
  have hc : (a ^^^ b) % 2 = 0 ∨ (a ^^^ b) % 2 = 1 := by omega
  rcases ha with ha | ha <;> rcases hb with hb | hb <;> rcases hc with hc | hc <;> simp_all

/-- one bit of the sum's register. -/
def crcStep (r : Nat) : Nat := if r % 2 = 1 then r / 2 ^^^ 3988292384 else r / 2
theorem crcStep_xor (a b : Nat) : crcStep (a ^^^ b) = crcStep a ^^^ crcStep b := by
  unfold crcStep
  rw [xor_div_two', xor_mod_two']
  have ha : a % 2 = 0 ∨ a % 2 = 1 := by omega
  have hb : b % 2 = 0 ∨ b % 2 = 1 := by omega
  rcases ha with ha | ha <;> rcases hb with hb | hb <;> simp [ha, hb]
  · ac_rfl
  · ac_rfl
  · have e : a / 2 ^^^ 3988292384 ^^^ (b / 2 ^^^ 3988292384) = a / 2 ^^^ b / 2 ^^^ (3988292384 ^^^ 3988292384) := by ac_rfl
    rw [e, Nat.xor_self, Nat.xor_zero]
theorem crcStep_two (q : Nat) : crcStep (2 * q) = q := by
  unfold crcStep; rw [if_neg (by omega)]; omega
theorem crcStep_lt {r : Nat} (h : r < 4294967296) : crcStep r < 4294967296 := by
  unfold crcStep; split
  · exact Nat.xor_lt_two_pow (n := 32) (by omega) (by omega)
  · omega
theorem crcStep_zero {r : Nat} (h : r < 4294967296) (hz : crcStep r = 0) : r = 0 := by
  unfold crcStep at hz; split at hz
  · have h1 : (r / 2 ^^^ 3988292384).testBit 31 = false := by rw [hz]; exact Nat.zero_testBit 31
    rw [Nat.testBit_xor, Nat.testBit_lt_two_pow (show r / 2 < 2 ^ 31 by omega)] at h1
    exact absurd h1 (by decide)
  · omega
/-- n bits. -/
def crcSteps : Nat → Nat → Nat
  | 0, r => r
  | n + 1, r => crcSteps n (crcStep r)
theorem crcSteps_xor (n : Nat) : ∀ a b, crcSteps n (a ^^^ b) = crcSteps n a ^^^ crcSteps n b := by
  induction n with
  | zero => intro a b; rfl
  | succ n ih => intro a b; show crcSteps n (crcStep _) = crcSteps n (crcStep a) ^^^ crcSteps n (crcStep b); rw [crcStep_xor, ih]
theorem crcSteps_add (n : Nat) : ∀ m r, crcSteps (n + m) r = crcSteps m (crcSteps n r) := by
  induction n with
  | zero => intro m r; rw [Nat.zero_add]; rfl
  | succ n ih => intro m r; rw [Nat.succ_add]; exact ih m (crcStep r)
theorem crcSteps_pow (n : Nat) : ∀ q, crcSteps n (2 ^ n * q) = q := by
  induction n with
  | zero => intro q; show 2 ^ 0 * q = q; omega
  | succ n ih =>
    intro q; show crcSteps n (crcStep _) = q
    have e : 2 ^ (n + 1) * q = 2 * (2 ^ n * q) := by rw [Nat.pow_succ]; ac_rfl
    rw [e, crcStep_two, ih]
theorem crcSteps_lt (n : Nat) : ∀ {r}, r < 4294967296 → crcSteps n r < 4294967296 := by
  induction n with
  | zero => intro r h; exact h
  | succ n ih => intro r h; exact ih (crcStep_lt h)
theorem crcSteps_zero (n : Nat) : ∀ {r}, r < 4294967296 → crcSteps n r = 0 → r = 0 := by
  induction n with
  | zero => intro r _ h; exact h
  | succ n ih => intro r h hz; exact crcStep_zero h (ih (crcStep_lt h) hz)
theorem crcSteps_nought (n : Nat) : crcSteps n 0 = 0 := by
  have := crcSteps_pow n 0; simpa using this

/-- the program's table. -/
def crcTab : List Nat := [0, 498536548, 997073096, 651767980, 1994146192, 1802195444, 1303535960, 1342533948, 3988292384, 4027552580, 3604390888, 3412177804, 2607071920, 2262029012, 2685067896, 3183342108]
theorem crcTab_eq : ∀ k, k < 16 → crcTab.getD k 0 = crcSteps 4 k := by decide
/-- half a byte of the program's. -/
def crcNib (r : Nat) : Nat := r / 16 ^^^ crcTab.getD (r % 16) 0
theorem split16 (r : Nat) : r = 2 ^ 4 * (r / 16) ^^^ r % 16 := by
  have h := Nat.two_pow_add_eq_or_of_lt (i := 4) (b := r % 16) (by omega) (r / 16)
  apply Nat.eq_of_testBit_eq; intro i
  rw [Nat.testBit_xor]
  by_cases hi : i < 4
  · have e1 : (2 ^ 4 * (r / 16)).testBit i = false := by rw [Nat.testBit_two_pow_mul]; simp; omega
    have e2 : (r % 16).testBit i = r.testBit i := by rw [show 16 = 2 ^ 4 by rfl, Nat.testBit_mod_two_pow]; simp [hi]
    rw [e1, e2]; simp
  · have e1 : (2 ^ 4 * (r / 16)).testBit i = r.testBit i := by
      rw [Nat.testBit_two_pow_mul, show 16 = 2 ^ 4 by rfl, Nat.testBit_div_two_pow]
      have : 4 ≤ i := by omega
      simp [this, Nat.sub_add_cancel this]
    have e2 : (r % 16).testBit i = false := by rw [show 16 = 2 ^ 4 by rfl, Nat.testBit_mod_two_pow]; simp [hi]
    rw [e1, e2]; simp
theorem crcNib_eq (r : Nat) : crcNib r = crcSteps 4 r := by
  have h : crcSteps 4 r = crcSteps 4 (2 ^ 4 * (r / 16)) ^^^ crcSteps 4 (r % 16) := by rw [← crcSteps_xor, ← split16]
  rw [h, crcSteps_pow, crcNib, crcTab_eq _ (by omega)]
theorem crcNib_lt {r : Nat} (h : r < 4294967296) : crcNib r < 4294967296 := by rw [crcNib_eq]; exact crcSteps_lt 4 h
/-- a byte. -/
def crcByte (r : Nat) (b : UInt8) : Nat := crcSteps 8 (r ^^^ b.toNat)
theorem crcByte_nib (r : Nat) (b : UInt8) : crcNib (crcNib (r ^^^ b.toNat)) = crcByte r b := by
  rw [crcNib_eq, crcNib_eq, ← crcSteps_add]; rfl
theorem crcByte_lt {r : Nat} (h : r < 4294967296) (b : UInt8) : crcByte r b < 4294967296 :=
  crcSteps_lt 8 (Nat.xor_lt_two_pow (n := 32) h (by have := b.toNat_lt; omega))
/-- bytes. -/
def crcReg (r : Nat) (l : List UInt8) : Nat := l.foldl crcByte r
theorem crcReg_append (r : Nat) (l m : List UInt8) : crcReg r (l ++ m) = crcReg (crcReg r l) m := List.foldl_append
theorem crcReg_lt (l : List UInt8) : ∀ {r}, r < 4294967296 → crcReg r l < 4294967296 := by
  induction l with
  | nil => intro r h; exact h
  | cons b l ih => intro r h; exact ih (crcByte_lt h b)
/-- the bytes as one number, the lowest first. -/
def low : List UInt8 → Nat
  | [] => 0
  | b :: l => b.toNat + 256 * low l
theorem crcReg_low (l : List UInt8) : ∀ r, crcReg r l = crcSteps (8 * l.length) (r ^^^ low l) := by
  induction l with
  | nil => intro r; show r = crcSteps 0 (r ^^^ 0); rw [Nat.xor_zero]; rfl
  | cons b l ih =>
    intro r
    show crcReg (crcByte r b) l = _
    rw [ih, List.length_cons, show 8 * (l.length + 1) = 8 + 8 * l.length by omega, crcSteps_add]
    congr 1
    have hb := b.toNat_lt
    have e : low (b :: l) = b.toNat ^^^ 2 ^ 8 * low l := by
      show b.toNat + 256 * low l = _
      have h := Nat.two_pow_add_eq_or_of_lt (i := 8) (b := b.toNat) (by omega) (low l)
      rw [show b.toNat + 256 * low l = 2 ^ 8 * low l + b.toNat by omega]
      apply Nat.eq_of_testBit_eq; intro i
      rw [h, Nat.testBit_or, Nat.testBit_xor]
      by_cases hi : i < 8
      · have e1 : (2 ^ 8 * low l).testBit i = false := by rw [Nat.testBit_two_pow_mul]; simp; omega
        rw [e1]; simp
      · have e1 : b.toNat.testBit i = false := Nat.testBit_lt_two_pow (Nat.lt_of_lt_of_le (show b.toNat < 2 ^ 8 by omega) (Nat.pow_le_pow_right (by omega) (by omega)))
        rw [e1]; simp
    rw [e, ← Nat.xor_assoc, crcSteps_xor, crcSteps_pow]
    rfl
theorem low_lt : ∀ l : List UInt8, low l < 256 ^ l.length
  | [] => by simp [low]
  | b :: l => by
    have h := low_lt l; have hb := b.toNat_lt
    show b.toNat + 256 * low l < 256 ^ (l.length + 1)
    rw [Nat.pow_succ]; omega
/-- one bit of bytes, turned. -/
def flip (l : List UInt8) (j : Nat) : List UInt8 := l.set (j / 8) (l.getD (j / 8) 0 ^^^ UInt8.ofNat (2 ^ (j % 8)))
theorem flip_length (l : List UInt8) (j : Nat) : (flip l j).length = l.length := by simp [flip]
theorem xor_shift (a b n : Nat) : 2 ^ n * a ^^^ 2 ^ n * b = 2 ^ n * (a ^^^ b) := by
  apply Nat.eq_of_testBit_eq; intro i
  simp only [Nat.testBit_xor, Nat.testBit_two_pow_mul]
  by_cases h : n ≤ i <;> simp [h]
theorem low_cons (b : UInt8) (l : List UInt8) : low (b :: l) = b.toNat ^^^ 2 ^ 8 * low l := by
  have hb := b.toNat_lt
  show b.toNat + 256 * low l = _
  have h := Nat.two_pow_add_eq_or_of_lt (i := 8) (b := b.toNat) (by omega) (low l)
  rw [show b.toNat + 256 * low l = 2 ^ 8 * low l + b.toNat by omega]
  apply Nat.eq_of_testBit_eq; intro i
  rw [h, Nat.testBit_or, Nat.testBit_xor]
  by_cases hi : i < 8
  · have e1 : (2 ^ 8 * low l).testBit i = false := by rw [Nat.testBit_two_pow_mul]; simp; omega
    rw [e1]; simp
  · have e1 : b.toNat.testBit i = false := Nat.testBit_lt_two_pow (Nat.lt_of_lt_of_le (show b.toNat < 2 ^ 8 by omega) (Nat.pow_le_pow_right (by omega) (by omega)))
    rw [e1]; simp
theorem low_flip : ∀ (l : List UInt8) (j : Nat), j < 8 * l.length → low (flip l j) = low l ^^^ 2 ^ j
  | [], j, h => by simp at h
  | b :: l, j, h => by
    by_cases hj : j < 8
    · have e0 : j / 8 = 0 := by omega
      have e1 : j % 8 = j := by omega
      have hp : 2 ^ j < 256 := by
        have : 2 ^ j < 2 ^ 8 := Nat.pow_lt_pow_right (by omega) hj
        omega
      have e2 : (b ^^^ UInt8.ofNat (2 ^ j)).toNat = b.toNat ^^^ 2 ^ j := by
        rw [UInt8.toNat_xor, UInt8.toNat_ofNat', Nat.mod_eq_of_lt (by omega)]
      simp only [flip, e0, e1, List.set_cons_zero, List.getD_cons_zero]
      rw [low_cons, low_cons, e2]; ac_rfl
    · have e0 : j / 8 = (j - 8) / 8 + 1 := by omega
      have e1 : j % 8 = (j - 8) % 8 := by omega
      have ih := low_flip l (j - 8) (by simp at h; omega)
      have e2 : flip (b :: l) j = b :: flip l (j - 8) := by simp only [flip, e0, e1, List.set_cons_succ, List.getD_cons_succ]
      rw [e2, low_cons, low_cons, ih, ← xor_shift, ← Nat.pow_add, show 8 + (j - 8) = j by omega]; ac_rfl
/-- what was turned behind k of the pattern's bits. -/
def turns (n first p : Nat) : Nat → Nat
  | 0 => 0
  | k + 1 => if p / 2 ^ k % 2 = 1 ∧ first + k < n then turns n first p k ^^^ 2 ^ (first + k) else turns n first p k
theorem turns_form (n first p : Nat) : ∀ k, ∃ q, turns n first p k = 2 ^ first * q ∧ q < 2 ^ k
  | 0 => ⟨0, by simp [turns], by simp⟩
  | k + 1 => by
    obtain ⟨q, h, hq⟩ := turns_form n first p k
    have hle : 2 ^ k < 2 ^ (k + 1) := Nat.pow_lt_pow_right (by omega) (by omega)
    unfold turns; split
    · exact ⟨q ^^^ 2 ^ k, by rw [h, Nat.pow_add, xor_shift], Nat.xor_lt_two_pow (by omega) hle⟩
    · exact ⟨q, h, by omega⟩
theorem turns_lt (n first p : Nat) : ∀ k, turns n first p k < 2 ^ n
  | 0 => by simp [turns]; exact Nat.two_pow_pos n
  | k + 1 => by
    unfold turns; split
    · rename_i h; exact Nat.xor_lt_two_pow (turns_lt n first p k) (Nat.pow_lt_pow_right (by omega) h.2)
    · exact turns_lt n first p k
/-- is one turned? -/
def turned (n first p : Nat) : Nat → Bool
  | 0 => false
  | k + 1 => if p / 2 ^ k % 2 = 1 ∧ first + k < n then true else turned n first p k
theorem turned_iff (n first p : Nat) : ∀ k, turned n first p k = true ↔ turns n first p k ≠ 0
  | 0 => by simp [turned, turns]
  | k + 1 => by
    unfold turned turns
    by_cases h : p / 2 ^ k % 2 = 1 ∧ first + k < n
    · rw [if_pos h, if_pos h]
      simp only [true_iff]
      obtain ⟨q, e, hq⟩ := turns_form n first p k
      intro hz
      have hz' : (2 ^ first * q ^^^ 2 ^ (first + k)).testBit (first + k) = false := by rw [← e, hz]; exact Nat.zero_testBit _
      rw [Nat.testBit_xor, Nat.testBit_two_pow_mul, Nat.testBit_two_pow_self] at hz'
      have : q.testBit (first + k - first) = false := Nat.testBit_lt_two_pow (by rw [Nat.add_sub_cancel_left]; exact hq)
      rw [this] at hz'; simp at hz'
    · rw [if_neg h, if_neg h]; exact turned_iff n first p k
/-- the bytes behind k of the pattern's bits. -/
def burst (l : List UInt8) (first p : Nat) : Nat → List UInt8
  | 0 => l
  | k + 1 => if p / 2 ^ k % 2 = 1 ∧ first + k < 8 * l.length then flip (burst l first p k) (first + k) else burst l first p k
theorem burst_length (l : List UInt8) (first p : Nat) : ∀ k, (burst l first p k).length = l.length
  | 0 => rfl
  | k + 1 => by
    unfold burst; split
    · rw [flip_length]; exact burst_length l first p k
    · exact burst_length l first p k
theorem low_burst (l : List UInt8) (first p : Nat) : ∀ k, low (burst l first p k) = low l ^^^ turns (8 * l.length) first p k
  | 0 => by simp [burst, turns]
  | k + 1 => by
    unfold burst turns; split
    · rename_i h
      rw [low_flip _ _ (by rw [burst_length]; exact h.2), low_burst l first p k, Nat.xor_assoc]
    · exact low_burst l first p k
/-- THE LAW: a burst of 32 bits is seen. -/
theorem crc_burst (r : Nat) (l : List UInt8) (first p : Nat) (hf : first < 8 * l.length) :
    crcReg r (burst l first p 32) = crcReg r l ↔ turned (8 * l.length) first p 32 = false := by
  have hiff := turned_iff (8 * l.length) first p 32
  have e : crcReg r (burst l first p 32) = crcReg r l ^^^ crcSteps (8 * l.length) (turns (8 * l.length) first p 32) := by
    rw [crcReg_low, crcReg_low, burst_length, low_burst, ← Nat.xor_assoc, crcSteps_xor]
  have hz : crcSteps (8 * l.length) (turns (8 * l.length) first p 32) = 0 ↔ turns (8 * l.length) first p 32 = 0 := by
    constructor
    · intro h
      obtain ⟨q, eq, hq⟩ := turns_form (8 * l.length) first p 32
      rw [eq, show 8 * l.length = first + (8 * l.length - first) by omega, crcSteps_add, crcSteps_pow] at h
      rw [eq, crcSteps_zero _ (by omega) h, Nat.mul_zero]
    · intro h; rw [h, crcSteps_nought]
  have hb : turned (8 * l.length) first p 32 = false ↔ turns (8 * l.length) first p 32 = 0 := by
    cases ht : turned (8 * l.length) first p 32
    · simp only [true_iff]; apply Classical.byContradiction; intro h; rw [hiff.2 h] at ht; cases ht
    · simp only [reduceCtorEq, false_iff]; exact hiff.1 ht
  rw [hb, ← hz, e]
  constructor
  · intro h
    have : crcReg r l ^^^ (crcReg r l ^^^ crcSteps (8 * l.length) (turns (8 * l.length) first p 32)) = crcReg r l ^^^ crcReg r l := by rw [h]
    rw [← Nat.xor_assoc, Nat.xor_self, Nat.zero_xor] at this; exact this
  · intro h; rw [h, Nat.xor_zero]
end Go.Proofs.YtdmijoochgmhiaaGreatDoor
