/-
  The sum of 32 bits, in plain Lean: the register is linear; half a byte at once; a burst of 32 bits is seen.
  The walks of package sum.
  The walks of packet.Length, and of the document's.
  The walk of bytes.Clone.
  The walk of packet.Read.
  What row.Read reads lies in a block of its own.
-/
import Derived.Test.YtddopoojmadpjaaGreatDoorRows
import Derived.Test.YtddopoojmadpjaaGreatDoorBase
import Derived.Test.YtddopoojmadpjaaGreatDoorAppend
import Derived.Deep.QuietTactic
import Derived.BigQuiet
import Derived.Test.YtddopoojmadpjaaGreatDoorHead
import Derived.Test.YtddopoojmadpjaaGreatDoorMix
import Derived.Test.YtddopoojmadpjaaGreatDoorPlan
import Derived.Test.YtddopoojmadpjaaGreatDoorRegion
namespace Go.Proofs.YtddopoojmadpjaaGreatDoor
theorem xor_div_two' (a b : Nat) : (a ^^^ b) / 2 = a / 2 ^^^ b / 2 := by
  apply Nat.eq_of_testBit_eq; intro i
  simp [Nat.testBit_xor, Nat.testBit_div_two]
theorem xor_mod_two' (a b : Nat) : (a ^^^ b) % 2 = (a % 2 + b % 2) % 2 := by
  have h := Nat.testBit_xor a b 0
  simp only [Nat.testBit_zero] at h
  have ha : a % 2 = 0 ∨ a % 2 = 1 := by omega
  have hb : b % 2 = 0 ∨ b % 2 = 1 := by omega
  have hc : (a ^^^ b) % 2 = 0 ∨ (a ^^^ b) % 2 = 1 := by omega
  rcases ha with ha | ha <;> rcases hb with hb | hb <;> rcases hc with hc | hc <;> simp_all

/-- one bit of the sum's register. -/
def crcStep (r : Nat) : Nat := if r % 2 = 1 then r / 2 ^^^ 3988292384 else r / 2
theorem crcStep_xor (a b : Nat) : crcStep (a ^^^ b) = crcStep a ^^^ crcStep b := by
  unfold crcStep
  rw [xor_div_two', xor_mod_two']
  have ha : a % 2 = 0 ∨ a % 2 = 1 := by omega
  have hb : b % 2 = 0 ∨ b % 2 = 1 := by omega
  rcases ha with ha | ha <;> rcases hb with hb | hb <;> simp [ha, hb]
  · ac_rfl
  · ac_rfl
  · have e : a / 2 ^^^ 3988292384 ^^^ (b / 2 ^^^ 3988292384) = a / 2 ^^^ b / 2 ^^^ (3988292384 ^^^ 3988292384) := by ac_rfl
    rw [e, Nat.xor_self, Nat.xor_zero]
theorem crcStep_two (q : Nat) : crcStep (2 * q) = q := by
  unfold crcStep; rw [if_neg (by omega)]; omega
theorem crcStep_lt {r : Nat} (h : r < 4294967296) : crcStep r < 4294967296 := by
  unfold crcStep; split
  · exact Nat.xor_lt_two_pow (n := 32) (by omega) (by omega)
  · omega
theorem crcStep_zero {r : Nat} (h : r < 4294967296) (hz : crcStep r = 0) : r = 0 := by
  unfold crcStep at hz; split at hz
  · have h1 : (r / 2 ^^^ 3988292384).testBit 31 = false := by rw [hz]; exact Nat.zero_testBit 31
    rw [Nat.testBit_xor, Nat.testBit_lt_two_pow (show r / 2 < 2 ^ 31 by omega)] at h1
    exact absurd h1 (by decide)
  · omega
/-- n bits. -/
def crcSteps : Nat → Nat → Nat
  | 0, r => r
  | n + 1, r => crcSteps n (crcStep r)
theorem crcSteps_xor (n : Nat) : ∀ a b, crcSteps n (a ^^^ b) = crcSteps n a ^^^ crcSteps n b := by
  induction n with
  | zero => intro a b; rfl
  | succ n ih => intro a b; show crcSteps n (crcStep _) = crcSteps n (crcStep a) ^^^ crcSteps n (crcStep b); rw [crcStep_xor, ih]
theorem crcSteps_add (n : Nat) : ∀ m r, crcSteps (n + m) r = crcSteps m (crcSteps n r) := by
  induction n with
  | zero => intro m r; rw [Nat.zero_add]; rfl
  | succ n ih => intro m r; rw [Nat.succ_add]; exact ih m (crcStep r)
theorem crcSteps_pow (n : Nat) : ∀ q, crcSteps n (2 ^ n * q) = q := by
  induction n with
  | zero => intro q; show 2 ^ 0 * q = q; omega
  | succ n ih =>
    intro q; show crcSteps n (crcStep _) = q
    have e : 2 ^ (n + 1) * q = 2 * (2 ^ n * q) := by rw [Nat.pow_succ]; ac_rfl
    rw [e, crcStep_two, ih]
theorem crcSteps_lt (n : Nat) : ∀ {r}, r < 4294967296 → crcSteps n r < 4294967296 := by
  induction n with
  | zero => intro r h; exact h
  | succ n ih => intro r h; exact ih (crcStep_lt h)
theorem crcSteps_zero (n : Nat) : ∀ {r}, r < 4294967296 → crcSteps n r = 0 → r = 0 := by
  induction n with
  | zero => intro r _ h; exact h
  | succ n ih => intro r h hz; exact crcStep_zero h (ih (crcStep_lt h) hz)
theorem crcSteps_nought (n : Nat) : crcSteps n 0 = 0 := by
  have := crcSteps_pow n 0; simpa using this

/-- the program's table. -/
def crcTab : List Nat := [0, 498536548, 997073096, 651767980, 1994146192, 1802195444, 1303535960, 1342533948, 3988292384, 4027552580, 3604390888, 3412177804, 2607071920, 2262029012, 2685067896, 3183342108]
theorem crcTab_eq : ∀ k, k < 16 → crcTab.getD k 0 = crcSteps 4 k := by decide
/-- half a byte of the program's. -/
def crcNib (r : Nat) : Nat := r / 16 ^^^ crcTab.getD (r % 16) 0
theorem split16 (r : Nat) : r = 2 ^ 4 * (r / 16) ^^^ r % 16 := by
  have h := Nat.two_pow_add_eq_or_of_lt (i := 4) (b := r % 16) (by omega) (r / 16)
  apply Nat.eq_of_testBit_eq; intro i
  rw [Nat.testBit_xor]
  by_cases hi : i < 4
  · have e1 : (2 ^ 4 * (r / 16)).testBit i = false := by rw [Nat.testBit_two_pow_mul]; simp; omega
    have e2 : (r % 16).testBit i = r.testBit i := by rw [show 16 = 2 ^ 4 by rfl, Nat.testBit_mod_two_pow]; simp [hi]
    rw [e1, e2]; simp
  · have e1 : (2 ^ 4 * (r / 16)).testBit i = r.testBit i := by
      rw [Nat.testBit_two_pow_mul, show 16 = 2 ^ 4 by rfl, Nat.testBit_div_two_pow]
      have : 4 ≤ i := by omega
      simp [this, Nat.sub_add_cancel this]
    have e2 : (r % 16).testBit i = false := by rw [show 16 = 2 ^ 4 by rfl, Nat.testBit_mod_two_pow]; simp [hi]
    rw [e1, e2]; simp
theorem crcNib_eq (r : Nat) : crcNib r = crcSteps 4 r := by
  have h : crcSteps 4 r = crcSteps 4 (2 ^ 4 * (r / 16)) ^^^ crcSteps 4 (r % 16) := by rw [← crcSteps_xor, ← split16]
  rw [h, crcSteps_pow, crcNib, crcTab_eq _ (by omega)]
theorem crcNib_lt {r : Nat} (h : r < 4294967296) : crcNib r < 4294967296 := by rw [crcNib_eq]; exact crcSteps_lt 4 h
/-- a byte. -/
def crcByte (r : Nat) (b : UInt8) : Nat := crcSteps 8 (r ^^^ b.toNat)
theorem crcByte_nib (r : Nat) (b : UInt8) : crcNib (crcNib (r ^^^ b.toNat)) = crcByte r b := by
  rw [crcNib_eq, crcNib_eq, ← crcSteps_add]; rfl
theorem crcByte_lt {r : Nat} (h : r < 4294967296) (b : UInt8) : crcByte r b < 4294967296 :=
  crcSteps_lt 8 (Nat.xor_lt_two_pow (n := 32) h (by have := b.toNat_lt; omega))
/-- bytes. -/
def crcReg (r : Nat) (l : List UInt8) : Nat := l.foldl crcByte r
theorem crcReg_append (r : Nat) (l m : List UInt8) : crcReg r (l ++ m) = crcReg (crcReg r l) m := List.foldl_append
theorem crcReg_lt (l : List UInt8) : ∀ {r}, r < 4294967296 → crcReg r l < 4294967296 := by
  induction l with
  | nil => intro r h; exact h
  | cons b l ih => intro r h; exact ih (crcByte_lt h b)
/-- the bytes as one number, the lowest first. -/
def low : List UInt8 → Nat
  | [] => 0
  | b :: l => b.toNat + 256 * low l
theorem crcReg_low (l : List UInt8) : ∀ r, crcReg r l = crcSteps (8 * l.length) (r ^^^ low l) := by
  induction l with
  | nil => intro r; show r = crcSteps 0 (r ^^^ 0); rw [Nat.xor_zero]; rfl
  | cons b l ih =>
    intro r
    show crcReg (crcByte r b) l = _
    rw [ih, List.length_cons, show 8 * (l.length + 1) = 8 + 8 * l.length by omega, crcSteps_add]
    congr 1
    have hb := b.toNat_lt
    have e : low (b :: l) = b.toNat ^^^ 2 ^ 8 * low l := by
      show b.toNat + 256 * low l = _
      have h := Nat.two_pow_add_eq_or_of_lt (i := 8) (b := b.toNat) (by omega) (low l)
      rw [show b.toNat + 256 * low l = 2 ^ 8 * low l + b.toNat by omega]
      apply Nat.eq_of_testBit_eq; intro i
      rw [h, Nat.testBit_or, Nat.testBit_xor]
      by_cases hi : i < 8
      · have e1 : (2 ^ 8 * low l).testBit i = false := by rw [Nat.testBit_two_pow_mul]; simp; omega
        rw [e1]; simp
      · have e1 : b.toNat.testBit i = false := Nat.testBit_lt_two_pow (Nat.lt_of_lt_of_le (show b.toNat < 2 ^ 8 by omega) (Nat.pow_le_pow_right (by omega) (by omega)))
        rw [e1]; simp
    rw [e, ← Nat.xor_assoc, crcSteps_xor, crcSteps_pow]
    rfl
theorem low_lt : ∀ l : List UInt8, low l < 256 ^ l.length
  | [] => by simp [low]
  | b :: l => by
    have h := low_lt l; have hb := b.toNat_lt
    show b.toNat + 256 * low l < 256 ^ (l.length + 1)
    rw [Nat.pow_succ]; omega
/-- one bit of bytes, turned. -/
def flip (l : List UInt8) (j : Nat) : List UInt8 := l.set (j / 8) (l.getD (j / 8) 0 ^^^ UInt8.ofNat (2 ^ (j % 8)))
theorem flip_length (l : List UInt8) (j : Nat) : (flip l j).length = l.length := by simp [flip]
theorem xor_shift (a b n : Nat) : 2 ^ n * a ^^^ 2 ^ n * b = 2 ^ n * (a ^^^ b) := by
  apply Nat.eq_of_testBit_eq; intro i
  simp only [Nat.testBit_xor, Nat.testBit_two_pow_mul]
  by_cases h : n ≤ i <;> simp [h]
theorem low_cons (b : UInt8) (l : List UInt8) : low (b :: l) = b.toNat ^^^ 2 ^ 8 * low l := by
  have hb := b.toNat_lt
  show b.toNat + 256 * low l = _
  have h := Nat.two_pow_add_eq_or_of_lt (i := 8) (b := b.toNat) (by omega) (low l)
  rw [show b.toNat + 256 * low l = 2 ^ 8 * low l + b.toNat by omega]
  apply Nat.eq_of_testBit_eq; intro i
  rw [h, Nat.testBit_or, Nat.testBit_xor]
  by_cases hi : i < 8
  · have e1 : (2 ^ 8 * low l).testBit i = false := by rw [Nat.testBit_two_pow_mul]; simp; omega
    rw [e1]; simp
  · have e1 : b.toNat.testBit i = false := Nat.testBit_lt_two_pow (Nat.lt_of_lt_of_le (show b.toNat < 2 ^ 8 by omega) (Nat.pow_le_pow_right (by omega) (by omega)))
    rw [e1]; simp
theorem low_flip : ∀ (l : List UInt8) (j : Nat), j < 8 * l.length → low (flip l j) = low l ^^^ 2 ^ j
  | [], j, h => by simp at h
  | b :: l, j, h => by
    by_cases hj : j < 8
    · have e0 : j / 8 = 0 := by omega
      have e1 : j % 8 = j := by omega
      have hp : 2 ^ j < 256 := by
        have : 2 ^ j < 2 ^ 8 := Nat.pow_lt_pow_right (by omega) hj
        omega
      have e2 : (b ^^^ UInt8.ofNat (2 ^ j)).toNat = b.toNat ^^^ 2 ^ j := by
        rw [UInt8.toNat_xor, UInt8.toNat_ofNat', Nat.mod_eq_of_lt (by omega)]
      simp only [flip, e0, e1, List.set_cons_zero, List.getD_cons_zero]
      rw [low_cons, low_cons, e2]; ac_rfl
    · have e0 : j / 8 = (j - 8) / 8 + 1 := by omega
      have e1 : j % 8 = (j - 8) % 8 := by omega
      have ih := low_flip l (j - 8) (by simp at h; omega)
      have e2 : flip (b :: l) j = b :: flip l (j - 8) := by simp only [flip, e0, e1, List.set_cons_succ, List.getD_cons_succ]
      rw [e2, low_cons, low_cons, ih, ← xor_shift, ← Nat.pow_add, show 8 + (j - 8) = j by omega]; ac_rfl
/-- what was turned behind k of the pattern's bits. -/
def turns (n first p : Nat) : Nat → Nat
  | 0 => 0
  | k + 1 => if p / 2 ^ k % 2 = 1 ∧ first + k < n then turns n first p k ^^^ 2 ^ (first + k) else turns n first p k
theorem turns_form (n first p : Nat) : ∀ k, ∃ q, turns n first p k = 2 ^ first * q ∧ q < 2 ^ k
  | 0 => ⟨0, by simp [turns], by simp⟩
  | k + 1 => by
    obtain ⟨q, h, hq⟩ := turns_form n first p k
    have hle : 2 ^ k < 2 ^ (k + 1) := Nat.pow_lt_pow_right (by omega) (by omega)
    unfold turns; split
    · exact ⟨q ^^^ 2 ^ k, by rw [h, Nat.pow_add, xor_shift], Nat.xor_lt_two_pow (by omega) hle⟩
    · exact ⟨q, h, by omega⟩
theorem turns_lt (n first p : Nat) : ∀ k, turns n first p k < 2 ^ n
  | 0 => by simp [turns]; exact Nat.two_pow_pos n
  | k + 1 => by
    unfold turns; split
    · rename_i h; exact Nat.xor_lt_two_pow (turns_lt n first p k) (Nat.pow_lt_pow_right (by omega) h.2)
    · exact turns_lt n first p k
/-- is one turned? -/
def turned (n first p : Nat) : Nat → Bool
  | 0 => false
  | k + 1 => if p / 2 ^ k % 2 = 1 ∧ first + k < n then true else turned n first p k
theorem turned_iff (n first p : Nat) : ∀ k, turned n first p k = true ↔ turns n first p k ≠ 0
  | 0 => by simp [turned, turns]
  | k + 1 => by
    unfold turned turns
    by_cases h : p / 2 ^ k % 2 = 1 ∧ first + k < n
    · rw [if_pos h, if_pos h]
      simp only [true_iff]
      obtain ⟨q, e, hq⟩ := turns_form n first p k
      intro hz
      have hz' : (2 ^ first * q ^^^ 2 ^ (first + k)).testBit (first + k) = false := by rw [← e, hz]; exact Nat.zero_testBit _
      rw [Nat.testBit_xor, Nat.testBit_two_pow_mul, Nat.testBit_two_pow_self] at hz'
      have : q.testBit (first + k - first) = false := Nat.testBit_lt_two_pow (by rw [Nat.add_sub_cancel_left]; exact hq)
      rw [this] at hz'; simp at hz'
    · rw [if_neg h, if_neg h]; exact turned_iff n first p k
/-- the bytes behind k of the pattern's bits. -/
def burst (l : List UInt8) (first p : Nat) : Nat → List UInt8
  | 0 => l
  | k + 1 => if p / 2 ^ k % 2 = 1 ∧ first + k < 8 * l.length then flip (burst l first p k) (first + k) else burst l first p k
theorem burst_length (l : List UInt8) (first p : Nat) : ∀ k, (burst l first p k).length = l.length
  | 0 => rfl
  | k + 1 => by
    unfold burst; split
    · rw [flip_length]; exact burst_length l first p k
    · exact burst_length l first p k
theorem low_burst (l : List UInt8) (first p : Nat) : ∀ k, low (burst l first p k) = low l ^^^ turns (8 * l.length) first p k
  | 0 => by simp [burst, turns]
  | k + 1 => by
    unfold burst turns; split
    · rename_i h
      rw [low_flip _ _ (by rw [burst_length]; exact h.2), low_burst l first p k, Nat.xor_assoc]
    · exact low_burst l first p k
/-- THE LAW: a burst of 32 bits is seen. -/
theorem crc_burst (r : Nat) (l : List UInt8) (first p : Nat) (hf : first < 8 * l.length) :
    crcReg r (burst l first p 32) = crcReg r l ↔ turned (8 * l.length) first p 32 = false := by
  have hiff := turned_iff (8 * l.length) first p 32
  have e : crcReg r (burst l first p 32) = crcReg r l ^^^ crcSteps (8 * l.length) (turns (8 * l.length) first p 32) := by
    rw [crcReg_low, crcReg_low, burst_length, low_burst, ← Nat.xor_assoc, crcSteps_xor]
  have hz : crcSteps (8 * l.length) (turns (8 * l.length) first p 32) = 0 ↔ turns (8 * l.length) first p 32 = 0 := by
    constructor
    · intro h
      obtain ⟨q, eq, hq⟩ := turns_form (8 * l.length) first p 32
      rw [eq, show 8 * l.length = first + (8 * l.length - first) by omega, crcSteps_add, crcSteps_pow] at h
      rw [eq, crcSteps_zero _ (by omega) h, Nat.mul_zero]
    · intro h; rw [h, crcSteps_nought]
  have hb : turned (8 * l.length) first p 32 = false ↔ turns (8 * l.length) first p 32 = 0 := by
    cases ht : turned (8 * l.length) first p 32
    · simp only [true_iff]; apply Classical.byContradiction; intro h; rw [hiff.2 h] at ht; cases ht
    · simp only [reduceCtorEq, false_iff]; exact hiff.1 ht
  rw [hb, ← hz, e]
  constructor
  · intro h
    have : crcReg r l ^^^ (crcReg r l ^^^ crcSteps (8 * l.length) (turns (8 * l.length) first p 32)) = crcReg r l ^^^ crcReg r l := by rw [h]
    rw [← Nat.xor_assoc, Nat.xor_self, Nat.zero_xor] at this; exact this
  · intro h; rw [h, Nat.xor_zero]
end Go.Proofs.YtddopoojmadpjaaGreatDoor

namespace Go.Proofs.YtddopoojmadpjaaGreatDoor
open Go.RowKit

theorem info8 : (Tryz.prog.info? 5).map (fun i => (i.zero, i.size, i.bytes)) = some (some (.int .u8 0), 1, 1) := by kernel_rfl

/-- the table of half bytes. -/
def Tab (w : World) : Prop := ∀ k, k < 16 → w.cell? ⟨0, k, none⟩ = some (.int .u32 ((crcTab.getD k 0 : Nat) : Int))
theorem tab_of_is {W : World} (h : ∀ k, k < 16 → W.cell? ⟨0, k, none⟩ = some (.int .u32 (([0, 498536548, 997073096, 651767980, 1994146192, 1802195444, 1303535960, 1342533948, 3988292384, 4027552580, 3604390888, 3412177804, 2607071920, 2262029012, 2685067896, 3183342108] : List Int).getD k 0))) : Tab W := by
  intro k hk
  rw [h k hk]
  have : ∀ k, k < 16 → ([0, 498536548, 997073096, 651767980, 1994146192, 1802195444, 1303535960, 1342533948, 3988292384, 4027552580, 3604390888, 3412177804, 2607071920, 2262029012, 2685067896, 3183342108] : List Int).getD k 0 = ((crcTab.getD k 0 : Nat) : Int) := by decide
  rw [this k hk]
theorem Tab.below {w w' : World} (h : Tab w) (hb : Gr w w') : Tab w' := fun k hk => hb.cell (h k hk)

/-- k half bytes. -/
def nibs : Nat → Nat → Nat
  | 0, r => r
  | k + 1, r => crcNib (nibs k r)
theorem nibs_lt (k : Nat) {r : Nat} (h : r < 4294967296) : nibs k r < 4294967296 := by
  induction k with
  | zero => exact h
  | succ k ih => exact crcNib_lt ih

theorem u32_and15 (r : Nat) (h : r < 4294967296) : bits .and .u32 (r : Int) 15 = ((r % 16 : Nat) : Int) := by
  rw [show (15 : Int) = ((15 : Nat) : Int) by rfl, u32_and_nat r 15 h (by decide)]
  have := Nat.and_two_pow_sub_one_eq_mod r 4
  simp at this; rw [this]

theorem u32_not (r : Nat) (h : r < 4294967296) : bits .xor .u32 IntKind.u32.max (r : Int) = ((4294967295 - r : Nat) : Int) := by
  rw [show IntKind.u32.max = ((4294967295 : Nat) : Int) by rfl, u32_xor_nat _ r (by decide) h]
  congr 1
  apply Nat.eq_of_testBit_eq; intro i
  rw [Nat.testBit_xor]
  have h1 := Nat.testBit_two_pow_sub_succ (n := 32) (x := r) (by simpa using h) i
  have h2 := Nat.testBit_two_pow_sub_one 32 i
  simp only [Nat.reducePow, Nat.reduceSub] at h1 h2
  rw [show 4294967295 - r = 4294967296 - (r + 1) by omega, h1, h2]
  by_cases hi : i < 32
  · simp [hi]
  · have : r.testBit i = false := Nat.testBit_lt_two_pow (Nat.lt_of_lt_of_le (show r < 2 ^ 32 by simpa using h) (Nat.pow_le_pow_right (by omega) (by omega)))
    simp [hi, this]

set_option maxHeartbeats 400000 in
theorem start_any (w : World) :
    Calls Tryz.prog 112 #[] w fun e w' => e = .returned (.agg #[.int .u32 4294967295]) ∧ Gr w w' := by
  go_enter Tryz.func112, Tryz.ntmps112
  go_wp2
  exact bodyPost_ret (v := .agg #[.int .u32 4294967295]) (by simp [results, Tryz.results112, go_sem]) rfl ⟨rfl, (Gr.refl _).alloc _⟩
set_option maxHeartbeats 400000 in
theorem sum_any (r : Nat) (h : r < 4294967296) (w : World) :
    Calls Tryz.prog 114 #[.agg #[.int .u32 (r : Int)]] w fun e w' => e = .returned (.int .u32 ((4294967295 - r : Nat) : Int)) ∧ Gr w w' := by
  have hn := u32_not r h
  go_enter Tryz.func114, Tryz.ntmps114
  go_wp2
  all_goals (first | (exfalso; revert ‹IntKind.u32.signed = true›; decide) | skip)
  go_ret
  exact ⟨rfl, (Gr.refl _).alloc _⟩

/-- the world of a running sum: its own two blocks. -/
def Run (w : World) (c : Nat) (wr : World) : Prop := Gr w wr ∧ wr.heap[w.heap.size]? = some (.cells #[.int .u32 (c : Int)] 189 (0, 0)) ∧ wr.heap[w.heap.size + 1]? = some (.cells #[.int .u32 0] 189 (0, 0))
theorem Run.cell {w wr : World} {c : Nat} (h : Run w c wr) : wr.cell? ⟨w.heap.size, 0, none⟩ = some (.int .u32 (c : Int)) := cell_of_one h.2.1
theorem Run.free {w wr : World} {c : Nat} (h : Run w c wr) : wr.frozen? ⟨w.heap.size, 0, none⟩ = false := free_of_one h.2.1
theorem Run.set {w wr : World} {c d : Nat} (h : Run w c wr) : Run w d (wr.setCell ⟨w.heap.size, 0, none⟩ (.int .u32 (d : Int))) :=
  ⟨h.1.setCell (Nat.le_refl _) _, one_setCell h.2.1, by rw [Below.heap_setCell _ _ _ _ (by simp)]; exact h.2.2⟩
theorem Run.drew {w wr : World} {c : Nat} (h : Run w c wr) : Run w c wr.drew := ⟨h.1.drew, h.2.1, h.2.2⟩

theorem Run.cell2 {w wr : World} {c : Nat} (h : Run w c wr) : wr.cell? ⟨w.heap.size + 1, 0, none⟩ = some (.int .u32 0) := cell_of_one h.2.2
theorem Run.free2 {w wr : World} {c : Nat} (h : Run w c wr) : wr.frozen? ⟨w.heap.size + 1, 0, none⟩ = false := free_of_one h.2.2
theorem Run.start (w : World) (c : Nat) : Run w c ((w.alloc (.cells #[.int .u32 (c : Int)] 189)).alloc (.cells #[.int .u32 0] 189)) :=
  ⟨((Gr.refl _).alloc _).alloc _, by rw [Below.heap_alloc _ _ _ (by simp)]; exact heap_alloc_new _ _, by have := heap_alloc_new (w.alloc (.cells #[.int .u32 (c : Int)] 189)) (.cells #[.int .u32 0] 189); simpa using this⟩

set_option maxHeartbeats 1000000 in
theorem with_any (r : Nat) (hr : r < 4294967296) (a : Option Addr) (len cap : Nat) (ls : List (List UInt8)) (w : World) (htab : Tab w) (hs : Bss w a len cap ls) :
    Calls Tryz.prog 113 #[.agg #[.int .u32 (r : Int)], .slice a len cap] w fun e w' => e = .returned (.agg #[.int .u32 (crcReg r ls.flatten : Nat)]) ∧ Gr w w' := by
  have Hh : Hid _ := hs.1
  have hm : len ≤ 9223372036854775807 := by have h1 := hs.2.1; have h2 := hs.2.2.1; unfold maxLen at h2; omega
  go_enter Tryz.func113, Tryz.ntmps113
  go_wp2
  go_loopw [11] (fun i wr => ∃ k : Nat, k ≤ len ∧ i = .int .i64 k ∧ Run w (crcReg r (ls.take k).flatten) wr) (fun i _ => len - (intOf i).toNat)
  case atStart =>
    exact ⟨0, Nat.zero_le _, rfl, Run.start w _⟩
  case round =>
    obtain ⟨k, hk, rfl, hrun⟩ := hrel
    have hb1 : Hid (Gr w wr) := hrun.1
    by_cases hlt : k < len
    · obtain ⟨b, off, rfl, hb⟩ := hs.at_ (by omega)
      obtain ⟨l, a', len', cap', hl, hc0, hbs⟩ := hs.get hlt
      have hc : wr.cell? ⟨b, off + k, none⟩ = some (.slice a' len' cap') := hb1.out.cell hc0
      clear hc0
      have hm' : len' ≤ 9223372036854775807 := by have h1 := hbs.2.1; have h2 := hbs.2.2.1; unfold maxLen at h2; omega
      have Hl : Hid _ := hl
      have Hlen : Hid _ := hbs.1
      clear hl
      obtain ⟨c, hcc⟩ : ∃ c, crcReg r (ls.take k).flatten = c := ⟨_, rfl⟩
      rw [hcc] at hrun
      have Hc : Hid _ := hcc
      clear hcc
      have hclt : c < 4294967296 := by rw [← Hc.out]; exact crcReg_lt _ hr
      go_wp2
      go_loopw [17] (fun i wr' => ∃ j : Nat, j ≤ len' ∧ i = .int .i64 j ∧ Run w (crcReg c (l.take j)) wr') (fun i _ => len' - (intOf i).toNat)
      case atStart => exact ⟨0, Nat.zero_le _, rfl, hrun⟩
      case round =>
        obtain ⟨j, hj, rfl, hrun1⟩ := hrel
        have hb2 : Hid (Gr w wr) := hrun1.1
        by_cases hlj : j < len'
        · obtain ⟨b', off', rfl, _, _⟩ := hbs.at_ (by omega)
          obtain ⟨x, hx, hcx⟩ := (hbs.below hb2.out).get hlj
          obtain ⟨d, hdd⟩ : ∃ d, crcReg c (l.take j) = d := ⟨_, rfl⟩
          rw [hdd] at hrun1
          have Hd : Hid _ := hdd
          have Hx : Hid _ := hx
          clear hdd hx
          have hdlt : d < 4294967296 := by rw [← Hd.out]; exact crcReg_lt _ hclt
          have hx256 := x.toNat_lt
          have hcell := hrun1.cell
          have hfree := hrun1.free
          have hxor := u32_xor_nat d x.toNat hdlt (by omega)
          go_wp2
          have hrun2 := hrun1.set (d := d ^^^ x.toNat)
          have hq : Hid (d ^^^ x.toNat < 4294967296) := Nat.xor_lt_two_pow (n := 32) hdlt (by omega)
          clear hcell hfree hxor hrun1 hc hcx
          go_loopw [27] (fun i wr' => ∃ m : Nat, m ≤ 2 ∧ i = .int .i64 m ∧ Run w (nibs m (d ^^^ x.toNat)) wr') (fun i _ => 2 - (intOf i).toNat)
          case atStart => exact ⟨0, Nat.zero_le _, rfl, hrun2⟩
          case round =>
            obtain ⟨m, hm2, rfl, hrun3⟩ := hrel
            by_cases hlm : m < 2
            · have hb3 : Hid (Gr w wr) := hrun3.1
              obtain ⟨q, hqq⟩ : ∃ q, nibs m (d ^^^ x.toNat) = q := ⟨_, rfl⟩
              have hqlt : q < 4294967296 := by rw [← hqq]; exact nibs_lt m hq.out
              rw [hqq] at hrun3
              have Hq : Hid _ := hqq
              clear hqq
              have hcell := hrun3.cell
              have hfree := hrun3.free
              have h15 := u32_and15 q hqlt
              obtain ⟨T, hT⟩ : ∃ T, crcTab.getD (q % 16) 0 = T := ⟨_, rfl⟩
              have hct : wr.cell? ⟨0, q % 16, none⟩ = some (.int .u32 (T : Int)) := by
                rw [hb3.out.cell (htab (q % 16) (by omega)), hT]
              have HT : Hid _ := hT
              clear hT
              have hTlt : T < 4294967296 := by
                rw [← HT.out]; have : ∀ k, k < 16 → crcTab.getD k 0 < 4294967296 := by decide
                exact this _ (by omega)
              have hxor := u32_xor_nat (q / 16) T (by omega) hTlt
              rw [show ((q / 16 : Nat) : Int) = (q : Int) / 16 by omega] at hxor
              have hnew : Hid (nibs (m + 1) (d ^^^ x.toNat) = q / 16 ^^^ T) := by show crcNib (nibs m _) = _; rw [Hq.out, crcNib, HT.out]
              go_wp2
              go_region
              go_wp2
              go_roundw
              case rel => exact ⟨m + 1, by omega, by go_num, by rw [hnew.out]; exact hrun3.set.drew⟩
              case measure => simp [intOf]; omega
            · obtain rfl : m = 2 := by omega
              go_wp2
              go_roundw
              case rel =>
                refine ⟨j + 1, by omega, by go_num, ?_⟩
                have e : crcReg c (l.take (j + 1)) = nibs 2 (d ^^^ x.toNat) := by
                  rw [List.take_add_one, Hx.out, crcReg_append, Hd.out]
                  exact (crcByte_nib d x).symm
                rw [e]; exact hrun3
              case measure => simp [intOf]; omega
        · clear hbs
          go_wp2
          go_roundw
          case rel => 
            obtain rfl : j = len' := by omega
            refine ⟨k + 1, by omega, by go_num, ?_⟩
            have e : crcReg r (ls.take (k + 1)).flatten = crcReg c (l.take j) := by
              rw [List.take_add_one, Hl.out, List.flatten_append, crcReg_append, Hc.out, List.take_of_length_le (by rw [Hlen.out]; exact Nat.le_refl _)]
              simp
            rw [e]; exact hrun1
          case measure => simp [intOf]; omega
    · have hc1 := hrun.cell
      have hf1 := hrun.free
      have hc2 := hrun.cell2
      have hf2 := hrun.free2
      go_wp2
      obtain rfl : k = len := by omega
      have hq := cell_of_one (one_setCell (u := .int .u32 (crcReg r (ls.take k).flatten : Nat)) hrun.2.2)
      exact bodyPost_ret (v := .agg #[.int .u32 (crcReg r (ls.take k).flatten : Nat)]) (by simp [results, Tryz.results113, go_sem, hq]) rfl
        ⟨by rw [List.take_of_length_le (by rw [Hh.out]; exact Nat.le_refl _)], hb1.out.setCell (by simp) _⟩
/-- the sum of bytes. -/
def crc (l : List UInt8) : Nat := 4294967295 - crcReg 4294967295 l
theorem crc_lt (l : List UInt8) : crc l < 4294967296 := by unfold crc; omega

set_option maxHeartbeats 400000 in
theorem of_any (a : Option Addr) (len cap : Nat) (ls : List (List UInt8)) (w : World) (htab : Tab w) (hs : Bss w a len cap ls) :
    Calls Tryz.prog 74 #[.slice a len cap] w fun e w' => e = .returned (.int .u32 (crc ls.flatten : Nat)) ∧ Gr w w' := by
  go_enter Tryz.func74, Tryz.ntmps74
  go_wp2_with fail
  refine (start_any _).mono ?_
  rintro e w1 ⟨rfl, hb1⟩
  go_wp2_with fail
  refine (with_any 4294967295 (by decide) a len cap ls w1 (htab.below hb1) (hs.below hb1)).mono ?_
  rintro e w2 ⟨rfl, hb2⟩
  go_wp2_with fail
  refine (sum_any (crcReg 4294967295 ls.flatten) (crcReg_lt _ (by decide)) _).mono ?_
  rintro e w3 ⟨rfl, hb3⟩
  go_wp2
  go_ret
  exact ⟨rfl, (hb1.trans hb2).trans hb3⟩

end Go.Proofs.YtddopoojmadpjaaGreatDoor

namespace Go.Proofs.YtddopoojmadpjaaGreatDoor
open Go.RowKit
set_option linter.unusedVariables false

/-- with how many bytes a packet is written; what is wrong. -/
def lenE (n s q : Int) (mode : Nat) : Nat := if planErr n s q ≠ 0 then planErr n s q else widthE mode q
def lenN (n s q : Int) (mode : Nat) : Int := if lenE n s q mode ≠ 0 then 0 else 14 + widthN mode q + s
theorem lenE_zero {n s q : Int} {mode : Nat} (h : lenE n s q mode = 0) : planErr n s q = 0 ∧ widthE mode q = 0 := by
  unfold lenE at h
  by_cases a : planErr n s q ≠ 0
  · rw [if_pos a] at h; exact absurd h a
  rw [if_neg a] at h
  exact ⟨by simpa using a, h⟩
theorem widthN_le {mode : Nat} {k : Int} : 0 ≤ widthN mode k ∧ widthN mode k ≤ 4096 := by
  unfold widthN
  split
  · omega
  · split
    · omega
    · split <;> omega
theorem p_four_cells {W : World} {R : Nat} {v0 v1 v2 v3 : Value} {t : TypeId} (h : W.heap[R]? = some (.cells #[v0, v1, v2, v3] t)) :
    W.cell? ⟨R, 0, none⟩ = some v0 ∧ W.cell? ⟨R, 1, none⟩ = some v1 ∧ W.cell? ⟨R, 2, none⟩ = some v2 ∧ W.cell? ⟨R, 3, none⟩ = some v3 := by
  refine ⟨?_, ?_, ?_, ?_⟩ <;> simp [World.cell?, h]

set_option maxHeartbeats 1000000 in
theorem packLength_any (n s q : Int) (id : Int) (mode : Nat) (hlo : -9223372036854775808 ≤ n) (hm : n ≤ 9223372036854775807) (hsl : -9223372036854775808 ≤ s) (hsm : s ≤ 9223372036854775807) (w : World) :
    Calls Tryz.prog 84 #[.agg #[.int .i64 n, .int .i64 s, .int .i64 q, .int .u32 id], .int .u8 (mode : Int)] w fun e w' => e = .returned (.tuple #[.int .i64 (lenN n s q mode), .int .i64 (lenE n s q mode : Nat)]) ∧ Gr w w' := by
  have CC := planCheck_any n s q id hlo hm hsl hsm
  by_cases hP : planErr n s q = 0
  · have he : lenE n s q mode = widthE mode q := by rw [lenE, if_neg (by simpa using hP)]
    rw [hP] at CC
    have HC := Lib.hid CC
    have hsp := planFit_zero (planErr_zero hP).1
    have CW := width_any mode q
    by_cases hW : widthE mode q = 0
    · have hn : Hid (lenN n s q mode = 14 + widthN mode q + s) := by show _ = _; rw [lenN, if_neg (by rw [he, hW]; simp)]
      have he2 : Hid (lenE n s q mode = 0) := by show _ = _; rw [he, hW]
      have hwl := widthN_le (mode := mode) (k := q)
      rw [hW] at CW
      obtain ⟨W, hWe⟩ : ∃ W, widthN mode q = W := ⟨_, rfl⟩
      rw [hWe] at CW hn hwl
      have HW := Lib.hid CW
      obtain ⟨_, hs1, hs2, _⟩ := hsp
      obtain ⟨hw1, hw2⟩ := hwl
      clear CC CW hP he hW hWe
      go_enter Tryz.func84, Tryz.ntmps84
      go_wp2_with fail
      refine (HC.out _).mono ?_
      rintro e w1 ⟨rfl, hg⟩
      obtain ⟨c0, c1, c2, c3⟩ := p_four_cells (hg.heap (heap_alloc_new w _))
      have hgw := ((Gr.refl w).alloc _).trans hg
      clear hg
      go_wp2_with fail
      refine (HW.out _).mono ?_
      rintro e w2 ⟨rfl, rfl⟩
      go_wp2
      go_ret2
      exact ⟨by rw [hn.out, he2.out, show (14 : Int) + W + s = 10 + W + s + 4 by omega]; rfl, hgw⟩
    · have hn : Hid (lenN n s q mode = 0) := by show _ = _; rw [lenN, if_pos (by rw [he]; exact hW)]
      have he2 := Lib.hid he
      obtain ⟨E, hE⟩ : ∃ E, widthE mode q = E := ⟨_, rfl⟩
      rw [hE] at CW hW
      have HE := Lib.hid hE
      have HW := Lib.hid CW
      have ht : ((E : Int) != 0) = true := by rw [bne_iff_ne]; omega
      clear CC CW hP he hW hE hsp
      go_enter Tryz.func84, Tryz.ntmps84
      go_wp2_with fail
      refine (HC.out _).mono ?_
      rintro e w1 ⟨rfl, hg⟩
      obtain ⟨c0, c1, c2, c3⟩ := p_four_cells (hg.heap (heap_alloc_new w _))
      have hgw := ((Gr.refl w).alloc _).trans hg
      clear hg
      go_wp2_with fail
      refine (HW.out _).mono ?_
      rintro e w2 ⟨rfl, rfl⟩
      go_wp2
      go_ret2
      exact ⟨by rw [hn.out, he2.out, HE.out]; rfl, hgw⟩
  · have he : lenE n s q mode = planErr n s q := by rw [lenE, if_pos hP]
    have hn : Hid (lenN n s q mode = 0) := by show _ = _; rw [lenN, if_pos (by rw [he]; exact hP)]
    have he2 := Lib.hid he
    obtain ⟨E, hE⟩ : ∃ E, planErr n s q = E := ⟨_, rfl⟩
    rw [hE] at CC hP
    have HE := Lib.hid hE
    have HC := Lib.hid CC
    have ht : ((E : Int) != 0) = true := by rw [bne_iff_ne]; omega
    clear CC hP he hE
    go_enter Tryz.func84, Tryz.ntmps84
    go_wp2_with fail
    refine (HC.out _).mono ?_
    rintro e w1 ⟨rfl, hg⟩
    have hgw := ((Gr.refl w).alloc _).trans hg
    clear hg
    go_wp2
    go_ret2
    exact ⟨by rw [hn.out, he2.out, HE.out]; rfl, hgw⟩

end Go.Proofs.YtddopoojmadpjaaGreatDoor

namespace Go.Proofs.YtddopoojmadpjaaGreatDoor
open Go.RowKit
set_option linter.unusedVariables false

set_option maxHeartbeats 1000000 in
theorem byteClone_own (a : Option Addr) (len cap : Nat) (l : List UInt8) (w : World) (hs : Bs w a len cap l) (hm : len ≤ 140737488355328) :
    Calls Tryz.prog 87 #[.slice a len cap] w fun e w' => ∃ v, e = .returned v ∧ OwnV w' w.heap.size v l ∧ Gr w w' := by
  have hnl := fun (w : World) => Lib.run_eql_slice_nil (P := Tryz.prog) w 22 5 a len cap 0 0 Tryz.underlying22
  cases a with
  | none =>
    obtain rfl : cap = 0 := hs.2.2.2.1 rfl
    obtain rfl : len = 0 := by have := hs.2.1; omega
    obtain rfl : l = [] := List.eq_nil_of_length_eq_zero hs.1
    go_enter Tryz.func87, Tryz.ntmps87
    go_wp2
    go_ret
    exact ⟨_, rfl, OwnV.nil _ _, Gr.refl _⟩
  | some ad =>
    have hown : OwnV (w.alloc (.cells #[] 5)) w.heap.size (.slice (some ⟨w.heap.size, 0, none⟩) 0 0) [] := OwnV.made (Nat.le_refl _) rfl rfl (Nat.zero_le _)
    have hsrc : Bs (w.alloc (.cells #[] 5)) (some ad) len cap l := hs.below ((Gr.refl _).alloc _)
    have hq : ([] : List UInt8).length + len ≤ 140737488355328 := by simpa using hm
    have hbase : w.heap.size ≤ (w.alloc (.cells #[] 5)).heap.size := ((Gr.refl w).alloc _).size
    go_enter Tryz.func87, Tryz.ntmps87
    go_wp2_with (at_builtin; refine wpList_append_bytes rfl (.tmp 5) (.tmp 6) rfl w.heap.size _ [] rfl hown (some ad) len cap l rfl hsrc hq hbase ?_; intro v2 w2 ho2 hg2 hn2)
    go_wp2
    go_ret
    exact ⟨_, rfl, ho2, ((Gr.refl w).alloc _).grown hg2 (fun k hk => by cases hk; exact Nat.le_refl _)⟩
end Go.Proofs.YtddopoojmadpjaaGreatDoor

namespace Go.Proofs.YtddopoojmadpjaaGreatDoor
open Go.RowKit
set_option linter.unusedVariables false

/-- what is wrong with the bytes of a packet. -/
def packErr (n s q : Int) (id : Nat) (l : List UInt8) : Nat :=
  if planErr n s q ≠ 0 then planErr n s q else if headErr l ≠ 0 then headErr l else if (l.length : Int) ≠ 14 + widthN (headM l) q + s then 4
  else if get4 (l.drop (l.length - 4)) ≠ crc (l.take (l.length - 4)) then 10 else if headO l ≠ id then 9 else 0

theorem seven_cells {W : World} {R : Nat} {v0 v1 v2 v3 v4 v5 v6 : Value} {t : TypeId} (h : W.heap[R]? = some (.cells #[v0, v1, v2, v3, v4, v5, v6] t)) :
    W.cell? ⟨R, 0, none⟩ = some v0 ∧ W.cell? ⟨R, 1, none⟩ = some v1 ∧ W.cell? ⟨R, 2, none⟩ = some v2 ∧ W.cell? ⟨R, 3, none⟩ = some v3 ∧ W.cell? ⟨R, 4, none⟩ = some v4 ∧ W.cell? ⟨R, 5, none⟩ = some v5 ∧ W.cell? ⟨R, 6, none⟩ = some v6 ∧ ∀ i, W.frozen? ⟨R, i, none⟩ = false := by
  refine ⟨?_, ?_, ?_, ?_, ?_, ?_, ?_, fun i => ?_⟩ <;> simp [World.cell?, World.frozen?, h]
/-- seven cells written anew. -/
theorem gr_seven {w W : World} {R : Nat} (h : Gr w W) (hR : w.heap.size ≤ R) (v0 v1 v2 v3 v4 v5 v6 : Value) :
    Gr w (((((((W.setCell ⟨R, 0, none⟩ v0).setCell ⟨R, 1, none⟩ v1).setCell ⟨R, 2, none⟩ v2).setCell ⟨R, 3, none⟩ v3).setCell ⟨R, 4, none⟩ v4).setCell ⟨R, 5, none⟩ v5).setCell ⟨R, 6, none⟩ v6) :=
  ((((((h.setCell hR _).setCell hR _).setCell hR _).setCell hR _).setCell hR _).setCell hR _).setCell hR _

theorem seven_set {W : World} {R : Nat} {v0 v1 v2 v3 v4 v5 v6 : Value} {t : TypeId} (h : W.heap[R]? = some (.cells #[v0, v1, v2, v3, v4, v5, v6] t)) (u0 u1 u2 u3 u4 u5 u6 : Value) :
    (((((((W.setCell ⟨R, 0, none⟩ u0).setCell ⟨R, 1, none⟩ u1).setCell ⟨R, 2, none⟩ u2).setCell ⟨R, 3, none⟩ u3).setCell ⟨R, 4, none⟩ u4).setCell ⟨R, 5, none⟩ u5).setCell ⟨R, 6, none⟩ u6).heap[R]? = some (.cells #[u0, u1, u2, u3, u4, u5, u6] t) := by
  have h7 := heap_set (i := 6) (heap_set (i := 5) (heap_set (i := 4) (heap_set (i := 3) (heap_set (i := 2) (heap_set (i := 1) (heap_set (i := 0) h u0) u1) u2) u3) u4) u5) u6
  simpa only [List.setIfInBounds_toArray, List.set_cons_zero, List.set_cons_succ] using h7

/-- a packet without anything. -/
abbrev packZ : Value := .agg #[.int .u8 0, .int .u32 0, .int .u32 0, .int .u8 0, .slice none 0 0, .int .u64 0, .slice none 0 0]

set_option maxRecDepth 100000 in
set_option maxHeartbeats 2000000 in
theorem packRead_plan (n s q : Int) (id : Nat) (hlo : -9223372036854775808 ≤ n) (hm : n ≤ 9223372036854775807) (hsl : -9223372036854775808 ≤ s) (hsm : s ≤ 9223372036854775807) (a : Option Addr) (len cap : Nat) (w : World) (hP : planErr n s q ≠ 0) :
    Calls Tryz.prog 45 #[.agg #[.int .i64 n, .int .i64 s, .int .i64 q, .int .u32 (id : Int)], .slice a len cap] w fun e w' => e = .returned (.tuple #[packZ, .int .i64 (planErr n s q : Nat)]) ∧ Gr w w' := by
  have CC := planCheck_any n s q id hlo hm hsl hsm
  obtain ⟨E, hE⟩ : ∃ E, planErr n s q = E := ⟨_, rfl⟩
  rw [hE] at CC hP ⊢
  have HC := Lib.hid CC
  have ht : ((E : Int) != 0) = true := by rw [bne_iff_ne]; omega
  clear CC hP hE
  go_enter Tryz.func45, Tryz.ntmps45
  go_wp2_with fail
  refine (HC.out _).mono ?_
  rintro e w1 ⟨rfl, hg⟩
  have hgw := (((Gr.refl w).alloc _).alloc _).trans hg
  have hB := hg.heap (heap_alloc_new _ _)
  simp only [World.alloc, Array.size_push] at hB
  obtain ⟨cc0, cc1, cc2, cc3, cc4, cc5, cc6, ff⟩ := seven_cells hB
  clear hg hB
  have hG7 := gr_seven hgw (R := w.heap.size + 1) (Nat.le_succ _) (.int .u8 0) (.int .u32 0) (.int .u32 0) (.int .u8 0) (.slice none 0 0) (.int .u64 0) (.slice none 0 0)
  go_wp2
  refine bodyPost_ret (v := .tuple #[packZ, .int .i64 (E : Int)]) ?_ rfl ⟨rfl, hG7⟩
  simp [results, Tryz.results45, go_sem, packZ, cc0, cc1, cc2, cc3, cc4, cc5, cc6]

set_option maxRecDepth 100000 in
set_option maxHeartbeats 2000000 in
theorem packRead_head (n s q : Int) (id : Nat) (hlo : -9223372036854775808 ≤ n) (hm : n ≤ 9223372036854775807) (hsl : -9223372036854775808 ≤ s) (hsm : s ≤ 9223372036854775807) (a : Option Addr) (len cap : Nat) (l : List UInt8) (w : World) (hs : Bs w a len cap l) (hP : planErr n s q = 0) (hH : headErr l ≠ 0) :
    Calls Tryz.prog 45 #[.agg #[.int .i64 n, .int .i64 s, .int .i64 q, .int .u32 (id : Int)], .slice a len cap] w fun e w' => e = .returned (.tuple #[packZ, .int .i64 (headErr l : Nat)]) ∧ Gr w w' := by
  have CC := planCheck_any n s q id hlo hm hsl hsm
  rw [hP] at CC
  have HC := Lib.hid CC
  have HS := Lib.hid hs
  have HR := Lib.hid fun w hs => headRead_bad a len cap l w hs hH
  obtain ⟨E, hE⟩ : ∃ E, headErr l = E := ⟨_, rfl⟩
  rw [hE] at HR hH ⊢
  have ht : ((E : Int) != 0) = true := by rw [bne_iff_ne]; omega
  clear CC hP hE hs
  go_enter Tryz.func45, Tryz.ntmps45
  go_wp2_with fail
  refine (HC.out _).mono ?_
  rintro e w1 ⟨rfl, hg⟩
  have hgw := (((Gr.refl w).alloc _).alloc _).trans hg
  have hB := hg.heap (heap_alloc_new _ _)
  simp only [World.alloc, Array.size_push] at hB
  have HB := Lib.hid hB
  clear hg hB
  go_wp2_with fail
  refine (HR.out _ (HS.out.below hgw)).mono ?_
  rintro e w2 ⟨rfl, hg2⟩
  have hB2 := hg2.heap HB.out
  have hz := lt_of_block hB2
  have hgw2 := hgw.trans hg2
  have hne : ¬ w2.heap.size = w.heap.size + 1 := by omega
  have hne' : ¬ w.heap.size + 1 = w2.heap.size := by omega
  obtain ⟨cc0, cc1, cc2, cc3, cc4, cc5, cc6, ff⟩ := seven_cells hB2
  have h7 := seven_set hB2 (.int .u8 0) (.int .u32 0) (.int .u32 0) (.int .u8 0) (.slice none 0 0) (.int .u64 0) (.slice none 0 0)
  have h8 := ((Gr.refl _).alloc (.cells #[.int .u8 0, .int .u32 0, .int .u32 0] 94)).heap h7
  have D := Lib.hid (seven_cells h8)
  clear h7 h8
  clear hg2 hB2 hgw HB
  have hG7 := gr_seven hgw2 (R := w.heap.size + 1) (Nat.le_succ _) (.int .u8 0) (.int .u32 0) (.int .u32 0) (.int .u8 0) (.slice none 0 0) (.int .u64 0) (.slice none 0 0)
  have hG8 := hG7.alloc (.cells #[.int .u8 0, .int .u32 0, .int .u32 0] 94)
  clear hG7
  go_wp2
  obtain ⟨dd0, dd1, dd2, dd3, dd4, dd5, dd6, _⟩ := D.out
  refine bodyPost_ret (v := .tuple #[packZ, .int .i64 (E : Int)]) ?_ rfl ⟨rfl, hG8⟩
  simp [results, Tryz.results45, go_sem, packZ, dd0, dd1, dd2, dd3, dd4, dd5, dd6]

theorem pack_len {n s q : Int} {l : List UInt8} (hP : planErr n s q = 0) (hH : headErr l = 0) : lenE n s q (headM l) = 0 ∧ lenN n s q (headM l) = 14 + widthN (headM l) q + s ∧ 1 ≤ widthN (headM l) q ∧ 1 ≤ s ∧ s ≤ 65535 ∧ 1 ≤ q ∧ q ≤ 4096 := by
  obtain ⟨h1, h2⟩ := planErr_zero hP
  obtain ⟨f1, f2, f3, f4⟩ := planFit_zero h1
  have hp := planNeed_pos f1 f2
  have hw : widthE (headM l) q = 0 := widthE_ok (headErr_zero hH).2.2 (by omega) (by omega)
  have he : lenE n s q (headM l) = 0 := by rw [lenE, if_neg (by simpa using hP), hw]
  refine ⟨he, ?_, ?_, f2, f3, by omega, by omega⟩
  · rw [lenN, if_neg (by simpa using he)]
  · have h3 := (headErr_zero hH).2.2
    unfold headM at *
    unfold widthN
    rw [if_neg (by omega), if_neg (by omega)]
    split <;> omega

set_option maxRecDepth 100000 in
set_option maxHeartbeats 4000000 in
theorem packRead_rest (n s q : Int) (id : Nat) (hlo : -9223372036854775808 ≤ n) (hm : n ≤ 9223372036854775807) (hsl : -9223372036854775808 ≤ s) (hsm : s ≤ 9223372036854775807) (a : Option Addr) (len cap : Nat) (l : List UInt8) (w : World) (htab : Tab w) (hs : Bs w a len cap l) (hmx : len ≤ 140737488355328) (hP : planErr n s q = 0) (hH : headErr l = 0) (h0 : packErr n s q id l ≠ 0) :
    Calls Tryz.prog 45 #[.agg #[.int .i64 n, .int .i64 s, .int .i64 q, .int .u32 (id : Int)], .slice a len cap] w fun e w' => e = .returned (.tuple #[packZ, .int .i64 (packErr n s q id l : Nat)]) ∧ Gr w w' := by
  have hcap : len ≤ cap ∧ (cap : Int) ≤ 9223372036854775807 := ⟨hs.2.1, by have h2 := hs.2.2.1; unfold maxLen at h2; omega⟩
  obtain ⟨hcap1, hcap2⟩ := hcap
  obtain ⟨L1, L2, L3, L4, L5, L6, L7⟩ := pack_len hP hH
  have HE : Hid (packErr n s q id l = if (l.length : Int) ≠ 14 + widthN (headM l) q + s then 4 else if get4 (l.drop (l.length - 4)) ≠ crc (l.take (l.length - 4)) then 10 else if headO l ≠ id then 9 else 0) := by
    show _ = _
    rw [packErr, if_neg (by simpa using hP), if_neg (by simpa using hH)]
  have hll := hs.1
  have CC := planCheck_any n s q id hlo hm hsl hsm
  rw [hP] at CC
  have HC := Lib.hid CC
  have HS := Lib.hid hs
  have HT := Lib.hid htab
  have HR := Lib.hid fun w hs => headRead_ok a len cap l w hs hH hmx
  have CN := packLength_any n s q id (headM l) hlo hm hsl hsm
  rw [L1, L2] at CN
  have hN : 14 + widthN (headM l) q + s ≤ 9223372036854775807 := by have := (widthN_le (mode := headM l) (k := q)).2; omega
  obtain ⟨N, eN⟩ : ∃ N, 14 + widthN (headM l) q + s = N := ⟨_, rfl⟩
  obtain ⟨M, eM⟩ : ∃ M, headM l = M := ⟨_, rfl⟩
  obtain ⟨O, eO⟩ : ∃ O, headO l = O := ⟨_, rfl⟩
  rw [eN] at CN HE hN
  rw [eM] at CN HR
  rw [eO] at HR HE
  have HN := Lib.hid CN
  rw [hll] at HE
  clear CC CN hs htab
  have h15 : 15 < N := by omega
  clear L1 L2 L3 eN eM hP hH
  by_cases hL : (len : Int) ≠ N
  · have ht : ((len : Int) != N) = true := by rw [bne_iff_ne]; exact hL
    have he : Hid (packErr n s q id l = 4) := by show _ = _; rw [HE.out, if_pos hL]
    clear h0 hL HE
    go_enter Tryz.func45, Tryz.ntmps45
    go_wp2_with fail
    refine (HC.out _).mono ?_
    rintro e w1 ⟨rfl, hg⟩
    have hgw := (((Gr.refl w).alloc _).alloc _).trans hg
    have hA := hg.heap (Gr.heap (Gr.alloc (Gr.refl _) _) (heap_alloc_new _ _))
    have hB := hg.heap (heap_alloc_new _ _)
    simp only [World.alloc, Array.size_push] at hB
    have HA := Lib.hid hA
    have HB := Lib.hid hB
    clear hg hB hA
    go_wp2_with fail
    refine (HR.out _ (HS.out.below hgw)).mono ?_
    rintro e w2 ⟨a2, cap2, rfl, hb2, hg2⟩
    have hA2 := hg2.heap HA.out
    have hB2 := hg2.heap HB.out
    have hz := lt_of_block hB2
    have hgw2 := hgw.trans hg2
    obtain ⟨p0, p1, p2, p3⟩ := p_four_cells (Gr.heap (Gr.alloc (Gr.refl _) (.cells #[.int .u8 (M : Int), .int .u32 (O : Int), .int .u32 (headN l : Int)] 94)) hA2)
    have HB2 := Lib.hid hB2
    clear hg2 hA2 hB2 hgw HB HA hb2
    go_wp2_with fail
    refine (HN.out _).mono ?_
    rintro e w3 ⟨rfl, hg3⟩
    have hB3 := hg3.heap (Gr.heap (Gr.alloc (Gr.refl _) _) HB2.out)
    have hgw3 := (hgw2.alloc _).trans hg3
    obtain ⟨cc0, cc1, cc2, cc3, cc4, cc5, cc6, ff⟩ := seven_cells hB3
    have h7 := seven_set hB3 (.int .u8 0) (.int .u32 0) (.int .u32 0) (.int .u8 0) (.slice none 0 0) (.int .u64 0) (.slice none 0 0)
    have D := Lib.hid (seven_cells h7)
    have hG7 := gr_seven hgw3 (R := w.heap.size + 1) (Nat.le_succ _) (.int .u8 0) (.int .u32 0) (.int .u32 0) (.int .u8 0) (.slice none 0 0) (.int .u64 0) (.slice none 0 0)
    clear h7 hg3 hB3 hgw2 hgw3 HB2
    go_wp2
    obtain ⟨dd0, dd1, dd2, dd3, dd4, dd5, dd6, _⟩ := D.out
    refine bodyPost_ret (v := .tuple #[packZ, .int .i64 4]) ?_ rfl ⟨by rw [he.out]; rfl, hG7⟩
    simp [results, Tryz.results45, go_sem, packZ, dd0, dd1, dd2, dd3, dd4, dd5, dd6]
  have hL' : N = (len : Int) := by omega
  subst hL'
  obtain ⟨m, rfl⟩ : ∃ m, len = m + 4 := ⟨len - 4, by omega⟩
  have HE2 : Hid (packErr n s q id l = if get4 (l.drop m) ≠ crc (l.take m) then 10 else if O ≠ id then 9 else 0) := by
    show _ = _
    rw [HE.out, if_neg (by omega), Nat.add_sub_cancel]
  clear HE
  obtain ⟨b, off, rfl, hb, _⟩ := HS.out.at_ (by omega)
  have hs1 := HS.out.drop (k := m) (by omega)
  have hs2 := HS.out.take (k := m) (by omega)
  rw [Nat.add_sub_cancel_left] at hs1
  obtain ⟨ld, eld⟩ : ∃ x, l.drop m = x := ⟨_, rfl⟩
  obtain ⟨lt, elt⟩ : ∃ x, l.take m = x := ⟨_, rfl⟩
  rw [eld] at hs1 HE2
  rw [elt] at hs2 HE2
  have H1 := Lib.hid hs1
  have H2 := Lib.hid hs2
  have hcm : ¬ cap = m := by omega
  have hm4 : ¬ ((m : Int) + 4 < 4) := by omega
  have hmc : m ≤ cap := by omega
  have hmc' : (m : Int) ≤ (cap : Int) := by omega
  have hg4 := get4_lt ld
  have hcl := crc_lt lt
  obtain ⟨G, eG⟩ : ∃ G, get4 ld = G := ⟨_, rfl⟩
  obtain ⟨C, eC⟩ : ∃ C, crc lt = C := ⟨_, rfl⟩
  rw [eG, eC] at HE2
  have EG := Lib.hid eG
  have EC := Lib.hid eC
  clear hs1 hs2 eld elt eG eC hg4 hcl hL
  go_enter Tryz.func45, Tryz.ntmps45
  go_wp2_with fail
  refine (HC.out _).mono ?_
  rintro e w1 ⟨rfl, hg⟩
  have hgw := (((Gr.refl w).alloc _).alloc _).trans hg
  have hA := hg.heap (Gr.heap (Gr.alloc (Gr.refl _) _) (heap_alloc_new _ _))
  have hB := hg.heap (heap_alloc_new _ _)
  simp only [World.alloc, Array.size_push] at hB
  have HA := Lib.hid hA
  have HB := Lib.hid hB
  clear hg hB hA
  go_wp2_with fail
  refine (HR.out _ (HS.out.below hgw)).mono ?_
  rintro e w2 ⟨a2, cap2, rfl, hb2, hg2⟩
  have hA2 := hg2.heap HA.out
  have hB2 := hg2.heap HB.out
  have hz := lt_of_block hB2
  have hgw2 := hgw.trans hg2
  have hA3 := Gr.heap (Gr.alloc (Gr.refl _) (.cells #[.int .u8 (M : Int), .int .u32 (O : Int), .int .u32 (headN l : Int)] 94)) hA2
  obtain ⟨p0, p1, p2, p3⟩ := p_four_cells hA3
  have HA3 := Lib.hid hA3
  have HB2 := Lib.hid hB2
  clear hg2 hA2 hB2 hgw HB HA hb2 hA3
  go_wp2_with fail
  refine (HN.out _).mono ?_
  rintro e w3 ⟨rfl, hg3⟩
  have hB3 := hg3.heap (Gr.heap (Gr.alloc (Gr.refl _) _) HB2.out)
  have hgw3 := (hgw2.alloc _).trans hg3
  have hA4 := hg3.heap HA3.out
  have hT4 := hg3.heap (heap_alloc_new _ _)
  have HA4 := Lib.hid hA4
  have HB4 := Lib.hid hB3
  have HT4 := Lib.hid hT4
  clear hg3 hB3 hgw2 HB2 HA3 hA4 hT4 p0 p1 p2 p3
  go_wp2_with fail
  refine (sumGet_four _ (cap - m) ld _ (H1.out.below hgw3)).mono ?_
  rintro e w5 ⟨rfl, hg5⟩
  rw [EG.out]
  have hgw5 := hgw3.trans hg5
  have HA5 := Lib.hid (hg5.heap HA4.out)
  have HB5 := Lib.hid (hg5.heap HB4.out)
  have HT5 := Lib.hid (hg5.heap HT4.out)
  clear hg5 HA4 HB4 HT4 hgw3
  go_wp2_with fail
  refine (of_any (some ⟨w5.heap.size, 0, none⟩) 1 1 [lt] _ (HT.out.below (hgw5.alloc _)) (Bss.of_alloc1 (H2.out.below hgw5) rfl)).mono ?_
  rintro e w6 ⟨rfl, hg6⟩
  rw [show ([lt] : List (List UInt8)).flatten = lt by simp, EC.out]
  have hgw6 := (hgw5.alloc _).trans hg6
  by_cases hC : G ≠ C
  · have he : Hid (packErr n s q id l = 10) := by show _ = _; rw [HE2.out, if_pos hC]
    have ht : ((G : Int) != (C : Int)) = true := by rw [bne_iff_ne]; omega
    have hB6 := hg6.heap (Gr.heap (Gr.alloc (Gr.refl _) _) HB5.out)
    obtain ⟨cc0, cc1, cc2, cc3, cc4, cc5, cc6, ff⟩ := seven_cells hB6
    have h7 := seven_set hB6 (.int .u8 0) (.int .u32 0) (.int .u32 0) (.int .u8 0) (.slice none 0 0) (.int .u64 0) (.slice none 0 0)
    have D := Lib.hid (seven_cells h7)
    have hG7 := gr_seven hgw6 (R := w.heap.size + 1) (Nat.le_succ _) (.int .u8 0) (.int .u32 0) (.int .u32 0) (.int .u8 0) (.slice none 0 0) (.int .u64 0) (.slice none 0 0)
    clear h7 hg6 hB6 hgw6 HB5
    go_wp2
    obtain ⟨dd0, dd1, dd2, dd3, dd4, dd5, dd6, _⟩ := D.out
    refine bodyPost_ret (v := .tuple #[packZ, .int .i64 10]) ?_ rfl ⟨by rw [he.out]; rfl, hG7⟩
    simp [results, Tryz.results45, go_sem, packZ, dd0, dd1, dd2, dd3, dd4, dd5, dd6]
  · have hC' : G = C := by omega
    subst hC'
    have hO : O ≠ id := fun c => h0 (by rw [HE2.out, if_neg hC, if_neg (by simpa using c)])
    have he : Hid (packErr n s q id l = 9) := by show _ = _; rw [HE2.out, if_neg hC, if_pos hO]
    have ht : ((O : Int) != (id : Int)) = true := by rw [bne_iff_ne]; omega
    obtain ⟨p0, p1, p2, p3⟩ := p_four_cells (hg6.heap (Gr.heap (Gr.alloc (Gr.refl _) _) HA5.out))
    obtain ⟨q0, q1, q2, _⟩ := three_cells (hg6.heap (Gr.heap (Gr.alloc (Gr.refl _) _) HT5.out))
    have hB6 := hg6.heap (Gr.heap (Gr.alloc (Gr.refl _) _) HB5.out)
    obtain ⟨cc0, cc1, cc2, cc3, cc4, cc5, cc6, ff⟩ := seven_cells hB6
    have h7 := seven_set hB6 (.int .u8 0) (.int .u32 0) (.int .u32 0) (.int .u8 0) (.slice none 0 0) (.int .u64 0) (.slice none 0 0)
    have D := Lib.hid (seven_cells h7)
    have hG7 := gr_seven hgw6 (R := w.heap.size + 1) (Nat.le_succ _) (.int .u8 0) (.int .u32 0) (.int .u32 0) (.int .u8 0) (.slice none 0 0) (.int .u64 0) (.slice none 0 0)
    clear h7 hg6 hB6 hgw6 HB5
    go_wp2
    obtain ⟨dd0, dd1, dd2, dd3, dd4, dd5, dd6, _⟩ := D.out
    refine bodyPost_ret (v := .tuple #[packZ, .int .i64 9]) ?_ rfl ⟨by rw [he.out]; rfl, hG7⟩
    simp [results, Tryz.results45, go_sem, packZ, dd0, dd1, dd2, dd3, dd4, dd5, dd6]

theorem packRead_bad (n s q : Int) (id : Nat) (hlo : -9223372036854775808 ≤ n) (hm : n ≤ 9223372036854775807) (hsl : -9223372036854775808 ≤ s) (hsm : s ≤ 9223372036854775807) (a : Option Addr) (len cap : Nat) (l : List UInt8) (w : World) (htab : Tab w) (hs : Bs w a len cap l) (hmx : len ≤ 140737488355328) (h0 : packErr n s q id l ≠ 0) :
    Calls Tryz.prog 45 #[.agg #[.int .i64 n, .int .i64 s, .int .i64 q, .int .u32 (id : Int)], .slice a len cap] w fun e w' => e = .returned (.tuple #[packZ, .int .i64 (packErr n s q id l : Nat)]) ∧ Gr w w' := by
  by_cases hP : planErr n s q = 0
  · by_cases hH : headErr l = 0
    · exact packRead_rest n s q id hlo hm hsl hsm a len cap l w htab hs hmx hP hH h0
    · rw [show packErr n s q id l = headErr l by rw [packErr, if_neg (by simpa using hP), if_pos hH]]
      exact packRead_head n s q id hlo hm hsl hsm a len cap l w hs hP hH
  · rw [show packErr n s q id l = planErr n s q by rw [packErr, if_pos hP]]
    exact packRead_plan n s q id hlo hm hsl hsm a len cap w hP
end Go.Proofs.YtddopoojmadpjaaGreatDoor

namespace Go.Proofs.YtddopoojmadpjaaGreatDoor
open Go.RowKit
set_option linter.unusedVariables false

theorem OwnV.grb {w w' : World} {base b : Nat} {a : Option Addr} {n cap : Nat} {l : List UInt8} (h : OwnV w base (.slice a n cap) l) (hb : GrB w b w') (ha : ∀ x, a = some x → x.block ≠ b) : OwnV w' base (.slice a n cap) l := by
  refine ⟨h.1, ?_⟩
  rcases h.2 with hn | ⟨g, c, cur, hv, hg, hh, r⟩
  · exact .inl hn
  · refine .inr ⟨g, c, cur, hv, hg, hb.heap hh ?_, r⟩
    cases hv
    exact ha _ rfl
theorem OwnV.bs2 {w : World} {base : Nat} {a : Option Addr} {n cap : Nat} {l : List UInt8} (h : OwnV w base (.slice a n cap) l) : Bs w a n cap l ∧ ∀ x, a = some x → base ≤ x.block := by
  obtain ⟨a', cap', hv, h1, h2⟩ := h.bs
  cases hv
  exact ⟨h1, h2⟩

/-- a row of its own does not lie in a block of another type. -/
theorem OwnV.ne_block {w : World} {base b : Nat} {a : Option Addr} {n cap : Nat} {l : List UInt8} {cs : Array Value} {t : TypeId} {m : Nat × Nat} (h : OwnV w base (.slice a n cap) l) (hb : w.heap[b]? = some (.cells cs t m)) (ht : t ≠ 5) : ∀ x, a = some x → x.block ≠ b := by
  intro x hx e
  rcases h.2 with hn | ⟨g, c, cur, hv, hg, hh, r⟩
  · cases hn.1; cases hx
  · cases hv
    cases hx
    simp only at e
    subst e
    rw [hh] at hb
    cases hb
    exact ht rfl

set_option maxRecDepth 100000 in
set_option maxHeartbeats 1000000 in
theorem explicit_own (a : Option Addr) (len cap : Nat) (l : List UInt8) (w : World) (hs : Bs w a len cap l) (hm : len ≤ 140737488355328) :
    Calls Tryz.prog 61 #[.slice a len cap] w fun e w' => ∃ a' cap', e = .returned (.agg #[.int .u8 0, .slice a' len cap', .int .u64 0]) ∧ OwnV w' w.heap.size (.slice a' len cap') l ∧ Gr w w' := by
  go_enter Tryz.func61, Tryz.ntmps61
  go_wp2_with fail
  refine (sliceClone_own a len cap l _ (hs.below ((Gr.refl w).alloc _)) hm).mono ?_
  rintro e w1 ⟨v, rfl, ho, hg⟩
  obtain ⟨a1, cap1, rfl, _⟩ := ho.slice
  have ha := (ho.bs').2
  rw [hs.1] at ho ⊢
  have hA := hg.heap (heap_alloc_new w _)
  have hgw : Gr w w1 := ((Gr.refl w).alloc _).trans hg
  obtain ⟨c0, c1, c2, f0⟩ := three_cells hA
  obtain ⟨hgb, hh⟩ := three_set hA (.int .u8 0) (.slice a1 len cap1) (.int .u64 0)
  have hg3 := hgw.grb hgb (Nat.le_refl _)
  have hb3 := (ho.mono (b' := w.heap.size) (by simp)).grb hgb (fun y hy => by have := ha y hy; simp at this; omega)
  obtain ⟨d0, d1, d2, _⟩ := three_cells hh
  have H3 := Lib.hid hg3
  have HB3 := Lib.hid hb3
  clear hA hgb hh hg3 hb3 ho ha hg
  go_wp2
  refine bodyPost_ret (v := .agg #[.int .u8 0, .slice a1 len cap1, .int .u64 0]) ?_ rfl ⟨a1, cap1, rfl, HB3.out, H3.out⟩
  simp [results, Tryz.results61, go_sem, c0, c1, c2]

set_option maxRecDepth 100000 in
set_option maxHeartbeats 1000000 in
theorem rowRead_own (mode : Nat) (k : Int) (a : Option Addr) (len cap : Nat) (l : List UInt8) (w : World) (hs : Bs w a len cap l) (hm : len ≤ 140737488355328) (hE : readErr mode len k = 0) :
    Calls Tryz.prog 86 #[.int .u8 (mode : Int), .int .i64 k, .slice a len cap] w fun e w' => ∃ a' len' cap', e = .returned (.tuple #[.agg #[.int .u8 (mode : Int), .slice a' len' cap', .int .u64 (readSeed mode l : Nat)], .int .i64 0]) ∧ OwnV w' w.heap.size (.slice a' len' cap') (readBytes mode l) ∧ Gr w w' := by
  obtain ⟨h1, h2, h3, h4, h5, h6, h7⟩ := readErr_zero hE
  have CW := width_any mode k
  rw [h4] at CW
  have hn : ((len : Int) != widthN mode k) = false := by simpa using h5
  have H7 := Lib.hid h7
  obtain ⟨q, hq⟩ : ∃ q, widthN mode k = q := ⟨_, rfl⟩
  rw [hq] at CW hn
  have HCW := Lib.hid CW
  clear hE h2 h3 h4 h5 h6 h7 hq CW
  have hmm : mode = 0 ∨ mode = 1 := by omega
  rcases hmm with rfl | rfl
  · go_enter Tryz.func86, Tryz.ntmps86
    go_wp2_with fail
    refine (HCW.out _).mono ?_
    rintro e w1 ⟨rfl, rfl⟩
    go_wp2_with fail
    refine (explicit_own a len cap l _ (hs.below ((Gr.refl w).alloc _)) hm).mono ?_
    rintro e w1 ⟨a1, cap1, rfl, hb, hg⟩
    have hA := hg.heap (heap_alloc_new w _)
    have hgw : Gr w w1 := ((Gr.refl w).alloc _).trans hg
    obtain ⟨c0, c1, c2, f0⟩ := three_cells hA
    obtain ⟨hgb, hh⟩ := three_set hA (.int .u8 0) (.slice a1 len cap1) (.int .u64 0)
    have hg3 := hgw.grb hgb (Nat.le_refl _)
    have hb3 := (hb.mono (b' := w.heap.size) (by simp)).grb hgb (fun y hy => by have := (hb.bs2).2 y hy; simp at this; omega)
    have H3 := Lib.hid hg3
    have HB3 := Lib.hid hb3
    clear hA hgb hh hg3 hb3 hb hg
    go_wp2
    refine bodyPost_ret (v := .tuple #[.agg #[.int .u8 0, .slice a1 len cap1, .int .u64 0], .int .i64 0]) ?_ rfl ⟨a1, len, cap1, rfl, HB3.out, H3.out⟩
    simp [results, Tryz.results86, go_sem, c0, c1, c2]
  · have h8 : len = 8 := H7.out rfl
    subst h8
    go_enter Tryz.func86, Tryz.ntmps86
    go_wp2_with fail
    refine (HCW.out _).mono ?_
    rintro e w1 ⟨rfl, rfl⟩
    go_wp2_with fail
    refine (mixSeed_any a cap l _ (hs.below ((Gr.refl w).alloc _))).mono ?_
    rintro e w1 ⟨rfl, rfl⟩
    go_wp2_with fail
    refine (seeded_any (seedTo l : Nat) _).mono ?_
    rintro e w1 ⟨rfl, hg⟩
    have hA := hg.heap (heap_alloc_new w _)
    have hgw : Gr w w1 := ((Gr.refl w).alloc _).trans hg
    obtain ⟨c0, c1, c2, f0⟩ := three_cells hA
    obtain ⟨hgb, hh⟩ := three_set hA (.int .u8 1) (.slice none 0 0) (.int .u64 (seedTo l : Nat))
    have hg3 := hgw.grb hgb (Nat.le_refl _)
    have H3 := Lib.hid hg3
    clear hA hgb hh hg3 hg
    go_wp2
    refine bodyPost_ret (v := .tuple #[.agg #[.int .u8 1, .slice none 0 0, .int .u64 (seedTo l : Nat)], .int .i64 0]) ?_ rfl ⟨none, 0, 0, rfl, OwnV.nil _ _, H3.out⟩
    simp [results, Tryz.results86, go_sem, c0, c1, c2]
end Go.Proofs.YtddopoojmadpjaaGreatDoor
