/-
  The generator's numbers, in plain Lean: unlike states give unlike numbers.
-/
namespace Go.Proofs.YtdmijoochgmhiaaGreatDoor
/-- combined with itself, k bits to the right. -/
def shx (k z : Nat) : Nat := z ^^^ z / 2 ^ k
def mixNext (s : Nat) : Nat := (s + 11400714819323198485) % 18446744073709551616
def mixOut (s : Nat) : Nat := shx 31 (shx 27 (shx 30 s * 13787848793156543929 % 18446744073709551616) * 10723151780598845931 % 18446744073709551616)
theorem shx_lt {k z : Nat} (h : z < 18446744073709551616) : shx k z < 18446744073709551616 :=
  Nat.xor_lt_two_pow (n := 64) h (Nat.lt_of_le_of_lt (Nat.div_le_self _ _) h)
theorem shx_div (k m z : Nat) : shx k z / 2 ^ m = shx k (z / 2 ^ m) := by
  apply Nat.eq_of_testBit_eq; intro i
  simp only [shx, Nat.testBit_xor, Nat.testBit_div_two_pow]
  congr 2; omega
theorem shx_inj {k : Nat} (hk : 0 < k) : ∀ (n a b : Nat), a < 2 ^ n → b < 2 ^ n → shx k a = shx k b → a = b := by
  intro n
  induction n using Nat.strongRecOn with
  | _ n ih =>
    intro a b ha hb h
    by_cases hn : n = 0
    · subst hn; have : a = 0 := by simpa using ha
      have : b = 0 := by simpa using hb
      omega
    · have h1 : a / 2 ^ k = b / 2 ^ k := by
        refine ih (n - k) (by omega) _ _ ?_ ?_ ?_
        · by_cases hkn : k ≤ n
          · rw [Nat.div_lt_iff_lt_mul (Nat.two_pow_pos k), ← Nat.pow_add, Nat.sub_add_cancel hkn]; exact ha
          · rw [Nat.div_eq_of_lt (Nat.lt_trans ha (Nat.pow_lt_pow_right (by decide) (by omega)))]; exact Nat.two_pow_pos _
        · by_cases hkn : k ≤ n
          · rw [Nat.div_lt_iff_lt_mul (Nat.two_pow_pos k), ← Nat.pow_add, Nat.sub_add_cancel hkn]; exact hb
          · rw [Nat.div_eq_of_lt (Nat.lt_trans hb (Nat.pow_lt_pow_right (by decide) (by omega)))]; exact Nat.two_pow_pos _
        · rw [← shx_div, ← shx_div, h]
      have h2 : a ^^^ a / 2 ^ k ^^^ a / 2 ^ k = b ^^^ b / 2 ^ k ^^^ b / 2 ^ k := by
        conv => rhs; rw [← h1]
        conv at h => rhs; rw [shx, ← h1]
        rw [shx] at h; rw [h]
      rw [Nat.xor_assoc, Nat.xor_self, Nat.xor_zero] at h2
      rw [Nat.xor_assoc, Nat.xor_self, Nat.xor_zero] at h2; exact h2
theorem mul_inj {c d a b : Nat} (hcd : c * d % 18446744073709551616 = 1) (ha : a < 18446744073709551616) (hb : b < 18446744073709551616)
    (h : a * c % 18446744073709551616 = b * c % 18446744073709551616) : a = b := by
  have e : ∀ x, x < 18446744073709551616 → (x * c % 18446744073709551616) * d % 18446744073709551616 = x := fun x hx => by
    rw [Nat.mod_mul_mod, Nat.mul_assoc, Nat.mul_mod, hcd, Nat.mul_one, Nat.mod_mod, Nat.mod_eq_of_lt hx]
  rw [← e a ha, ← e b hb, h]
theorem mixOut_lt (s : Nat) : mixOut s < 18446744073709551616 := shx_lt (Nat.mod_lt _ (by decide))
theorem mixNext_lt (s : Nat) : mixNext s < 18446744073709551616 := Nat.mod_lt _ (by decide)
theorem mixOut_inj {a b : Nat} (ha : a < 18446744073709551616) (hb : b < 18446744073709551616) (h : mixOut a = mixOut b) : a = b := by
  have m : ∀ x : Nat, x % 18446744073709551616 < 18446744073709551616 := fun x => Nat.mod_lt _ (by decide)
  have h1 := shx_inj (by decide) 64 _ _ (m _) (m _) h
  have h2 := mul_inj (d := 3573116690164977347) (by decide) (shx_lt (m _)) (shx_lt (m _)) h1
  have h3 := shx_inj (by decide) 64 _ _ (m _) (m _) h2
  have h4 := mul_inj (d := 10871156337175269513) (by decide) (shx_lt ha) (shx_lt hb) h3
  exact shx_inj (by decide) 64 _ _ ha hb h4
theorem mixNext_inj {a b : Nat} (ha : a < 18446744073709551616) (hb : b < 18446744073709551616) (h : mixNext a = mixNext b) : a = b := by
  unfold mixNext at h; omega
/-- k numbers on. -/
def mixIter : Nat → Nat → Nat
  | 0, s => s
  | k + 1, s => mixNext (mixIter k s)
theorem mixIter_lt (k : Nat) {s : Nat} (h : s < 18446744073709551616) : mixIter k s < 18446744073709551616 := by
  cases k with
  | zero => exact h
  | succ k => exact mixNext_lt _
theorem mixIter_add (j : Nat) (s : Nat) : ∀ k, mixIter (j + k) s = mixIter k (mixIter j s)
  | 0 => rfl
  | k + 1 => by show mixNext (mixIter (j + k) s) = _; rw [mixIter_add j s k]; rfl
/-- byte i of a state. -/
def mixByte (s i : Nat) : UInt8 := UInt8.ofNat (mixOut (mixIter (i / 8 + 1) s) / 2 ^ (8 * (i % 8)))
/-- the first n bytes. -/
def mixList (s n : Nat) : List UInt8 := (List.range n).map (mixByte s)
theorem mixList_length (s n : Nat) : (mixList s n).length = n := by simp [mixList]
/-- .. while they are made: j of them stand. -/
def mixPart (s n j : Nat) : List UInt8 := (List.range n).map fun i => if i < j then mixByte s i else 0
theorem mixPart_zero (s n : Nat) : mixPart s n 0 = List.replicate n 0 := by
  apply List.ext_getElem
  · simp [mixPart]
  · intro i h1 h2; simp [mixPart]
theorem mixPart_length (s n j : Nat) : (mixPart s n j).length = n := by simp [mixPart]
theorem mixPart_all (s n : Nat) {j : Nat} (h : n ≤ j) : mixPart s n j = mixList s n := by
  unfold mixPart mixList
  refine List.map_congr_left fun i hi => ?_
  rw [if_pos (by have := List.mem_range.1 hi; omega)]
theorem mixPart_set (s n j : Nat) : (mixPart s n j).set j (mixByte s j) = mixPart s n (j + 1) := by
  apply List.ext_getElem?
  intro i
  rw [List.getElem?_set]
  unfold mixPart
  simp only [List.length_map, List.length_range, List.getElem?_map]
  by_cases hi : i < n
  · rw [List.getElem?_range hi]
    by_cases e : j = i
    · subst e; simp [hi]
    · rw [if_neg e]
      simp only [Option.map_some]
      by_cases h : i < j
      · rw [if_pos h, if_pos (by omega)]
      · rw [if_neg h, if_neg (by omega)]
  · rw [List.getElem?_eq_none (by simp; omega)]
    by_cases e : j = i
    · rw [if_pos e, if_neg (by omega)]; rfl
    · rw [if_neg e]; rfl
/-- whole numbers, one behind the other: the same bytes. -/
theorem mixList_at (s k i : Nat) (_h : i < 8) : mixByte s (8 * k + i) = mixByte (mixIter k s) i := by
  unfold mixByte
  rw [show (8 * k + i) / 8 + 1 = k + (i / 8 + 1) by omega, mixIter_add, show (8 * k + i) % 8 = i % 8 by omega]
theorem mixList_cut (s n k : Nat) (h : 8 * k + 8 ≤ n) : ((mixList s n).drop (8 * k)).take 8 = mixList (mixIter k s) 8 := by
  apply List.ext_getElem?
  intro i
  unfold mixList
  rw [List.getElem?_take]
  by_cases hi : i < 8
  · rw [if_pos hi, List.getElem?_drop, List.getElem?_map, List.getElem?_map, List.getElem?_range (by omega), List.getElem?_range hi]
    simp only [Option.map_some]
    rw [mixList_at s k i hi]
  · rw [if_neg hi, List.getElem?_eq_none (by simp; omega)]
theorem mixList_succ (s n : Nat) : mixList s (n + 1) = mixList s n ++ [mixByte s n] := by
  simp [mixList, List.range_succ]
/-- a state as eight bytes, the highest first. -/
def put8 (s : Nat) : List UInt8 := (List.range 8).map fun i => UInt8.ofNat (s / 2 ^ (56 - 8 * i))
/-- .. the last j of them. -/
def tail8 (s j : Nat) : List UInt8 := (List.range j).map fun i => UInt8.ofNat (s / 2 ^ (8 * (j - 1 - i)))
theorem tail8_length (s j : Nat) : (tail8 s j).length = j := by simp [tail8]
theorem tail8_succ (s j : Nat) : tail8 s (j + 1) = UInt8.ofNat (s / 2 ^ (8 * j)) :: tail8 s j := by
  unfold tail8
  rw [List.range_succ_eq_map, List.map_cons, List.map_map]
  congr 1
  refine List.map_congr_left fun i _ => ?_
  simp only [Function.comp]
  rw [show j + 1 - 1 - (i + 1) = j - 1 - i by omega]
theorem tail8_all (s : Nat) : tail8 s 8 = put8 s := by
  unfold tail8 put8
  refine List.map_congr_left fun i hi => ?_
  have := List.mem_range.1 hi
  rw [show 8 * (8 - 1 - i) = 56 - 8 * i by omega]
/-- the number that bytes are, the highest first. -/
def seedTo (l : List UInt8) : Nat := l.foldl (fun s b => s * 256 + b.toNat) 0
theorem seedTo_snoc (l : List UInt8) (b : UInt8) : seedTo (l ++ [b]) = seedTo l * 256 + b.toNat := by simp [seedTo]
theorem seedTo_lt : ∀ (n : Nat) (l : List UInt8), l.length = n → seedTo l < 256 ^ n := by
  intro n
  induction n with
  | zero => intro l h; obtain rfl := List.eq_nil_of_length_eq_zero h; simp [seedTo]
  | succ n ih =>
    intro l h
    have hne : l ≠ [] := by intro e; subst e; simp at h
    have e := List.dropLast_concat_getLast hne
    rw [← e, seedTo_snoc]
    have h1 := ih l.dropLast (by simp; omega)
    have h2 := (l.getLast hne).toNat_lt
    rw [Nat.pow_succ]; omega
theorem seedTo_put8 (s : Nat) (h : s < 18446744073709551616) : seedTo (put8 s) = s := by
  simp only [put8, List.range, List.range.loop, List.map, seedTo, List.foldl, UInt8.toNat_ofNat']
  simp only [Nat.reducePow, Nat.reduceMul, Nat.reduceSub]
  omega
theorem put8_seedTo (l : List UInt8) (h : l.length = 8) : put8 (seedTo l) = l := by
  match l, h with
  | [a, b, c, d, e, f, g, i], _ =>
    have ha := a.toNat_lt
    have hb := b.toNat_lt
    have hc := c.toNat_lt
    have hd := d.toNat_lt
    have he := e.toNat_lt
    have hf := f.toNat_lt
    have hg := g.toNat_lt
    have hi := i.toNat_lt
    have key : ∀ (x : UInt8) (m : Nat), m % 256 = x.toNat → UInt8.ofNat m = x := fun x m hm => by
      apply UInt8.toNat_inj.1; rw [UInt8.toNat_ofNat']; simpa using hm
    simp only [put8, List.range, List.range.loop, List.map, seedTo, List.foldl]
    simp only [Nat.reducePow, Nat.reduceMul, Nat.reduceSub]
    rw [key a _ (by omega), key b _ (by omega), key c _ (by omega), key d _ (by omega), key e _ (by omega), key f _ (by omega), key g _ (by omega), key i _ (by omega)]
theorem mixNext_eq (s : Nat) : mixNext s = (s + 11400714819323198485) % 18446744073709551616 := rfl
theorem mixOut_eq (s : Nat) : mixOut s = shx 31 (shx 27 (shx 30 s * 13787848793156543929 % 18446744073709551616) * 10723151780598845931 % 18446744073709551616) := rfl
attribute [irreducible] mixNext mixOut
end Go.Proofs.YtdmijoochgmhiaaGreatDoor
