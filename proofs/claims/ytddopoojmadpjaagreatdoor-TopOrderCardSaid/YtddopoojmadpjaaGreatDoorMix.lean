/-
  The generator's numbers, in plain Lean: unlike states give unlike numbers.
  The walks of package mix.
  The walks of mix.Put, mix.Seed and of the document's Put of a state.
  The walks of package row: Width, Explicit, Seeded, fits, Vector, Write, Same; and of the document's Width.
  The walk of row.Read.
-/
import Derived.Test.YtddopoojmadpjaaGreatDoorRows
import Derived.Test.YtddopoojmadpjaaGreatDoorBase
import Derived.Test.YtddopoojmadpjaaGreatDoorAppend
import Derived.Lib.Hide
import Derived.Test.YtddopoojmadpjaaGreatDoorHead
namespace Go.Proofs.YtddopoojmadpjaaGreatDoor
/-- combined with itself, k bits to the right. -/
def shx (k z : Nat) : Nat := z ^^^ z / 2 ^ k
def mixNext (s : Nat) : Nat := (s + 11400714819323198485) % 18446744073709551616
def mixOut (s : Nat) : Nat := shx 31 (shx 27 (shx 30 s * 13787848793156543929 % 18446744073709551616) * 10723151780598845931 % 18446744073709551616)
theorem shx_lt {k z : Nat} (h : z < 18446744073709551616) : shx k z < 18446744073709551616 :=
  Nat.xor_lt_two_pow (n := 64) h (Nat.lt_of_le_of_lt (Nat.div_le_self _ _) h)
theorem shx_div (k m z : Nat) : shx k z / 2 ^ m = shx k (z / 2 ^ m) := by
  apply Nat.eq_of_testBit_eq; intro i
  simp only [shx, Nat.testBit_xor, Nat.testBit_div_two_pow]
  congr 2; omega
theorem shx_inj {k : Nat} (hk : 0 < k) : ∀ (n a b : Nat), a < 2 ^ n → b < 2 ^ n → shx k a = shx k b → a = b := by
  intro n
  induction n using Nat.strongRecOn with
  | _ n ih =>
    intro a b ha hb h
    by_cases hn : n = 0
    · subst hn; have : a = 0 := by simpa using ha
      have : b = 0 := by simpa using hb
      omega
    · have h1 : a / 2 ^ k = b / 2 ^ k := by
        refine ih (n - k) (by omega) _ _ ?_ ?_ ?_
        · by_cases hkn : k ≤ n
          · rw [Nat.div_lt_iff_lt_mul (Nat.two_pow_pos k), ← Nat.pow_add, Nat.sub_add_cancel hkn]; exact ha
          · rw [Nat.div_eq_of_lt (Nat.lt_trans ha (Nat.pow_lt_pow_right (by decide) (by omega)))]; exact Nat.two_pow_pos _
        · by_cases hkn : k ≤ n
          · rw [Nat.div_lt_iff_lt_mul (Nat.two_pow_pos k), ← Nat.pow_add, Nat.sub_add_cancel hkn]; exact hb
          · rw [Nat.div_eq_of_lt (Nat.lt_trans hb (Nat.pow_lt_pow_right (by decide) (by omega)))]; exact Nat.two_pow_pos _
        · rw [← shx_div, ← shx_div, h]
      have h2 : a ^^^ a / 2 ^ k ^^^ a / 2 ^ k = b ^^^ b / 2 ^ k ^^^ b / 2 ^ k := by
        conv => rhs; rw [← h1]
        conv at h => rhs; rw [shx, ← h1]
        rw [shx] at h; rw [h]
      rw [Nat.xor_assoc, Nat.xor_self, Nat.xor_zero] at h2
      rw [Nat.xor_assoc, Nat.xor_self, Nat.xor_zero] at h2; exact h2
theorem mul_inj {c d a b : Nat} (hcd : c * d % 18446744073709551616 = 1) (ha : a < 18446744073709551616) (hb : b < 18446744073709551616)
    (h : a * c % 18446744073709551616 = b * c % 18446744073709551616) : a = b := by
  have e : ∀ x, x < 18446744073709551616 → (x * c % 18446744073709551616) * d % 18446744073709551616 = x := fun x hx => by
    rw [Nat.mod_mul_mod, Nat.mul_assoc, Nat.mul_mod, hcd, Nat.mul_one, Nat.mod_mod, Nat.mod_eq_of_lt hx]
  rw [← e a ha, ← e b hb, h]
theorem mixOut_lt (s : Nat) : mixOut s < 18446744073709551616 := shx_lt (Nat.mod_lt _ (by decide))
theorem mixNext_lt (s : Nat) : mixNext s < 18446744073709551616 := Nat.mod_lt _ (by decide)
theorem mixOut_inj {a b : Nat} (ha : a < 18446744073709551616) (hb : b < 18446744073709551616) (h : mixOut a = mixOut b) : a = b := by
  have m : ∀ x : Nat, x % 18446744073709551616 < 18446744073709551616 := fun x => Nat.mod_lt _ (by decide)
  have h1 := shx_inj (by decide) 64 _ _ (m _) (m _) h
  have h2 := mul_inj (d := 3573116690164977347) (by decide) (shx_lt (m _)) (shx_lt (m _)) h1
  have h3 := shx_inj (by decide) 64 _ _ (m _) (m _) h2
  have h4 := mul_inj (d := 10871156337175269513) (by decide) (shx_lt ha) (shx_lt hb) h3
  exact shx_inj (by decide) 64 _ _ ha hb h4
theorem mixNext_inj {a b : Nat} (ha : a < 18446744073709551616) (hb : b < 18446744073709551616) (h : mixNext a = mixNext b) : a = b := by
  unfold mixNext at h; omega
/-- k numbers on. -/
def mixIter : Nat → Nat → Nat
  | 0, s => s
  | k + 1, s => mixNext (mixIter k s)
theorem mixIter_lt (k : Nat) {s : Nat} (h : s < 18446744073709551616) : mixIter k s < 18446744073709551616 := by
  cases k with
  | zero => exact h
  | succ k => exact mixNext_lt _
theorem mixIter_add (j : Nat) (s : Nat) : ∀ k, mixIter (j + k) s = mixIter k (mixIter j s)
  | 0 => rfl
  | k + 1 => by show mixNext (mixIter (j + k) s) = _; rw [mixIter_add j s k]; rfl
/-- byte i of a state. -/
def mixByte (s i : Nat) : UInt8 := UInt8.ofNat (mixOut (mixIter (i / 8 + 1) s) / 2 ^ (8 * (i % 8)))
/-- the first n bytes. -/
def mixList (s n : Nat) : List UInt8 := (List.range n).map (mixByte s)
theorem mixList_length (s n : Nat) : (mixList s n).length = n := by simp [mixList]
/-- .. while they are made: j of them stand. -/
def mixPart (s n j : Nat) : List UInt8 := (List.range n).map fun i => if i < j then mixByte s i else 0
theorem mixPart_zero (s n : Nat) : mixPart s n 0 = List.replicate n 0 := by
  apply List.ext_getElem
  · simp [mixPart]
  · intro i h1 h2; simp [mixPart]
theorem mixPart_length (s n j : Nat) : (mixPart s n j).length = n := by simp [mixPart]
theorem mixPart_all (s n : Nat) {j : Nat} (h : n ≤ j) : mixPart s n j = mixList s n := by
  unfold mixPart mixList
  refine List.map_congr_left fun i hi => ?_
  rw [if_pos (by have := List.mem_range.1 hi; omega)]
theorem mixPart_set (s n j : Nat) : (mixPart s n j).set j (mixByte s j) = mixPart s n (j + 1) := by
  apply List.ext_getElem?
  intro i
  rw [List.getElem?_set]
  unfold mixPart
  simp only [List.length_map, List.length_range, List.getElem?_map]
  by_cases hi : i < n
  · rw [List.getElem?_range hi]
    by_cases e : j = i
    · subst e; simp [hi]
    · rw [if_neg e]
      simp only [Option.map_some]
      by_cases h : i < j
      · rw [if_pos h, if_pos (by omega)]
      · rw [if_neg h, if_neg (by omega)]
  · rw [List.getElem?_eq_none (by simp; omega)]
    by_cases e : j = i
    · rw [if_pos e, if_neg (by omega)]; rfl
    · rw [if_neg e]; rfl
/-- whole numbers, one behind the other: the same bytes. -/
theorem mixList_at (s k i : Nat) (_h : i < 8) : mixByte s (8 * k + i) = mixByte (mixIter k s) i := by
  unfold mixByte
  rw [show (8 * k + i) / 8 + 1 = k + (i / 8 + 1) by omega, mixIter_add, show (8 * k + i) % 8 = i % 8 by omega]
theorem mixList_cut (s n k : Nat) (h : 8 * k + 8 ≤ n) : ((mixList s n).drop (8 * k)).take 8 = mixList (mixIter k s) 8 := by
  apply List.ext_getElem?
  intro i
  unfold mixList
  rw [List.getElem?_take]
  by_cases hi : i < 8
  · rw [if_pos hi, List.getElem?_drop, List.getElem?_map, List.getElem?_map, List.getElem?_range (by omega), List.getElem?_range hi]
    simp only [Option.map_some]
    rw [mixList_at s k i hi]
  · rw [if_neg hi, List.getElem?_eq_none (by simp; omega)]
theorem mixList_succ (s n : Nat) : mixList s (n + 1) = mixList s n ++ [mixByte s n] := by
  simp [mixList, List.range_succ]
/-- a state as eight bytes, the highest first. -/
def put8 (s : Nat) : List UInt8 := (List.range 8).map fun i => UInt8.ofNat (s / 2 ^ (56 - 8 * i))
/-- .. the last j of them. -/
def tail8 (s j : Nat) : List UInt8 := (List.range j).map fun i => UInt8.ofNat (s / 2 ^ (8 * (j - 1 - i)))
theorem tail8_length (s j : Nat) : (tail8 s j).length = j := by simp [tail8]
theorem tail8_succ (s j : Nat) : tail8 s (j + 1) = UInt8.ofNat (s / 2 ^ (8 * j)) :: tail8 s j := by
  unfold tail8
  rw [List.range_succ_eq_map, List.map_cons, List.map_map]
  congr 1
  refine List.map_congr_left fun i _ => ?_
  simp only [Function.comp]
  rw [show j + 1 - 1 - (i + 1) = j - 1 - i by omega]
theorem tail8_all (s : Nat) : tail8 s 8 = put8 s := by
  unfold tail8 put8
  refine List.map_congr_left fun i hi => ?_
  have := List.mem_range.1 hi
  rw [show 8 * (8 - 1 - i) = 56 - 8 * i by omega]
/-- the number that bytes are, the highest first. -/
def seedTo (l : List UInt8) : Nat := l.foldl (fun s b => s * 256 + b.toNat) 0
theorem seedTo_snoc (l : List UInt8) (b : UInt8) : seedTo (l ++ [b]) = seedTo l * 256 + b.toNat := by simp [seedTo]
theorem seedTo_lt : ∀ (n : Nat) (l : List UInt8), l.length = n → seedTo l < 256 ^ n := by
  intro n
  induction n with
  | zero => intro l h; obtain rfl := List.eq_nil_of_length_eq_zero h; simp [seedTo]
  | succ n ih =>
    intro l h
    have hne : l ≠ [] := by intro e; subst e; simp at h
    have e := List.dropLast_concat_getLast hne
    rw [← e, seedTo_snoc]
    have h1 := ih l.dropLast (by simp; omega)
    have h2 := (l.getLast hne).toNat_lt
    rw [Nat.pow_succ]; omega
theorem seedTo_put8 (s : Nat) (h : s < 18446744073709551616) : seedTo (put8 s) = s := by
  simp only [put8, List.range, List.range.loop, List.map, seedTo, List.foldl, UInt8.toNat_ofNat']
  simp only [Nat.reducePow, Nat.reduceMul, Nat.reduceSub]
  omega
theorem put8_seedTo (l : List UInt8) (h : l.length = 8) : put8 (seedTo l) = l := by
  match l, h with
  | [a, b, c, d, e, f, g, i], _ =>
    have ha := a.toNat_lt
    have hb := b.toNat_lt
    have hc := c.toNat_lt
    have hd := d.toNat_lt
    have he := e.toNat_lt
    have hf := f.toNat_lt
    have hg := g.toNat_lt
    have hi := i.toNat_lt
    have key : ∀ (x : UInt8) (m : Nat), m % 256 = x.toNat → UInt8.ofNat m = x := fun x m hm => by
      apply UInt8.toNat_inj.1; rw [UInt8.toNat_ofNat']; simpa using hm
    simp only [put8, List.range, List.range.loop, List.map, seedTo, List.foldl]
    simp only [Nat.reducePow, Nat.reduceMul, Nat.reduceSub]
    rw [key a _ (by omega), key b _ (by omega), key c _ (by omega), key d _ (by omega), key e _ (by omega), key f _ (by omega), key g _ (by omega), key i _ (by omega)]
theorem mixNext_eq (s : Nat) : mixNext s = (s + 11400714819323198485) % 18446744073709551616 := rfl
theorem mixOut_eq (s : Nat) : mixOut s = shx 31 (shx 27 (shx 30 s * 13787848793156543929 % 18446744073709551616) * 10723151780598845931 % 18446744073709551616) := rfl
attribute [irreducible] mixNext mixOut
end Go.Proofs.YtddopoojmadpjaaGreatDoor

namespace Go.Proofs.YtddopoojmadpjaaGreatDoor
open Go.RowKit

/-- A generator at block b, of that state. -/
def MixAt (w : World) (b s : Nat) : Prop := w.heap[b]? = some (.cells #[.int .u64 (s : Int)] 203 (0, 0))

set_option maxHeartbeats 400000 in
theorem mixNew_any (s : Nat) (w : World) :
    Calls Tryz.prog 106 #[.int .u64 (s : Int)] w fun e w' => e = .returned (.pointer (some ⟨w.heap.size, 0, none⟩)) ∧ w' = w.alloc (.cells #[.int .u64 (s : Int)] 203) := by
  go_enter Tryz.func106, Tryz.ntmps106
  go_wp2
  go_ret
  exact ⟨rfl, rfl⟩

theorem u64_shx (k z : Nat) (h : z < 18446744073709551616) (d : Int) (hd : d = ((2 ^ k : Nat) : Int)) : bits .xor .u64 (z : Int) ((z : Int) / d) = ((shx k z : Nat) : Int) := by
  have h2 := u64_xor_nat z (z / 2 ^ k) h (Nat.lt_of_le_of_lt (Nat.div_le_self _ _) h)
  rw [hd, show ((z : Int) / ((2 ^ k : Nat) : Int)) = ((z / 2 ^ k : Nat) : Int) by simp, h2]; rfl
theorem u64_mulw (a c : Nat) (d : Int) (hd : d = (c : Int)) : IntKind.u64.wrap ((a : Int) * d) = ((a * c % 18446744073709551616 : Nat) : Int) := by
  rw [hd, IntKind.wrap_u64]; simp
theorem mix_next (s : Nat) : IntKind.u64.wrap ((s : Int) + 11400714819323198485) = ((mixNext s : Nat) : Int) := by
  rw [IntKind.wrap_u64, mixNext_eq]; omega
/-- what the text reckons of a state. -/
theorem mix_out (s : Nat) (h : s < 18446744073709551616) :
    bits .xor .u64 (IntKind.u64.wrap (bits .xor .u64 (IntKind.u64.wrap (bits .xor .u64 (s : Int) ((s : Int) / 1073741824) * 13787848793156543929)) (IntKind.u64.wrap (bits .xor .u64 (s : Int) ((s : Int) / 1073741824) * 13787848793156543929) / 134217728) * 10723151780598845931))
      (IntKind.u64.wrap (bits .xor .u64 (IntKind.u64.wrap (bits .xor .u64 (s : Int) ((s : Int) / 1073741824) * 13787848793156543929)) (IntKind.u64.wrap (bits .xor .u64 (s : Int) ((s : Int) / 1073741824) * 13787848793156543929) / 134217728) * 10723151780598845931) / 2147483648) = ((mixOut s : Nat) : Int) := by
  rw [mixOut_eq, u64_shx 30 s h 1073741824 (by decide), u64_mulw _ 13787848793156543929 13787848793156543929 (by decide), u64_shx 27 _ (Nat.mod_lt _ (by decide)) 134217728 (by decide), u64_mulw _ 10723151780598845931 10723151780598845931 (by decide), u64_shx 31 _ (Nat.mod_lt _ (by decide)) 2147483648 (by decide)]

set_option maxHeartbeats 1000000 in
theorem mixNext_any (b s : Nat) (w : World) (h : MixAt w b s) :
    Calls Tryz.prog 125 #[.pointer (some ⟨b, 0, none⟩)] w fun e w' => e = .returned (.int .u64 (mixOut (mixNext s) : Nat)) ∧ w' = w.setCell ⟨b, 0, none⟩ (.int .u64 (mixNext s : Nat)) := by
  have hc := cell_of_one h
  have hf := free_of_one h
  go_enter Tryz.func125, Tryz.ntmps125
  go_wp2
  go_ret
  refine ⟨?_, by rw [mix_next]⟩
  rw [← mix_out _ (mixNext_lt s), ← mix_next]
  rfl

set_option maxHeartbeats 400000 in
theorem mixNext_nil (w : World) :
    Calls Tryz.prog 125 #[.pointer none] w fun e w' => e = .returned (.int .u64 0) ∧ w = w' := by
  go_enter Tryz.func125, Tryz.ntmps125
  go_wp2
  go_ret
  exact ⟨rfl, rfl⟩
theorem MixAt.gr {w w' : World} {b s : Nat} (h : MixAt w b s) (hb : Gr w w') : MixAt w' b s := hb.heap h
theorem MixAt.grb {w w' : World} {b c s : Nat} (h : MixAt w b s) (hb : GrB w c w') (hne : b ≠ c) : MixAt w' b s := hb.heap h hne
theorem MixAt.set {w : World} {b s t : Nat} (h : MixAt w b s) : MixAt (w.setCell ⟨b, 0, none⟩ (.int .u64 (t : Int))) b t := one_setCell h
theorem MixAt.other {w : World} {b s : Nat} (h : MixAt w b s) {p : Addr} (hp : b ≠ p.block) (u : Value) : MixAt (w.setCell p u) b s := by
  unfold MixAt; rw [Below.heap_setCell _ _ _ _ hp]; exact h

set_option maxHeartbeats 400000 in
theorem mixBytes_nil (n : Int) (w : World) :
    Calls Tryz.prog 107 #[.pointer none, .int .i64 n] w fun e w' => e = .returned (.tuple #[.slice none 0 0, .int .i64 1]) ∧ w = w' := by
  go_enter Tryz.func107, Tryz.ntmps107
  go_wp2
  go_ret2
  exact ⟨rfl, rfl⟩

set_option maxHeartbeats 400000 in
theorem mixBytes_range (a : Addr) (n : Int) (h : n < 0 ∨ 65536 < n) (w : World) :
    Calls Tryz.prog 107 #[.pointer (some a), .int .i64 n] w fun e w' => e = .returned (.tuple #[.slice none 0 0, .int .i64 2]) ∧ w = w' := by
  rcases h with h | h
  · go_enter Tryz.func107, Tryz.ntmps107
    go_wp2
    go_ret2
    exact ⟨rfl, rfl⟩
  · have h' : ¬ n < 0 := by omega
    go_enter Tryz.func107, Tryz.ntmps107
    go_wp2
    go_ret2
    exact ⟨rfl, rfl⟩

set_option maxRecDepth 100000 in
set_option maxHeartbeats 2000000 in
theorem mixBytes_any (b s : Nat) (hs : s < 18446744073709551616) (n : Nat) (hn : n ≤ 65536) (w : World) (h : MixAt w b s) :
    Calls Tryz.prog 107 #[.pointer (some ⟨b, 0, none⟩), .int .i64 (n : Int)] w fun e w' =>
      ∃ g, w.heap.size ≤ g ∧ e = .returned (.tuple #[.slice (some ⟨g, 0, none⟩) n n, .int .i64 0]) ∧ GrB w b w' ∧ MixAt w' b (mixIter ((n + 7) / 8) s) ∧ Bs w' (some ⟨g, 0, none⟩) n n (mixList s n) := by
  obtain ⟨i0, hi, hz0, hz1, hz2⟩ := info_parts infoByte
  have Hs := Lib.hid hs
  clear hs
  have hbl := lt_of_block h
  go_enter Tryz.func107, Tryz.ntmps107
  go_wp2_with (at_make; refine wpList_make_full _ rfl (.tmp 18) (.tmp 18) 22 rfl w.heap.size 5 i0 (.int .u8 0) 1 Tryz.underlying22 hi hz0 hz1 .i64 .i64 (n : Int) (n : Int) n rfl rfl rfl rfl (by rw [hz2]; omega) (by unfold maxLen; omega) (Nat.le_refl _) ?_; intro w1 hown hgrow)
  have hob : OwnB w1 w.heap.size w.heap.size n n (mixPart s n 0) := by
    unfold OwnB
    have e : u8s (mixPart s n 0) = (madeCells (Value.int .u8 0).cells (n * 1)).toList := by
      rw [mixPart_zero]
      apply List.ext_getElem
      · simp [u8s, madeCells]
      · intro i h1 h2; simp [u8s, madeCells, Value.cells, Nat.mod_one]
    rw [e]; exact hown
  have hgb : GrB w b w1 := ⟨hgrow.os, hgrow.tape, hgrow.output, hgrow.size, fun j hj _ => hgrow.block j hj (by simp)⟩
  have hmb : MixAt w1 b (mixIter 0 s) := by show w1.heap[b]? = _; rw [hgrow.block b hbl (by simp)]; exact h
  clear hown hgrow h
  go_loopw [7] (fun i wr => ∃ k t : Nat, t = 8 * k ∧ t ≤ n + 7 ∧ i = .int .i64 t ∧ OwnB wr w.heap.size w.heap.size n n (mixPart s n t) ∧ MixAt wr b (mixIter k s) ∧ GrB w b wr) (fun i _ => n + 8 - (intOf i).toNat)
  case atStart => exact ⟨0, 0, rfl, by omega, rfl, hob, hmb, hgb⟩
  case round =>
    obtain ⟨k, t, ht, htn, rfl, hob1, hmb1, hgb1⟩ := hrel
    have HT := Lib.hid ht
    clear ht
    by_cases hlt : t < n
    · go_wp2_with fail
      refine (mixNext_any b _ wr hmb1).mono ?_
      rintro e w2 ⟨rfl, hw2⟩
      have hob2 : OwnB w2 w.heap.size w.heap.size n n (mixPart s n t) := by
        rw [hw2]; exact World.ownsRow.kept hob1 (GrB.set (GrB.refl wr b) (.inl rfl) _) (.inr (by simp [Value.ownBlock]; omega))
      have hmb2 : MixAt w2 b (mixIter (k + 1) s) := by rw [hw2]; exact hmb1.set
      have hgb2 : GrB w b w2 := by rw [hw2]; exact hgb1.set (.inl rfl) _
      clear hw2 hob1 hmb1 hgb1
      obtain ⟨x, hx⟩ : ∃ x, mixOut (mixNext (mixIter k s)) = x := ⟨_, rfl⟩
      rw [hx]
      have hxl : Hid (x < 18446744073709551616) := by show x < _; rw [← hx]; exact mixOut_lt _
      have HX := Lib.hid hx
      clear hx
      by_cases h8 : t + 8 ≤ n
      · obtain ⟨m, hm, hm1, hm2⟩ : ∃ m : Nat, 8 ≤ m ∧ m ≤ 8 ∧ t + m ≤ n := ⟨8, by omega, by omega, h8⟩
        go_wp2
        go_loopw [31] (fun i wr => ∃ j : Nat, j ≤ m ∧ i = .int .i64 j ∧ OwnB wr w.heap.size w.heap.size n n (mixPart s n (t + j)) ∧ MixAt wr b (mixIter (k + 1) s) ∧ GrB w b wr) (fun i _ => m - (intOf i).toNat)
        case atStart => exact ⟨0, by omega, rfl, hob2, hmb2, hgb2⟩
        case round =>
          obtain ⟨j, hj, rfl, hob3, hmb3, hgb3⟩ := hrel
          by_cases hjm : j < m
          · obtain ⟨y, hy⟩ : ∃ y, (mixPart s n (t + j))[t + j]? = some y := ⟨_, List.getElem?_eq_getElem (by rw [mixPart_length]; omega)⟩
            have hcy := hob3.cell hy
            have hfy := hob3.free (t + j)
            clear hy
            have hbyte : Hid (((mixByte s (t + j)).toNat : Int) = (x : Int) / 2 ^ (8 * j) % 256) := by
              show _ = _
              have ht := HT.out
              rw [mixByte, ht, show (8 * k + j) / 8 + 1 = k + 1 by omega, show (8 * k + j) % 8 = j by omega, show mixIter (k + 1) s = mixNext (mixIter k s) by rfl, HX.out, UInt8.toNat_ofNat']
              simp
            go_wp2
            go_roundw
            case rel =>
              refine ⟨j + 1, by omega, by go_num, ?_, hmb3.other (by show b ≠ w.heap.size; omega) _, hgb3.set (.inr (Nat.le_refl _)) _⟩
              rw [← hbyte.out, show t + (j + 1) = (t + j) + 1 by omega, ← mixPart_set]
              exact hob3.set (t + j) (mixByte s (t + j))
            case measure => simp [intOf]; omega
          · obtain rfl : j = m := by omega
            go_wp2
            go_roundw
            case rel =>
              have ht := HT.out
              refine ⟨k + 1, t + 8, by omega, by omega, by go_num, ?_, hmb3, hgb3⟩
              have e : mixPart s n (t + 8) = mixPart s n (t + j) := by
                first
                  | (rw [show t + 8 = t + j by omega])
                  | (rw [mixPart_all s n (show n ≤ t + 8 by omega), mixPart_all s n (show n ≤ t + j by omega)])
              rw [e]; exact hob3
            case measure => simp [intOf]; omega
      · obtain ⟨m, hm, hm1, hm2⟩ : ∃ m : Nat, n ≤ t + m ∧ m ≤ 8 ∧ t + m ≤ n := ⟨n - t, by omega, by omega, by omega⟩
        go_wp2
        go_loopw [31] (fun i wr => ∃ j : Nat, j ≤ m ∧ i = .int .i64 j ∧ OwnB wr w.heap.size w.heap.size n n (mixPart s n (t + j)) ∧ MixAt wr b (mixIter (k + 1) s) ∧ GrB w b wr) (fun i _ => m - (intOf i).toNat)
        case atStart => exact ⟨0, by omega, rfl, hob2, hmb2, hgb2⟩
        case round =>
          obtain ⟨j, hj, rfl, hob3, hmb3, hgb3⟩ := hrel
          by_cases hjm : j < m
          · obtain ⟨y, hy⟩ : ∃ y, (mixPart s n (t + j))[t + j]? = some y := ⟨_, List.getElem?_eq_getElem (by rw [mixPart_length]; omega)⟩
            have hcy := hob3.cell hy
            have hfy := hob3.free (t + j)
            clear hy
            have hbyte : Hid (((mixByte s (t + j)).toNat : Int) = (x : Int) / 2 ^ (8 * j) % 256) := by
              show _ = _
              have ht := HT.out
              rw [mixByte, ht, show (8 * k + j) / 8 + 1 = k + 1 by omega, show (8 * k + j) % 8 = j by omega, show mixIter (k + 1) s = mixNext (mixIter k s) by rfl, HX.out, UInt8.toNat_ofNat']
              simp
            go_wp2
            go_roundw
            case rel =>
              refine ⟨j + 1, by omega, by go_num, ?_, hmb3.other (by show b ≠ w.heap.size; omega) _, hgb3.set (.inr (Nat.le_refl _)) _⟩
              rw [← hbyte.out, show t + (j + 1) = (t + j) + 1 by omega, ← mixPart_set]
              exact hob3.set (t + j) (mixByte s (t + j))
            case measure => simp [intOf]; omega
          · obtain rfl : j = m := by omega
            go_wp2
            go_roundw
            case rel =>
              have ht := HT.out
              refine ⟨k + 1, t + 8, by omega, by omega, by go_num, ?_, hmb3, hgb3⟩
              have e : mixPart s n (t + 8) = mixPart s n (t + j) := by
                first
                  | (rw [show t + 8 = t + j by omega])
                  | (rw [mixPart_all s n (show n ≤ t + 8 by omega), mixPart_all s n (show n ≤ t + j by omega)])
              rw [e]; exact hob3
            case measure => simp [intOf]; omega
    · go_wp2
      go_ret2
      refine ⟨w.heap.size, Nat.le_refl _, rfl, hgb1, ?_, ?_⟩
      · have : k = (n + 7) / 8 := by have := HT.out; omega
        rw [← this]; exact hmb1
      · rw [← mixPart_all s n (show n ≤ t by omega)]; exact hob1.bs
/-- with the new block under a name. -/
theorem mixNew' (s : Nat) (w : World) :
    Calls Tryz.prog 106 #[.int .u64 (s : Int)] w fun e w' => ∃ b, w.heap.size ≤ b ∧ b < w'.heap.size ∧ e = .returned (.pointer (some ⟨b, 0, none⟩)) ∧ MixAt w' b s ∧ Gr w w' :=
  (mixNew_any s w).mono fun _ _ ⟨he, hw⟩ => ⟨w.heap.size, Nat.le_refl _, by rw [hw]; simp, he, by rw [hw]; exact heap_alloc_new _ _, by rw [hw]; exact (Gr.refl _).alloc _⟩
theorem mixNext' (b s : Nat) (w : World) (h : MixAt w b s) :
    Calls Tryz.prog 125 #[.pointer (some ⟨b, 0, none⟩)] w fun e w' => e = .returned (.int .u64 (mixOut (mixNext s) : Nat)) ∧ MixAt w' b (mixNext s) ∧ GrB w b w' :=
  (mixNext_any b s w h).mono fun _ _ ⟨he, hw⟩ => ⟨he, by rw [hw]; exact h.set, by rw [hw]; exact (GrB.refl _ _).set (.inl rfl) _⟩

set_option maxHeartbeats 400000 in
theorem mixRow_any (s : Nat) (hs : s < 18446744073709551616) (n : Nat) (hn : n ≤ 65536) (w : World) :
    Calls Tryz.prog 67 #[.int .u64 (s : Int), .int .i64 (n : Int)] w fun e w' =>
      ∃ g, w.heap.size ≤ g ∧ e = .returned (.tuple #[.slice (some ⟨g, 0, none⟩) n n, .int .i64 0]) ∧ Gr w w' ∧ Bs w' (some ⟨g, 0, none⟩) n n (mixList s n) := by
  have Hs := Lib.hid hs
  clear hs
  go_enter Tryz.func67, Tryz.ntmps67
  go_wp2_with fail
  refine (mixNew' s w).mono ?_
  rintro e w1 ⟨b, hb, hbl, rfl, hm, hg⟩
  go_wp2_with fail
  refine (mixBytes_any b s Hs.out n hn w1 hm).mono ?_
  rintro e w2 ⟨g, hg1, rfl, hgb, hm2, hbs⟩
  go_wp2
  go_ret2
  exact ⟨g, Nat.le_trans hg.size hg1, rfl, hg.grb hgb hb, hbs⟩
theorem mixRow_range (s : Nat) (n : Int) (h : n < 0 ∨ 65536 < n) (w : World) :
    Calls Tryz.prog 67 #[.int .u64 (s : Int), .int .i64 n] w fun e w' => e = .returned (.tuple #[.slice none 0 0, .int .i64 2]) ∧ Gr w w' := by
  have H := Lib.hid h
  clear h
  go_enter Tryz.func67, Tryz.ntmps67
  go_wp2_with fail
  refine (mixNew' s w).mono ?_
  rintro e w1 ⟨b, hb, hbl, rfl, hm, hg⟩
  go_wp2_with fail
  refine (mixBytes_range ⟨b, 0, none⟩ n H.out w1).mono ?_
  rintro e w2 ⟨rfl, rfl⟩
  go_wp2
  go_ret2
  exact ⟨rfl, hg⟩
end Go.Proofs.YtddopoojmadpjaaGreatDoor

namespace Go.Proofs.YtddopoojmadpjaaGreatDoor
open Go.RowKit

set_option maxRecDepth 100000 in
set_option maxHeartbeats 1000000 in
theorem mixPut_any (s : Nat) (w : World) :
    Calls Tryz.prog 111 #[.int .u64 (s : Int)] w fun e w' => ∃ g, w.heap.size ≤ g ∧ e = .returned (.slice (some ⟨g, 0, none⟩) 8 8) ∧ Bs w' (some ⟨g, 0, none⟩) 8 8 (put8 s) ∧ Gr w w' := by
  obtain ⟨i0, hi, hz0, hz1, hz2⟩ := info_parts infoByte
  go_enter Tryz.func111, Tryz.ntmps111
  go_wp2_with (at_make; refine wpList_make_full _ rfl (.const (.int .i64 8)) (.const (.int .i64 8)) 22 rfl w.heap.size 5 i0 (.int .u8 0) 1 Tryz.underlying22 hi hz0 hz1 .i64 .i64 8 8 8 rfl rfl rfl rfl (by rw [hz2]; omega) (by decide) (Nat.le_refl _) ?_; intro w1 hown hgrow)
  have hob := OwnB.of_made (f := fun i => UInt8.ofNat (s / 2 ^ (56 - 8 * i))) hown
  have hg1 : Gr w w1 := Gr.grown (Gr.refl _) hgrow (fun k hk => by cases hk)
  clear hown hgrow
  go_loopw [6] (fun i wr => ∃ j : Nat, j ≤ 8 ∧ i = .int .i64 j ∧ OwnB wr w.heap.size w.heap.size 8 8 (fillTo (fun i => UInt8.ofNat (s / 2 ^ (56 - 8 * i))) 8 j) ∧ Gr w wr) (fun i _ => 8 - (intOf i).toNat)
  case atStart => exact ⟨0, by omega, rfl, hob, hg1⟩
  case round =>
    obtain ⟨j, hj, rfl, hob1, hgr⟩ := hrel
    by_cases hlt : j < 8
    · obtain ⟨y, hy⟩ : ∃ y, (fillTo (fun i => UInt8.ofNat (s / 2 ^ (56 - 8 * i))) 8 j)[j]? = some y := ⟨_, List.getElem?_eq_getElem (by rw [fillTo_length]; omega)⟩
      have hcy := hob1.cell hy
      have hfy := hob1.free j
      clear hy
      have hq : (56 : Int) - 8 * (j : Int) = ((56 - 8 * j : Nat) : Int) := by omega
      obtain ⟨q, hqq⟩ : ∃ q, 56 - 8 * j = q := ⟨_, rfl⟩
      rw [hqq] at hq
      have HQ := Lib.hid hqq
      have hq64 : q < 64 := by omega
      clear hqq
      go_wp2
      go_roundw
      case rel =>
        refine ⟨j + 1, by omega, by go_num, ?_, hgr.setCell (Nat.le_refl _) _⟩
        rw [← fillTo_set]
        have := hob1.set j (UInt8.ofNat (s / 2 ^ (56 - 8 * j)))
        rw [HQ.out] at this ⊢
        have e : (((UInt8.ofNat (s / 2 ^ q)).toNat : Nat) : Int) = (s : Int) / 2 ^ q % 256 := by rw [UInt8.toNat_ofNat']; simp
        rw [e] at this
        exact this
      case measure => simp [intOf]; omega
    · obtain rfl : j = 8 := by omega
      go_wp2
      go_ret
      refine ⟨w.heap.size, Nat.le_refl _, rfl, ?_, hgr⟩
      have := hob1.bs
      rw [fillTo_all _ 8 (Nat.le_refl _)] at this
      exact this

theorem u64_or_low (q x : Nat) (hx : x < 256) (h : q * 256 + x < 2 ^ 64) : bits .or .u64 ((q : Int) * 256) (x : Int) = ((q * 256 + x : Nat) : Int) := by
  have h1 := u64_or_nat (q * 256) x (Nat.lt_of_le_of_lt (Nat.le_add_right _ _) h) (Nat.lt_trans hx (by decide))
  have h2 := Nat.two_pow_add_eq_or_of_lt (i := 8) (b := x) (by omega) q
  have h3 : q * 256 ||| x = q * 256 + x := by rw [Nat.mul_comm q 256]; exact h2.symm
  have h4 : ((q * 256 : Nat) : Int) = (q : Int) * 256 := by simp
  rw [h3, h4] at h1
  exact h1
theorem u64_shl8 (q : Nat) (h : q * 256 < 2 ^ 64) : IntKind.u64.wrap ((q : Int) * 256) = ((q * 256 : Nat) : Int) := by
  rw [IntKind.wrap_u64]; simp only [Nat.reducePow] at h; omega

set_option maxHeartbeats 1000000 in
theorem mixSeed_any (a : Option Addr) (cap : Nat) (l : List UInt8) (w : World) (hs : Bs w a 8 cap l) :
    Calls Tryz.prog 117 #[.slice a 8 cap] w fun e w' => e = .returned (.tuple #[.int .u64 (seedTo l : Nat), .int .i64 0]) ∧ w = w' := by
  obtain ⟨b, off, rfl, _, _⟩ := hs.at_ (by omega)
  have L1 : Hid (l.length = 8) := hs.1
  go_enter Tryz.func117, Tryz.ntmps117
  go_wp2
  go_loop [4, 12] (fun s i => ∃ k : Nat, k ≤ 8 ∧ i = .int .i64 k ∧ s = .int .u64 (seedTo (l.take k) : Nat)) (fun _ i => 8 - (intOf i).toNat)
  case atStart => exact ⟨0, by omega, rfl, rfl⟩
  case round =>
    obtain ⟨k, hk, rfl, rfl⟩ := hrel
    obtain ⟨q, hq⟩ : ∃ q, seedTo (l.take k) = q := ⟨_, rfl⟩
    rw [hq]
    have HQ := Lib.hid hq
    clear hq
    by_cases hlt : k < 8
    · obtain ⟨x, hx, hcx⟩ := hs.get hlt
      have HX := Lib.hid hx
      clear hx
      have hxl := x.toNat_lt
      have hbd : Hid (q * 256 + x.toNat < 2 ^ 64) := by
        show q * 256 + x.toNat < _
        have h1 := seedTo_lt k (l.take k) (by rw [List.length_take, L1.out]; omega)
        rw [HQ.out] at h1
        have h2 : 256 ^ k ≤ 256 ^ 7 := Nat.pow_le_pow_right (by decide) (by omega)
        have h3 : q + 1 ≤ 256 ^ 7 := Nat.lt_of_lt_of_le h1 h2
        have h4 : (q + 1) * 256 ≤ 256 ^ 7 * 256 := Nat.mul_le_mul_right _ h3
        have h5 : (256 : Nat) ^ 7 * 256 = 2 ^ 64 := by decide
        rw [h5] at h4
        exact Nat.lt_of_lt_of_le (by omega) h4
      have h1 := u64_shl8 q (Nat.lt_of_le_of_lt (Nat.le_add_right _ _) hbd.out)
      have h2 := Lib.hid (u64_or_low q x.toNat hxl hbd.out)
      have HN : Hid (seedTo (l.take (k + 1)) = q * 256 + x.toNat) := by
        show _ = _
        rw [List.take_add_one, HX.out, ← HQ.out]; exact seedTo_snoc _ _
      go_wp2
      go_round
      case rel => exact ⟨k + 1, by omega, by go_num, by rw [HN.out]; exact congrArg _ h2.out⟩
      case measure => simp [intOf]; omega
    · obtain rfl : k = 8 := by omega
      have HE : Hid (seedTo l = q) := by show seedTo l = q; rw [← HQ.out, List.take_of_length_le (by rw [L1.out]; exact Nat.le_refl _)]
      go_wp2
      go_ret2
      exact ⟨by rw [HE.out]; rfl, rfl⟩
set_option maxHeartbeats 400000 in
theorem mixSeed_size (a : Option Addr) (len cap : Nat) (l : List UInt8) (w : World) (hs : Bs w a len cap l) (h : len ≠ 8) :
    Calls Tryz.prog 117 #[.slice a len cap] w fun e w' => e = .returned (.tuple #[.int .u64 0, .int .i64 4]) ∧ w = w' := by
  have hm : len ≤ 9223372036854775807 := by have h1 := hs.2.1; have h2 := hs.2.2.1; unfold maxLen at h2; omega
  have h' : ((len : Int) != 8) = true := by rw [bne_iff_ne]; omega
  clear h
  go_enter Tryz.func117, Tryz.ntmps117
  go_wp2
  go_ret2
  exact ⟨rfl, rfl⟩

end Go.Proofs.YtddopoojmadpjaaGreatDoor

namespace Go.Proofs.YtddopoojmadpjaaGreatDoor
open Go.RowKit

/-- with how many bytes a source is written; what is wrong. -/
def widthN (mode : Nat) (k : Int) : Int := if 1 < mode then 0 else if k < 1 ∨ 4096 < k then 0 else if mode = 1 then 8 else k
def widthE (mode : Nat) (k : Int) : Nat := if 1 < mode then 8 else if k < 1 ∨ 4096 < k then 2 else 0
def rowErr (mode len : Nat) (k : Int) : Nat := if widthE mode k ≠ 0 then widthE mode k else if mode = 0 ∧ (len : Int) ≠ k then 4 else 0
theorem widthE_zero {mode : Nat} {k : Int} (h : widthE mode k = 0) : mode ≤ 1 ∧ 1 ≤ k ∧ k ≤ 4096 := by
  unfold widthE at h
  by_cases a : 1 < mode
  · rw [if_pos a] at h; cases h
  rw [if_neg a] at h
  by_cases b : k < 1 ∨ 4096 < k
  · rw [if_pos b] at h; cases h
  omega
theorem widthE_ok {mode : Nat} {k : Int} (h : mode ≤ 1) (h1 : 1 ≤ k) (h2 : k ≤ 4096) : widthE mode k = 0 := by
  unfold widthE; rw [if_neg (by omega), if_neg (by omega)]
theorem rowErr_zero {mode len : Nat} {k : Int} (h : rowErr mode len k = 0) : widthE mode k = 0 ∧ (mode = 0 → (len : Int) = k) := by
  unfold rowErr at h
  by_cases a : widthE mode k ≠ 0
  · rw [if_pos a] at h; exact absurd h a
  rw [if_neg a] at h
  by_cases b : mode = 0 ∧ (len : Int) ≠ k
  · rw [if_pos b] at h; cases h
  exact ⟨by omega, fun hm => by by_cases c : (len : Int) = k; exact c; exact absurd ⟨hm, c⟩ b⟩

set_option maxHeartbeats 1000000 in
theorem width_any (mode : Nat) (k : Int) (w : World) :
    Calls Tryz.prog 105 #[.int .u8 (mode : Int), .int .i64 k] w fun e w' => e = .returned (.tuple #[.int .i64 (widthN mode k), .int .i64 (widthE mode k : Nat)]) ∧ w = w' := by
  by_cases a : 1 < mode
  · have hn : Hid (widthN mode k = 0) := by show _ = _; rw [widthN, if_pos a]
    have he : Hid (widthE mode k = 8) := by show _ = _; rw [widthE, if_pos a]
    have t0 : ((mode : Int) != 0) = true := by rw [bne_iff_ne]; omega
    have t1 : ((mode : Int) != 1) = true := by rw [bne_iff_ne]; omega
    clear a
    go_enter Tryz.func105, Tryz.ntmps105
    go_wp2
    go_ret2
    exact ⟨by rw [hn.out, he.out]; rfl, rfl⟩
  have hmm : mode = 0 ∨ mode = 1 := by omega
  by_cases b : k < 1
  · have hn : Hid (widthN mode k = 0) := by show _ = _; rw [widthN, if_neg a, if_pos (.inl b)]
    have he : Hid (widthE mode k = 2) := by show _ = _; rw [widthE, if_neg a, if_pos (.inl b)]
    clear a
    rcases hmm with rfl | rfl
    all_goals
      go_enter Tryz.func105, Tryz.ntmps105
      go_wp2
      go_ret2
      exact ⟨by rw [hn.out, he.out]; rfl, rfl⟩
  by_cases c : 4096 < k
  · have hn : Hid (widthN mode k = 0) := by show _ = _; rw [widthN, if_neg a, if_pos (.inr c)]
    have he : Hid (widthE mode k = 2) := by show _ = _; rw [widthE, if_neg a, if_pos (.inr c)]
    clear a
    rcases hmm with rfl | rfl
    all_goals
      go_enter Tryz.func105, Tryz.ntmps105
      go_wp2
      go_ret2
      exact ⟨by rw [hn.out, he.out]; rfl, rfl⟩
  have he : Hid (widthE mode k = 0) := by show _ = _; rw [widthE, if_neg a, if_neg (by omega)]
  have hn : Hid (widthN mode k = if mode = 1 then 8 else k) := by show _ = _; rw [widthN, if_neg a, if_neg (by omega)]
  clear a
  rcases hmm with rfl | rfl
  · go_enter Tryz.func105, Tryz.ntmps105
    go_wp2
    go_ret2
    exact ⟨by rw [hn.out, he.out]; rfl, rfl⟩
  · go_enter Tryz.func105, Tryz.ntmps105
    go_wp2
    go_ret2
    exact ⟨by rw [hn.out, he.out]; rfl, rfl⟩
set_option maxRecDepth 100000 in
set_option maxHeartbeats 1000000 in
theorem explicit_any (a : Option Addr) (len cap : Nat) (l : List UInt8) (w : World) (hs : Bs w a len cap l) (hm : len ≤ 140737488355328) :
    Calls Tryz.prog 61 #[.slice a len cap] w fun e w' => ∃ a' cap', e = .returned (.agg #[.int .u8 0, .slice a' len cap', .int .u64 0]) ∧ Bs w' a' len cap' l ∧ (∀ y, a' = some y → w.heap.size ≤ y.block) ∧ Gr w w' := by
  go_enter Tryz.func61, Tryz.ntmps61
  go_wp2_with fail
  refine (sliceClone_own a len cap l _ (hs.below ((Gr.refl w).alloc _)) hm).mono ?_
  rintro e w1 ⟨v, rfl, ho, hg⟩
  obtain ⟨a1, cap1, rfl, _⟩ := ho.slice
  obtain ⟨hb, ha⟩ := ho.bs'
  rw [hs.1] at hb ⊢
  have hA := hg.heap (heap_alloc_new w _)
  have hgw : Gr w w1 := ((Gr.refl w).alloc _).trans hg
  obtain ⟨c0, c1, c2, f0⟩ := three_cells hA
  obtain ⟨hgb, hh⟩ := three_set hA (.int .u8 0) (.slice a1 len cap1) (.int .u64 0)
  have hg3 := hgw.grb hgb (Nat.le_refl _)
  have hb3 := hb.grb hgb (fun y hy => by have := ha y hy; simp at this; omega)
  obtain ⟨d0, d1, d2, _⟩ := three_cells hh
  have H3 := Lib.hid hg3
  have HB3 := Lib.hid hb3
  have HA3 := Lib.hid (fun y (hy : a1 = some y) => Nat.le_trans ((Gr.refl w).alloc (.cells #[.int .u8 0, .slice none 0 0, .int .u64 0] 41)).size (ha y hy))
  clear hA hgb hh hg3 hb3 ho hb ha hg
  go_wp2
  refine bodyPost_ret (v := .agg #[.int .u8 0, .slice a1 len cap1, .int .u64 0]) ?_ rfl ⟨a1, cap1, rfl, HB3.out, HA3.out, H3.out⟩
  simp [results, Tryz.results61, go_sem, c0, c1, c2]
set_option maxHeartbeats 1000000 in
theorem seeded_any (n : Int) (w : World) :
    Calls Tryz.prog 118 #[.int .u64 n] w fun e w' => e = .returned (.agg #[.int .u8 1, .slice none 0 0, .int .u64 n]) ∧ Gr w w' := by
  go_enter Tryz.func118, Tryz.ntmps118
  go_wp2
  refine bodyPost_ret (v := .agg #[.int .u8 1, .slice none 0 0, .int .u64 n]) ?_ rfl ⟨rfl, (Gr.refl w).alloc _⟩
  simp [results, Tryz.results118, go_sem]

set_option maxHeartbeats 1000000 in
theorem rowFits_any (mode : Nat) (a : Option Addr) (len cap : Nat) (seed : Int) (k : Int) (_ : len ≤ 9223372036854775807) (w : World) :
    Calls Tryz.prog 65 #[.agg #[.int .u8 (mode : Int), .slice a len cap, .int .u64 seed], .int .i64 k] w fun e w' => e = .returned (.int .i64 (rowErr mode len k : Nat)) ∧ Gr w w' := by
  by_cases hE : widthE mode k = 0
  · have hz := widthE_zero hE
    have HE := Lib.hid hE
    have hr : Hid (rowErr mode len k = if mode = 0 ∧ (len : Int) ≠ k then 4 else 0) := by show _ = _; rw [rowErr, if_neg (by simpa using hE)]
    by_cases h0 : mode = 0
    · subst h0
      by_cases hk : (len : Int) = k
      · have ht : ((len : Int) != k) = false := by simpa using hk
        have hr2 : Hid (rowErr 0 len k = 0) := by show _ = _; rw [hr.out, if_neg (by simpa using hk)]
        clear hk hE
        go_enter Tryz.func65, Tryz.ntmps65
        go_wp2_with fail
        refine (width_any 0 k _).mono ?_
        rintro e w1 ⟨rfl, rfl⟩
        rw [HE.out]
        go_wp2
        go_ret
        exact ⟨by rw [hr2.out]; rfl, (Gr.refl w).alloc _⟩
      · have ht : ((len : Int) != k) = true := by simpa using hk
        have hr2 : Hid (rowErr 0 len k = 4) := by show _ = _; rw [hr.out, if_pos ⟨rfl, hk⟩]
        clear hk hE
        go_enter Tryz.func65, Tryz.ntmps65
        go_wp2_with fail
        refine (width_any 0 k _).mono ?_
        rintro e w1 ⟨rfl, rfl⟩
        rw [HE.out]
        go_wp2
        go_ret
        exact ⟨by rw [hr2.out]; rfl, (Gr.refl w).alloc _⟩
    · have h1 : mode = 1 := by omega
      subst h1
      have hr2 : Hid (rowErr 1 len k = 0) := by show _ = _; rw [hr.out, if_neg (by omega)]
      clear hE
      go_enter Tryz.func65, Tryz.ntmps65
      go_wp2_with fail
      refine (width_any 1 k _).mono ?_
      rintro e w1 ⟨rfl, rfl⟩
      rw [HE.out]
      go_wp2
      go_ret
      exact ⟨by rw [hr2.out]; rfl, (Gr.refl w).alloc _⟩
  · have hr : Hid (rowErr mode len k = widthE mode k) := by show _ = _; rw [rowErr, if_pos hE]
    have CW := Lib.hid (width_any mode k)
    obtain ⟨q, hq⟩ : ∃ q, widthE mode k = q := ⟨_, rfl⟩
    rw [hq] at hr CW hE
    have ht : ((q : Int) != 0) = true := by rw [bne_iff_ne]; omega
    clear hq hE
    go_enter Tryz.func65, Tryz.ntmps65
    go_wp2_with fail
    refine (CW.out _).mono ?_
    rintro e w1 ⟨rfl, rfl⟩
    go_wp2
    go_ret
    exact ⟨by rw [hr.out]; rfl, (Gr.refl w).alloc _⟩

set_option maxHeartbeats 1000000 in
theorem rowVector_bad (mode : Nat) (a : Option Addr) (len cap : Nat) (seed : Int) (k : Int) (hm : len ≤ 9223372036854775807) (hE : rowErr mode len k ≠ 0) (w : World) :
    Calls Tryz.prog 32 #[.agg #[.int .u8 (mode : Int), .slice a len cap, .int .u64 seed], .int .i64 k] w fun e w' => e = .returned (.tuple #[.slice none 0 0, .int .i64 (rowErr mode len k : Nat)]) ∧ Gr w w' := by
  have CF := Lib.hid (rowFits_any mode a len cap seed k hm)
  obtain ⟨q, hq⟩ : ∃ q, rowErr mode len k = q := ⟨_, rfl⟩
  rw [hq] at CF hE ⊢
  have ht : ((q : Int) != 0) = true := by rw [bne_iff_ne]; omega
  clear hq hE
  go_enter Tryz.func32, Tryz.ntmps32
  go_wp2_with fail
  refine (CF.out _).mono ?_
  rintro e w1 ⟨rfl, hg⟩
  go_wp2
  go_ret2
  exact ⟨rfl, ((Gr.refl w).alloc _).trans hg⟩
set_option maxHeartbeats 1000000 in
theorem rowWrite_bad (mode : Nat) (a : Option Addr) (len cap : Nat) (seed : Int) (k : Int) (hm : len ≤ 9223372036854775807) (hE : rowErr mode len k ≠ 0) (w : World) :
    Calls Tryz.prog 72 #[.agg #[.int .u8 (mode : Int), .slice a len cap, .int .u64 seed], .int .i64 k] w fun e w' => e = .returned (.tuple #[.slice none 0 0, .int .i64 (rowErr mode len k : Nat)]) ∧ Gr w w' := by
  have CF := Lib.hid (rowFits_any mode a len cap seed k hm)
  obtain ⟨q, hq⟩ : ∃ q, rowErr mode len k = q := ⟨_, rfl⟩
  rw [hq] at CF hE ⊢
  have ht : ((q : Int) != 0) = true := by rw [bne_iff_ne]; omega
  clear hq hE
  go_enter Tryz.func72, Tryz.ntmps72
  go_wp2_with fail
  refine (CF.out _).mono ?_
  rintro e w1 ⟨rfl, hg⟩
  go_wp2
  go_ret2
  exact ⟨rfl, ((Gr.refl w).alloc _).trans hg⟩

/-- what a source is as a vector, and as it is written. -/
def rowVec (mode : Nat) (l : List UInt8) (seed : Nat) (k : Nat) : List UInt8 := if mode = 0 then l else mixList seed k
def rowText (mode : Nat) (l : List UInt8) (seed : Nat) : List UInt8 := if mode = 0 then l else put8 seed
set_option maxHeartbeats 1000000 in
theorem rowVector_ok (mode : Nat) (a : Option Addr) (len cap : Nat) (l : List UInt8) (seed : Nat) (hseed : seed < 18446744073709551616) (k : Nat) (w : World) (hs : Bs w a len cap l) (hm : len ≤ 140737488355328) (hE : rowErr mode len k = 0) :
    Calls Tryz.prog 32 #[.agg #[.int .u8 (mode : Int), .slice a len cap, .int .u64 (seed : Int)], .int .i64 (k : Int)] w fun e w' => ∃ v, e = .returned (.tuple #[v, .int .i64 0]) ∧ Fresh w w' v (rowVec mode l seed k) ∧ (rowVec mode l seed k).length = k := by
  have CF := Lib.hid (rowFits_any mode a len cap seed k (by omega))
  have hz := rowErr_zero hE
  have hw := widthE_zero hz.1
  have HE := Lib.hid hE
  have HS := Lib.hid hseed
  have hz2 := Lib.hid hz.2
  clear hE hseed hz
  have hmm : mode = 0 ∨ mode = 1 := by omega
  rcases hmm with rfl | rfl
  · have hk : Hid (len = k) := by have := hz2.out rfl; show len = k; omega
    have hv : Hid (rowVec 0 l seed k = l) := rfl
    go_enter Tryz.func32, Tryz.ntmps32
    go_wp2_with fail
    refine (CF.out _).mono ?_
    rintro e w1 ⟨rfl, hg⟩
    rw [HE.out]
    have hA := hg.heap (heap_alloc_new w _)
    obtain ⟨c0, c1, c2, _⟩ := three_cells hA
    have hgw : Gr w w1 := ((Gr.refl w).alloc _).trans hg
    clear hA hg
    go_wp2_with fail
    refine (sliceClone_any a len cap l w1 (hs.below hgw) hm).mono ?_
    rintro e w2 ⟨v, rfl, a2, cap2, rfl, hb2, ha2, hg2⟩
    go_wp2
    go_ret2
    exact ⟨_, rfl, ⟨a2, cap2, by rw [hv.out]; rfl, by rw [hv.out]; exact hb2, fun x hx => Nat.le_trans hgw.size (ha2 x hx), hgw.trans hg2⟩, by rw [hv.out, hs.1, hk.out]⟩
  · have hv : Hid (rowVec 1 l seed k = mixList seed k) := rfl
    go_enter Tryz.func32, Tryz.ntmps32
    go_wp2_with fail
    refine (CF.out _).mono ?_
    rintro e w1 ⟨rfl, hg⟩
    rw [HE.out]
    have hA := hg.heap (heap_alloc_new w _)
    obtain ⟨c0, c1, c2, _⟩ := three_cells hA
    have hgw : Gr w w1 := ((Gr.refl w).alloc _).trans hg
    clear hA hg
    go_wp2_with fail
    refine (mixRow_any seed HS.out k (by omega) w1).mono ?_
    rintro e w2 ⟨g, hgl, rfl, hg2, hb2⟩
    go_wp2
    go_ret2
    have hln := mixList_length seed k
    exact ⟨_, rfl, ⟨some ⟨g, 0, none⟩, k, by rw [hv.out, hln]; rfl, by rw [hv.out, hln]; exact hb2, (fun x hx => by cases hx; exact Nat.le_trans hgw.size hgl), hgw.trans hg2⟩, by rw [hv.out, hln]⟩
set_option maxHeartbeats 1000000 in
theorem rowWrite_ok (mode : Nat) (a : Option Addr) (len cap : Nat) (l : List UInt8) (seed : Nat) (k : Nat) (w : World) (hs : Bs w a len cap l) (hm : len ≤ 140737488355328) (hE : rowErr mode len k = 0) :
    Calls Tryz.prog 72 #[.agg #[.int .u8 (mode : Int), .slice a len cap, .int .u64 (seed : Int)], .int .i64 (k : Int)] w fun e w' => ∃ v, e = .returned (.tuple #[v, .int .i64 0]) ∧ Fresh w w' v (rowText mode l seed) ∧ ((rowText mode l seed).length : Int) = widthN mode k := by
  have CF := Lib.hid (rowFits_any mode a len cap seed k (by omega))
  have hz := rowErr_zero hE
  have hw := widthE_zero hz.1
  have HE := Lib.hid hE
  have hz2 := Lib.hid hz.2
  have hwn : Hid (widthN mode k = if mode = 1 then 8 else (k : Int)) := by show _ = _; rw [widthN, if_neg (by omega), if_neg (by omega)]
  clear hE hz
  have hmm : mode = 0 ∨ mode = 1 := by omega
  rcases hmm with rfl | rfl
  · have hk : Hid (len = k) := by have := hz2.out rfl; show len = k; omega
    have hv : Hid (rowText 0 l seed = l) := rfl
    go_enter Tryz.func72, Tryz.ntmps72
    go_wp2_with fail
    refine (CF.out _).mono ?_
    rintro e w1 ⟨rfl, hg⟩
    rw [HE.out]
    have hA := hg.heap (heap_alloc_new w _)
    obtain ⟨c0, c1, c2, _⟩ := three_cells hA
    have hgw : Gr w w1 := ((Gr.refl w).alloc _).trans hg
    clear hA hg
    go_wp2_with fail
    refine (sliceClone_any a len cap l w1 (hs.below hgw) hm).mono ?_
    rintro e w2 ⟨v, rfl, a2, cap2, rfl, hb2, ha2, hg2⟩
    go_wp2
    go_ret2
    exact ⟨_, rfl, ⟨a2, cap2, by rw [hv.out]; rfl, by rw [hv.out]; exact hb2, fun x hx => Nat.le_trans hgw.size (ha2 x hx), hgw.trans hg2⟩, by rw [hv.out, hs.1, hk.out, hwn.out]; simp⟩
  · have hv : Hid (rowText 1 l seed = put8 seed) := rfl
    go_enter Tryz.func72, Tryz.ntmps72
    go_wp2_with fail
    refine (CF.out _).mono ?_
    rintro e w1 ⟨rfl, hg⟩
    rw [HE.out]
    have hA := hg.heap (heap_alloc_new w _)
    obtain ⟨c0, c1, c2, _⟩ := three_cells hA
    have hgw : Gr w w1 := ((Gr.refl w).alloc _).trans hg
    clear hA hg
    go_wp2_with fail
    refine (mixPut_any seed w1).mono ?_
    rintro e w2 ⟨g, hgl, rfl, hb2, hg2⟩
    go_wp2
    go_ret2
    exact ⟨_, rfl, ⟨some ⟨g, 0, none⟩, 8, by rw [hv.out]; rfl, by rw [hv.out]; exact hb2, (fun x hx => by cases hx; exact Nat.le_trans hgw.size hgl), hgw.trans hg2⟩, by rw [hv.out, hwn.out]; rfl⟩
end Go.Proofs.YtddopoojmadpjaaGreatDoor

namespace Go.Proofs.YtddopoojmadpjaaGreatDoor
open Go.RowKit

/-- what is wrong with bytes that are read as a source. -/
def readErr (mode len : Nat) (k : Int) : Nat := if widthE mode k ≠ 0 then widthE mode k else if (len : Int) ≠ widthN mode k then 4 else 0
set_option maxRecDepth 100000 in
set_option maxHeartbeats 1000000 in
theorem rowRead_bad (mode : Nat) (k : Int) (a : Option Addr) (len cap : Nat) (_ : len ≤ 9223372036854775807) (hE : readErr mode len k ≠ 0) (w : World) :
    Calls Tryz.prog 86 #[.int .u8 (mode : Int), .int .i64 k, .slice a len cap] w fun e w' => e = .returned (.tuple #[.agg #[.int .u8 0, .slice none 0 0, .int .u64 0], .int .i64 (readErr mode len k : Nat)]) ∧ Gr w w' := by
  have CW := Lib.hid (width_any mode k)
  by_cases h : widthE mode k = 0
  · have hr : Hid (readErr mode len k = 4) := by
      show _ = _
      by_cases c : (len : Int) ≠ widthN mode k
      · rw [readErr, if_neg (by simpa using h), if_pos c]
      · exact absurd (by rw [readErr, if_neg (by simpa using h), if_neg c]) hE
    have hn : ((len : Int) != widthN mode k) = true := by
      rw [bne_iff_ne]
      intro c
      exact hE (by rw [readErr, if_neg (by simpa using h), if_neg (by simpa using c)])
    rw [h] at CW
    obtain ⟨q, hq⟩ : ∃ q, widthN mode k = q := ⟨_, rfl⟩
    rw [hq] at CW hn
    clear hq h hE
    go_enter Tryz.func86, Tryz.ntmps86
    go_wp2_with fail
    refine (CW.out _).mono ?_
    rintro e w1 ⟨rfl, rfl⟩
    go_wp2
    refine bodyPost_ret (v := .tuple #[.agg #[.int .u8 0, .slice none 0 0, .int .u64 0], .int .i64 4]) ?_ rfl ⟨by rw [hr.out]; rfl, (Gr.refl w).alloc _⟩
    simp [results, Tryz.results86, go_sem]
  · have hr : Hid (readErr mode len k = widthE mode k) := by show _ = _; rw [readErr, if_pos h]
    obtain ⟨q, hq⟩ : ∃ q, widthE mode k = q := ⟨_, rfl⟩
    rw [hq] at hr CW h
    have ht : ((q : Int) != 0) = true := by rw [bne_iff_ne]; omega
    clear hq h hE
    go_enter Tryz.func86, Tryz.ntmps86
    go_wp2_with fail
    refine (CW.out _).mono ?_
    rintro e w1 ⟨rfl, rfl⟩
    go_wp2
    refine bodyPost_ret (v := .tuple #[.agg #[.int .u8 0, .slice none 0 0, .int .u64 0], .int .i64 (q : Int)]) ?_ rfl ⟨by rw [hr.out], (Gr.refl w).alloc _⟩
    simp [results, Tryz.results86, go_sem]

/-- the source that bytes are. -/
def readBytes (mode : Nat) (l : List UInt8) : List UInt8 := if mode = 0 then l else []
def readSeed (mode : Nat) (l : List UInt8) : Nat := if mode = 0 then 0 else seedTo l
theorem readErr_zero {mode len : Nat} {k : Int} (h : readErr mode len k = 0) : mode ≤ 1 ∧ 1 ≤ k ∧ k ≤ 4096 ∧ widthE mode k = 0 ∧ (len : Int) = widthN mode k ∧ (mode = 0 → (len : Int) = k) ∧ (mode = 1 → len = 8) := by
  unfold readErr at h
  by_cases a : widthE mode k ≠ 0
  · rw [if_pos a] at h; exact absurd h a
  rw [if_neg a] at h
  have a' : widthE mode k = 0 := by omega
  by_cases b : (len : Int) ≠ widthN mode k
  · rw [if_pos b] at h; cases h
  obtain ⟨h1, h2, h3⟩ := widthE_zero a'
  have b' : (len : Int) = widthN mode k := by omega
  refine ⟨h1, h2, h3, a', b', fun hm => ?_, fun hm => ?_⟩
  · rw [b', widthN, if_neg (by omega), if_neg (by omega), if_neg (by omega)]
  · rw [widthN, if_neg (by omega), if_neg (by omega), if_pos hm] at b'; omega
theorem readSeed_lt {mode : Nat} {l : List UInt8} {k : Int} (h : readErr mode l.length k = 0) : readSeed mode l < 18446744073709551616 := by
  obtain ⟨h1, _, _, _, _, _, h8⟩ := readErr_zero h
  unfold readSeed
  split
  · decide
  · exact seedTo_lt 8 l (h8 (by omega))
set_option maxRecDepth 100000 in
set_option maxHeartbeats 2000000 in
theorem rowRead_ok (mode : Nat) (k : Int) (a : Option Addr) (len cap : Nat) (l : List UInt8) (w : World) (hs : Bs w a len cap l) (hm : len ≤ 140737488355328) (hE : readErr mode len k = 0) :
    Calls Tryz.prog 86 #[.int .u8 (mode : Int), .int .i64 k, .slice a len cap] w fun e w' => ∃ a' len' cap', e = .returned (.tuple #[.agg #[.int .u8 (mode : Int), .slice a' len' cap', .int .u64 (readSeed mode l : Nat)], .int .i64 0]) ∧ Bs w' a' len' cap' (readBytes mode l) ∧ Gr w w' := by
  obtain ⟨h1, h2, h3, h4, h5, h6, h7⟩ := readErr_zero hE
  have CW := width_any mode k
  rw [h4] at CW
  have hn : ((len : Int) != widthN mode k) = false := by simpa using h5
  have H7 := Lib.hid h7
  obtain ⟨q, hq⟩ : ∃ q, widthN mode k = q := ⟨_, rfl⟩
  rw [hq] at CW hn
  have HCW := Lib.hid CW
  clear hE h2 h3 h4 h5 h6 h7 hq CW
  have hmm : mode = 0 ∨ mode = 1 := by omega
  rcases hmm with rfl | rfl
  · go_enter Tryz.func86, Tryz.ntmps86
    go_wp2_with fail
    refine (HCW.out _).mono ?_
    rintro e w1 ⟨rfl, rfl⟩
    go_wp2_with fail
    refine (explicit_any a len cap l _ (hs.below ((Gr.refl w).alloc _)) hm).mono ?_
    rintro e w1 ⟨a1, cap1, rfl, hb, ha, hg⟩
    have hA := hg.heap (heap_alloc_new w _)
    have hgw : Gr w w1 := ((Gr.refl w).alloc _).trans hg
    obtain ⟨c0, c1, c2, f0⟩ := three_cells hA
    obtain ⟨hgb, hh⟩ := three_set hA (.int .u8 0) (.slice a1 len cap1) (.int .u64 0)
    have hg3 := hgw.grb hgb (Nat.le_refl _)
    have hb3 := hb.grb hgb (fun y hy => by have := ha y hy; simp at this; omega)
    have H3 := Lib.hid hg3
    have HB3 := Lib.hid hb3
    clear hA hgb hh hg3 hb3 hb ha hg
    go_wp2
    refine bodyPost_ret (v := .tuple #[.agg #[.int .u8 0, .slice a1 len cap1, .int .u64 0], .int .i64 0]) ?_ rfl ⟨a1, len, cap1, rfl, HB3.out, H3.out⟩
    simp [results, Tryz.results86, go_sem, c0, c1, c2]
  · have h8 : len = 8 := H7.out rfl
    subst h8
    go_enter Tryz.func86, Tryz.ntmps86
    go_wp2_with fail
    refine (HCW.out _).mono ?_
    rintro e w1 ⟨rfl, rfl⟩
    go_wp2_with fail
    refine (mixSeed_any a cap l _ (hs.below ((Gr.refl w).alloc _))).mono ?_
    rintro e w1 ⟨rfl, rfl⟩
    go_wp2_with fail
    refine (seeded_any (seedTo l : Nat) _).mono ?_
    rintro e w1 ⟨rfl, hg⟩
    have hA := hg.heap (heap_alloc_new w _)
    have hgw : Gr w w1 := ((Gr.refl w).alloc _).trans hg
    obtain ⟨c0, c1, c2, f0⟩ := three_cells hA
    obtain ⟨hgb, hh⟩ := three_set hA (.int .u8 1) (.slice none 0 0) (.int .u64 (seedTo l : Nat))
    have hg3 := hgw.grb hgb (Nat.le_refl _)
    have H3 := Lib.hid hg3
    clear hA hgb hh hg3 hg
    go_wp2
    refine bodyPost_ret (v := .tuple #[.agg #[.int .u8 1, .slice none 0 0, .int .u64 (seedTo l : Nat)], .int .i64 0]) ?_ rfl ⟨none, 0, 0, rfl, Bs.nil _, H3.out⟩
    simp [results, Tryz.results86, go_sem, c0, c1, c2]
end Go.Proofs.YtddopoojmadpjaaGreatDoor
