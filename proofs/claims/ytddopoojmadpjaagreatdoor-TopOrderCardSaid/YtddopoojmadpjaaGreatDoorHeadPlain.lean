/-
  Heads as bytes: what is written is read, and the other way round.
  Packets as bytes, in plain words: what is written is read as it was; what is read is written as it was; a burst, or a cut, is found.
  The walk of slices.Equal, of bytes.
  Counts in a map, in plain words: their total, as entries come, and as one is raised.
-/
import Derived.Test.YtddopoojmadpjaaGreatDoorHead
import Derived.Test.YtddopoojmadpjaaGreatDoorPacketGot
import Derived.Test.YtddopoojmadpjaaGreatDoorVec
import Derived.Test.YtddopoojmadpjaaGreatDoorAppend
import Derived.Test.YtddopoojmadpjaaGreatDoorBase
import Derived.Maps.Ext
namespace Go.Proofs.YtddopoojmadpjaaGreatDoor
open Go.RowKit

theorem headErr_headL (m o n : Nat) (hm : m ≤ 1) (l : List UInt8) : headErr (headL m o n ++ l) = 0 := by
  have e0 : (headL m o n ++ l).getD 0 0 = 1 := by simp [headL]
  have e1 : (headL m o n ++ l).getD 1 0 = UInt8.ofNat m := by simp [headL]
  have e2 : (UInt8.ofNat m).toNat = m := by rw [UInt8.toNat_ofNat']; omega
  have e3 : ¬ (headL m o n ++ l).length < 10 := by simp [headL, put4]
  unfold headErr
  rw [if_neg e3, e0, e1, e2, if_neg (by decide), if_neg (by omega)]
theorem headM_headL (m o n : Nat) (hm : m ≤ 1) (l : List UInt8) : headM (headL m o n ++ l) = m := by
  have e1 : (headL m o n ++ l).getD 1 0 = UInt8.ofNat m := by simp [headL]
  unfold headM; rw [e1, UInt8.toNat_ofNat']; omega
theorem headO_headL (m o n : Nat) (ho : o < 4294967296) (l : List UInt8) : headO (headL m o n ++ l) = o := by
  have e : ((headL m o n ++ l).take 6).drop 2 = put4 o := by simp [headL, put4]
  unfold headO; rw [e, get4_put4 o ho]
theorem headN_headL (m o n : Nat) (hn : n < 4294967296) (l : List UInt8) : headN (headL m o n ++ l) = n := by
  have e : ((headL m o n ++ l).take 10).drop 6 = put4 n := by simp [headL, put4]
  unfold headN; rw [e, get4_put4 n hn]
theorem drop_headL (m o n : Nat) (l : List UInt8) : (headL m o n ++ l).drop 10 = l := by simp [headL, put4]
theorem headL_length (m o n : Nat) : (headL m o n).length = 10 := by simp [headL, put4]
/-- what is read is written as it was. -/
theorem headL_read (l : List UInt8) (h : headErr l = 0) : headL (headM l) (headO l) (headN l) ++ l.drop 10 = l := by
  obtain ⟨h1, h2, h3⟩ := headErr_zero h
  match l, h1, h2, h3 with
  | x0 :: x1 :: x2 :: x3 :: x4 :: x5 :: x6 :: x7 :: x8 :: x9 :: r, _, h2, h3 =>
    have e0 : x0 = 1 := UInt8.toNat_inj.1 (by simpa using h2)
    have e1 : UInt8.ofNat x1.toNat = x1 := by simp
    have e2 := put4_get4 [x2, x3, x4, x5] rfl
    have e3 := put4_get4 [x6, x7, x8, x9] rfl
    simp only [headL, headM, headO, headN, List.getD_cons_succ, List.getD_cons_zero, List.take_succ_cons, List.take_zero, List.drop_succ_cons, List.drop_zero, e1, e2, e3, e0]
    rfl
end Go.Proofs.YtddopoojmadpjaaGreatDoor

namespace Go.Proofs.YtddopoojmadpjaaGreatDoor
open Go.RowKit
set_option linter.unusedVariables false

theorem xor_not (r : Nat) (h : r < 4294967296) : r ^^^ (4294967295 - r) = 4294967295 := by
  apply Nat.eq_of_testBit_eq
  intro i
  have h1 : (4294967295 - r).testBit i = (decide (i < 32) && !r.testBit i) := by
    have := Nat.testBit_two_pow_sub_succ (n := 32) (x := r) h i
    rwa [show 2 ^ 32 - (r + 1) = 4294967295 - r by omega] at this
  have h2 : (4294967295 : Nat).testBit i = decide (i < 32) := by
    have := Nat.testBit_two_pow_sub_one 32 i
    exact this
  rw [Nat.testBit_xor, h1, h2]
  by_cases hi : i < 32
  · simp [hi]
  · have hr : r.testBit i = false := Nat.testBit_lt_two_pow (Nat.lt_of_lt_of_le h (Nat.pow_le_pow_right (by decide) (by omega) : 2 ^ 32 ≤ 2 ^ i))
    simp [hi, hr]
theorem low_put4 (n : Nat) (h : n < 4294967296) : low (put4 n) = n := by
  simp only [low, put4, UInt8.toNat_ofNat']
  omega
/-- a sum behind its bytes: one number, whatever they are. -/
theorem crcReg_sum (l : List UInt8) : crcReg 4294967295 (l ++ put4 (crc l)) = crcSteps 32 4294967295 := by
  have h1 := crcReg_lt l (r := 4294967295) (by decide)
  rw [crcReg_append, crcReg_low (put4 (crc l)), low_put4 _ (crc_lt l), crc, xor_not _ h1]
  rfl
theorem packErr_reg {n s q : Int} {id : Nat} {l : List UInt8} (h : packErr n s q id l = 0) : crcReg 4294967295 l = crcSteps 32 4294967295 := by
  obtain ⟨_, hH, hL, hC, _⟩ := packErr_zero h
  obtain ⟨hl, _⟩ := headErr_zero hH
  have h4 : (l.drop (l.length - 4)).length = 4 := by rw [List.length_drop]; omega
  have e : l.drop (l.length - 4) = put4 (crc (l.take (l.length - 4))) := by rw [← hC, put4_get4 _ h4]
  have := crcReg_sum (l.take (l.length - 4))
  rw [← e, List.take_append_drop] at this
  exact this
theorem burst_none (l : List UInt8) (first p : Nat) : ∀ k, turned (8 * l.length) first p k = false → burst l first p k = l
  | 0, _ => rfl
  | k + 1, h => by
    unfold turned at h
    unfold burst
    by_cases c : p / 2 ^ k % 2 = 1 ∧ first + k < 8 * l.length
    · rw [if_pos c] at h; cases h
    · rw [if_neg c] at h ⊢; exact burst_none l first p k h
/-- A BURST IS FOUND. -/
theorem packErr_burst {n s q : Int} {id : Nat} {l : List UInt8} (h : packErr n s q id l = 0) (first p : Nat) (hf : first < 8 * l.length) : packErr n s q id (burst l first p 32) = 0 ↔ turned (8 * l.length) first p 32 = false := by
  constructor
  · intro hb
    exact (crc_burst 4294967295 l first p hf).1 ((packErr_reg hb).trans (packErr_reg h).symm)
  · intro ht; rw [burst_none l first p 32 ht]; exact h
/-- A CUT IS FOUND. -/
theorem packErr_cut {n s q : Int} {id : Nat} {l : List UInt8} (h : packErr n s q id l = 0) (j : Nat) (hj : j < l.length) : packErr n s q id (l.take j) ≠ 0 := by
  intro hc
  obtain ⟨_, _, hL, _, _⟩ := packErr_zero h
  obtain ⟨_, hH', hL', _, _⟩ := packErr_zero hc
  obtain ⟨hl', _⟩ := headErr_zero hH'
  have hjl : (l.take j).length = j := by rw [List.length_take]; omega
  have hm : headM (l.take j) = headM l := by
    unfold headM
    rw [List.getD_eq_getElem?_getD, List.getD_eq_getElem?_getD, List.getElem?_take, if_pos (by omega)]
  rw [hjl, hm] at hL'
  omega

/-- WHAT IS WRITTEN IS READ. -/
theorem text_read {n s : Int} {q id m nn seed : Nat} {l lp : List UInt8} (hid : id < 4294967296) (hn : nn < 4294967296) (hsd : seed < 18446744073709551616) (h : fitErr n s q id m id m l.length lp.length = 0) :
    packErr n s q id (packText m id nn l seed lp) = 0 ∧ packGot n s q id (packText m id nn l seed lp) = ⟨m, id, nn, m, if m = 0 then 0 else seed, if m = 0 then l else [], lp⟩ := by
  obtain ⟨hP, hm, _, _, hk, hs⟩ := fitErr_zero h
  obtain ⟨e1, e2⟩ := planErr_zero hP
  obtain ⟨f1, f2, f3, f4⟩ := planFit_zero e1
  have hp := planNeed_pos f1 f2
  have hlr : ((rowText m l seed).length : Int) = widthN m q := by
    rw [rowText]
    by_cases h0 : m = 0
    · rw [if_pos h0, widthN, if_neg (by omega), if_neg (by omega), if_neg (by omega)]; exact hk h0
    · rw [if_neg h0, widthN, if_neg (by omega), if_neg (by omega), if_pos (by omega)]; rfl
  obtain ⟨LR, eLR⟩ : ∃ x, rowText m l seed = x := ⟨_, rfl⟩
  have htx : packText m id nn l seed lp = headL m id nn ++ (LR ++ (lp ++ put4 (crc (headL m id nn ++ (LR ++ lp))))) := by
    rw [packText, packBody, eLR]; simp
  rw [eLR] at hlr
  have hE : headErr (packText m id nn l seed lp) = 0 := by rw [htx]; exact headErr_headL m id nn hm _
  have hM : headM (packText m id nn l seed lp) = m := by rw [htx]; exact headM_headL m id nn hm _
  have hO : headO (packText m id nn l seed lp) = id := by rw [htx]; exact headO_headL m id nn hid _
  have hN : headN (packText m id nn l seed lp) = nn := by rw [htx]; exact headN_headL m id nn hn _
  have h10 := headL_length m id nn
  have hln : (packText m id nn l seed lp).length = 10 + (LR.length + (lp.length + 4)) := by rw [packText_length, eLR]
  have hC : (packText m id nn l seed lp).take ((packText m id nn l seed lp).length - 4) = headL m id nn ++ (LR ++ lp) := by
    rw [hln, htx, ← List.append_assoc LR, ← List.append_assoc (headL m id nn)]
    refine List.take_left' ?_
    simp only [List.length_append, h10]; omega
  have hD : (packText m id nn l seed lp).drop ((packText m id nn l seed lp).length - 4) = put4 (crc (headL m id nn ++ (LR ++ lp))) := by
    rw [hln, htx, ← List.append_assoc LR, ← List.append_assoc (headL m id nn)]
    refine List.drop_left' ?_
    simp only [List.length_append, h10]; omega
  have h0 : packErr n s q id (packText m id nn l seed lp) = 0 := by
    unfold packErr
    rw [if_neg (by simpa using hP), if_neg (by simpa using hE), hM, if_neg (by rw [hln, ← hlr]; omega), hD, hC, get4_put4 _ (crc_lt _), if_neg (by simp), hO, if_neg (by simp)]
  refine ⟨h0, ?_⟩
  have hW : (widthN m (q : Int)).toNat = LR.length := by omega
  have hS : s.toNat = lp.length := by omega
  have t1 : ((packText m id nn l seed lp).take (10 + LR.length)).drop 10 = LR := by
    rw [htx, ← List.append_assoc (headL m id nn), List.take_left' (by simp only [List.length_append, h10]), List.drop_left' h10]
  have t2 : ((packText m id nn l seed lp).take (10 + LR.length + lp.length)).drop (10 + LR.length) = lp := by
    rw [htx, ← List.append_assoc LR, ← List.append_assoc (headL m id nn), List.take_left' (by simp only [List.length_append, h10]; omega), ← List.append_assoc (headL m id nn), List.drop_left' (by simp only [List.length_append, h10])]
  unfold packGot
  rw [if_pos h0]
  simp only [hM, hO, hN, hW, hS, t1, t2]
  by_cases h00 : m = 0
  · have : LR = l := by rw [← eLR, rowText, if_pos h00]
    simp only [readSeed, readBytes, if_pos h00, this]
  · have : LR = put8 seed := by rw [← eLR, rowText, if_neg h00]
    simp only [readSeed, readBytes, if_neg h00, this, seedTo_put8 seed hsd]

/-- WHAT IS READ IS WRITTEN. -/
theorem read_text {n s q : Int} {id : Nat} {l : List UInt8} (h : packErr n s q id l = 0) :
    fitErr n s q id (packGot n s q id l).m (packGot n s q id l).o (packGot n s q id l).md (packGot n s q id l).lb.length (packGot n s q id l).lp.length = 0 ∧
    packText (packGot n s q id l).m (packGot n s q id l).o (packGot n s q id l).nn (packGot n s q id l).lb (packGot n s q id l).sd (packGot n s q id l).lp = l := by
  obtain ⟨hP, hH, hL, hC, hO⟩ := packErr_zero h
  obtain ⟨L1, L2, L3, L4, L5, L6, L7⟩ := pack_len hP hH
  obtain ⟨hl10, _, hM⟩ := headErr_zero hH
  change headM l ≤ 1 at hM
  obtain ⟨sz, W, hs, hW, hlen⟩ := packErr_len h
  have hW1 : headM l = 1 → W = 8 := fun h1 => by
    have := hW; rw [h1, widthN, if_neg (by omega), if_neg (by omega), if_pos rfl] at this; omega
  have hW0 : headM l = 0 → (W : Int) = q := fun h1 => by
    have := hW; rw [h1, widthN, if_neg (by omega), if_neg (by omega), if_neg (by omega)] at this; omega
  have hlw : ((l.take (10 + W)).drop 10).length = W := by rw [List.length_drop, List.length_take]; omega
  have hlp : ((l.take (10 + W + sz)).drop (10 + W)).length = sz := by rw [List.length_drop, List.length_take]; omega
  have hG : packGot n s q id l = ⟨headM l, headO l, headN l, headM l, readSeed (headM l) ((l.take (10 + W)).drop 10), readBytes (headM l) ((l.take (10 + W)).drop 10), (l.take (10 + W + sz)).drop (10 + W)⟩ := by
    unfold packGot; rw [if_pos h, hW, hs]; rfl
  have hrt : rowText (headM l) (readBytes (headM l) ((l.take (10 + W)).drop 10)) (readSeed (headM l) ((l.take (10 + W)).drop 10)) = (l.take (10 + W)).drop 10 := by
    unfold rowText readBytes readSeed
    by_cases h0 : headM l = 0
    · rw [if_pos h0, if_pos h0]
    · rw [if_neg h0, if_neg h0, put8_seedTo _ (by rw [hlw]; exact hW1 (by omega))]
  rw [hG]
  refine ⟨?_, ?_⟩
  · show fitErr n s q id (headM l) (headO l) (headM l) _ _ = 0
    unfold fitErr
    rw [if_neg (by simpa using hP), if_neg (by omega), if_neg (by simpa using hO), if_neg (by simp), if_neg, if_neg (by rw [hlp, hs]; simp)]
    rintro ⟨h0, h1⟩
    refine h1 ?_
    unfold readBytes
    rw [if_pos h0, hlw]; exact hW0 h0
  · show packText (headM l) (headO l) (headN l) _ _ _ = l
    have hll := headL_read l hH
    have hbody : headL (headM l) (headO l) (headN l) ++ ((l.take (10 + W)).drop 10 ++ (l.take (10 + W + sz)).drop (10 + W)) = l.take (l.length - 4) := by
      have h1 : (l.take (10 + W)).drop 10 ++ (l.take (10 + W + sz)).drop (10 + W) = (l.take (10 + W + sz)).drop 10 := by
        rw [show l.take (10 + W) = (l.take (10 + W + sz)).take (10 + W) by rw [List.take_take]; congr 1; omega]
        have := List.take_append_drop W ((l.take (10 + W + sz)).drop 10)
        rw [List.drop_drop, List.take_drop] at this
        exact this
      rw [h1, show l.length - 4 = 10 + W + sz by omega]
      have h2 : headL (headM l) (headO l) (headN l) = (l.take (10 + W + sz)).take 10 := by
        have h3 : (headL (headM l) (headO l) (headN l) ++ l.drop 10).take 10 = l.take 10 := by rw [hll]
        rw [List.take_left' (headL_length _ _ _)] at h3
        rw [h3, List.take_take]; congr 1; omega
      rw [h2, List.take_append_drop]
    have hend : l.drop (l.length - 4) = put4 (crc (l.take (l.length - 4))) := by
      rw [← hC, put4_get4 _ (by rw [List.length_drop]; omega)]
    rw [packText, packBody, hrt]
    simp only [List.flatten_cons, List.flatten_nil, List.append_nil]
    rw [← List.append_assoc ((l.take (10 + W)).drop 10), ← List.append_assoc (headL _ _ _), hbody, ← hend, List.take_append_drop]
theorem packGot_le (n s q : Int) (id : Nat) (l : List UInt8) : (packGot n s q id l).lb.length ≤ l.length ∧ (packGot n s q id l).lp.length ≤ l.length ∧ (packGot n s q id l).nn < 4294967296 := by
  unfold packGot
  split
  · refine ⟨?_, ?_, get4_lt _⟩
    · show (readBytes _ _).length ≤ _
      unfold readBytes
      split
      · rw [List.length_drop, List.length_take]; omega
      · simp
    · show (List.drop _ _).length ≤ _
      rw [List.length_drop, List.length_take]; omega
  · exact ⟨Nat.zero_le _, Nat.zero_le _, (show (0 : Nat) < 4294967296 by decide)⟩
end Go.Proofs.YtddopoojmadpjaaGreatDoor

namespace Go.Proofs.YtddopoojmadpjaaGreatDoor
open Go.RowKit

set_option maxHeartbeats 1000000 in
theorem sliceEqual_any (a a' : Option Addr) (len cap len' cap' : Nat) (l m : List UInt8) (w : World) (hl : Bs w a len cap l) (hm : Bs w a' len' cap' m) :
    Calls Tryz.prog 81 #[.slice a len cap, .slice a' len' cap'] w fun e w' => e = .returned (.bool (sameB l m)) ∧ Gr w w' := by
  have b1 : len ≤ 9223372036854775807 := by have h1 := hl.2.1; have h2 := hl.2.2.1; unfold maxLen at h2; omega
  have b2 : len' ≤ 9223372036854775807 := by have h1 := hm.2.1; have h2 := hm.2.2.1; unfold maxLen at h2; omega
  have L1 : Hid (l.length = len) := hl.1
  have L2 : Hid (m.length = len') := hm.1
  by_cases hne : len = len'
  · subst hne
    go_enter Tryz.func81, Tryz.ntmps81
    go_wp2
    go_loopw [13] (fun i wr => ∃ k : Nat, k ≤ len ∧ i = .int .i64 k ∧ l.take k = m.take k ∧ ∃ n, wr = w.drewN n) (fun i _ => len - (intOf i).toNat)
    case atStart => exact ⟨0, Nat.zero_le _, rfl, rfl, 0, rfl⟩
    case round =>
      obtain ⟨k, hk, rfl, he, n, hw⟩ := hrel
      have HE := Lib.hid he
      have hb : Gr w wr := by rw [hw]; exact (Gr.refl _).drewN _
      have HW := Lib.hid hw
      clear he hw
      by_cases hlt : k < len
      · obtain ⟨b, off, rfl, _, _⟩ := hl.at_ (by omega)
        obtain ⟨b', off', rfl, _, _⟩ := hm.at_ (by omega)
        obtain ⟨x, hx, hcx⟩ := (hl.below hb).get hlt
        obtain ⟨y, hy, hcy⟩ := (hm.below hb).get hlt
        have HX := Lib.hid hx
        have HY := Lib.hid hy
        clear hx hy
        by_cases hxy : x = y
        · subst hxy
          have ht : ((x.toNat : Int) != (x.toNat : Int)) = false := by simp
          go_wp2
          go_quiet (fail)
          go_wp2
          go_roundw
          case rel => exact ⟨k + 1, by omega, by go_num, by rw [List.take_add_one, List.take_add_one, HE.out, HX.out, HY.out], n + nq, by rw [HW.out]; exact World.drewN_drewN _ _ _⟩
          case measure => simp [intOf]; omega
        · have hxn : x.toNat ≠ y.toNat := fun h => hxy (UInt8.toNat_inj.1 h)
          have ht : ((x.toNat : Int) != (y.toNat : Int)) = true := by rw [bne_iff_ne]; omega
          go_wp2
          go_quiet (fail)
          go_wp2
          go_ret
          refine ⟨?_, hb.drewN _⟩
          have : sameB l m = false := sameB_ne fun h => hxy (by have := HX.out; rw [h, HY.out] at this; exact (Option.some.inj this).symm)
          rw [this]; rfl
      · go_wp2
        go_ret
        refine ⟨?_, hb⟩
        obtain rfl : k = len := by omega
        have h := HE.out
        rw [List.take_of_length_le (by rw [L1.out]; exact Nat.le_refl _), List.take_of_length_le (by rw [L2.out]; exact Nat.le_refl _)] at h
        rw [sameB_of h]; rfl
  · have ht : ((len : Int) != (len' : Int)) = true := by rw [bne_iff_ne]; omega
    have hs : sameB l m = false := sameB_ne fun h => hne (by rw [← L1.out, ← L2.out, h])
    go_enter Tryz.func81, Tryz.ntmps81
    go_wp2
    go_ret
    exact ⟨by rw [hs]; rfl, Gr.refl _⟩
end Go.Proofs.YtddopoojmadpjaaGreatDoor

namespace Go.Proofs.YtddopoojmadpjaaGreatDoor
open Go.RowKit Go.Maps
set_option linter.unusedVariables false

def valOf : DataW Unit → Int
  | .lit (.int _ c) => c
  | _ => 0
def totE : List (Lit × DataW Unit) → Int
  | [] => 0
  | p :: es => valOf p.2 + totE es
def totL (left : Lit → Bool) : List (Lit × DataW Unit) → Int
  | [] => 0
  | p :: es => (if left p.1 = true then 0 else valOf p.2) + totL left es
def tot : DataW Unit → Int
  | .map es => totE es
  | _ => 0
def totD (left : Lit → Bool) : DataW Unit → Int
  | .map es => totL left es
  | _ => 0
theorem totL_none (left : Lit → Bool) : ∀ es : List (Lit × DataW Unit), (∀ p ∈ es, left p.1 = false) → totL left es = totE es
  | [], _ => rfl
  | p :: es, h => by
    simp only [totL, totE, totL_none left es fun q hq => h q (.tail _ hq)]
    rw [if_neg (by rw [h p (.head _)]; exact Bool.false_ne_true)]
theorem totL_all (left : Lit → Bool) : ∀ es : List (Lit × DataW Unit), (∀ p ∈ es, left p.1 = true) → totL left es = 0
  | [], _ => rfl
  | p :: es, h => by
    simp only [totL, totL_all left es fun q hq => h q (.tail _ hq)]
    rw [if_pos (h p (.head _))]; rfl
theorem totL_congr {l1 l2 : Lit → Bool} : ∀ es : List (Lit × DataW Unit), (∀ p ∈ es, l1 p.1 = l2 p.1) → totL l1 es = totL l2 es
  | [], _ => rfl
  | p :: es, h => by simp only [totL, totL_congr es fun q hq => h q (.tail _ hq), h p (.head _)]
/-- an entry has come. -/
theorem totL_step (left : Lit → Bool) (kl : Lit) (d : DataW Unit) (hl : left kl = true) : ∀ es : List (Lit × DataW Unit), es.Pairwise (fun p q => p.1 ≠ q.1) → (∀ zd, (DataW.map es).atKey kl zd = d) →
    totL (fun z => left z && !z.sameKey kl) es = totL left es + valOf d
  | [], _, hat => by
    have h1 : (DataW.nil : DataW Unit) = d := hat .nil
    have h2 : (DataW.lit (.int .i64 0) : DataW Unit) = d := hat _
    rw [← h1] at h2; cases h2
  | p :: es, hp, hat => by
    cases hp with
    | cons h0 h1 =>
      by_cases hs : p.1.sameKey kl = true
      · have hpk : p.1 = kl := WideAt.sameKey_eq hs
        have hd : p.2 = d := by have := hat .nil; simpa [DataW.atKey, List.find?_cons, hs] using this
        have ht : totL (fun z => left z && !z.sameKey kl) es = totL left es := totL_congr es fun q hq => by
          have : q.1.sameKey kl = false := by
            cases hx : q.1.sameKey kl with
            | false => rfl
            | true => exact absurd ((hpk.trans (WideAt.sameKey_eq hx).symm)) (h0 q hq)
          simp [this]
        simp only [totL, ht, hs, hd]
        rw [if_neg (by simp), if_pos (by rw [hpk]; exact hl)]; omega
      · have hs' : p.1.sameKey kl = false := by simpa using hs
        have ih := totL_step left kl d hl es h1 fun zd => by
          have := hat zd
          simpa [DataW.atKey, List.find?_cons, hs'] using this
        simp only [totL, ih, hs', Bool.not_false, Bool.and_true]; omega
theorem totE_insert (x : Lit × DataW Unit) : ∀ es : List (Lit × DataW Unit), totE (DataW.insert x es) = valOf x.2 + totE es
  | [] => rfl
  | y :: r => by
    unfold DataW.insert
    split
    · rfl
    · simp only [totE, totE_insert x r]; omega
theorem totE_split (k : Lit) : ∀ es : List (Lit × DataW Unit), es.Pairwise (fun p q => p.1 ≠ q.1) → totE es = totE (es.filter fun p => !p.1.sameKey k) + valOf ((DataW.map es).atKey k (.lit (.int .i64 0)))
  | [], _ => rfl
  | p :: es, hp => by
    cases hp with
    | cons h0 h1 =>
      by_cases hs : p.1.sameKey k = true
      · have hf : es.filter (fun p => !p.1.sameKey k) = es := List.filter_eq_self.2 fun q hq => by
          cases hx : q.1.sameKey k with
          | false => rfl
          | true => exact absurd ((WideAt.sameKey_eq hs).trans (WideAt.sameKey_eq hx).symm) (h0 q hq)
        simp only [totE, List.filter_cons, hs, Bool.not_true, Bool.false_eq_true, if_false, hf, DataW.atKey, List.find?_cons]; omega
      · have hs' : p.1.sameKey k = false := by simpa using hs
        have ih := totE_split k es h1
        simp only [totE, List.filter_cons, hs', Bool.not_false, if_true, ih, DataW.atKey, List.find?_cons]; omega
theorem Canon.apart {D : DataW Unit} (h : Canon D) : ∃ es, D = .map es ∧ es.Pairwise (fun p q => p.1 ≠ q.1) := by
  obtain ⟨es, he, hr, _⟩ := h
  exact ⟨es, he, apart_of_rising hr⟩
theorem tot_put {D : DataW Unit} (h : Canon D) (k : Lit) (d : DataW Unit) : tot (D.put k d) = tot D - valOf (D.atKey k (.lit (.int .i64 0))) + valOf d := by
  obtain ⟨es, rfl, hp⟩ := Canon.apart h
  have := totE_split k es hp
  show totE (DataW.insert (k, d) (es.filter fun p => !p.1.sameKey k)) = totE es - _ + _
  rw [totE_insert]
  show valOf d + _ = _
  omega
theorem totD_start {D : DataW Unit} (h : Canon D) : totD (has D) D = 0 := by
  obtain ⟨es, rfl, _, hk⟩ := h
  exact totL_all _ es fun p hp => by
    rw [has_eq, List.any_eq_true]
    exact ⟨p, hp, WideAt.sameKey_self (hk p hp)⟩
theorem totD_step {D : DataW Unit} (h : Canon D) {left : Lit → Bool} {kl : Lit} {d : DataW Unit} (hl : left kl = true) (hat : ∀ zd, D.atKey kl zd = d) : totD (fun z => left z && !z.sameKey kl) D = totD left D + valOf d := by
  obtain ⟨es, rfl, hp⟩ := Canon.apart h
  exact totL_step left kl d hl es hp hat
theorem totD_end {D : DataW Unit} (h : Canon D) {left : Lit → Bool} (hl : ∀ k, left k = false) : totD left D = tot D := by
  obtain ⟨es, rfl, _⟩ := h
  exact totL_none left es fun p _ => hl p.1

/-- no entry is below 0. -/
def NonNeg : DataW Unit → Prop
  | .map es => ∀ p ∈ es, 0 ≤ valOf p.2
  | _ => True
theorem totL_le (left : Lit → Bool) : ∀ es : List (Lit × DataW Unit), (∀ p ∈ es, 0 ≤ valOf p.2) → 0 ≤ totL left es ∧ totL left es ≤ totE es
  | [], _ => ⟨Int.le_refl _, Int.le_refl _⟩
  | p :: es, h => by
    have ih := totL_le left es fun q hq => h q (.tail _ hq)
    have h0 := h p (.head _)
    simp only [totL, totE]
    split <;> omega
theorem totD_le {D : DataW Unit} (h : NonNeg D) (left : Lit → Bool) : 0 ≤ totD left D ∧ totD left D ≤ tot D := by
  cases D <;> first | exact totL_le left _ h | exact ⟨Int.le_refl _, Int.le_refl _⟩
theorem mem_insert (x y : Lit × DataW Unit) : ∀ es : List (Lit × DataW Unit), y ∈ DataW.insert x es → y = x ∨ y ∈ es
  | [], h => by simpa [DataW.insert] using h
  | z :: r, h => by
    unfold DataW.insert at h
    split at h
    · simpa using h
    · rcases List.mem_cons.1 h with h | h
      · exact .inr (by rw [h]; exact .head _)
      · rcases mem_insert x y r h with h | h
        · exact .inl h
        · exact .inr (.tail _ h)
theorem NonNeg.put {D : DataW Unit} (h : NonNeg D) (k : Lit) (d : DataW Unit) (hd : 0 ≤ valOf d) : NonNeg (D.put k d) := by
  cases D with
  | map es =>
    intro p hp
    rcases mem_insert (k, d) p _ hp with h1 | h1
    · rw [h1]; exact hd
    · exact h p (List.mem_filter.1 h1).1
  | _ => trivial

/-- D holds how often each of these was told. -/
def CntOk (D : DataW Unit) (es : List Nat) : Prop := (∀ e : Nat, D.atKey (.int .i64 (e : Int)) (.lit (.int .i64 0)) = .lit (.int .i64 (es.count e : Nat))) ∧ tot D = es.length ∧ NonNeg D
theorem CntOk.nil : CntOk (.map []) [] := ⟨fun e => rfl, rfl, fun _ h => by cases h⟩
theorem CntOk.put {D : DataW Unit} {es : List Nat} (h : CntOk D es) (hc : Canon D) (e : Nat) : CntOk (D.put (.int .i64 (e : Int)) (.lit (.int .i64 ((es.count e : Nat) + 1 : Int)))) (e :: es) := by
  refine ⟨fun e' => ?_, ?_, h.2.2.put _ _ (by show (0 : Int) ≤ (es.count e : Nat) + 1; omega)⟩
  · by_cases he : e' = e
    · subst he
      rw [atKey_put_same (by obtain ⟨x, hx, _⟩ := hc; exact ⟨x, hx⟩) (show WideAt.IsKeyLit (.int .i64 (e' : Int)) from trivial), List.count_cons_self]; simp
    · rw [atKey_put_other (fun c => he (by simp at c; omega)), h.1 e', List.count_cons_of_ne (Ne.symm he)]
  · rw [tot_put hc, h.1 e, h.2.1]
    simp only [valOf, List.length_cons]; omega
end Go.Proofs.YtddopoojmadpjaaGreatDoor
