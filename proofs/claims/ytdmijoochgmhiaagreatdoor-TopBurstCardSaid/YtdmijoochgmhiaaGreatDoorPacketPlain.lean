/-
  Packets as bytes, in plain words: what is written is read as it was; what is read is written as it was; a burst, or a cut, is found.
-/
import Derived.Test.YtdmijoochgmhiaaGreatDoorPacketGot
import Derived.Test.YtdmijoochgmhiaaGreatDoorPacketWrite
import Derived.Test.YtdmijoochgmhiaaGreatDoorHeadPlain
namespace Go.Proofs.YtdmijoochgmhiaaGreatDoor
open Go.RowKit
set_option linter.unusedVariables false

theorem xor_not (r : Nat) (h : r < 4294967296) : r ^^^ (4294967295 - r) = 4294967295 := by
  apply Nat.eq_of_testBit_eq
  intro i
  have h1 : (4294967295 - r).testBit i = (decide (i < 32) && !r.testBit i) := by
    have := Nat.testBit_two_pow_sub_succ (n := 32) (x := r) h i
    rwa [show 2 ^ 32 - (r + 1) = 4294967295 - r by omega] at this
  have h2 : (4294967295 : Nat).testBit i = decide (i < 32) := by
    have := Nat.testBit_two_pow_sub_one 32 i
    exact this
  rw [Nat.testBit_xor, h1, h2]
  by_cases hi : i < 32
  · simp [hi]
  · have hr : r.testBit i = false := Nat.testBit_lt_two_pow (Nat.lt_of_lt_of_le h (Nat.pow_le_pow_right (by decide) (by omega) : 2 ^ 32 ≤ 2 ^ i))
    simp [hi, hr]
theorem low_put4 (n : Nat) (h : n < 4294967296) : low (put4 n) = n := by
  simp only [low, put4, UInt8.toNat_ofNat']
  omega
/-- a sum behind its bytes: one number, whatever they are. -/
theorem crcReg_sum (l : List UInt8) : crcReg 4294967295 (l ++ put4 (crc l)) = crcSteps 32 4294967295 := by
  have h1 := crcReg_lt l (r := 4294967295) (by decide)
  rw [crcReg_append, crcReg_low (put4 (crc l)), low_put4 _ (crc_lt l), crc, xor_not _ h1]
  rfl
theorem packErr_reg {n s q : Int} {id : Nat} {l : List UInt8} (h : packErr n s q id l = 0) : crcReg 4294967295 l = crcSteps 32 4294967295 := by
  obtain ⟨_, hH, hL, hC, _⟩ := packErr_zero h
  obtain ⟨hl, _⟩ := headErr_zero hH
  have h4 : (l.drop (l.length - 4)).length = 4 := by rw [List.length_drop]; omega
  have e : l.drop (l.length - 4) = put4 (crc (l.take (l.length - 4))) := by rw [← hC, put4_get4 _ h4]
  have := crcReg_sum (l.take (l.length - 4))
  rw [← e, List.take_append_drop] at this
  exact this
theorem burst_none (l : List UInt8) (first p : Nat) : ∀ k, turned (8 * l.length) first p k = false → burst l first p k = l
  | 0, _ => rfl
  | k + 1, h => by
    unfold turned at h
    unfold burst
    by_cases c : p / 2 ^ k % 2 = 1 ∧ first + k < 8 * l.length
    · rw [if_pos c] at h; cases h
    · rw [if_neg c] at h ⊢; exact burst_none l first p k h
/-- A BURST IS FOUND. -/
theorem packErr_burst {n s q : Int} {id : Nat} {l : List UInt8} (h : packErr n s q id l = 0) (first p : Nat) (hf : first < 8 * l.length) : packErr n s q id (burst l first p 32) = 0 ↔ turned (8 * l.length) first p 32 = false := by
  constructor
  · intro hb
    exact (crc_burst 4294967295 l first p hf).1 ((packErr_reg hb).trans (packErr_reg h).symm)
  · intro ht; rw [burst_none l first p 32 ht]; exact h
/-- A CUT IS FOUND. -/
theorem packErr_cut {n s q : Int} {id : Nat} {l : List UInt8} (h : packErr n s q id l = 0) (j : Nat) (hj : j < l.length) : packErr n s q id (l.take j) ≠ 0 := by
  intro hc
  obtain ⟨_, _, hL, _, _⟩ := packErr_zero h
  obtain ⟨_, hH', hL', _, _⟩ := packErr_zero hc
  obtain ⟨hl', _⟩ := headErr_zero hH'
  have hjl : (l.take j).length = j := by rw [List.length_take]; omega
  have hm : headM (l.take j) = headM l := by
    unfold headM
    rw [List.getD_eq_getElem?_getD, List.getD_eq_getElem?_getD, List.getElem?_take, if_pos (by omega)]
  rw [hjl, hm] at hL'
  omega

/-- WHAT IS WRITTEN IS READ. -/
theorem text_read {n s : Int} {q id m nn seed : Nat} {l lp : List UInt8} (hid : id < 4294967296) (hn : nn < 4294967296) (hsd : seed < 18446744073709551616) (h : fitErr n s q id m id m l.length lp.length = 0) :
    packErr n s q id (packText m id nn l seed lp) = 0 ∧ packGot n s q id (packText m id nn l seed lp) = ⟨m, id, nn, m, if m = 0 then 0 else seed, if m = 0 then l else [], lp⟩ := by
  obtain ⟨hP, hm, _, _, hk, hs⟩ := fitErr_zero h
  obtain ⟨e1, e2⟩ := planErr_zero hP
  obtain ⟨f1, f2, f3, f4⟩ := planFit_zero e1
  have hp := planNeed_pos f1 f2
  have hlr : ((rowText m l seed).length : Int) = widthN m q := by
    rw [rowText]
    by_cases h0 : m = 0
    · rw [if_pos h0, widthN, if_neg (by omega), if_neg (by omega), if_neg (by omega)]; exact hk h0
    · rw [if_neg h0, widthN, if_neg (by omega), if_neg (by omega), if_pos (by omega)]; rfl
  obtain ⟨LR, eLR⟩ : ∃ x, rowText m l seed = x := ⟨_, rfl⟩
  have htx : packText m id nn l seed lp = headL m id nn ++ (LR ++ (lp ++ put4 (crc (headL m id nn ++ (LR ++ lp))))) := by
    rw [packText, packBody, eLR]; simp
  rw [eLR] at hlr
  have hE : headErr (packText m id nn l seed lp) = 0 := by rw [htx]; exact headErr_headL m id nn hm _
  have hM : headM (packText m id nn l seed lp) = m := by rw [htx]; exact headM_headL m id nn hm _
  have hO : headO (packText m id nn l seed lp) = id := by rw [htx]; exact headO_headL m id nn hid _
  have hN : headN (packText m id nn l seed lp) = nn := by rw [htx]; exact headN_headL m id nn hn _
  have h10 := headL_length m id nn
  have hln : (packText m id nn l seed lp).length = 10 + (LR.length + (lp.length + 4)) := by rw [packText_length, eLR]
  have hC : (packText m id nn l seed lp).take ((packText m id nn l seed lp).length - 4) = headL m id nn ++ (LR ++ lp) := by
    rw [hln, htx, ← List.append_assoc LR, ← List.append_assoc (headL m id nn)]
    refine List.take_left' ?_
    simp only [List.length_append, h10]; omega
  have hD : (packText m id nn l seed lp).drop ((packText m id nn l seed lp).length - 4) = put4 (crc (headL m id nn ++ (LR ++ lp))) := by
    rw [hln, htx, ← List.append_assoc LR, ← List.append_assoc (headL m id nn)]
    refine List.drop_left' ?_
    simp only [List.length_append, h10]; omega
  have h0 : packErr n s q id (packText m id nn l seed lp) = 0 := by
    unfold packErr
    rw [if_neg (by simpa using hP), if_neg (by simpa using hE), hM, if_neg (by rw [hln, ← hlr]; omega), hD, hC, get4_put4 _ (crc_lt _), if_neg (by simp), hO, if_neg (by simp)]
  refine ⟨h0, ?_⟩
  have hW : (widthN m (q : Int)).toNat = LR.length := by omega
  have hS : s.toNat = lp.length := by omega
  have t1 : ((packText m id nn l seed lp).take (10 + LR.length)).drop 10 = LR := by
    rw [htx, ← List.append_assoc (headL m id nn), List.take_left' (by simp only [List.length_append, h10]), List.drop_left' h10]
  have t2 : ((packText m id nn l seed lp).take (10 + LR.length + lp.length)).drop (10 + LR.length) = lp := by
    rw [htx, ← List.append_assoc LR, ← List.append_assoc (headL m id nn), List.take_left' (by simp only [List.length_append, h10]; omega), ← List.append_assoc (headL m id nn), List.drop_left' (by simp only [List.length_append, h10])]
  unfold packGot
  rw [if_pos h0]
  simp only [hM, hO, hN, hW, hS, t1, t2]
  by_cases h00 : m = 0
  · have : LR = l := by rw [← eLR, rowText, if_pos h00]
    simp only [readSeed, readBytes, if_pos h00, this]
  · have : LR = put8 seed := by rw [← eLR, rowText, if_neg h00]
    simp only [readSeed, readBytes, if_neg h00, this, seedTo_put8 seed hsd]

/-- WHAT IS READ IS WRITTEN. -/
theorem read_text {n s q : Int} {id : Nat} {l : List UInt8} (h : packErr n s q id l = 0) :
    fitErr n s q id (packGot n s q id l).m (packGot n s q id l).o (packGot n s q id l).md (packGot n s q id l).lb.length (packGot n s q id l).lp.length = 0 ∧
    packText (packGot n s q id l).m (packGot n s q id l).o (packGot n s q id l).nn (packGot n s q id l).lb (packGot n s q id l).sd (packGot n s q id l).lp = l := by
  obtain ⟨hP, hH, hL, hC, hO⟩ := packErr_zero h
  obtain ⟨L1, L2, L3, L4, L5, L6, L7⟩ := pack_len hP hH
  obtain ⟨hl10, _, hM⟩ := headErr_zero hH
  change headM l ≤ 1 at hM
  obtain ⟨sz, W, hs, hW, hlen⟩ := packErr_len h
  have hW1 : headM l = 1 → W = 8 := fun h1 => by
    have := hW; rw [h1, widthN, if_neg (by omega), if_neg (by omega), if_pos rfl] at this; omega
  have hW0 : headM l = 0 → (W : Int) = q := fun h1 => by
    have := hW; rw [h1, widthN, if_neg (by omega), if_neg (by omega), if_neg (by omega)] at this; omega
  have hlw : ((l.take (10 + W)).drop 10).length = W := by rw [List.length_drop, List.length_take]; omega
  have hlp : ((l.take (10 + W + sz)).drop (10 + W)).length = sz := by rw [List.length_drop, List.length_take]; omega
  have hG : packGot n s q id l = ⟨headM l, headO l, headN l, headM l, readSeed (headM l) ((l.take (10 + W)).drop 10), readBytes (headM l) ((l.take (10 + W)).drop 10), (l.take (10 + W + sz)).drop (10 + W)⟩ := by
    unfold packGot; rw [if_pos h, hW, hs]; rfl
  have hrt : rowText (headM l) (readBytes (headM l) ((l.take (10 + W)).drop 10)) (readSeed (headM l) ((l.take (10 + W)).drop 10)) = (l.take (10 + W)).drop 10 := by
    unfold rowText readBytes readSeed
    by_cases h0 : headM l = 0
    · rw [if_pos h0, if_pos h0]
    · rw [if_neg h0, if_neg h0, put8_seedTo _ (by rw [hlw]; exact hW1 (by omega))]
  rw [hG]
  refine ⟨?_, ?_⟩
  · show fitErr n s q id (headM l) (headO l) (headM l) _ _ = 0
    unfold fitErr
    rw [if_neg (by simpa using hP), if_neg (by omega), if_neg (by simpa using hO), if_neg (by simp), if_neg, if_neg (by rw [hlp, hs]; simp)]
    rintro ⟨h0, h1⟩
    refine h1 ?_
    unfold readBytes
    rw [if_pos h0, hlw]; exact hW0 h0
  · show packText (headM l) (headO l) (headN l) _ _ _ = l
    have hll := headL_read l hH
    have hbody : headL (headM l) (headO l) (headN l) ++ ((l.take (10 + W)).drop 10 ++ (l.take (10 + W + sz)).drop (10 + W)) = l.take (l.length - 4) := by
      have h1 : (l.take (10 + W)).drop 10 ++ (l.take (10 + W + sz)).drop (10 + W) = (l.take (10 + W + sz)).drop 10 := by
        rw [show l.take (10 + W) = (l.take (10 + W + sz)).take (10 + W) by rw [List.take_take]; congr 1; omega]
        have := List.take_append_drop W ((l.take (10 + W + sz)).drop 10)
        rw [List.drop_drop, List.take_drop] at this
        exact this
      rw [h1, show l.length - 4 = 10 + W + sz by omega]
      have h2 : headL (headM l) (headO l) (headN l) = (l.take (10 + W + sz)).take 10 := by
        have h3 : (headL (headM l) (headO l) (headN l) ++ l.drop 10).take 10 = l.take 10 := by rw [hll]
        rw [List.take_left' (headL_length _ _ _)] at h3
        rw [h3, List.take_take]; congr 1; omega
      rw [h2, List.take_append_drop]
    have hend : l.drop (l.length - 4) = put4 (crc (l.take (l.length - 4))) := by
      rw [← hC, put4_get4 _ (by rw [List.length_drop]; omega)]
    rw [packText, packBody, hrt]
    simp only [List.flatten_cons, List.flatten_nil, List.append_nil]
    rw [← List.append_assoc ((l.take (10 + W)).drop 10), ← List.append_assoc (headL _ _ _), hbody, ← hend, List.take_append_drop]
theorem packGot_le (n s q : Int) (id : Nat) (l : List UInt8) : (packGot n s q id l).lb.length ≤ l.length ∧ (packGot n s q id l).lp.length ≤ l.length ∧ (packGot n s q id l).nn < 4294967296 := by
  unfold packGot
  split
  · refine ⟨?_, ?_, get4_lt _⟩
    · show (readBytes _ _).length ≤ _
      unfold readBytes
      split
      · rw [List.length_drop, List.length_take]; omega
      · simp
    · show (List.drop _ _).length ≤ _
      rw [List.length_drop, List.length_take]; omega
  · exact ⟨Nat.zero_le _, Nat.zero_le _, (show (0 : Nat) < 4294967296 by decide)⟩
end Go.Proofs.YtdmijoochgmhiaaGreatDoor
