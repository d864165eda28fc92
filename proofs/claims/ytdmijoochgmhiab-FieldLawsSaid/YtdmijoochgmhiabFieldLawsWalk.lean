/-
  The walk of law FieldLaws.
-/
import Derived.Test.YtdmijoochgmhiabFieldInv
namespace Go.Proofs.Ytdmijoochgmhiab
open Go.RowKit

theorem b8 {x : Nat} (h : x < 256) : ((UInt8.ofNat x).toNat) = x := by rw [UInt8.toNat_ofNat']; exact Nat.mod_eq_of_lt (by simpa using h)
/-- the product, the sum of two in a new block. -/
theorem mulTwo {w : World} {b x y : Nat} (hx : x < 256) (hy : y < 256) (hb : b = w.heap.size) :
    Calls Try.prog 13 #[.slice (some ⟨b, 0, none⟩) 2 2] (w.alloc (.cells #[.int .u8 (x : Int), .int .u8 (y : Int)] 5)) fun e w' => e = .returned (.int .u8 (fmul x y : Nat)) ∧ Gr w w' := by
  refine (fieldMul_any _ 2 2 [UInt8.ofNat x, UInt8.ofNat y] _ (Bs.of_alloc (by simp only [u8s, List.map, b8 hx, b8 hy]) rfl (by decide) hb)).mono ?_
  rintro e w1 ⟨rfl, rfl⟩
  refine ⟨?_, (Gr.refl _).alloc _⟩
  have e : fprod [UInt8.ofNat x, UInt8.ofNat y] = fmul x y := by
    show fmul (fmul 1 (UInt8.ofNat x).toNat) (UInt8.ofNat y).toNat = _
    rw [b8 hx, b8 hy, one_fmul hx]
  rw [e]
theorem mulThree {w : World} {b x y z : Nat} (hx : x < 256) (hy : y < 256) (hz : z < 256) (hb : b = w.heap.size) :
    Calls Try.prog 13 #[.slice (some ⟨b, 0, none⟩) 3 3] (w.alloc (.cells #[.int .u8 (x : Int), .int .u8 (y : Int), .int .u8 (z : Int)] 5)) fun e w' => e = .returned (.int .u8 (fmul (fmul x y) z : Nat)) ∧ Gr w w' := by
  refine (fieldMul_any _ 3 3 [UInt8.ofNat x, UInt8.ofNat y, UInt8.ofNat z] _ (Bs.of_alloc (by simp only [u8s, List.map, b8 hx, b8 hy, b8 hz]) rfl (by decide) hb)).mono ?_
  rintro e w1 ⟨rfl, rfl⟩
  refine ⟨?_, (Gr.refl _).alloc _⟩
  have e : fprod [UInt8.ofNat x, UInt8.ofNat y, UInt8.ofNat z] = fmul (fmul x y) z := by
    show fmul (fmul (fmul 1 (UInt8.ofNat x).toNat) (UInt8.ofNat y).toNat) (UInt8.ofNat z).toNat = _
    rw [b8 hx, b8 hy, b8 hz, one_fmul hx]
  rw [e]
theorem addTwo {w : World} {b x y : Nat} (hx : x < 256) (hy : y < 256) (hb : b = w.heap.size) :
    Calls Try.prog 12 #[.slice (some ⟨b, 0, none⟩) 2 2] (w.alloc (.cells #[.int .u8 (x : Int), .int .u8 (y : Int)] 5)) fun e w' => e = .returned (.int .u8 (x ^^^ y : Nat)) ∧ Gr w w' := by
  refine (fieldAdd_any _ 2 2 [UInt8.ofNat x, UInt8.ofNat y] _ (Bs.of_alloc (by simp only [u8s, List.map, b8 hx, b8 hy]) rfl (by decide) hb)).mono ?_
  rintro e w1 ⟨rfl, rfl⟩
  refine ⟨?_, (Gr.refl _).alloc _⟩
  have e : fsum [UInt8.ofNat x, UInt8.ofNat y] = x ^^^ y := by
    show (0 ^^^ (UInt8.ofNat x).toNat) ^^^ (UInt8.ofNat y).toNat = _
    rw [b8 hx, b8 hy, Nat.zero_xor]
  rw [e]
theorem xor_lt8 {x y : Nat} (hx : x < 256) (hy : y < 256) : x ^^^ y < 256 := Nat.xor_lt_two_pow (n := 8) hx hy

set_option maxRecDepth 100000 in
set_option maxHeartbeats 4000000 in
theorem fieldLaws_walk (w : World) (a : Nat) (ha : a < 256) (b : Nat) (hb : b < 256) (c : Nat) (hc : c < 256) :
    Calls Try.prog 3 #[.int .u8 (a : Int), .int .u8 (b : Int), .int .u8 (c : Int)] w fun e w' => e = .returned (.bool true) ∧ Gr w w' := by
  go_enter Try.func3, Try.ntmps3
  go_wp2_with fail
  refine (fieldAwake_any w).mono ?_
  rintro e w1 ⟨rfl, hg1⟩
  go_wp2_with fail
  refine (addTwo ha hb rfl).mono ?_
  rintro e w2 ⟨rfl, hg2⟩
  go_wp2_with fail
  refine (addTwo hb ha rfl).mono ?_
  rintro e w3 ⟨rfl, hg3⟩
  rw [Nat.xor_comm b a]
  go_wp2_with fail
  refine (mulTwo ha hb rfl).mono ?_
  rintro e w4 ⟨rfl, hg4⟩
  go_wp2_with fail
  refine (mulTwo hb ha rfl).mono ?_
  rintro e w5 ⟨rfl, hg5⟩
  rw [fmul_comm hb ha]
  go_wp2_with fail
  refine (mulTwo ha hb rfl).mono ?_
  rintro e w6 ⟨rfl, hg6⟩
  go_wp2_with fail
  refine (mulTwo (fmul_lt ha b) hc rfl).mono ?_
  rintro e w7 ⟨rfl, hg7⟩
  go_wp2_with fail
  refine (mulTwo hb hc rfl).mono ?_
  rintro e w8 ⟨rfl, hg8⟩
  go_wp2_with fail
  refine (mulTwo ha (fmul_lt hb c) rfl).mono ?_
  rintro e w9 ⟨rfl, hg9⟩
  rw [← fmul_assoc ha hb hc]
  go_wp2_with fail
  refine (mulThree ha hb hc rfl).mono ?_
  rintro e w10 ⟨rfl, hg10⟩
  go_wp2_with fail
  refine (mulThree hc hb ha rfl).mono ?_
  rintro e w11 ⟨rfl, hg11⟩
  rw [show fmul (fmul c b) a = fmul (fmul a b) c by rw [fmul_comm hc hb, fmul_comm (fmul_lt hb c) ha, ← fmul_assoc ha hb hc]]
  go_wp2_with fail
  refine (addTwo hb hc rfl).mono ?_
  rintro e w12 ⟨rfl, hg12⟩
  go_wp2_with fail
  refine (mulTwo ha (xor_lt8 hb hc) rfl).mono ?_
  rintro e w13 ⟨rfl, hg13⟩
  rw [fmul_xor' a b c]
  go_wp2_with fail
  refine (mulTwo ha hb rfl).mono ?_
  rintro e w14 ⟨rfl, hg14⟩
  go_wp2_with fail
  refine (mulTwo ha hc rfl).mono ?_
  rintro e w15 ⟨rfl, hg15⟩
  go_wp2_with fail
  refine (addTwo (fmul_lt ha b) (fmul_lt ha c) rfl).mono ?_
  rintro e w16 ⟨rfl, hg16⟩
  go_wp2_with fail
  refine (addTwo ha ha rfl).mono ?_
  rintro e w17 ⟨rfl, hg17⟩
  rw [Nat.xor_self]
  go_wp2_with fail
  refine (addTwo (y := 0) ha (by decide) rfl).mono ?_
  rintro e w18 ⟨rfl, hg18⟩
  rw [Nat.xor_zero]
  go_wp2_with fail
  refine (mulTwo (y := 1) ha (by decide) rfl).mono ?_
  rintro e w19 ⟨rfl, hg19⟩
  rw [fmul_one ha]
  go_wp2_with fail
  refine (mulTwo (y := 0) ha (by decide) rfl).mono ?_
  rintro e w20 ⟨rfl, hg20⟩
  rw [fmul_zero]
  have hG := (((((((((((((((((((hg1.trans hg2).trans hg3).trans hg4).trans hg5).trans hg6).trans hg7).trans hg8).trans hg9).trans hg10).trans hg11).trans hg12).trans hg13).trans hg14).trans hg15).trans hg16).trans hg17).trans hg18).trans hg19).trans hg20)
  clear hg1 hg2 hg3 hg4 hg5 hg6 hg7 hg8 hg9 hg10 hg11 hg12 hg13 hg14 hg15 hg16 hg17 hg18 hg19 hg20
  go_wp2_with fail
  by_cases h0 : b = 0
  · have ht : ((b : Int) == 0) = true := by rw [beq_iff_eq]; omega
    have H0 := Lib.hid h0
    clear h0
    refine (fieldDiv_zero' a b H0.out w20).mono ?_
    rintro e w21 ⟨rfl, rfl⟩
    go_wp2
    go_ret
    exact ⟨rfl, hG⟩
  · have ht : ((b : Int) == 0) = false := by rw [beq_eq_false_iff_ne]; omega
    have H0 := Lib.hid h0
    clear h0
    refine (fieldDiv_any a b ha hb H0.out w20).mono ?_
    rintro e w21 ⟨rfl, rfl⟩
    obtain ⟨x, hx⟩ : ∃ x, fmul a (finv b) = x := ⟨_, rfl⟩
    have hxl : x < 256 := by rw [← hx]; exact fmul_lt ha _
    have Hxb : Hid (fmul x b = a) := by show _ = _; rw [← hx, fmul_assoc ha (finv_lt b) hb, finv_fmul hb H0.out, fmul_one ha]
    have hx0 : ((x : Int) == 0) = ((a : Int) == 0) := by
      rw [Bool.eq_iff_iff, beq_iff_eq, beq_iff_eq]
      constructor
      · intro h
        have h1 : x = 0 := by omega
        have h2 := Hxb.out
        rw [h1, zero_fmul] at h2; omega
      · intro h
        have h1 : a = 0 := by omega
        have h2 : x = 0 := by rw [← hx, h1, zero_fmul]
        omega
    rw [hx]
    clear hx
    go_wp2_with fail
    refine (mulTwo hxl hb rfl).mono ?_
    rintro e w22 ⟨rfl, hg22⟩
    rw [Hxb.out]
    go_wp2_with fail
    refine (mulTwo hb hc rfl).mono ?_
    rintro e w23 ⟨rfl, hg23⟩
    go_wp2_with fail
    refine (mulTwo hb ha rfl).mono ?_
    rintro e w24 ⟨rfl, hg24⟩
    have hG2 : Gr w w24 := (by repeat (first | assumption | exact Gr.refl _ | (refine Gr.alloc ?_ _) | (refine Gr.drew ?_) | (refine Gr.drewN ?_ _) | (refine Gr.trans ?_ (by assumption))))
    by_cases hca : c = a
    · have h1 : (((fmul b c : Nat) : Int) != ((fmul b a : Nat) : Int)) = false := by rw [hca]; simp
      have h2 : ((c : Int) == (a : Int)) = true := by rw [beq_iff_eq]; omega
      clear hca
      generalize fmul b c = X at *
      generalize fmul b a = Y at *
      go_wp2
      go_ret
      exact ⟨rfl, hG2⟩
    · have hne : fmul b c ≠ fmul b a := by
        intro h
        apply hca
        have h3 : fmul (finv b) (fmul b c) = fmul (finv b) (fmul b a) := by rw [h]
        rw [← fmul_assoc (finv_lt b) hb hc, ← fmul_assoc (finv_lt b) hb ha, finv_fmul hb H0.out, one_fmul hc, one_fmul ha] at h3
        exact h3
      have h1 : (((fmul b c : Nat) : Int) != ((fmul b a : Nat) : Int)) = true := by rw [bne_iff_ne]; omega
      clear hca hne
      generalize fmul b c = X at *
      generalize fmul b a = Y at *
      go_wp2
      go_ret
      exact ⟨rfl, hG2⟩
end Go.Proofs.Ytdmijoochgmhiab
