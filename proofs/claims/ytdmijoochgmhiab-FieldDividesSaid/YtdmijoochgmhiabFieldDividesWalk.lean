/-
  The walk of law FieldDivides.
-/
import Derived.Test.YtdmijoochgmhiabFieldInv
import Derived.Test.YtdmijoochgmhiabFieldLog
namespace Go.Proofs.Ytdmijoochgmhiab
open Go.RowKit

set_option maxRecDepth 100000 in
set_option maxHeartbeats 4000000 in
theorem fieldDivides_walk (w : World) (a : Nat) (ha : a < 256) (b : Nat) (hb : b < 256) (n : Int) (h1 : -9223372036854775808 ≤ n) (h2 : n ≤ 9223372036854775807) :
    Calls Try.prog 4 #[.int .u8 (a : Int), .int .u8 (b : Int), .int .i64 n] w fun e w' => e = .returned (.bool true) ∧ Gr w w' := by
  by_cases h0 : a = 0
  · subst h0
    clear ha
    go_enter Try.func4, Try.ntmps4
    go_wp2_with fail
    refine (fieldAwake_any w).mono ?_
    rintro e w1 ⟨rfl, hg1⟩
    go_wp2_with fail
    refine (fieldInv_zero w1).mono ?_
    rintro e w2 ⟨rfl, rfl⟩
    go_wp2_with fail
    refine (fieldDiv_zero b w1).mono ?_
    rintro e w2 ⟨rfl, rfl⟩
    go_wp2_with fail
    refine (fieldLog_zero w1).mono ?_
    rintro e w2 ⟨rfl, rfl⟩
    go_wp2_with fail
    refine (fieldExp_any n h1 h2 w1).mono ?_
    rintro e w2 ⟨rfl, rfl⟩
    obtain ⟨x, hx⟩ : ∃ x, fpow 2 (turnN n) = x := ⟨_, rfl⟩
    have HX := Lib.hid hx
    rw [hx]
    clear hx
    go_wp2_with fail
    refine (refExp_any n h1 h2 w1).mono ?_
    rintro e w2 ⟨rfl, rfl⟩
    rw [HX.out]
    go_wp2
    go_ret
    exact ⟨rfl, hg1⟩
  · have ht : ((a : Int) == 0) = false := by rw [beq_eq_false_iff_ne]; omega
    have H0 := Lib.hid h0
    clear h0
    go_enter Try.func4, Try.ntmps4
    go_wp2_with fail
    refine (fieldAwake_any w).mono ?_
    rintro e w1 ⟨rfl, hg1⟩
    go_wp2_with fail
    refine (fieldInv_any a ha H0.out w1).mono ?_
    rintro e w2 ⟨rfl, rfl⟩
    have hil := finv_lt a
    obtain ⟨i, hi⟩ : ∃ i, finv a = i := ⟨_, rfl⟩
    have HI := Lib.hid hi
    rw [hi] at hil ⊢
    clear hi
    go_wp2_with fail
    refine (fieldDiv_any b a hb ha H0.out w1).mono ?_
    rintro e w2 ⟨rfl, rfl⟩
    rw [HI.out]
    have hpl := fmul_lt hb i
    obtain ⟨p, hp⟩ : ∃ p, fmul b i = p := ⟨_, rfl⟩
    have HP := Lib.hid hp
    rw [hp] at hpl ⊢
    clear hp
    go_wp2_with fail
    refine (fieldLog_any a ha H0.out w1).mono ?_
    rintro e w2 ⟨k, hk, hka, rfl, rfl⟩
    have HK := Lib.hid hka
    clear hka
    go_wp2_with fail
    refine (refInv_any a ha H0.out w1).mono ?_
    rintro e w2 ⟨rfl, rfl⟩
    rw [HI.out]
    go_wp2_with fail
    refine (refInv_any a ha H0.out w1).mono ?_
    rintro e w2 ⟨rfl, rfl⟩
    rw [HI.out]
    go_wp2_with fail
    refine (refMul_any b i hb hil w1).mono ?_
    rintro e w2 ⟨rfl, rfl⟩
    rw [HP.out]
    go_wp2_with fail
    refine (refExp_any (k : Int) (by omega) (by omega) w1).mono ?_
    rintro e w2 ⟨rfl, rfl⟩
    have HT : Hid (fpow 2 (turnN (k : Int)) = a) := by
      show _ = _
      rw [show turnN (k : Int) = k by unfold turnN; omega]; exact HK.out
    rw [HT.out]
    go_wp2_with fail
    refine (fieldExp_any n h1 h2 w1).mono ?_
    rintro e w2 ⟨rfl, rfl⟩
    obtain ⟨x, hx⟩ : ∃ x, fpow 2 (turnN n) = x := ⟨_, rfl⟩
    have HX := Lib.hid hx
    rw [hx]
    clear hx
    go_wp2_with fail
    refine (refExp_any n h1 h2 w1).mono ?_
    rintro e w2 ⟨rfl, rfl⟩
    rw [HX.out]
    go_wp2
    go_ret
    exact ⟨rfl, hg1⟩
end Go.Proofs.Ytdmijoochgmhiab
