/-
  The walks of layer 5's awake, MixNone and MixApart.
-/
import Derived.Test.YtdmijoochgmhiaaMix
import Derived.Test.YtdmijoochgmhiaaSame
namespace Go.Proofs.Ytdmijoochgmhiaa
open Go.RowKit

theorem mix_check : mixOut (mixNext 0) = 16294208416658607535 := by decide +kernel
theorem mix_check1 : mixList 0 1 = [175] := by decide +kernel

set_option maxRecDepth 100000 in
set_option maxHeartbeats 400000 in
theorem mixAwake_any (w : World) :
    Calls Try.prog 11 #[] w fun e w' => e = .returned (.bool true) ∧ Gr w w' := by
  go_enter Try.func11, Try.ntmps11
  go_wp2_with fail
  refine (mixNew' 0 w).mono ?_
  rintro e w1 ⟨b, hb, hbl, rfl, hm, hg⟩
  go_wp2_with fail
  refine (mixRow_any 0 (by decide) 1 (by decide) w1).mono ?_
  rintro e w2 ⟨g, hg1, rfl, hg2, hbs⟩
  rw [mix_check1] at hbs
  go_wp2_with fail
  refine (mixNext' b 0 w2 (hm.gr hg2)).mono ?_
  rintro e w3 ⟨rfl, hm3, hg3⟩
  rw [mix_check]
  have hc : w3.cell? ⟨g, 0, none⟩ = some (.int .u8 175) := by
    have := (hbs.grb hg3 (fun x hx => by cases hx; show g ≠ b; omega)).get (i := 0) (by decide)
    obtain ⟨u, hu, hc⟩ := this
    cases hu; exact hc
  go_wp2
  go_ret
  exact ⟨rfl, (hg.trans hg2).grb hg3 hb⟩

set_option maxHeartbeats 400000 in
theorem mixClone_nil (w : World) :
    Calls Try.prog 16 #[.pointer none] w fun e w' => e = .returned (.pointer none) ∧ w = w' := by
  go_enter Try.func16, Try.ntmps16
  go_wp2
  go_ret
  exact ⟨rfl, rfl⟩

set_option maxHeartbeats 400000 in
theorem mixNone_walk (w : World) :
    Calls Try.prog 5 #[] w fun e w' => e = .returned (.bool true) ∧ Gr w w' := by
  go_enter Try.func5, Try.ntmps5
  go_wp2_with fail
  refine (mixBytes_nil 3 w).mono ?_
  rintro e w1 ⟨rfl, rfl⟩
  go_wp2_with fail
  refine (mixAwake_any w).mono ?_
  rintro e w1 ⟨rfl, hg⟩
  go_wp2_with fail
  refine (mixNext_nil w1).mono ?_
  rintro e w2 ⟨rfl, rfl⟩
  go_wp2_with fail
  refine (mixClone_nil w1).mono ?_
  rintro e w2 ⟨rfl, rfl⟩
  go_wp2
  go_ret
  exact ⟨rfl, hg⟩

set_option maxRecDepth 100000 in
set_option maxHeartbeats 2000000 in
theorem mixApart_walk (w : World) (a : Nat) (ha : a < 18446744073709551616) (c : Nat) (hc : c < 18446744073709551616) (n : Nat) (hn : n < 256) :
    Calls Try.prog 3 #[.int .u64 (a : Int), .int .u64 (c : Int), .int .u8 (n : Int)] w fun e w' => e = .returned (.bool true) ∧ Gr w w' := by
  have Ha := Lib.hid ha
  have Hc := Lib.hid hc
  clear ha hc
  obtain ⟨k, hk⟩ : ∃ k : Nat, n % 60 = k := ⟨_, rfl⟩
  have hk60 : k < 60 := by omega
  have hkr : (n : Int) % 60 = (k : Int) := by omega
  clear hk
  go_enter Try.func3, Try.ntmps3
  go_wp2_with fail
  refine (mixAwake_any w).mono ?_
  rintro e w1 ⟨rfl, hg1⟩
  go_wp2_with fail
  refine (mixNew' a w1).mono ?_
  rintro e w2 ⟨bx, hbx, hbxl, rfl, hmx, hg2⟩
  go_wp2_with fail
  refine (mixNew' a w2).mono ?_
  rintro e w3 ⟨yb, hby, hbyl, rfl, hmy, hg3⟩
  have hxy : bx < yb := by omega
  obtain ⟨t, ht⟩ : ∃ t : Nat, 8 * k = t := ⟨_, rfl⟩
  have ht8 : 8 * (k : Int) = (t : Int) := by omega
  go_wp2_with fail
  refine (mixBytes_any yb a Ha.out t (by omega) w3 hmy).mono ?_
  rintro e w4 ⟨g, hgl, rfl, hg4, hmy4, hbs⟩
  rw [show (t + 7) / 8 = k by omega] at hmy4
  have hmx4 : MixAt w4 bx (mixIter 0 a) := (hmx.gr hg3).grb hg4 (by omega)
  have Hw4 : Gr w w4 := ((hg1.trans hg2).trans hg3).grb hg4 (by have := hg1.size; have := hg2.size; omega)
  have htm : t ≤ 480 := by omega
  clear hmy hmx
  go_wp2
  go_loopw [32] (fun i wr => ∃ j : Nat, j ≤ k ∧ i = .int .i64 j ∧ MixAt wr bx (mixIter j a) ∧ GrB w4 bx wr) (fun i _ => k - (intOf i).toNat)
  case atStart => exact ⟨0, Nat.zero_le _, rfl, hmx4, GrB.refl _ _⟩
  case round =>
    obtain ⟨j, hj, rfl, hmxj, hgj⟩ := hrel
    by_cases hlt : j < k
    · go_wp2_with fail
      refine (mixBytes_any bx (mixIter j a) (mixIter_lt j Ha.out) 8 (by decide) wr hmxj).mono ?_
      rintro e w5 ⟨g2, hg2l, rfl, hg5, hmx5, hbs5⟩
      have hgj5 := hgj.trans hg5
      have hbs4 := hbs.grb hgj5 (fun x hx => by cases hx; show g ≠ bx; omega)
      have hsub := (hbs4.drop (k := 8 * j) (by omega)).take (k := 8) (by omega)
      have e1 := mixList_cut a t j (by omega)
      rw [e1, Nat.zero_add] at hsub
      have hne : ¬ t = 8 * j := by omega
      have hst := sameB_self (mixList (mixIter j a) 8)
      clear e1 ht
      go_wp2_with fail
      refine (same_any _ _ 8 8 8 (t - 8 * j) (mixList (mixIter j a) 8) (mixList (mixIter j a) 8) w5 hbs5 hsub).mono ?_
      rintro e w6 ⟨rfl, hg6⟩
      have hmx6 : MixAt w6 bx (mixIter (j + 1) a) := hmx5.gr hg6
      have hgj6 := hgj5.gr hg6
      go_wp2
      go_roundw
      case rel => exact ⟨j + 1, by omega, by go_num, hmx6, hgj6⟩
      case measure => simp [intOf]; omega
    · obtain rfl : j = k := by omega
      have hmyj := hmy4.grb hgj (by omega)
      go_wp2_with fail
      refine (mixNext' bx _ wr hmxj).mono ?_
      rintro e w5 ⟨rfl, hmx5, hg5⟩
      go_wp2_with fail
      refine (mixNext' yb _ w5 (hmyj.grb hg5 (by omega))).mono ?_
      rintro e w6 ⟨rfl, hmy6, hg6⟩
      go_wp2_with fail
      refine (mixNew' a w6).mono ?_
      rintro e w7 ⟨b7, hb7, hb7l, rfl, hm7, hg7⟩
      go_wp2_with fail
      refine (mixNext' b7 _ w7 hm7).mono ?_
      rintro e w8 ⟨rfl, hm8, hg8⟩
      go_wp2_with fail
      refine (mixNew' c w8).mono ?_
      rintro e w9 ⟨b9, hb9, hb9l, rfl, hm9, hg9⟩
      go_wp2_with fail
      refine (mixNext' b9 _ w9 hm9).mono ?_
      rintro e w10 ⟨rfl, hm10, hg10⟩
      have heq : (((mixOut (mixNext a) : Nat) : Int) == ((mixOut (mixNext c) : Nat) : Int)) = ((a : Int) == (c : Int)) := by
        rw [Bool.eq_iff_iff, beq_iff_eq, beq_iff_eq]
        constructor
        · intro h
          have h1 := mixOut_inj (mixNext_lt a) (mixNext_lt c) (by omega)
          have h2 := mixNext_inj Ha.out Hc.out h1
          omega
        · intro h
          have h1 : a = c := by omega
          rw [h1]
      have Hfin : Gr w w10 := by
        have s1 := hg1.size
        have s2 := hg2.size
        have s3 := hg3.size
        have s4 := Hw4.size
        have s5 : w4.heap.size ≤ wr.heap.size := World.grownBy.size hgj
        have s6 : wr.heap.size ≤ w5.heap.size := World.grownBy.size hg5
        have s7 : w5.heap.size ≤ w6.heap.size := World.grownBy.size hg6
        have s8 := hg7.size
        have s9 : w7.heap.size ≤ w8.heap.size := World.grownBy.size hg8
        have s10 := hg9.size
        have q1 := (Hw4.grb hgj (by omega)).grb hg5 (by omega)
        have q2 := (q1.grb hg6 (by omega)).trans hg7
        have q3 := (q2.grb hg8 (by omega)).trans hg9
        exact q3.grb hg10 (by omega)
      generalize mixOut (mixNext a) = X at *
      generalize mixOut (mixNext c) = Y at *
      go_wp2
      go_ret
      exact ⟨rfl, Hfin⟩
end Go.Proofs.Ytdmijoochgmhiaa
