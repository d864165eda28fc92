/-
  The walk of law MixTells.
-/
import Derived.Test.YtdmijoochgmhiaaMixLaws
import Derived.Test.YtdmijoochgmhiaaRefMix
namespace Go.Proofs.Ytdmijoochgmhiaa
open Go.RowKit

set_option maxHeartbeats 400000 in
theorem mixClone_any (b s : Nat) (w : World) (h : MixAt w b s) :
    Calls Try.prog 16 #[.pointer (some ⟨b, 0, none⟩)] w fun e w' => ∃ c, w.heap.size ≤ c ∧ c < w'.heap.size ∧ e = .returned (.pointer (some ⟨c, 0, none⟩)) ∧ MixAt w' c s ∧ Gr w w' := by
  have hc := cell_of_one h
  go_enter Try.func16, Try.ntmps16
  go_wp2
  go_ret
  exact ⟨w.heap.size, Nat.le_refl _, by simp, rfl, heap_alloc_new _ _, (Gr.refl _).alloc _⟩

/-- what holds at a round's head. -/
def Asked (w : World) (bm len : Nat) (i s : Value) (wr : World) : Prop :=
  ∃ k t : Nat, k ≤ len ∧ i = .int .i64 k ∧ s = .int .u64 t ∧ Hid (t < 18446744073709551616) ∧ MixAt wr bm t ∧ Gr w wr

set_option maxRecDepth 100000 in
set_option maxHeartbeats 4000000 in
theorem mixTells_walk (w : World) (s : Nat) (hs : s < 18446744073709551616) (a1 : Option Addr) (len cap : Nat) (l : List Int) (hl : Ints w a1 len cap l) :
    Calls Try.prog 4 #[.int .u64 (s : Int), .slice a1 len cap] w fun e w' => e = .returned (.bool true) ∧ Gr w w' := by
  have Hs := Lib.hid hs
  clear hs
  have hm : len ≤ 9223372036854775807 := by have h1 := hl.2.1; have h2 := hl.2.2.1; unfold maxLen at h2; omega
  by_cases h40 : 40 < len
  · have h40' : (40 : Int) < (len : Int) := by omega
    go_enter Try.func4, Try.ntmps4
    go_wp2_with fail
    refine (mixAwake_any w).mono ?_
    rintro e w1 ⟨rfl, hg1⟩
    go_wp2
    go_ret
    exact ⟨rfl, hg1⟩
  have h40' : ¬ (40 : Int) < (len : Int) := by omega
  go_enter Try.func4, Try.ntmps4
  go_wp2_with fail
  refine (mixAwake_any w).mono ?_
  rintro e w1 ⟨rfl, hg1⟩
  go_wp2_with fail
  refine (mixNew' s w1).mono ?_
  rintro e w2 ⟨bm, hbm1, hbml, rfl, hmx0, hg2⟩
  have hbm : w.heap.size ≤ bm := Nat.le_trans hg1.size hbm1
  have hgr0 := hg1.trans hg2
  go_wp2
  go_loopw [6, 26] (fun sv i wr => Asked w bm len i sv wr) (fun _ i _ => len - (intOf i).toNat)
  case atStart => exact ⟨0, s, Nat.zero_le _, rfl, rfl, Hs, hmx0, hgr0⟩
  case round =>
    obtain ⟨k, t, hk, rfl, rfl, Ht, hmx, hgr⟩ := hrel
    by_cases hlt : k < len
    · obtain ⟨b, off, rfl, _⟩ := hl.at_ (by omega)
      obtain ⟨n, hn, hcn, hn1, hn2⟩ := (hl.below hgr).get hlt
      clear hn
      by_cases hmid : 500 < n ∧ n ≤ 65536
      · obtain ⟨h1, h2⟩ := hmid
        go_wp2
        go_ret
        exact ⟨rfl, hgr⟩
      by_cases hbad : n < 0 ∨ 65536 < n
      · have HBAD := Lib.hid hbad
        clear hmid
        rcases hbad with hlow | hhigh
        · by_cases h5 : n.tmod 5 = 0
          · have h5' : (n.tmod 5 == 0) = true := by rw [beq_iff_eq]; exact h5
            clear h5
            go_wp2_with fail
            refine (mixClone_any bm t wr hmx).mono ?_
            rintro e w1 ⟨bc, hbc, hbcl, rfl, hmc, hg1⟩
            go_wp2_with fail
            refine (mixNext' bc t w1 hmc).mono ?_
            rintro e w2 ⟨rfl, hmc2, hg2⟩
            have hmx2 : MixAt w2 bm t := (hmx.gr hg1).grb hg2 (by have := lt_of_block hmx; omega)
            have hgr2 : Gr w w2 := (hgr.trans hg1).grb hg2 (by have := hgr.size; omega)
            clear hmc2 hmc hg1 hg2
            go_wp2_with fail
            refine (refNext_any t w2).mono ?_
            rintro e w3 ⟨rfl, rfl⟩
            go_wp2_with fail
            refine (mixNext' bm t w2 hmx2).mono ?_
            rintro e w3 ⟨rfl, hmx3, hg3⟩
            have hgr3 : Gr w w3 := hgr2.grb hg3 hbm
            have Hu := Lib.hid (mixNext_lt t)
            generalize mixOut (mixNext t) = X at *
            generalize mixNext t = t3 at *
            go_wp2_with fail
            refine (mixBytes_range ⟨bm, 0, none⟩ n HBAD.out w3).mono ?_
            rintro e w4 ⟨rfl, rfl⟩
            go_wp2
            go_roundw
            case rel => exact ⟨k + 1, t3, by omega, by go_num, rfl, Hu, hmx3, hgr3⟩
            case measure => simp [intOf]; omega
          · have h5' : (n.tmod 5 == 0) = false := by rw [beq_eq_false_iff_ne]; exact h5
            clear h5
            go_wp2_with fail
            refine (mixClone_any bm t wr hmx).mono ?_
            rintro e w1 ⟨bc, hbc, hbcl, rfl, hmc, hg1⟩
            go_wp2_with fail
            refine (mixNext' bc t w1 hmc).mono ?_
            rintro e w2 ⟨rfl, hmc2, hg2⟩
            have hmx2 : MixAt w2 bm t := (hmx.gr hg1).grb hg2 (by have := lt_of_block hmx; omega)
            have hgr2 : Gr w w2 := (hgr.trans hg1).grb hg2 (by have := hgr.size; omega)
            clear hmc2 hmc hg1 hg2
            go_wp2_with fail
            obtain ⟨t3, ht3⟩ : ∃ q, q = t := ⟨_, rfl⟩
            obtain ⟨w3, hw3⟩ : ∃ q, q = w2 := ⟨_, rfl⟩
            have Hu : Hid (t3 < 18446744073709551616) := by rw [ht3]; exact Ht
            have hmx3 : MixAt w3 bm t3 := by rw [ht3, hw3]; exact hmx2
            have hgr3 : Gr w w3 := by rw [hw3]; exact hgr2
            rw [← ht3, ← hw3]
            clear ht3 hw3 hmx2 hgr2
            go_wp2_with fail
            refine (mixBytes_range ⟨bm, 0, none⟩ n HBAD.out w3).mono ?_
            rintro e w4 ⟨rfl, rfl⟩
            go_wp2
            go_roundw
            case rel => exact ⟨k + 1, t3, by omega, by go_num, rfl, Hu, hmx3, hgr3⟩
            case measure => simp [intOf]; omega
        · by_cases h5 : n % 5 = 0
          · have h5' : (n % 5 == 0) = true := by rw [beq_iff_eq]; exact h5
            clear h5
            go_wp2_with fail
            refine (mixClone_any bm t wr hmx).mono ?_
            rintro e w1 ⟨bc, hbc, hbcl, rfl, hmc, hg1⟩
            go_wp2_with fail
            refine (mixNext' bc t w1 hmc).mono ?_
            rintro e w2 ⟨rfl, hmc2, hg2⟩
            have hmx2 : MixAt w2 bm t := (hmx.gr hg1).grb hg2 (by have := lt_of_block hmx; omega)
            have hgr2 : Gr w w2 := (hgr.trans hg1).grb hg2 (by have := hgr.size; omega)
            clear hmc2 hmc hg1 hg2
            go_wp2_with fail
            refine (refNext_any t w2).mono ?_
            rintro e w3 ⟨rfl, rfl⟩
            go_wp2_with fail
            refine (mixNext' bm t w2 hmx2).mono ?_
            rintro e w3 ⟨rfl, hmx3, hg3⟩
            have hgr3 : Gr w w3 := hgr2.grb hg3 hbm
            have Hu := Lib.hid (mixNext_lt t)
            generalize mixOut (mixNext t) = X at *
            generalize mixNext t = t3 at *
            go_wp2_with fail
            refine (mixBytes_range ⟨bm, 0, none⟩ n HBAD.out w3).mono ?_
            rintro e w4 ⟨rfl, rfl⟩
            go_wp2
            go_roundw
            case rel => exact ⟨k + 1, t3, by omega, by go_num, rfl, Hu, hmx3, hgr3⟩
            case measure => simp [intOf]; omega
          · have h5' : (n % 5 == 0) = false := by rw [beq_eq_false_iff_ne]; exact h5
            clear h5
            go_wp2_with fail
            refine (mixClone_any bm t wr hmx).mono ?_
            rintro e w1 ⟨bc, hbc, hbcl, rfl, hmc, hg1⟩
            go_wp2_with fail
            refine (mixNext' bc t w1 hmc).mono ?_
            rintro e w2 ⟨rfl, hmc2, hg2⟩
            have hmx2 : MixAt w2 bm t := (hmx.gr hg1).grb hg2 (by have := lt_of_block hmx; omega)
            have hgr2 : Gr w w2 := (hgr.trans hg1).grb hg2 (by have := hgr.size; omega)
            clear hmc2 hmc hg1 hg2
            go_wp2_with fail
            obtain ⟨t3, ht3⟩ : ∃ q, q = t := ⟨_, rfl⟩
            obtain ⟨w3, hw3⟩ : ∃ q, q = w2 := ⟨_, rfl⟩
            have Hu : Hid (t3 < 18446744073709551616) := by rw [ht3]; exact Ht
            have hmx3 : MixAt w3 bm t3 := by rw [ht3, hw3]; exact hmx2
            have hgr3 : Gr w w3 := by rw [hw3]; exact hgr2
            rw [← ht3, ← hw3]
            clear ht3 hw3 hmx2 hgr2
            go_wp2_with fail
            refine (mixBytes_range ⟨bm, 0, none⟩ n HBAD.out w3).mono ?_
            rintro e w4 ⟨rfl, rfl⟩
            go_wp2
            go_roundw
            case rel => exact ⟨k + 1, t3, by omega, by go_num, rfl, Hu, hmx3, hgr3⟩
            case measure => simp [intOf]; omega
      · obtain ⟨m, rfl⟩ := Int.eq_ofNat_of_zero_le (show 0 ≤ n by omega)
        have hm5 : m ≤ 500 := by omega
        clear hmid hbad hn1 hn2
        by_cases h5 : m % 5 = 0
        · have h5' : ((m : Int) % 5 == 0) = true := by rw [beq_iff_eq]; omega
          go_wp2_with fail
          refine (mixClone_any bm t wr hmx).mono ?_
          rintro e w1 ⟨bc, hbc, hbcl, rfl, hmc, hg1⟩
          go_wp2_with fail
          refine (mixNext' bc t w1 hmc).mono ?_
          rintro e w2 ⟨rfl, hmc2, hg2⟩
          have hmx2 : MixAt w2 bm t := (hmx.gr hg1).grb hg2 (by have := lt_of_block hmx; omega)
          have hgr2 : Gr w w2 := (hgr.trans hg1).grb hg2 (by have := hgr.size; omega)
          clear hmc2 hmc hg1 hg2
          go_wp2_with fail
          refine (refNext_any t w2).mono ?_
          rintro e w3 ⟨rfl, rfl⟩
          go_wp2_with fail
          refine (mixNext' bm t w2 hmx2).mono ?_
          rintro e w3 ⟨rfl, hmx3, hg3⟩
          have hgr3 : Gr w w3 := hgr2.grb hg3 hbm
          have Hu := Lib.hid (mixNext_lt t)
          generalize mixOut (mixNext t) = X at *
          generalize mixNext t = t3 at *
          go_wp2_with fail
          refine (mixBytes_any bm t3 Hu.out m (by omega) w3 hmx3).mono ?_
          rintro e w4 ⟨g, hgl, rfl, hg4, hmx4, hbs4⟩
          have hgr4 : Gr w w4 := hgr3.grb hg4 hbm
          go_wp2_with fail
          refine (refBytes_any t3 m (by omega) w4).mono ?_
          rintro e w5 ⟨a5, cap5, rfl, hbs5, hg5⟩
          have hst := sameB_self (mixList t3 m)
          go_wp2_with fail
          refine (same_any _ a5 m m m cap5 (mixList t3 m) (mixList t3 m) w5 (hbs4.below hg5) hbs5).mono ?_
          rintro e w6 ⟨rfl, hg6⟩
          have hfin : MixAt w6 bm (mixIter ((m + 7) / 8) t3) := (hmx4.gr hg5).gr hg6
          have hgrf : Gr w w6 := (hgr4.trans hg5).trans hg6
          have Hv := Lib.hid (mixIter_lt ((m + 7) / 8) Hu.out)
          go_wp2
          go_roundw
          case rel => exact ⟨k + 1, mixIter ((m + 7) / 8) t3, by omega, by go_num, rfl, Hv, hfin, hgrf⟩
          case measure => simp [intOf]; omega
        · have h5' : ((m : Int) % 5 == 0) = false := by rw [beq_eq_false_iff_ne]; omega
          go_wp2_with fail
          refine (mixClone_any bm t wr hmx).mono ?_
          rintro e w1 ⟨bc, hbc, hbcl, rfl, hmc, hg1⟩
          go_wp2_with fail
          refine (mixNext' bc t w1 hmc).mono ?_
          rintro e w2 ⟨rfl, hmc2, hg2⟩
          have hmx2 : MixAt w2 bm t := (hmx.gr hg1).grb hg2 (by have := lt_of_block hmx; omega)
          have hgr2 : Gr w w2 := (hgr.trans hg1).grb hg2 (by have := hgr.size; omega)
          clear hmc2 hmc hg1 hg2
          go_wp2_with fail
          obtain ⟨t3, ht3⟩ : ∃ q, q = t := ⟨_, rfl⟩
          obtain ⟨w3, hw3⟩ : ∃ q, q = w2 := ⟨_, rfl⟩
          have Hu : Hid (t3 < 18446744073709551616) := by rw [ht3]; exact Ht
          have hmx3 : MixAt w3 bm t3 := by rw [ht3, hw3]; exact hmx2
          have hgr3 : Gr w w3 := by rw [hw3]; exact hgr2
          rw [← ht3, ← hw3]
          clear ht3 hw3 hmx2 hgr2
          go_wp2_with fail
          refine (mixBytes_any bm t3 Hu.out m (by omega) w3 hmx3).mono ?_
          rintro e w4 ⟨g, hgl, rfl, hg4, hmx4, hbs4⟩
          have hgr4 : Gr w w4 := hgr3.grb hg4 hbm
          go_wp2_with fail
          refine (refBytes_any t3 m (by omega) w4).mono ?_
          rintro e w5 ⟨a5, cap5, rfl, hbs5, hg5⟩
          have hst := sameB_self (mixList t3 m)
          go_wp2_with fail
          refine (same_any _ a5 m m m cap5 (mixList t3 m) (mixList t3 m) w5 (hbs4.below hg5) hbs5).mono ?_
          rintro e w6 ⟨rfl, hg6⟩
          have hfin : MixAt w6 bm (mixIter ((m + 7) / 8) t3) := (hmx4.gr hg5).gr hg6
          have hgrf : Gr w w6 := (hgr4.trans hg5).trans hg6
          have Hv := Lib.hid (mixIter_lt ((m + 7) / 8) Hu.out)
          go_wp2
          go_roundw
          case rel => exact ⟨k + 1, mixIter ((m + 7) / 8) t3, by omega, by go_num, rfl, Hv, hfin, hgrf⟩
          case measure => simp [intOf]; omega
    · go_wp2
      go_ret
      exact ⟨rfl, hgr⟩
end Go.Proofs.Ytdmijoochgmhiaa
