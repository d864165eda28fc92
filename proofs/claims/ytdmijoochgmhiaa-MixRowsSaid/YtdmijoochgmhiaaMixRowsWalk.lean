/-
  The walk of law MixRows.
-/
import Derived.Test.YtdmijoochgmhiaaMixLaws
import Derived.Test.YtdmijoochgmhiaaRefMix
import Derived.Test.YtdmijoochgmhiaaSeed
namespace Go.Proofs.Ytdmijoochgmhiaa
open Go.RowKit

set_option maxRecDepth 100000 in
set_option maxHeartbeats 4000000 in
theorem mixRows_walk (w : World) (s : Nat) (hs : s < 18446744073709551616) (n : Int) (hn1 : -9223372036854775808 ≤ n) (hn2 : n ≤ 9223372036854775807) (a2 : Option Addr) (len cap : Nat) (l : List UInt8) (hl : Bs w a2 len cap l) :
    Calls Try.prog 8 #[.int .u64 (s : Int), .int .i64 n, .slice a2 len cap] w fun e w' => e = .returned (.bool true) ∧ Gr w w' := by
  have Hs := Lib.hid hs
  clear hs
  have hm : len ≤ 9223372036854775807 := by have h1 := hl.2.1; have h2 := hl.2.2.1; unfold maxLen at h2; omega
  by_cases hmid : 500 < n ∧ n ≤ 65536
  · obtain ⟨h1, h2⟩ := hmid
    go_enter Try.func8, Try.ntmps8
    go_wp2_with fail
    refine (mixAwake_any w).mono ?_
    rintro e w1 ⟨rfl, hg1⟩
    go_wp2
    go_ret
    exact ⟨rfl, hg1⟩
  by_cases h100 : 100 < len
  · have h100' : (100 : Int) < (len : Int) := by omega
    by_cases hbig : 500 < n
    · have hbig2 : ¬ n ≤ 65536 := fun h => hmid ⟨hbig, h⟩
      go_enter Try.func8, Try.ntmps8
      go_wp2_with fail
      refine (mixAwake_any w).mono ?_
      rintro e w1 ⟨rfl, hg1⟩
      go_wp2
      go_ret
      exact ⟨rfl, hg1⟩
    · go_enter Try.func8, Try.ntmps8
      go_wp2_with fail
      refine (mixAwake_any w).mono ?_
      rintro e w1 ⟨rfl, hg1⟩
      go_wp2
      go_ret
      exact ⟨rfl, hg1⟩
  have h100' : ¬ (100 : Int) < (len : Int) := by omega
  by_cases hbad : n < 0 ∨ 65536 < n
  · have HBAD := Lib.hid hbad
    clear hmid
    rcases hbad with hlow | hhigh
    · go_enter Try.func8, Try.ntmps8
      go_wp2_with fail
      refine (mixAwake_any w).mono ?_
      rintro e w1 ⟨rfl, hg1⟩
      go_wp2_with fail
      refine (mixRow_range s n HBAD.out w1).mono ?_
      rintro e wa ⟨rfl, hg2⟩
      have hga := hg1.trans hg2
      go_wp2_with fail
      refine (mixPut_any s wa).mono ?_
      rintro e w4 ⟨g4, hg4l, rfl, hbs4, hg4⟩
      go_wp2_with fail
      refine (mixSeed_any _ 8 (put8 s) w4 hbs4).mono ?_
      rintro e w5 ⟨rfl, rfl⟩
      rw [seedTo_put8 s Hs.out]
      have hgb : Gr w w4 := hga.trans hg4
      have hst := sameB_self (put8 s)
      by_cases h8 : len = 8
      · subst h8
        go_wp2_with fail
        refine (mixSeed_any a2 cap l w4 (hl.below hgb)).mono ?_
        rintro e w5 ⟨rfl, rfl⟩
        have hpl := Lib.hid (put8_seedTo l hl.1)
        have hsl : Hid (seedTo l < 18446744073709551616) := seedTo_lt 8 l hl.1
        obtain ⟨y, hy⟩ : ∃ y, seedTo l = y := ⟨_, rfl⟩
        rw [hy] at hpl hsl ⊢
        clear hy
        have hst2 := sameB_self l
        go_wp2_with fail
        refine (mixPut_any s w4).mono ?_
        rintro e w5 ⟨g5, hg5l, rfl, hbs5, hg5⟩
        go_wp2_with fail
        refine (refPut8_any s Hs.out w5).mono ?_
        rintro e w6 ⟨a6, cap6, rfl, hbs6, hg6⟩
        go_wp2_with fail
        refine (same_any _ a6 8 8 8 cap6 (put8 s) (put8 s) w6 (hbs5.below hg6) hbs6).mono ?_
        rintro e w7 ⟨rfl, hg7⟩
        have hgc : Gr w w7 := ((hgb.trans hg5).trans hg6).trans hg7
        go_wp2_with fail
        refine (refPut8_any y hsl.out w7).mono ?_
        rintro e w8 ⟨a8, cap8, rfl, hbs8, hg8⟩
        rw [hpl.out] at hbs8
        go_wp2_with fail
        refine (same_any a8 a2 8 cap8 8 cap l l w8 hbs8 (hl.below (hgc.trans hg8))).mono ?_
        rintro e w9 ⟨rfl, hg9⟩
        go_wp2
        go_ret
        exact ⟨rfl, (hgc.trans hg8).trans hg9⟩
      · have h8' : ((len : Int) != 8) = true := by rw [bne_iff_ne]; omega
        go_wp2_with fail
        refine (mixSeed_size a2 len cap l w4 (hl.below hgb) h8).mono ?_
        rintro e w5 ⟨rfl, rfl⟩
        clear h8
        go_wp2_with fail
        refine (mixPut_any s w4).mono ?_
        rintro e w5 ⟨g5, hg5l, rfl, hbs5, hg5⟩
        go_wp2_with fail
        refine (refPut8_any s Hs.out w5).mono ?_
        rintro e w6 ⟨a6, cap6, rfl, hbs6, hg6⟩
        go_wp2_with fail
        refine (same_any _ a6 8 8 8 cap6 (put8 s) (put8 s) w6 (hbs5.below hg6) hbs6).mono ?_
        rintro e w7 ⟨rfl, hg7⟩
        go_wp2
        go_ret
        exact ⟨rfl, ((hgb.trans hg5).trans hg6).trans hg7⟩
    · go_enter Try.func8, Try.ntmps8
      go_wp2_with fail
      refine (mixAwake_any w).mono ?_
      rintro e w1 ⟨rfl, hg1⟩
      go_wp2_with fail
      refine (mixRow_range s n HBAD.out w1).mono ?_
      rintro e wa ⟨rfl, hg2⟩
      have hga := hg1.trans hg2
      go_wp2_with fail
      refine (mixPut_any s wa).mono ?_
      rintro e w4 ⟨g4, hg4l, rfl, hbs4, hg4⟩
      go_wp2_with fail
      refine (mixSeed_any _ 8 (put8 s) w4 hbs4).mono ?_
      rintro e w5 ⟨rfl, rfl⟩
      rw [seedTo_put8 s Hs.out]
      have hgb : Gr w w4 := hga.trans hg4
      have hst := sameB_self (put8 s)
      by_cases h8 : len = 8
      · subst h8
        go_wp2_with fail
        refine (mixSeed_any a2 cap l w4 (hl.below hgb)).mono ?_
        rintro e w5 ⟨rfl, rfl⟩
        have hpl := Lib.hid (put8_seedTo l hl.1)
        have hsl : Hid (seedTo l < 18446744073709551616) := seedTo_lt 8 l hl.1
        obtain ⟨y, hy⟩ : ∃ y, seedTo l = y := ⟨_, rfl⟩
        rw [hy] at hpl hsl ⊢
        clear hy
        have hst2 := sameB_self l
        go_wp2_with fail
        refine (mixPut_any s w4).mono ?_
        rintro e w5 ⟨g5, hg5l, rfl, hbs5, hg5⟩
        go_wp2_with fail
        refine (refPut8_any s Hs.out w5).mono ?_
        rintro e w6 ⟨a6, cap6, rfl, hbs6, hg6⟩
        go_wp2_with fail
        refine (same_any _ a6 8 8 8 cap6 (put8 s) (put8 s) w6 (hbs5.below hg6) hbs6).mono ?_
        rintro e w7 ⟨rfl, hg7⟩
        have hgc : Gr w w7 := ((hgb.trans hg5).trans hg6).trans hg7
        go_wp2_with fail
        refine (refPut8_any y hsl.out w7).mono ?_
        rintro e w8 ⟨a8, cap8, rfl, hbs8, hg8⟩
        rw [hpl.out] at hbs8
        go_wp2_with fail
        refine (same_any a8 a2 8 cap8 8 cap l l w8 hbs8 (hl.below (hgc.trans hg8))).mono ?_
        rintro e w9 ⟨rfl, hg9⟩
        go_wp2
        go_ret
        exact ⟨rfl, (hgc.trans hg8).trans hg9⟩
      · have h8' : ((len : Int) != 8) = true := by rw [bne_iff_ne]; omega
        go_wp2_with fail
        refine (mixSeed_size a2 len cap l w4 (hl.below hgb) h8).mono ?_
        rintro e w5 ⟨rfl, rfl⟩
        clear h8
        go_wp2_with fail
        refine (mixPut_any s w4).mono ?_
        rintro e w5 ⟨g5, hg5l, rfl, hbs5, hg5⟩
        go_wp2_with fail
        refine (refPut8_any s Hs.out w5).mono ?_
        rintro e w6 ⟨a6, cap6, rfl, hbs6, hg6⟩
        go_wp2_with fail
        refine (same_any _ a6 8 8 8 cap6 (put8 s) (put8 s) w6 (hbs5.below hg6) hbs6).mono ?_
        rintro e w7 ⟨rfl, hg7⟩
        go_wp2
        go_ret
        exact ⟨rfl, ((hgb.trans hg5).trans hg6).trans hg7⟩
  · obtain ⟨m, rfl⟩ := Int.eq_ofNat_of_zero_le (show 0 ≤ n by omega)
    have hm5 : m ≤ 500 := by omega
    clear hmid hbad hn1 hn2
    go_enter Try.func8, Try.ntmps8
    go_wp2_with fail
    refine (mixAwake_any w).mono ?_
    rintro e w1 ⟨rfl, hg1⟩
    go_wp2_with fail
    refine (mixRow_any s Hs.out m (by omega) w1).mono ?_
    rintro e w2 ⟨g, hgl, rfl, hg2, hbs⟩
    go_wp2_with fail
    refine (refBytes_any s m (by omega) w2).mono ?_
    rintro e w3 ⟨a3, cap3, rfl, hbs3, hg3⟩
    have hst0 := sameB_self (mixList s m)
    go_wp2_with fail
    refine (same_any _ a3 m m m cap3 (mixList s m) (mixList s m) w3 (hbs.below hg3) hbs3).mono ?_
    rintro e wa ⟨rfl, hg4⟩
    have hga := ((hg1.trans hg2).trans hg3).trans hg4
    clear hg4
    go_wp2_with fail
    refine (mixPut_any s wa).mono ?_
    rintro e w4 ⟨g4, hg4l, rfl, hbs4, hg4⟩
    go_wp2_with fail
    refine (mixSeed_any _ 8 (put8 s) w4 hbs4).mono ?_
    rintro e w5 ⟨rfl, rfl⟩
    rw [seedTo_put8 s Hs.out]
    have hgb : Gr w w4 := hga.trans hg4
    have hst := sameB_self (put8 s)
    by_cases h8 : len = 8
    · subst h8
      go_wp2_with fail
      refine (mixSeed_any a2 cap l w4 (hl.below hgb)).mono ?_
      rintro e w5 ⟨rfl, rfl⟩
      have hpl := Lib.hid (put8_seedTo l hl.1)
      have hsl : Hid (seedTo l < 18446744073709551616) := seedTo_lt 8 l hl.1
      obtain ⟨y, hy⟩ : ∃ y, seedTo l = y := ⟨_, rfl⟩
      rw [hy] at hpl hsl ⊢
      clear hy
      have hst2 := sameB_self l
      go_wp2_with fail
      refine (mixPut_any s w4).mono ?_
      rintro e w5 ⟨g5, hg5l, rfl, hbs5, hg5⟩
      go_wp2_with fail
      refine (refPut8_any s Hs.out w5).mono ?_
      rintro e w6 ⟨a6, cap6, rfl, hbs6, hg6⟩
      go_wp2_with fail
      refine (same_any _ a6 8 8 8 cap6 (put8 s) (put8 s) w6 (hbs5.below hg6) hbs6).mono ?_
      rintro e w7 ⟨rfl, hg7⟩
      have hgc : Gr w w7 := ((hgb.trans hg5).trans hg6).trans hg7
      go_wp2_with fail
      refine (refPut8_any y hsl.out w7).mono ?_
      rintro e w8 ⟨a8, cap8, rfl, hbs8, hg8⟩
      rw [hpl.out] at hbs8
      go_wp2_with fail
      refine (same_any a8 a2 8 cap8 8 cap l l w8 hbs8 (hl.below (hgc.trans hg8))).mono ?_
      rintro e w9 ⟨rfl, hg9⟩
      go_wp2
      go_ret
      exact ⟨rfl, (hgc.trans hg8).trans hg9⟩
    · have h8' : ((len : Int) != 8) = true := by rw [bne_iff_ne]; omega
      go_wp2_with fail
      refine (mixSeed_size a2 len cap l w4 (hl.below hgb) h8).mono ?_
      rintro e w5 ⟨rfl, rfl⟩
      clear h8
      go_wp2_with fail
      refine (mixPut_any s w4).mono ?_
      rintro e w5 ⟨g5, hg5l, rfl, hbs5, hg5⟩
      go_wp2_with fail
      refine (refPut8_any s Hs.out w5).mono ?_
      rintro e w6 ⟨a6, cap6, rfl, hbs6, hg6⟩
      go_wp2_with fail
      refine (same_any _ a6 8 8 8 cap6 (put8 s) (put8 s) w6 (hbs5.below hg6) hbs6).mono ?_
      rintro e w7 ⟨rfl, hg7⟩
      go_wp2
      go_ret
      exact ⟨rfl, ((hgb.trans hg5).trans hg6).trans hg7⟩
end Go.Proofs.Ytdmijoochgmhiaa
