/-
  The walk of law SumBursts.
-/
import Derived.Test.YtdmijoochgmhiaaDoorSum
import Derived.Lib.SlBytesConst
import Derived.Deep.RegionWith
import Derived.Deep.Cut
import Derived.Lib.Hide
namespace Go.Proofs.YtdmijoochgmhiaaDoor
open Go.RowKit

theorem u32_bit (p j : Nat) (hp : p < 4294967296) : bits .and .u32 ((p : Int) / 2 ^ j) 1 = ((p / 2 ^ j % 2 : Nat) : Int) := by
  have h := u32_and_nat (p / 2 ^ j) 1 (Nat.lt_of_le_of_lt (Nat.div_le_self _ _) hp) (by decide)
  rw [Nat.and_one_is_mod] at h
  rw [← h]; simp
theorem u8_turn (x : UInt8) (J : Nat) : bits .xor .u8 (x.toNat : Int) (2 ^ (J % 8) % 256) = ((x ^^^ UInt8.ofNat (2 ^ (J % 8))).toNat : Int) := by
  have hx := x.toNat_lt
  have hm : 2 ^ (J % 8) < 256 := by
    have : 2 ^ (J % 8) < 2 ^ 8 := Nat.pow_lt_pow_right (by omega) (by omega)
    omega
  have h := u8_xor_nat x.toNat (2 ^ (J % 8)) (by omega) hm
  rw [UInt8.toNat_xor, UInt8.toNat_ofNat', show (2 : Nat) ^ 8 = 256 by rfl, Nat.mod_eq_of_lt hm, ← h]
  congr 1
  have e : ((2 ^ (J % 8) : Nat) : Int) = (2 : Int) ^ (J % 8) := by simp
  rw [← e]; clear e h; generalize 2 ^ (J % 8) = y at hm ⊢; omega
theorem crc_eq_iff (l m : List UInt8) : crc l = crc m ↔ crcReg 4294967295 l = crcReg 4294967295 m := by
  have h1 := crcReg_lt l (r := 4294967295) (by decide)
  have h2 := crcReg_lt m (r := 4294967295) (by decide)
  unfold crc; omega
theorem crc_check : crc [49, 50, 51, 52, 53, 54, 55, 56, 57] = 3421780262 := by decide +kernel
theorem crc_none : crc [] = 0 := by decide

set_option maxHeartbeats 400000 in
set_option maxRecDepth 100000 in
theorem sumAwake_any (w : World) (htab : Tab w) :
    Calls Tryd.prog 5 #[] w fun e w' => e = .returned (.bool true) ∧ Gr w w' := by
  have kc := fun (w : World) (C : Array Value) (n c : Nat) => Lib.run_convert_bytes_const (P := Tryd.prog) w 22 5 C n c Tryd.underlying22 Tryd.underlying5
  go_enter Tryd.func5, Tryd.ntmps5
  go_wp2_with fail
  have hb0 : Gr w (w.alloc (.cells #[.int .u8 49, .int .u8 50, .int .u8 51, .int .u8 52, .int .u8 53, .int .u8 54, .int .u8 55, .int .u8 56, .int .u8 57] 5 (9, 10))) := (Gr.refl _).alloc _
  have hs : Bs (w.alloc (.cells #[.int .u8 49, .int .u8 50, .int .u8 51, .int .u8 52, .int .u8 53, .int .u8 54, .int .u8 55, .int .u8 56, .int .u8 57] 5 (9, 10))) (some ⟨w.heap.size, 0, none⟩) 9 9 [49, 50, 51, 52, 53, 54, 55, 56, 57] :=
    Bs.of_heap (heap_alloc_new _ _) rfl rfl (by decide)
  have hs1 := Bss.of_alloc1 (b := w.heap.size + 1) (t := 22) hs (by simp)
  have hb1 := hb0.alloc (.cells #[.slice (some ⟨w.heap.size, 0, none⟩) 9 9] 22)
  refine (of_any _ 1 1 _ _ (htab.below hb1) hs1).mono ?_
  rintro e w1 ⟨rfl, hb2⟩
  have h1 := crc_check
  have h0 := crc_none
  go_wp2_with fail
  refine (of_any none 0 0 [] w1 (htab.below (hb1.trans hb2)) (Bss.nil _)).mono ?_
  rintro e w2 ⟨rfl, hb3⟩
  go_wp2
  go_ret
  exact ⟨rfl, (hb1.trans hb2).trans hb3⟩

set_option maxRecDepth 100000 in
set_option maxHeartbeats 2000000 in
theorem sumBursts_walk (w : World) (htab : Tab w) (a0 : Option Addr) (len cap : Nat) (l : List UInt8) (hs : Bs w a0 len cap l) (at' : Nat) (hat : at' < 65536) (p : Nat) (hp : p < 4294967296) (c : Nat) (hc : c < 65536) :
    Calls Tryd.prog 3 #[.slice a0 len cap, .int .u16 (at' : Int), .int .u32 (p : Int), .int .u16 (c : Int)] w fun e w' => e = .returned (.bool true) ∧ Gr w w' := by
  have hm : len ≤ 9223372036854775807 := by have h1 := hs.2.1; have h2 := hs.2.2.1; unfold maxLen at h2; omega
  by_cases h0 : len = 0
  · subst h0
    go_enter Tryd.func3, Tryd.ntmps3
    go_wp2_with fail
    refine (sumAwake_any w htab).mono ?_
    rintro e w1 ⟨rfl, hb1⟩
    go_wp2
    go_ret
    exact ⟨rfl, hb1⟩
  have h0' : ((len : Int) == 0) = false := by rw [beq_eq_false_iff_ne]; omega
  by_cases h2 : 2000 < len
  · have h2' : (2000 : Int) < (len : Int) := by omega
    go_enter Tryd.func3, Tryd.ntmps3
    go_wp2_with fail
    refine (sumAwake_any w htab).mono ?_
    rintro e w1 ⟨rfl, hb1⟩
    go_wp2
    go_ret
    exact ⟨rfl, hb1⟩
  obtain ⟨b, off, rfl, hb, _⟩ := hs.at_ (by omega)
  obtain ⟨k, hk⟩ : ∃ k : Nat, (c : Int) % ((len : Int) + 1) = (k : Int) := ⟨((c : Int) % ((len : Int) + 1)).toNat, by have := Int.emod_nonneg (c : Int) (show ((len : Int) + 1) ≠ 0 by omega); omega⟩
  have hkl : k ≤ len := by have := Int.emod_lt_of_pos (c : Int) (show 0 < ((len : Int) + 1) by omega); omega
  have hlc : len ≤ cap := hs.2.1
  go_enter Tryd.func3, Tryd.ntmps3
  go_wp2_with fail
  refine (sumAwake_any w htab).mono ?_
  rintro e w1 ⟨rfl, hb1⟩
  go_wp2
  rw [hk]
  go_cut [42] from 31 (fun v wr => v = .bool false ∧ Gr w wr)
  case first =>
--HEAVY
    by_cases hkc : k = cap
    · obtain rfl : len = k := by omega
      subst hkc
      have hA : Bs w (some ⟨b, off, none⟩) len len l := hs
      have hB : Bs w (some ⟨b, off, none⟩) 0 0 [] := Bs.empty _ _ (by simp) _ (by decide)
      go_region_with (first
        | (go_at_call_of 6 (2 : Nat); refine (of_any _ 2 2 [l, []] _ ?_ ?_).mono ?_; (focus (repeat (first | assumption | exact Gr.refl _ | exact Bss.nil _ | (refine Bss.of_alloc2 ?_ ?_ (by simp; done)) | (refine Bss.of_alloc1 ?_ (by simp; done)) | (refine Bs.below (by assumption) ?_) | (refine Bss.below (by assumption) ?_) | (refine Bss.below ?_ (Gr.alloc (Gr.refl _) _)) | (refine Bss.below ?_ (Gr.drew (Gr.refl _))) | (refine Bss.below ?_ (by assumption)) | (refine Tab.below (by assumption) ?_) | (refine Gr.alloc ?_ _) | (refine Gr.drew ?_) | (refine Gr.drewN ?_ _) | (refine Gr.trans ?_ (by assumption))))); (focus (repeat (first | assumption | exact Gr.refl _ | exact Bss.nil _ | (refine Bss.of_alloc2 ?_ ?_ (by simp; done)) | (refine Bss.of_alloc1 ?_ (by simp; done)) | (refine Bs.below (by assumption) ?_) | (refine Bss.below (by assumption) ?_) | (refine Bss.below ?_ (Gr.alloc (Gr.refl _) _)) | (refine Bss.below ?_ (Gr.drew (Gr.refl _))) | (refine Bss.below ?_ (by assumption)) | (refine Tab.below (by assumption) ?_) | (refine Gr.alloc ?_ _) | (refine Gr.drew ?_) | (refine Gr.drewN ?_ _) | (refine Gr.trans ?_ (by assumption))))); rintro e w2 ⟨rfl, hb2⟩)
        | (go_at_call_of 6 (1 : Nat); refine (of_any _ 1 1 [l] _ ?_ ?_).mono ?_; (focus (repeat (first | assumption | exact Gr.refl _ | exact Bss.nil _ | (refine Bss.of_alloc2 ?_ ?_ (by simp; done)) | (refine Bss.of_alloc1 ?_ (by simp; done)) | (refine Bs.below (by assumption) ?_) | (refine Bss.below (by assumption) ?_) | (refine Bss.below ?_ (Gr.alloc (Gr.refl _) _)) | (refine Bss.below ?_ (Gr.drew (Gr.refl _))) | (refine Bss.below ?_ (by assumption)) | (refine Tab.below (by assumption) ?_) | (refine Gr.alloc ?_ _) | (refine Gr.drew ?_) | (refine Gr.drewN ?_ _) | (refine Gr.trans ?_ (by assumption))))); (focus (repeat (first | assumption | exact Gr.refl _ | exact Bss.nil _ | (refine Bss.of_alloc2 ?_ ?_ (by simp; done)) | (refine Bss.of_alloc1 ?_ (by simp; done)) | (refine Bs.below (by assumption) ?_) | (refine Bss.below (by assumption) ?_) | (refine Bss.below ?_ (Gr.alloc (Gr.refl _) _)) | (refine Bss.below ?_ (Gr.drew (Gr.refl _))) | (refine Bss.below ?_ (by assumption)) | (refine Tab.below (by assumption) ?_) | (refine Gr.alloc ?_ _) | (refine Gr.drew ?_) | (refine Gr.drewN ?_ _) | (refine Gr.trans ?_ (by assumption))))); rintro e w3 ⟨rfl, hb3⟩))
      all_goals go_wp2
      all_goals go_meet
      all_goals exact ⟨rfl, (by repeat (first | assumption | exact Gr.refl _ | (refine Gr.alloc ?_ _) | (refine Gr.drew ?_) | (refine Gr.drewN ?_ _) | (refine Gr.trans ?_ (by assumption))))⟩
    · have hkc' : ¬ cap = k := fun h => hkc h.symm
      have hlk : (k : Int) ≤ (len : Int) := by omega
      have hA := hs.take hkl
      have hB := hs.drop hkl
      have hcat : Hid ([l.take k, l.drop k].flatten = [l].flatten) := by show _ = _; simp
      go_region_with (first
        | (go_at_call_of 6 (2 : Nat); refine (of_any _ 2 2 [l.take k, l.drop k] _ ?_ ?_).mono ?_; (focus (repeat (first | assumption | exact Gr.refl _ | exact Bss.nil _ | (refine Bss.of_alloc2 ?_ ?_ (by simp; done)) | (refine Bss.of_alloc1 ?_ (by simp; done)) | (refine Bs.below (by assumption) ?_) | (refine Bss.below (by assumption) ?_) | (refine Bss.below ?_ (Gr.alloc (Gr.refl _) _)) | (refine Bss.below ?_ (Gr.drew (Gr.refl _))) | (refine Bss.below ?_ (by assumption)) | (refine Tab.below (by assumption) ?_) | (refine Gr.alloc ?_ _) | (refine Gr.drew ?_) | (refine Gr.drewN ?_ _) | (refine Gr.trans ?_ (by assumption))))); (focus (repeat (first | assumption | exact Gr.refl _ | exact Bss.nil _ | (refine Bss.of_alloc2 ?_ ?_ (by simp; done)) | (refine Bss.of_alloc1 ?_ (by simp; done)) | (refine Bs.below (by assumption) ?_) | (refine Bss.below (by assumption) ?_) | (refine Bss.below ?_ (Gr.alloc (Gr.refl _) _)) | (refine Bss.below ?_ (Gr.drew (Gr.refl _))) | (refine Bss.below ?_ (by assumption)) | (refine Tab.below (by assumption) ?_) | (refine Gr.alloc ?_ _) | (refine Gr.drew ?_) | (refine Gr.drewN ?_ _) | (refine Gr.trans ?_ (by assumption))))); rintro e w2 ⟨rfl, hb2⟩)
        | (go_at_call_of 6 (1 : Nat); refine (of_any _ 1 1 [l] _ ?_ ?_).mono ?_; (focus (repeat (first | assumption | exact Gr.refl _ | exact Bss.nil _ | (refine Bss.of_alloc2 ?_ ?_ (by simp; done)) | (refine Bss.of_alloc1 ?_ (by simp; done)) | (refine Bs.below (by assumption) ?_) | (refine Bss.below (by assumption) ?_) | (refine Bss.below ?_ (Gr.alloc (Gr.refl _) _)) | (refine Bss.below ?_ (Gr.drew (Gr.refl _))) | (refine Bss.below ?_ (by assumption)) | (refine Tab.below (by assumption) ?_) | (refine Gr.alloc ?_ _) | (refine Gr.drew ?_) | (refine Gr.drewN ?_ _) | (refine Gr.trans ?_ (by assumption))))); (focus (repeat (first | assumption | exact Gr.refl _ | exact Bss.nil _ | (refine Bss.of_alloc2 ?_ ?_ (by simp; done)) | (refine Bss.of_alloc1 ?_ (by simp; done)) | (refine Bs.below (by assumption) ?_) | (refine Bss.below (by assumption) ?_) | (refine Bss.below ?_ (Gr.alloc (Gr.refl _) _)) | (refine Bss.below ?_ (Gr.drew (Gr.refl _))) | (refine Bss.below ?_ (by assumption)) | (refine Tab.below (by assumption) ?_) | (refine Gr.alloc ?_ _) | (refine Gr.drew ?_) | (refine Gr.drewN ?_ _) | (refine Gr.trans ?_ (by assumption))))); rintro e w3 ⟨rfl, hb3⟩))
      all_goals go_wp2
      all_goals go_meet
      all_goals exact ⟨rfl, (by repeat (first | assumption | exact Gr.refl _ | (refine Gr.alloc ?_ _) | (refine Gr.drew ?_) | (refine Gr.drewN ?_ _) | (refine Gr.trans ?_ (by assumption))))⟩
--LIGHT
  case rest =>
    obtain ⟨rfl, hb2⟩ := hcut
    obtain ⟨i0, hi, hz0, hz1, hz2⟩ := info_parts info8
    have hown0 := World.ownsRow_made wc #[] 0 (base := w.heap.size) (e := 5) (size := 1) hb2.size (by decide) rfl
    have hsc := (hs.below hb2).below ((Gr.refl _).alloc (.cells #[] 5))
    obtain ⟨first, hfi⟩ : ∃ first : Nat, first = at' % (8 * len) := ⟨_, rfl⟩
    have hfl : first < 8 * len := by rw [hfi]; exact Nat.mod_lt _ (by omega)
    have Hfi : Hid _ := hfi
    clear hfi
    have hfr : (at' : Int) % (8 * (len : Int)) = (first : Int) := by rw [Hfi.out]; simp
    have q1 : (u8s l).length = len * 1 := by simp [u8s]; exact hs.1
    have q2 : 0 + len ≤ maxLen := by unfold maxLen; omega
    have q3 : (0 + len) * 1 ≤ 140737488355328 := by omega
    have q4 : w.heap.size ≤ (wc.alloc (.cells #[] 5)).heap.size := by simp; have := hb2.size; omega
    go_wp2_with (at_builtin; refine wpList_append_own _ rfl (.tmp 43) (.tmp 44) 22 rfl w.heap.size 5 i0 (.int .u8 0) 1 1 Tryd.underlying22 hi hz0 hz1 hz2 rfl (by decide) _ _ _ rfl hown0 ⟨b, off, none⟩ len cap (u8s l) rfl q1 hsc.news u8s_one q2 q3 q4 ?_; intro v' w3 hown hgrow hnn; clear hnn)
    rw [hfr]
    simp only [Nat.zero_add, List.nil_append] at hown
    have hb3 : Gr w w3 := Gr.grown (hb2.alloc _) hgrow (fun k hk => by have hk' : some wc.heap.size = some k := hk; cases hk'; exact hb2.size)
    obtain ⟨g, cap', hv, hob⟩ := OwnB.of_owns hown (by omega)
    clear hown hown0 hsc q1 q2 q3 q4 hgrow
    rw [hv]
    clear hv
    go_loopw [12, 52] (fun t i wr => ∃ j : Nat, j ≤ 32 ∧ i = .int .i64 j ∧ t = .bool (turned (8 * len) first p j) ∧ OwnB wr w.heap.size g len cap' (burst l first p j) ∧ Gr w wr) (fun _ i _ => 32 - (intOf i).toNat)
    case atStart => exact ⟨0, by omega, rfl, rfl, hob, hb3⟩
    case round =>
      obtain ⟨j, hj, rfl, rfl, hob1, hb4⟩ := hrel
      by_cases hlt : j < 32
      · obtain ⟨J, hJ⟩ : ∃ J : Nat, J = first + j := ⟨_, rfl⟩
        have hJ' : (first : Int) + (j : Int) = (J : Int) := by omega
        have HJ : Hid _ := hJ
        clear hJ
        have hbd := u32_bit p j hp
        by_cases hbit : p / 2 ^ j % 2 = 1
        · have hb15 : bits .and .u32 ((p : Int) / 2 ^ j) 1 = 1 := by rw [hbd, hbit]; rfl
          clear hbd
          by_cases hin : J < 8 * len
          · obtain ⟨x, hx⟩ : ∃ x, (burst l first p j)[J / 8]? = some x := by
              have := hob1.len
              exact ⟨_, List.getElem?_eq_getElem (by omega)⟩
            have hcx := hob1.cell hx
            have hfx := hob1.free (J / 8)
            have h8 : J / 8 < len := by omega
            have ht := u8_turn x J
            have HT : Hid (turned (8 * len) first p (j + 1) = true) := by show turned (8 * len) first p (j + 1) = true; rw [turned, if_pos ⟨hbit, by omega⟩]
            have HB : Hid (burst l first p (j + 1) = (burst l first p j).set (J / 8) (x ^^^ UInt8.ofNat (2 ^ (J % 8)))) := by
              show burst l first p (j + 1) = _
              rw [burst, if_pos ⟨hbit, by rw [hs.1, ← HJ.out]; exact hin⟩, flip, ← HJ.out, List.getD_eq_getElem?_getD, hx]; rfl
            clear hbit hx
            go_wp2
            go_region
            go_wp2
            go_roundw
            case rel =>
              refine ⟨j + 1, by omega, by go_num, by rw [HT.out], ?_, (hb4.setCell (by have := hob1.base_le; exact this.1) _).drew⟩
              rw [HB.out]
              exact (hob1.set (J / 8) (x ^^^ UInt8.ofNat (2 ^ (J % 8)))).gr ((Gr.refl _).drew)
            case measure => simp [intOf]; omega
          · have HT : Hid (turned (8 * len) first p (j + 1) = turned (8 * len) first p j) := by show turned (8 * len) first p (j + 1) = _; rw [turned, if_neg (by omega)]
            have HB : Hid (burst l first p (j + 1) = burst l first p j) := by
              show burst l first p (j + 1) = _
              rw [burst, if_neg (by rw [hs.1]; omega)]
            clear hbit
            go_wp2
            go_roundw
            case rel => exact ⟨j + 1, by omega, by go_num, by rw [HT.out], by rw [HB.out]; exact hob1, hb4⟩
            case measure => simp [intOf]; omega
        · have hb15 : (bits .and .u32 ((p : Int) / 2 ^ j) 1 == 1) = false := by rw [hbd, beq_eq_false_iff_ne]; omega
          have HT : Hid (turned (8 * len) first p (j + 1) = turned (8 * len) first p j) := by show turned (8 * len) first p (j + 1) = _; rw [turned, if_neg (by omega)]
          have HB : Hid (burst l first p (j + 1) = burst l first p j) := by
            show burst l first p (j + 1) = _
            rw [burst, if_neg (by omega)]
          clear hbit hbd
          go_wp2
          go_roundw
          case rel => exact ⟨j + 1, by omega, by go_num, by rw [HT.out], by rw [HB.out]; exact hob1, hb4⟩
          case measure => simp [intOf]; omega
      · obtain rfl : j = 32 := by omega
        have hlaw := crc_burst 4294967295 l first p (by rw [hs.1]; exact hfl)
        rw [← crc_eq_iff, hs.1] at hlaw
        have hobs := hob1.bs
        generalize turned (8 * len) first p 32 = tt at *
        generalize burst l first p 32 = o at *
        have hres : ((crc o : Nat) : Int) = ((crc l : Nat) : Int) ↔ tt = false := by rw [← hlaw]; omega
        have HL := Lib.hid hlaw
        clear hlaw
        have hbb : (((crc o : Nat) : Int) == ((crc l : Nat) : Int)) = !tt := by
          cases tt
          · simpa using hres
          · simpa using hres
        clear hres
        go_wp2_with fail
        refine (of_any _ 1 1 [o] _ ?_ ?_).mono ?_
        · (focus (repeat (first | assumption | exact Gr.refl _ | exact Bss.nil _ | (refine Bss.of_alloc2 ?_ ?_ (by simp; done)) | (refine Bss.of_alloc1 ?_ (by simp; done)) | (refine Bs.below (by assumption) ?_) | (refine Bss.below (by assumption) ?_) | (refine Bss.below ?_ (Gr.alloc (Gr.refl _) _)) | (refine Bss.below ?_ (Gr.drew (Gr.refl _))) | (refine Bss.below ?_ (by assumption)) | (refine Tab.below (by assumption) ?_) | (refine Gr.alloc ?_ _) | (refine Gr.drew ?_) | (refine Gr.drewN ?_ _) | (refine Gr.trans ?_ (by assumption)))))
        · (focus (repeat (first | assumption | exact Gr.refl _ | exact Bss.nil _ | (refine Bss.of_alloc2 ?_ ?_ (by simp; done)) | (refine Bss.of_alloc1 ?_ (by simp; done)) | (refine Bs.below (by assumption) ?_) | (refine Bss.below (by assumption) ?_) | (refine Bss.below ?_ (Gr.alloc (Gr.refl _) _)) | (refine Bss.below ?_ (Gr.drew (Gr.refl _))) | (refine Bss.below ?_ (by assumption)) | (refine Tab.below (by assumption) ?_) | (refine Gr.alloc ?_ _) | (refine Gr.drew ?_) | (refine Gr.drewN ?_ _) | (refine Gr.trans ?_ (by assumption)))))
        rintro e w5 ⟨rfl, hb5⟩
        go_wp2_with fail
        refine (of_any _ 1 1 [l] _ ?_ ?_).mono ?_
        · (focus (repeat (first | assumption | exact Gr.refl _ | exact Bss.nil _ | (refine Bss.of_alloc2 ?_ ?_ (by simp; done)) | (refine Bss.of_alloc1 ?_ (by simp; done)) | (refine Bs.below (by assumption) ?_) | (refine Bss.below (by assumption) ?_) | (refine Bss.below ?_ (Gr.alloc (Gr.refl _) _)) | (refine Bss.below ?_ (Gr.drew (Gr.refl _))) | (refine Bss.below ?_ (by assumption)) | (refine Tab.below (by assumption) ?_) | (refine Gr.alloc ?_ _) | (refine Gr.drew ?_) | (refine Gr.drewN ?_ _) | (refine Gr.trans ?_ (by assumption)))))
        · (focus (repeat (first | assumption | exact Gr.refl _ | exact Bss.nil _ | (refine Bss.of_alloc2 ?_ ?_ (by simp; done)) | (refine Bss.of_alloc1 ?_ (by simp; done)) | (refine Bs.below (by assumption) ?_) | (refine Bss.below (by assumption) ?_) | (refine Bss.below ?_ (Gr.alloc (Gr.refl _) _)) | (refine Bss.below ?_ (Gr.drew (Gr.refl _))) | (refine Bss.below ?_ (by assumption)) | (refine Tab.below (by assumption) ?_) | (refine Gr.alloc ?_ _) | (refine Gr.drew ?_) | (refine Gr.drewN ?_ _) | (refine Gr.trans ?_ (by assumption)))))
        rintro e w6 ⟨rfl, hb6⟩
        go_wp2
        go_ret
        exact ⟨rfl, (by repeat (first | assumption | exact Gr.refl _ | (refine Gr.alloc ?_ _) | (refine Gr.drew ?_) | (refine Gr.drewN ?_ _) | (refine Gr.trans ?_ (by assumption))))⟩
end Go.Proofs.YtdmijoochgmhiaaDoor
