/-
  The walks of package sum.
-/
import Derived.Test.YtdmijoochgmhiaaGreatDoorRows
import Derived.Test.YtdmijoochgmhiaaGreatDoorBase
import Derived.Test.YtdmijoochgmhiaaGreatDoorSumPlain
import Derived.Test.YtdmijoochgmhiaaGreatDoorPut4
import Derived.Deep.QuietTactic
import Derived.BigQuiet
namespace Go.Proofs.YtdmijoochgmhiaaGreatDoor
open Go.RowKit

theorem info8 : (Tryz.prog.info? 5).map (fun i => (i.zero, i.size, i.bytes)) = some (some (.int .u8 0), 1, 1) := by kernel_rfl

/-- the table of half bytes. -/
def Tab (w : World) : Prop := ∀ k, k < 16 → w.cell? ⟨0, k, none⟩ = some (.int .u32 ((crcTab.getD k 0 : Nat) : Int))
theorem tab_of_is {W : World} (h : ∀ k, k < 16 → W.cell? ⟨0, k, none⟩ = some (.int .u32 (([0, 498536548, 997073096, 651767980, 1994146192, 1802195444, 1303535960, 1342533948, 3988292384, 4027552580, 3604390888, 3412177804, 2607071920, 2262029012, 2685067896, 3183342108] : List Int).getD k 0))) : Tab W := by
  intro k hk
  rw [h k hk]
  have : ∀ k, k < 16 → ([0, 498536548, 997073096, 651767980, 1994146192, 1802195444, 1303535960, 1342533948, 3988292384, 4027552580, 3604390888, 3412177804, 2607071920, 2262029012, 2685067896, 3183342108] : List Int).getD k 0 = ((crcTab.getD k 0 : Nat) : Int) := by decide
  rw [this k hk]
theorem Tab.below {w w' : World} (h : Tab w) (hb : Gr w w') : Tab w' := fun k hk => hb.cell (h k hk)

/-- k half bytes. -/
def nibs : Nat → Nat → Nat
  | 0, r => r
  | k + 1, r => crcNib (nibs k r)
theorem nibs_lt (k : Nat) {r : Nat} (h : r < 4294967296) : nibs k r < 4294967296 := by
  induction k with
  | zero => exact h
  | succ k ih => exact crcNib_lt ih

theorem u32_and15 (r : Nat) (h : r < 4294967296) : bits .and .u32 (r : Int) 15 = ((r % 16 : Nat) : Int) := by
  rw [show (15 : Int) = ((15 : Nat) : Int) by rfl, u32_and_nat r 15 h (by decide)]
  have := Nat.and_two_pow_sub_one_eq_mod r 4
  simp at this; rw [this]

theorem u32_not (r : Nat) (h : r < 4294967296) : bits .xor .u32 IntKind.u32.max (r : Int) = ((4294967295 - r : Nat) : Int) := by
  rw [show IntKind.u32.max = ((4294967295 : Nat) : Int) by rfl, u32_xor_nat _ r (by decide) h]
  congr 1
  apply Nat.eq_of_testBit_eq; intro i
  rw [Nat.testBit_xor]
  have h1 := Nat.testBit_two_pow_sub_succ (n := 32) (x := r) (by simpa using h) i
  have h2 := Nat.testBit_two_pow_sub_one 32 i
  simp only [Nat.reducePow, Nat.reduceSub] at h1 h2
  rw [show 4294967295 - r = 4294967296 - (r + 1) by omega, h1, h2]
  by_cases hi : i < 32
  · simp [hi]
  · have : r.testBit i = false := Nat.testBit_lt_two_pow (Nat.lt_of_lt_of_le (show r < 2 ^ 32 by simpa using h) (Nat.pow_le_pow_right (by omega) (by omega)))
    simp [hi, this]

set_option maxHeartbeats 400000 in
theorem start_any (w : World) :
    Calls Tryz.prog 92 #[] w fun e w' => e = .returned (.agg #[.int .u32 4294967295]) ∧ Gr w w' := by
  go_enter Tryz.func92, Tryz.ntmps92
  go_wp2
  exact bodyPost_ret (v := .agg #[.int .u32 4294967295]) (by simp [results, Tryz.results92, go_sem]) rfl ⟨rfl, (Gr.refl _).alloc _⟩
set_option maxHeartbeats 400000 in
theorem sum_any (r : Nat) (h : r < 4294967296) (w : World) :
    Calls Tryz.prog 94 #[.agg #[.int .u32 (r : Int)]] w fun e w' => e = .returned (.int .u32 ((4294967295 - r : Nat) : Int)) ∧ Gr w w' := by
  have hn := u32_not r h
  go_enter Tryz.func94, Tryz.ntmps94
  go_wp2
  all_goals (first | (exfalso; revert ‹IntKind.u32.signed = true›; decide) | skip)
  go_ret
  exact ⟨rfl, (Gr.refl _).alloc _⟩

/-- the world of a running sum: its own two blocks. -/
def Run (w : World) (c : Nat) (wr : World) : Prop := Gr w wr ∧ wr.heap[w.heap.size]? = some (.cells #[.int .u32 (c : Int)] 160 (0, 0)) ∧ wr.heap[w.heap.size + 1]? = some (.cells #[.int .u32 0] 160 (0, 0))
theorem Run.cell {w wr : World} {c : Nat} (h : Run w c wr) : wr.cell? ⟨w.heap.size, 0, none⟩ = some (.int .u32 (c : Int)) := cell_of_one h.2.1
theorem Run.free {w wr : World} {c : Nat} (h : Run w c wr) : wr.frozen? ⟨w.heap.size, 0, none⟩ = false := free_of_one h.2.1
theorem Run.set {w wr : World} {c d : Nat} (h : Run w c wr) : Run w d (wr.setCell ⟨w.heap.size, 0, none⟩ (.int .u32 (d : Int))) :=
  ⟨h.1.setCell (Nat.le_refl _) _, one_setCell h.2.1, by rw [Below.heap_setCell _ _ _ _ (by simp)]; exact h.2.2⟩
theorem Run.drew {w wr : World} {c : Nat} (h : Run w c wr) : Run w c wr.drew := ⟨h.1.drew, h.2.1, h.2.2⟩

theorem Run.cell2 {w wr : World} {c : Nat} (h : Run w c wr) : wr.cell? ⟨w.heap.size + 1, 0, none⟩ = some (.int .u32 0) := cell_of_one h.2.2
theorem Run.free2 {w wr : World} {c : Nat} (h : Run w c wr) : wr.frozen? ⟨w.heap.size + 1, 0, none⟩ = false := free_of_one h.2.2
theorem Run.start (w : World) (c : Nat) : Run w c ((w.alloc (.cells #[.int .u32 (c : Int)] 160)).alloc (.cells #[.int .u32 0] 160)) :=
  ⟨((Gr.refl _).alloc _).alloc _, by rw [Below.heap_alloc _ _ _ (by simp)]; exact heap_alloc_new _ _, by have := heap_alloc_new (w.alloc (.cells #[.int .u32 (c : Int)] 160)) (.cells #[.int .u32 0] 160); simpa using this⟩

set_option maxHeartbeats 1000000 in
theorem with_any (r : Nat) (hr : r < 4294967296) (a : Option Addr) (len cap : Nat) (ls : List (List UInt8)) (w : World) (htab : Tab w) (hs : Bss w a len cap ls) :
    Calls Tryz.prog 93 #[.agg #[.int .u32 (r : Int)], .slice a len cap] w fun e w' => e = .returned (.agg #[.int .u32 (crcReg r ls.flatten : Nat)]) ∧ Gr w w' := by
  have Hh : Hid _ := hs.1
  have hm : len ≤ 9223372036854775807 := by have h1 := hs.2.1; have h2 := hs.2.2.1; unfold maxLen at h2; omega
  go_enter Tryz.func93, Tryz.ntmps93
  go_wp2
  go_loopw [11] (fun i wr => ∃ k : Nat, k ≤ len ∧ i = .int .i64 k ∧ Run w (crcReg r (ls.take k).flatten) wr) (fun i _ => len - (intOf i).toNat)
  case atStart =>
    exact ⟨0, Nat.zero_le _, rfl, Run.start w _⟩
  case round =>
    obtain ⟨k, hk, rfl, hrun⟩ := hrel
    have hb1 : Hid (Gr w wr) := hrun.1
    by_cases hlt : k < len
    · obtain ⟨b, off, rfl, hb⟩ := hs.at_ (by omega)
      obtain ⟨l, a', len', cap', hl, hc0, hbs⟩ := hs.get hlt
      have hc : wr.cell? ⟨b, off + k, none⟩ = some (.slice a' len' cap') := hb1.out.cell hc0
      clear hc0
      have hm' : len' ≤ 9223372036854775807 := by have h1 := hbs.2.1; have h2 := hbs.2.2.1; unfold maxLen at h2; omega
      have Hl : Hid _ := hl
      have Hlen : Hid _ := hbs.1
      clear hl
      obtain ⟨c, hcc⟩ : ∃ c, crcReg r (ls.take k).flatten = c := ⟨_, rfl⟩
      rw [hcc] at hrun
      have Hc : Hid _ := hcc
      clear hcc
      have hclt : c < 4294967296 := by rw [← Hc.out]; exact crcReg_lt _ hr
      go_wp2
      go_loopw [17] (fun i wr' => ∃ j : Nat, j ≤ len' ∧ i = .int .i64 j ∧ Run w (crcReg c (l.take j)) wr') (fun i _ => len' - (intOf i).toNat)
      case atStart => exact ⟨0, Nat.zero_le _, rfl, hrun⟩
      case round =>
        obtain ⟨j, hj, rfl, hrun1⟩ := hrel
        have hb2 : Hid (Gr w wr) := hrun1.1
        by_cases hlj : j < len'
        · obtain ⟨b', off', rfl, _, _⟩ := hbs.at_ (by omega)
          obtain ⟨x, hx, hcx⟩ := (hbs.below hb2.out).get hlj
          obtain ⟨d, hdd⟩ : ∃ d, crcReg c (l.take j) = d := ⟨_, rfl⟩
          rw [hdd] at hrun1
          have Hd : Hid _ := hdd
          have Hx : Hid _ := hx
          clear hdd hx
          have hdlt : d < 4294967296 := by rw [← Hd.out]; exact crcReg_lt _ hclt
          have hx256 := x.toNat_lt
          have hcell := hrun1.cell
          have hfree := hrun1.free
          have hxor := u32_xor_nat d x.toNat hdlt (by omega)
          go_wp2
          have hrun2 := hrun1.set (d := d ^^^ x.toNat)
          have hq : Hid (d ^^^ x.toNat < 4294967296) := Nat.xor_lt_two_pow (n := 32) hdlt (by omega)
          clear hcell hfree hxor hrun1 hc hcx
          go_loopw [27] (fun i wr' => ∃ m : Nat, m ≤ 2 ∧ i = .int .i64 m ∧ Run w (nibs m (d ^^^ x.toNat)) wr') (fun i _ => 2 - (intOf i).toNat)
          case atStart => exact ⟨0, Nat.zero_le _, rfl, hrun2⟩
          case round =>
            obtain ⟨m, hm2, rfl, hrun3⟩ := hrel
            by_cases hlm : m < 2
            · have hb3 : Hid (Gr w wr) := hrun3.1
              obtain ⟨q, hqq⟩ : ∃ q, nibs m (d ^^^ x.toNat) = q := ⟨_, rfl⟩
              have hqlt : q < 4294967296 := by rw [← hqq]; exact nibs_lt m hq.out
              rw [hqq] at hrun3
              have Hq : Hid _ := hqq
              clear hqq
              have hcell := hrun3.cell
              have hfree := hrun3.free
              have h15 := u32_and15 q hqlt
              obtain ⟨T, hT⟩ : ∃ T, crcTab.getD (q % 16) 0 = T := ⟨_, rfl⟩
              have hct : wr.cell? ⟨0, q % 16, none⟩ = some (.int .u32 (T : Int)) := by
                rw [hb3.out.cell (htab (q % 16) (by omega)), hT]
              have HT : Hid _ := hT
              clear hT
              have hTlt : T < 4294967296 := by
                rw [← HT.out]; have : ∀ k, k < 16 → crcTab.getD k 0 < 4294967296 := by decide
                exact this _ (by omega)
              have hxor := u32_xor_nat (q / 16) T (by omega) hTlt
              rw [show ((q / 16 : Nat) : Int) = (q : Int) / 16 by omega] at hxor
              have hnew : Hid (nibs (m + 1) (d ^^^ x.toNat) = q / 16 ^^^ T) := by show crcNib (nibs m _) = _; rw [Hq.out, crcNib, HT.out]
              go_wp2
              go_region
              go_wp2
              go_roundw
              case rel => exact ⟨m + 1, by omega, by go_num, by rw [hnew.out]; exact hrun3.set.drew⟩
              case measure => simp [intOf]; omega
            · obtain rfl : m = 2 := by omega
              go_wp2
              go_roundw
              case rel =>
                refine ⟨j + 1, by omega, by go_num, ?_⟩
                have e : crcReg c (l.take (j + 1)) = nibs 2 (d ^^^ x.toNat) := by
                  rw [List.take_add_one, Hx.out, crcReg_append, Hd.out]
                  exact (crcByte_nib d x).symm
                rw [e]; exact hrun3
              case measure => simp [intOf]; omega
        · clear hbs
          go_wp2
          go_roundw
          case rel => 
            obtain rfl : j = len' := by omega
            refine ⟨k + 1, by omega, by go_num, ?_⟩
            have e : crcReg r (ls.take (k + 1)).flatten = crcReg c (l.take j) := by
              rw [List.take_add_one, Hl.out, List.flatten_append, crcReg_append, Hc.out, List.take_of_length_le (by rw [Hlen.out]; exact Nat.le_refl _)]
              simp
            rw [e]; exact hrun1
          case measure => simp [intOf]; omega
    · have hc1 := hrun.cell
      have hf1 := hrun.free
      have hc2 := hrun.cell2
      have hf2 := hrun.free2
      go_wp2
      obtain rfl : k = len := by omega
      have hq := cell_of_one (one_setCell (u := .int .u32 (crcReg r (ls.take k).flatten : Nat)) hrun.2.2)
      exact bodyPost_ret (v := .agg #[.int .u32 (crcReg r (ls.take k).flatten : Nat)]) (by simp [results, Tryz.results93, go_sem, hq]) rfl
        ⟨by rw [List.take_of_length_le (by rw [Hh.out]; exact Nat.le_refl _)], hb1.out.setCell (by simp) _⟩
/-- the sum of bytes. -/
def crc (l : List UInt8) : Nat := 4294967295 - crcReg 4294967295 l
theorem crc_lt (l : List UInt8) : crc l < 4294967296 := by unfold crc; omega

set_option maxHeartbeats 400000 in
theorem of_any (a : Option Addr) (len cap : Nat) (ls : List (List UInt8)) (w : World) (htab : Tab w) (hs : Bss w a len cap ls) :
    Calls Tryz.prog 51 #[.slice a len cap] w fun e w' => e = .returned (.int .u32 (crc ls.flatten : Nat)) ∧ Gr w w' := by
  go_enter Tryz.func51, Tryz.ntmps51
  go_wp2_with fail
  refine (start_any _).mono ?_
  rintro e w1 ⟨rfl, hb1⟩
  go_wp2_with fail
  refine (with_any 4294967295 (by decide) a len cap ls w1 (htab.below hb1) (hs.below hb1)).mono ?_
  rintro e w2 ⟨rfl, hb2⟩
  go_wp2_with fail
  refine (sum_any (crcReg 4294967295 ls.flatten) (crcReg_lt _ (by decide)) _).mono ?_
  rintro e w3 ⟨rfl, hb3⟩
  go_wp2
  go_ret
  exact ⟨rfl, (hb1.trans hb2).trans hb3⟩

end Go.Proofs.YtdmijoochgmhiaaGreatDoor
