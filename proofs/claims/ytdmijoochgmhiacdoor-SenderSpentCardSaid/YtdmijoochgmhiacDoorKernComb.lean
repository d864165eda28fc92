/-
  The walk of kern.Comb, where there is a byte for each row, and all rows are of one length.
-/
import Derived.Test.YtdmijoochgmhiacDoorKernNought
namespace Go.Proofs.YtdmijoochgmhiacDoor
open Go.RowKit
set_option linter.unusedVariables false

/-- the rows times their bytes, added up, as far as j. -/
def combTo (C : List UInt8) (ls : List (List UInt8)) (n : Nat) : Nat → List UInt8
  | 0 => List.replicate n 0
  | j + 1 => putL (C.getD j 0).toNat (combTo C ls n j) (ls.getD j [])
def combL (C : List UInt8) (ls : List (List UInt8)) (n : Nat) : List UInt8 := combTo C ls n ls.length
theorem getD_mem {ls : List (List UInt8)} {j : Nat} (h : j < ls.length) : ls.getD j [] ∈ ls := by
  rw [List.getD_eq_getElem?_getD, List.getElem?_eq_getElem h]; exact List.getElem_mem h
theorem combTo_length {C : List UInt8} {ls : List (List UInt8)} {n : Nat} (hn : ∀ l ∈ ls, l.length = n) : ∀ j, j ≤ ls.length → (combTo C ls n j).length = n
  | 0, _ => by simp [combTo]
  | j + 1, h => by
    have ih := combTo_length (C := C) hn j (by omega)
    rw [combTo, putL_length (by rw [ih, hn _ (getD_mem (by omega))]), ih]
theorem combL_length {C : List UInt8} {ls : List (List UInt8)} {n : Nat} (hn : ∀ l ∈ ls, l.length = n) : (combL C ls n).length = n := combTo_length hn _ (Nat.le_refl _)

set_option maxRecDepth 100000 in
set_option maxHeartbeats 2000000 in
theorem comb_ok (ac : Option Addr) (cc : Nat) (C : List UInt8) (a : Option Addr) (k cap n : Nat) (ls : List (List UInt8)) (w : World) (hC : Bs w ac k cc C) (h : Bss w a k cap ls) (hk : 1 ≤ k) (hn : ∀ l ∈ ls, l.length = n) (hn1 : 1 ≤ n) (hnm : n ≤ 1000000) :
    Calls Tryd.prog 54 #[.slice ac k cc, .slice a k cap] w fun e w' => ∃ g, w.heap.size ≤ g ∧ e = .returned (.tuple #[.slice (some ⟨g, 0, none⟩) n n, .int .i64 0]) ∧ OwnB w' w.heap.size g n n (combL C ls n) ∧ Gr w w' := by
  have hm : k ≤ 9223372036854775807 := by have h1 := h.2.1; have h2 := h.2.2.1; unfold maxLen at h2; omega
  have hL := h.1
  have H := Lib.hid h
  have HC := Lib.hid hC
  have HN := Lib.hid hn
  have HL := Lib.hid hL
  have hkk : ((k : Int) != (k : Int)) = false := by simp
  clear h hC hn hL
  go_enter Tryd.func54, Tryd.ntmps54
  go_wp2_with fail
  refine (nought_ok a k cap n ls w H.out hk HN.out hn1 hnm).mono ?_
  rintro e w1 ⟨g, hgl, rfl, hown, hg1⟩
  have HG1 := Lib.hid hg1
  have HO := Lib.hid hown
  clear hown hg1
  go_wp2
  go_loopw [25] (fun i wr => ∃ j : Nat, j ≤ k ∧ i = .int .i64 j ∧ OwnB wr w.heap.size g n n (combTo C ls n j) ∧ GrB w1 g wr) (fun i _ => k - (intOf i).toNat)
  case atStart => exact ⟨0, Nat.zero_le _, rfl, HO.out, GrB.refl _ _⟩
  case round =>
    obtain ⟨j, hj, rfl, hown, hgr⟩ := hrel
    by_cases hlt : j < k
    · have hgw : Gr w wr := HG1.out.grb hgr hgl
      obtain ⟨b, off, rfl, _⟩ := (H.out.below hgw).at_ (by omega)
      obtain ⟨b2, off2, rfl, _⟩ := (HC.out.below hgw).at_ (by omega)
      obtain ⟨l, a', n', c', hl, hc, hb⟩ := (H.out.below hgw).get hlt
      obtain ⟨l2, a2, n2, c2, hl2, hc2, hb2⟩ := H.out.get hlt
      obtain ⟨x, hx, hcx⟩ := (HC.out.below hgw).get hlt
      have hcw := hgw.cell hc2
      rw [hcw] at hc
      simp only [Option.some.injEq, Value.slice.injEq] at hc
      obtain ⟨e1, e2, e3⟩ := hc
      obtain rfl : l2 = l := Option.some.inj (hl2.symm.trans hl)
      have hn2 : n2 = n := by rw [← hb2.1]; exact HN.out l2 (List.mem_of_getElem? hl2)
      rw [hn2] at hcw hb2
      obtain ⟨b3, off3, ha2, hb3, _⟩ := hb2.at_ (by omega)
      have HP := Lib.hid (put_any x.toNat x.toNat_lt w.heap.size g n n (combTo C ls n j) a2 c2 l2 wr hown (hb2.below hgw) (fun y hy => by rw [ha2] at hy; cases hy; show b3 ≠ g; omega))
      have hstep : Hid (combTo C ls n (j + 1) = putL x.toNat (combTo C ls n j) l2) := by
        show putL _ _ _ = _
        rw [List.getD_eq_getElem?_getD, hx, List.getD_eq_getElem?_getD, hl2]; rfl
      have HGR := Lib.hid hgr
      clear hb hb2 hl hl2 hx e1 e2 e3 hown hgr hgw hc2 ha2 hb3 hn2
      go_wp2_with fail
      refine HP.out.mono ?_
      rintro e w2 ⟨rfl, ho2, hg2⟩
      have hgr2 := HGR.out.trans hg2
      rw [← hstep.out] at ho2
      clear hg2
      go_wp2
      go_roundw
      case rel => exact ⟨j + 1, by omega, by go_num, ho2, hgr2⟩
      case measure => simp [intOf]; omega
    · have hjk : j = k := by omega
      have hge : (k : Int) ≤ (j : Int) := by omega
      have hfin := HG1.out.grb hgr hgl
      have hown2 : Hid (OwnB wr w.heap.size g n n (combL C ls n)) := by
        show OwnB _ _ _ _ _ _
        rw [combL, HL.out, ← hjk]; exact hown
      clear hown hgr
      go_wp2
      first | go_ret | go_ret2
      exact ⟨g, hgl, rfl, hown2.out, hfin⟩
end Go.Proofs.YtdmijoochgmhiacDoor
