/-
  The walk of the document's Comb, where there is a byte for each row, and all rows are of one length.
  The walk of the document's Packet: what is sent.
-/
import Derived.Test.YtdmijoochgmhiacDoorKernComb
import Derived.BigQuiet
import Derived.Test.YtdmijoochgmhiacDoorRefRow
import Derived.Test.YtdmijoochgmhiacDoorCutRef
import Derived.Test.YtdmijoochgmhiacDoorSenderSpent
import Derived.Test.YtdmijoochgmhiacDoorStTwo
namespace Go.Proofs.YtdmijoochgmhiacDoor
open Go.RowKit
set_option linter.unusedVariables false

/-- one byte of the sum, as far as row j. -/
def dotB (C : List UInt8) (ls : List (List UInt8)) (i : Nat) : Nat → UInt8
  | 0 => 0
  | j + 1 => dotB C ls i j ^^^ mulB (C.getD j 0).toNat ((ls.getD j []).getD i 0)
theorem combTo_get {C : List UInt8} {ls : List (List UInt8)} {n : Nat} (hn : ∀ l ∈ ls, l.length = n) : ∀ j, j ≤ ls.length → ∀ i, i < n → (combTo C ls n j)[i]? = some (dotB C ls i j)
  | 0, _, i, hi => by rw [combTo, List.getElem?_replicate, if_pos hi]; rfl
  | j + 1, h, i, hi => by
    have ih := combTo_get (C := C) hn j (by omega) i hi
    have hl : (ls.getD j []).length = n := hn _ (getD_mem (by omega))
    obtain ⟨r, hr⟩ : ∃ r, (ls.getD j [])[i]? = some r := ⟨_, List.getElem?_eq_getElem (by omega)⟩
    rw [combTo, putL, List.getElem?_zipWith, ih, hr, dotB, show (ls.getD j []).getD i 0 = r by rw [List.getD_eq_getElem?_getD, hr]; rfl]
theorem comb_take {C : List UInt8} {ls : List (List UInt8)} {n : Nat} (hn : ∀ l ∈ ls, l.length = n) {i : Nat} (hi : i < n) : (combL C ls n).take i ++ [dotB C ls i ls.length] = (combL C ls n).take (i + 1) := by
  rw [List.take_add_one, combL, combTo_get hn _ (Nat.le_refl _) i hi]; rfl

set_option maxRecDepth 100000 in
set_option maxHeartbeats 2000000 in
theorem refComb_ok (ac : Option Addr) (cc : Nat) (C : List UInt8) (a : Option Addr) (k cap n : Nat) (ls : List (List UInt8)) (w : World) (hC : Bs w ac k cc C) (h : Bss w a k cap ls) (hk : 1 ≤ k) (hn : ∀ l ∈ ls, l.length = n) (hn1 : 1 ≤ n) (hnm : n ≤ 1000000) :
    Calls Tryd.prog 56 #[.slice ac k cc, .slice a k cap] w fun e w' => ∃ a' c', e = .returned (.tuple #[.slice a' n c', .int .i64 0]) ∧ Bs w' a' n c' (combL C ls n) ∧ (∀ x, a' = some x → w.heap.size ≤ x.block) ∧ Gr w w' := by
  have hm : k ≤ 9223372036854775807 := by have h1 := h.2.1; have h2 := h.2.2.1; unfold maxLen at h2; omega
  obtain ⟨b, off, rfl, _⟩ := h.at_ (by omega)
  obtain ⟨b2, off2, rfl, _⟩ := hC.at_ (by omega)
  obtain ⟨l0, a0, n0, c0, hl0, hc0, hb0⟩ := h.get (i := 0) (by omega)
  have hn0 : n0 = n := by rw [← hb0.1]; exact hn l0 (List.mem_of_getElem? hl0)
  rw [hn0, Nat.add_zero] at hc0
  have HC0 := Lib.hid hc0
  have hk0 : (0 : Int) < (k : Int) := by omega
  have hkt : ((k : Int) == 0) = false := by rw [beq_eq_false_iff_ne]; omega
  have hkk : ((k : Int) != (k : Int)) = false := by simp
  have H := Lib.hid h
  have HC := Lib.hid hC
  have HN := Lib.hid hn
  have HL := Lib.hid h.1
  clear h hC hn hl0 hb0 hn0 hc0
  go_enter Tryd.func56, Tryd.ntmps56
  go_wp2
  go_loopw [6] (fun i wr => ∃ j : Nat, j ≤ k ∧ i = .int .i64 j ∧ Gr w wr) (fun i _ => k - (intOf i).toNat)
  case atStart => exact ⟨0, Nat.zero_le _, rfl, (by repeat (first | assumption | exact Gr.refl _ | (refine Gr.alloc ?_ _) | (refine Gr.drew ?_) | (refine Gr.drewN ?_ _) | (refine Gr.trans ?_ (by assumption))))⟩
  case round =>
    obtain ⟨j, hj, rfl, hgr⟩ := hrel
    by_cases hlt : j < k
    · obtain ⟨l, a', n', c', hl, hc, hb⟩ := (H.out.below hgr).get hlt
      have hn' : n' = n := by rw [← hb.1]; exact HN.out l (List.mem_of_getElem? hl)
      rw [hn'] at hc
      have hc0 := hgr.cell HC0.out
      have hne : ((n : Int) != (n : Int)) = false := by simp
      have hlti : (j : Int) < (k : Int) := by omega
      clear hl hb hn'
      go_wp2
      go_quiet (fail)
      go_wp2
      go_roundw
      case rel => exact ⟨j + 1, by omega, by go_num, (by repeat (first | assumption | exact Gr.refl _ | (refine Gr.alloc ?_ _) | (refine Gr.drew ?_) | (refine Gr.drewN ?_ _) | (refine Gr.trans ?_ (by assumption))))⟩
      case measure => simp [intOf]; omega
    · have hge : (k : Int) ≤ (j : Int) := by omega
      have HGR := Lib.hid hgr
      clear hgr
      go_wp2
      go_loopw [7, 8] (fun v i wr => ∃ j : Nat, j ≤ n ∧ i = .int .i64 j ∧ OwnV wr w.heap.size v ((combL C ls n).take j) ∧ Gr w wr) (fun _ i _ => n - (intOf i).toNat)
      case atStart => exact ⟨0, Nat.zero_le _, rfl, OwnV.nil _ _, HGR.out.trans (by repeat (first | assumption | exact Gr.refl _ | (refine Gr.alloc ?_ _) | (refine Gr.drew ?_) | (refine Gr.drewN ?_ _) | (refine Gr.trans ?_ (by assumption))))⟩
      case round =>
        obtain ⟨i, hi, rfl, hown, hgr⟩ := hrel
        have hc0 := hgr.cell HC0.out
        by_cases hin : i < n
        · have hini : (i : Int) < (n : Int) := by omega
          go_wp2
          go_loopw [9, 10] (fun s x wq => ∃ t : Nat, t ≤ k ∧ x = .int .i64 t ∧ s = .int .u8 ((dotB C ls i t).toNat : Int) ∧ OwnV wq w.heap.size u7 ((combL C ls n).take i) ∧ Gr w wq) (fun _ x _ => k - (intOf x).toNat)
          case atStart => exact ⟨0, Nat.zero_le _, rfl, rfl, by (focus ((repeat (first | assumption | exact Gr.refl _ | exact Bss.nil _ | (refine Bss.of_alloc2 ?_ ?_ (by simp; done)) | (refine Bss.of_alloc1 ?_ (by simp; done)) | (refine Bs.below (by assumption) ?_) | (refine Bss.below (by assumption) ?_) | (refine Bss.below ?_ (Gr.alloc (Gr.refl _) _)) | (refine Bss.below ?_ (Gr.drew (Gr.refl _))) | (refine Bss.below ?_ (by assumption)) | (refine Tab.below (by assumption) ?_) | (refine OwnV.gr (by assumption) ?_) | (refine Mid.gr (by assumption) ?_) | (refine Gr.alloc ?_ _) | (refine Gr.drew ?_) | (refine Gr.drewN ?_ _) | (refine Gr.trans ?_ (by assumption)))); done)), (by repeat (first | assumption | exact Gr.refl _ | (refine Gr.alloc ?_ _) | (refine Gr.drew ?_) | (refine Gr.drewN ?_ _) | (refine Gr.trans ?_ (by assumption))))⟩
          case round =>
            clear hown hgr hc0
            obtain ⟨t, ht, rfl, rfl, hown, hgw2⟩ := hrel
            have HO := Lib.hid hown
            clear hown
            by_cases htk : t < k
            · have HGW := Lib.hid hgw2
              obtain ⟨l, a', n', c', hl, hc, hb⟩ := (H.out.below hgw2).get htk
              have hn' : n' = n := by rw [← hb.1]; exact HN.out l (List.mem_of_getElem? hl)
              rw [hn'] at hc hb
              obtain ⟨x, hx, hcx⟩ := (HC.out.below hgw2).get htk
              obtain ⟨b3, off3, rfl, _⟩ := hb.at_ (by omega)
              obtain ⟨y, hy, hcy⟩ := hb.get hin
              have hdot : dotB C ls i (t + 1) = dotB C ls i t ^^^ mulB x.toNat y := by
                rw [dotB, show C.getD t 0 = x by rw [List.getD_eq_getElem?_getD, hx]; rfl, show ls.getD t [] = l by rw [List.getD_eq_getElem?_getD, hl]; rfl, show l.getD i 0 = y by rw [List.getD_eq_getElem?_getD, hy]; rfl]
              have hput := put_byte x.toNat x.toNat_lt (dotB C ls i t) y
              rw [← hdot] at hput
              have HDOT := Lib.hid hput
              have CM := Lib.hid fun w => refMul_any x.toNat y.toNat x.toNat_lt y.toNat_lt w
              obtain ⟨mv, emv⟩ : ∃ v, fmul x.toNat y.toNat = v := ⟨_, rfl⟩
              rw [emv] at CM hput
              have hx8 := x.toNat_lt
              have hy8 := y.toNat_lt
              obtain ⟨xv, exv⟩ : ∃ v, x.toNat = v := ⟨_, rfl⟩
              obtain ⟨yv, eyv⟩ : ∃ v, y.toNat = v := ⟨_, rfl⟩
              obtain ⟨sv, esv⟩ : ∃ v, (dotB C ls i t).toNat = v := ⟨_, rfl⟩
              rw [exv] at CM hcx
              rw [eyv] at CM hcy
              rw [esv] at hput ⊢
              have htki : (t : Int) < (k : Int) := by omega
              clear hl hb hn' hx hy hdot emv exv eyv esv HDOT hgw2
              go_wp2
              go_quiet ((go_at_call 89; refine Calls.quiet_of_same ((CM.out _).mono fun _ _ ⟨h1, h2⟩ => ⟨h1, h2.symm⟩)))
              go_wp2
              go_roundw
              case rel => exact ⟨t + 1, by omega, by go_num, by rw [← hput], HO.out.gr (by repeat (first | assumption | exact Gr.refl _ | (refine Gr.alloc ?_ _) | (refine Gr.drew ?_) | (refine Gr.drewN ?_ _) | (refine Gr.trans ?_ (by assumption)))), HGW.out.trans (by repeat (first | assumption | exact Gr.refl _ | (refine Gr.alloc ?_ _) | (refine Gr.drew ?_) | (refine Gr.drewN ?_ _) | (refine Gr.trans ?_ (by assumption))))⟩
              case measure => simp [intOf]; omega
            · have htk' : t = k := by omega
              have htg : (k : Int) ≤ (t : Int) := by omega
              have hc0 := hgw2.cell HC0.out
              have htake := comb_take (C := C) HN.out hin
              rw [HL.out, ← htk'] at htake
              have HTAKE := Lib.hid htake
              have hlen : ((combL C ls n).take i).length + 1 ≤ 140737488355328 := by rw [List.length_take]; omega
              have hlit : Bs (wr.alloc (.cells #[.int .u8 ((dotB C ls i t).toNat : Int)] 5)) (some ⟨wr.heap.size, 0, none⟩) 1 1 [dotB C ls i t] := Bs.of_alloc rfl rfl (by decide) rfl
              have hown2 := HO.out.gr ((Gr.refl _).alloc (.cells #[.int .u8 ((dotB C ls i t).toNat : Int)] 5))
              have hbase : w.heap.size ≤ (wr.alloc (.cells #[.int .u8 ((dotB C ls i t).toNat : Int)] 5)).heap.size := (hgw2.alloc _).size
              have hlt2 := fun q hq => (hown2.lt q hq).1
              have HGW := Lib.hid (hgw2.alloc (.cells #[.int .u8 ((dotB C ls i t).toNat : Int)] 5))
              obtain ⟨db, edb⟩ : ∃ x, dotB C ls i t = x := ⟨_, rfl⟩
              rw [edb] at htake hlit hown2 hbase HGW ⊢
              clear HO htk' hgw2
              go_wp2_with (at_builtin; refine wpList_append_bytes rfl (.tmp 63) (.tmp 65) rfl w.heap.size _ ((combL C ls n).take i) rfl hown2 _ 1 1 [db] rfl hlit hlen hbase ?_; intro v2 w2 ho2 hg2 hn2)
              rw [htake] at ho2
              have hg3 : Gr w w2 := Gr.grown HGW.out hg2 hlt2
              clear hg2 hn2 hlit hown2 hlt2 HGW htake
              go_wp2
              go_roundw
              case rel => exact ⟨i + 1, by omega, by go_num, ho2, hg3⟩
              case measure => simp [intOf]; omega
        · have hie : i = n := by omega
          have hge2 : (n : Int) ≤ (i : Int) := by omega
          rw [hie, List.take_of_length_le (by rw [combL_length HN.out]; exact Nat.le_refl _)] at hown
          obtain ⟨a7, c7, hv, hb7, hf7⟩ := hown.bs
          rw [combL_length HN.out] at hv hb7
          rw [hv]
          have HB := Lib.hid hb7
          have HF := Lib.hid hf7
          clear hown hb7 hv hf7
          go_wp2
          first | go_ret | go_ret2
          exact ⟨a7, c7, rfl, HB.out, HF.out, hgr⟩
end Go.Proofs.YtdmijoochgmhiacDoor

namespace Go.Proofs.YtdmijoochgmhiacDoor
open Go.RowKit
set_option linter.unusedVariables false

set_option maxRecDepth 100000 in
set_option maxHeartbeats 2000000 in
theorem refPacket_bad (n s q id : Nat) (ao : Option Addr) (ko co : Nat) (nn m : Nat) (a : Option Addr) (len cap sd : Nat) (hm : len ≤ 9223372036854775807) (hE : rowErr m len q ≠ 0) (w : World) :
    Calls Tryd.prog 29 #[.agg #[.int .i64 (n : Int), .int .i64 (s : Int), .int .i64 (q : Int), .int .u32 (id : Int)], .slice ao ko co, .int .u32 (nn : Int), .int .u8 (m : Int), .slice a len cap, .int .u64 (sd : Int)] w
      fun e w' => e = .returned (.tuple #[packZ, .int .i64 (rowErr m len q : Nat)]) ∧ Gr w w' := by
  have HV := Lib.hid fun w => refVector_bad m a len cap sd q hm w hE
  obtain ⟨E, eE⟩ : ∃ E, rowErr m len q = E := ⟨_, rfl⟩
  rw [eE] at HV hE ⊢
  have ht : ((E : Int) != 0) = true := by rw [bne_iff_ne]; omega
  clear eE hE
  go_enter Tryd.func29, Tryd.ntmps29
  have hP := Gr.heap ((Gr.refl _).alloc (.cells #[.int .u8 0, .int .u32 0, .int .u32 0, .int .u8 0, .slice none 0 0, .int .u64 0, .slice none 0 0] 74)) (heap_alloc_new w (.cells #[.int .i64 (n : Int), .int .i64 (s : Int), .int .i64 (q : Int), .int .u32 (id : Int)] 61))
  obtain ⟨p0, p1, p2, p3⟩ := p_four_cells hP
  go_wp2_with fail
  refine (HV.out _).mono ?_
  rintro e w1 ⟨rfl, hg⟩
  have hgw := (((Gr.refl w).alloc _).alloc _).trans hg
  have hB := hg.heap (heap_alloc_new _ _)
  simp only [World.alloc, Array.size_push] at hB
  obtain ⟨cc0, cc1, cc2, cc3, cc4, cc5, cc6, ff⟩ := seven_cells hB
  clear hg hB
  have hG7 := gr_seven hgw (R := w.heap.size + 1) (Nat.le_succ _) (.int .u8 0) (.int .u32 0) (.int .u32 0) (.int .u8 0) (.slice none 0 0) (.int .u64 0) (.slice none 0 0)
  go_wp2
  refine bodyPost_ret (v := .tuple #[packZ, .int .i64 (E : Int)]) ?_ rfl ⟨rfl, hG7⟩
  simp [results, Tryd.results29, go_sem, packZ, cc0, cc1, cc2, cc3, cc4, cc5, cc6]

set_option maxRecDepth 100000 in
set_option maxHeartbeats 4000000 in
theorem refPacket_ok (n s q id : Nat) (hP : planErr n s q = 0) (hnm : n ≤ 1000000000) (ao : Option Addr) (co : Nat) (obj : List UInt8) (nn m : Nat) (a : Option Addr) (len cap sd : Nat) (hsd : sd < 18446744073709551616) (l : List UInt8) (hlm : len ≤ 1000000) (hE : rowErr m len q = 0) (w : World) (ho : Bs w ao n co obj) (hs : Bs w a len cap l) :
    Calls Tryd.prog 29 #[.agg #[.int .i64 (n : Int), .int .i64 (s : Int), .int .i64 (q : Int), .int .u32 (id : Int)], .slice ao n co, .int .u32 (nn : Int), .int .u8 (m : Int), .slice a len cap, .int .u64 (sd : Int)] w
      fun e w' => ∃ a' c', e = .returned (.tuple #[.agg #[.int .u8 (m : Int), .int .u32 (id : Int), .int .u32 (nn : Int), .int .u8 (m : Int), .slice a len cap, .int .u64 (sd : Int), .slice a' s c'], .int .i64 0]) ∧ Bs w' a' s c' (combL (rowVec m l sd q) (cutL obj s q) s) ∧ Gr w w' := by
  obtain ⟨hs1, hs2, hq1, hq2⟩ := plan_bounds hP
  have HV := Lib.hid fun w h => refVector_ok m a len cap l sd hsd q w h (by omega) hE
  have HCU := Lib.hid fun w h => refCut_ok n s q id hP ao co obj w h (by omega)
  have HCB := Lib.hid fun (ac : Option Addr) (cc : Nat) (a2 : Option Addr) (c2 : Nat) w h1 h2 => refComb_ok ac cc (rowVec m l sd q) a2 q c2 s (cutL obj s q) w h1 h2 hq1 cut_same hs1 (by omega)
  obtain ⟨V, eV⟩ : ∃ V, rowVec m l sd q = V := ⟨_, rfl⟩
  obtain ⟨LP, eLP⟩ : ∃ L, combL (rowVec m l sd q) (cutL obj s q) s = L := ⟨_, rfl⟩
  obtain ⟨CU, eCU⟩ : ∃ L, cutL obj s q = L := ⟨_, rfl⟩
  rw [eLP] at HCB ⊢
  rw [eV] at HV HCB
  rw [eCU] at HCU HCB
  have HO := Lib.hid ho
  have HS := Lib.hid hs
  clear hP hE eV eLP eCU ho hs
  go_enter Tryd.func29, Tryd.ntmps29
  have hP := Gr.heap ((Gr.refl _).alloc (.cells #[.int .u8 0, .int .u32 0, .int .u32 0, .int .u8 0, .slice none 0 0, .int .u64 0, .slice none 0 0] 74)) (heap_alloc_new w (.cells #[.int .i64 (n : Int), .int .i64 (s : Int), .int .i64 (q : Int), .int .u32 (id : Int)] 61))
  obtain ⟨p0, p1, p2, p3⟩ := p_four_cells hP
  have HP := Lib.hid hP
  have hal := ((Gr.refl w).alloc (.cells #[.int .i64 (n : Int), .int .i64 (s : Int), .int .i64 (q : Int), .int .u32 (id : Int)] 61)).alloc (.cells #[.int .u8 0, .int .u32 0, .int .u32 0, .int .u8 0, .slice none 0 0, .int .u64 0, .slice none 0 0] 74)
  clear hP
  go_wp2_with fail
  refine (HV.out _ (HS.out.below hal)).mono ?_
  rintro e w1 ⟨a1, c1, rfl, hb1, hg⟩
  have hgw := hal.trans hg
  have HB1 := Lib.hid hb1
  have hB := hg.heap (heap_alloc_new _ _)
  simp only [World.alloc, Array.size_push] at hB
  have HB := Lib.hid hB
  have HP1 := Lib.hid (hg.heap HP.out)
  obtain ⟨p0, p1, p2, p3⟩ := p_four_cells HP1.out
  clear hg hB hb1 hal HP HV
  go_wp2_with fail
  refine (HCU.out _ (HO.out.below hgw)).mono ?_
  rintro e w2 ⟨a2, c2, rfl, hb2, hg⟩
  have hgw2 := hgw.trans hg
  have HB2 := Lib.hid (hg.heap HB.out)
  have HP2 := Lib.hid (hg.heap HP1.out)
  have HV2 := Lib.hid (HB1.out.below hg)
  have HC2 := Lib.hid hb2
  clear hg hb2 hgw p0 p1 p2 p3 HB HP1 HB1 HCU
  go_wp2_with fail
  refine (HCB.out _ _ _ _ _ HV2.out HC2.out).mono ?_
  rintro e w3 ⟨a3, c3, rfl, hb3, hf3, hg⟩
  have hsz : w.heap.size + 1 < w2.heap.size := lt_of_block HB2.out
  have hgw3 := hgw2.trans hg
  have hB3 := hg.heap HB2.out
  obtain ⟨p0, p1, p2, p3⟩ := p_four_cells (hg.heap HP2.out)
  obtain ⟨cc0, cc1, cc2, cc3, cc4, cc5, cc6, ff⟩ := seven_cells hB3
  have HB7 := Lib.hid (seven_set hB3 (.int .u8 (m : Int)) (.int .u32 (id : Int)) (.int .u32 (nn : Int)) (.int .u8 (m : Int)) (.slice a len cap) (.int .u64 (sd : Int)) (.slice a3 s c3))
  have HGB := Lib.hid (grb_seven w3 (w.heap.size + 1) (.int .u8 (m : Int)) (.int .u32 (id : Int)) (.int .u32 (nn : Int)) (.int .u8 (m : Int)) (.slice a len cap) (.int .u64 (sd : Int)) (.slice a3 s c3))
  have HB3 := Lib.hid hB3
  have HX3 := Lib.hid hb3
  have HF3 := Lib.hid hf3
  have HW3 := Lib.hid hgw3
  clear hg hb3 hf3 hgw2 hgw3 hB3 HB2 HP2 HV2 HC2 HCB
  go_wp2
  obtain ⟨W7, eW⟩ : ∃ W, (((((((w3.setCell ⟨w.heap.size + 1, 0, none⟩ (.int .u8 (m : Int))).setCell ⟨w.heap.size + 1, 1, none⟩ (.int .u32 (id : Int))).setCell ⟨w.heap.size + 1, 2, none⟩ (.int .u32 (nn : Int))).setCell ⟨w.heap.size + 1, 3, none⟩ (.int .u8 (m : Int))).setCell ⟨w.heap.size + 1, 4, none⟩ (.slice a len cap)).setCell ⟨w.heap.size + 1, 5, none⟩ (.int .u64 (sd : Int))).setCell ⟨w.heap.size + 1, 6, none⟩ (.slice a3 s c3)) = W := ⟨_, rfl⟩
  rw [eW] at HB7 HGB ⊢
  clear eW
  obtain ⟨z0, z1, z2, z3, z4, z5, z6, _⟩ := seven_cells HB7.out
  have hfin := Lib.hid (And.intro (HX3.out.grb HGB.out (fun y hy => by have := HF3.out y hy; omega)) (HW3.out.grb HGB.out (Nat.le_succ _)))
  refine bodyPost_ret (v := .tuple #[.agg #[.int .u8 (m : Int), .int .u32 (id : Int), .int .u32 (nn : Int), .int .u8 (m : Int), .slice a len cap, .int .u64 (sd : Int), .slice a3 s c3], .int .i64 0]) ?_ rfl ⟨a3, c3, rfl, hfin.out⟩
  simp [results, Tryd.results29, go_sem, z0, z1, z2, z3, z4, z5, z6]
end Go.Proofs.YtdmijoochgmhiacDoor
