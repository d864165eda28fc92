/-
  The walks of the chapter's example of a gate, and of how many bytes a law of gates goes through.
-/
import Derived.Test.YtdmijoochgmhiacDoorGateAny
import Derived.Test.YtdmijoochgmhiacDoorPacketLaw
import Derived.Test.YtdmijoochgmhiacDoorRowOwn
namespace Go.Proofs.YtdmijoochgmhiacDoor
open Go.RowKit Go.Maps
set_option linter.unusedVariables false

/-- are bytes gone through here? -/
def fewG (ls : List (List UInt8)) : Bool := ls.all (fun l => decide (l.length ≤ 800)) && decide (ls.length ≤ 30)
theorem fewG_of {ls : List (List UInt8)} (h : fewG ls = true) : (∀ l ∈ ls, l.length ≤ 800) ∧ ls.length ≤ 30 := by
  simp [fewG] at h; exact h
theorem fewG_long {ls : List (List UInt8)} {l : List UInt8} (h : l ∈ ls) (hl : 800 < l.length) : fewG ls = false := by
  cases hf : fewG ls
  · rfl
  · have := (fewG_of hf).1 l h; omega
theorem fewG_all {ls : List (List UInt8)} (h : ∀ l ∈ ls, l.length ≤ 800) : fewG ls = decide (ls.length ≤ 30) := by
  have : ls.all (fun l => decide (l.length ≤ 800)) = true := by simp; exact h
  rw [fewG, this, Bool.true_and]

set_option maxHeartbeats 1000000 in
theorem gateFew_any (a : Option Addr) (len cap : Nat) (ls : List (List UInt8)) (w : World) (hs : Bss w a len cap ls) :
    Calls Tryd.prog 9 #[.slice a len cap] w fun e w' => e = .returned (.bool (fewG ls)) ∧ w = w' := by
  have hm : len ≤ 9223372036854775807 := by have h1 := hs.2.1; have h2 := hs.2.2.1; unfold maxLen at h2; omega
  have L1 : Hid (ls.length = len) := hs.1
  go_enter Tryd.func9, Tryd.ntmps9
  go_wp2
  go_loop [7] (fun i => ∃ k : Nat, k ≤ len ∧ i = .int .i64 k ∧ ∀ j l, j < k → ls[j]? = some l → l.length ≤ 800) (fun i => len - (intOf i).toNat)
  case atStart => exact ⟨0, Nat.zero_le _, rfl, fun _ _ h => by omega⟩
  case round =>
    obtain ⟨k, hk, rfl, hall⟩ := hrel
    have HA := Lib.hid hall
    clear hall
    by_cases hlt : k < len
    · obtain ⟨b, off, rfl, _⟩ := hs.at_ (by omega)
      obtain ⟨l, a', len', cap', hl, hc, hbs⟩ := hs.get hlt
      have HL := Lib.hid hl
      clear hl
      have hl' : l.length = len' := hbs.1
      have hm' : len' ≤ 9223372036854775807 := by have h1 := hbs.2.1; have h2 := hbs.2.2.1; unfold maxLen at h2; omega
      by_cases hlong : 800 < len'
      · have hf : Hid (fewG ls = false) := fewG_long (List.mem_of_getElem? HL.out) (by omega)
        clear hl'
        have ht : (800 : Int) < (len' : Int) := by omega
        go_wp2
        go_ret
        exact ⟨by rw [hf.out]; rfl, rfl⟩
      · have hs' : Hid (l.length ≤ 800) := by show l.length ≤ 800; omega
        clear hl'
        have ht : ¬ (800 : Int) < (len' : Int) := by omega
        go_wp2
        go_round
        case rel =>
          refine ⟨k + 1, by omega, by go_num, fun j l' hj hl' => ?_⟩
          by_cases e : j = k
          · subst e; rw [HL.out] at hl'; cases hl'; exact hs'.out
          · exact HA.out j l' (by omega) hl'
        case measure => simp [intOf]; omega
    · have hf : Hid (fewG ls = decide (len ≤ 30)) := by
        show _ = _
        rw [fewG_all, L1.out]
        intro l hl
        obtain ⟨j, hj, e⟩ := List.getElem_of_mem hl
        have := L1.out
        exact HA.out j l (by omega) (by rw [List.getElem?_eq_getElem hj, e])
      go_wp2
      go_ret
      refine ⟨?_, rfl⟩
      rw [hf.out]
      have : decide ((len : Int) ≤ 30) = decide (len ≤ 30) := by rw [decide_eq_decide]; omega
      rw [← this]; rfl

set_option maxRecDepth 100000 in
set_option maxHeartbeats 400000 in
theorem gateAwake (w : World) (htab : Tab w) : Calls Tryd.prog 8 #[] w fun e w' => e = .returned (.bool true) ∧ Gr w w' := by
  have HT := Lib.hid htab
  have HO : Hid (∀ w, Calls Tryd.prog 32 #[.int .i64 5, .int .i64 2, .int .u32 0] w fun e w' => e = .returned (.tuple #[.agg #[.int .i64 5, .int .i64 2, .int .i64 3, .int .u32 0], .int .i64 0]) ∧ Gr w w') := by
    intro w
    refine (planOf_any 5 2 0 (by decide) (by decide) (by decide) (by decide) w).mono ?_
    rintro e w' ⟨he, hg⟩
    refine ⟨?_, hg⟩
    rw [he, show planFit 5 2 = 0 by decide, if_pos rfl, show planNeed 5 2 = 3 by decide]
    rfl
  have HN : Hid (∀ w, Calls Tryd.prog 11 #[.agg #[.int .i64 5, .int .i64 2, .int .i64 3, .int .u32 0]] w fun e w' => e = .returned (.tuple #[.agg #[.int .i64 5, .int .i64 2, .int .i64 3, .int .u32 0, .map none], .int .i64 0]) ∧ Gr w w') := by
    intro w
    exact gateNew_ok 5 2 3 0 (by decide) (by decide) (by decide) (by decide) (by decide) w
  have hE : packErr 5 2 3 0 [] = 6 := by decide
  have HL : Hid (∀ w, Tab w → Calls Tryd.prog 12 #[.agg #[.int .i64 5, .int .i64 2, .int .i64 3, .int .u32 0, .map none], .slice none 0 0] w fun e w' => ∃ g' a1 k1 c1 a2 k2 c2, e = .returned (.tuple #[.agg #[.int .i64 5, .int .i64 2, .int .i64 3, .int .u32 0, .map (some g')], .agg #[.int .u8 0, .int .u32 0, .int .u32 0, .int .u8 0, .slice a1 k1 c1, .int .u64 0, .slice a2 k2 c2], .int .i64 6]) ∧ GateAt w' (some g') [6] ∧ Gr w w') := by
    intro w ht
    refine (gateLook_any 5 2 3 0 (by decide) (by decide) (by decide) (by decide) none 0 0 [] none [] (by decide) w ht (Bs.nil w) (by decide) (GateAt.none w)).mono ?_
    rintro e w' ⟨g', a1, k1, c1, a2, k2, c2, he, hga, _, _, hg⟩
    rw [hE] at hga he
    rw [packGot, if_neg (by rw [hE]; decide)] at he
    exact ⟨g', a1, k1, c1, a2, k2, c2, he, hga, hg⟩
  have HC : Hid (∀ w g', GateAt w (some g') [6] → Calls Tryd.prog 15 #[.agg #[.int .i64 5, .int .i64 2, .int .i64 3, .int .u32 0, .map (some g')], .int .i64 6] w fun e w' => e = .returned (.int .i64 1) ∧ Gr w w') := by
    intro w g' hga
    exact gateCount_any 5 2 3 0 (some g') [6] 6 (by decide) w hga
  have HS : Hid (∀ w g', GateAt w (some g') [6] → Calls Tryd.prog 16 #[.agg #[.int .i64 5, .int .i64 2, .int .i64 3, .int .u32 0, .map (some g')]] w fun e w' => e = .returned (.int .i64 1) ∧ Gr w w') := by
    intro w g' hga
    exact gateSeen_any 5 2 3 0 (some g') [6] w hga (by decide)
  clear hE htab
  go_enter Tryd.func8, Tryd.ntmps8
  go_wp2_with fail
  refine (HO.out _).mono ?_
  rintro e w1 ⟨rfl, hg1⟩
  go_wp2_with fail
  refine (HN.out _).mono ?_
  rintro e w2 ⟨rfl, hg2⟩
  have hgw2 := (hg1.alloc (.cells #[.int .i64 5, .int .i64 2, .int .i64 3, .int .u32 0] 24)).trans hg2
  clear hg1 hg2
  go_wp2_with fail
  refine (HL.out _ (HT.out.below (hgw2.alloc _))).mono ?_
  rintro e w3 ⟨g', a1, k1, c1, a2, k2, c2, rfl, hga, hg3⟩
  have hA3 := hg3.heap (heap_alloc_new w2 _)
  have hgw3 := (hgw2.alloc _).trans hg3
  have hgr := hgw2.size
  have hne := hga.ne hA3
  have hlt := lt_of_block hA3
  go_wp2_with (with_reducible refine wpList_hold (o := ⟨none, _, _, _, _, _⟩) ?_)
  change wpList _ _ _ _ _ _
  have hal := (Gr.refl w3).alloc (.cells #[.int .u8 0, .int .u32 0, .int .u32 0, .int .u8 0, .slice none 0 0, .int .u64 0, .slice none 0 0] 42)
  have hP := heap_alloc_new w3 (.cells #[.int .u8 0, .int .u32 0, .int .u32 0, .int .u8 0, .slice none 0 0, .int .u64 0, .slice none 0 0] 42)
  obtain ⟨W3, eW⟩ : ∃ W, w3.alloc (.cells #[.int .u8 0, .int .u32 0, .int .u32 0, .int .u8 0, .slice none 0 0, .int .u64 0, .slice none 0 0] 42) = W := ⟨_, rfl⟩
  rw [eW] at hal hP ⊢
  clear eW
  have hA4 := hal.heap hA3
  have hga4 := hga.gr hal
  have hgw4 := hgw3.trans hal
  obtain ⟨b3, eb3⟩ : ∃ b, w3.heap.size = b := ⟨_, rfl⟩
  rw [eb3] at hP hlt ⊢
  have hbne : b3 ≠ w2.heap.size := by omega
  clear eb3 hal hA3 hga hgw3 hg3
  obtain ⟨x0, x1, x2, x3, x4, xf⟩ := five_cells hA4
  obtain ⟨hgb, hh⟩ := five_set hA4 (.int .i64 5) (.int .i64 2) (.int .i64 3) (.int .u32 0) (.map (some g'))
  have HH := Lib.hid hh
  have HGB := Lib.hid hgb
  clear hgb hh
  go_wp2_with (with_reducible refine wpList_hold (o := ⟨none, .store 42 _ _, _, _, _, _⟩) ?_)
  change wpList _ _ _ _ _ _
  have hh := HH.out
  have hgb := HGB.out
  obtain ⟨W4, eW⟩ : ∃ W, (((((W3.setCell ⟨w2.heap.size, 0, none⟩ (.int .i64 5)).setCell ⟨w2.heap.size, 1, none⟩ (.int .i64 2)).setCell ⟨w2.heap.size, 2, none⟩ (.int .i64 3)).setCell ⟨w2.heap.size, 3, none⟩ (.int .u32 0)).setCell ⟨w2.heap.size, 4, none⟩ (.map (some g'))) = W := ⟨_, rfl⟩
  rw [eW] at hh hgb ⊢
  clear eW HH HGB x0 x1 x2 x3 x4 xf
  have hP4 := hgb.heap hP hbne
  have hga5 := hga4.grb hgb hne
  have hgw5 := hgw4.grb hgb hgr
  clear hP hgb hga4 hgw4 hA4
  obtain ⟨y0, y1, y2, y3, y4, y5, y6, yf⟩ := seven_cells hP4
  have hgb := grb_seven W4 b3 (.int .u8 0) (.int .u32 0) (.int .u32 0) (.int .u8 0) (.slice a1 k1 c1) (.int .u64 0) (.slice a2 k2 c2)
  have hne2 := hga5.ne hP4
  have HGB := Lib.hid hgb
  have HB3 : Hid (w.heap.size ≤ b3) := by show _ ≤ _; omega
  clear hgb
  go_step
  go_step
  go_step
  have hgb := HGB.out
  obtain ⟨W5, eW⟩ : ∃ W, (((((((W4.setCell ⟨b3, 0, none⟩ (.int .u8 0)).setCell ⟨b3, 1, none⟩ (.int .u32 0)).setCell ⟨b3, 2, none⟩ (.int .u32 0)).setCell ⟨b3, 3, none⟩ (.int .u8 0)).setCell ⟨b3, 4, none⟩ (.slice a1 k1 c1)).setCell ⟨b3, 5, none⟩ (.int .u64 0)).setCell ⟨b3, 6, none⟩ (.slice a2 k2 c2)) = W := ⟨_, rfl⟩
  rw [eW] at hgb ⊢
  clear eW HGB y0 y1 y2 y3 y4 y5 y6 yf
  have hh5 := hgb.heap hh (Ne.symm hbne)
  have hga6 := hga5.grb hgb hne2
  have hgw6 := hgw5.grb hgb HB3.out
  clear hgb hh hga5 hgw5 hP4
  obtain ⟨x0, x1, x2, x3, x4, xf⟩ := five_cells hh5
  go_wp2_with fail
  refine (HC.out _ _ hga6).mono ?_
  rintro e w7 ⟨rfl, hg7⟩
  have hh7 := hg7.heap hh5
  have hga7 := hga6.gr hg7
  have hgw7 := hgw6.trans hg7
  clear hg7 hga6 hgw6 hh5 x0 x1 x2 x3 x4 xf
  obtain ⟨x0, x1, x2, x3, x4, xf⟩ := five_cells hh7
  go_wp2_with fail
  refine (HS.out _ _ hga7).mono ?_
  rintro e w8 ⟨rfl, hg8⟩
  have hgw8 := hgw7.trans hg8
  clear hg8 hgw7
  go_wp2
  go_ret
  exact ⟨rfl, hgw8⟩
end Go.Proofs.YtdmijoochgmhiacDoor
