/-
  The walk of law SumTells.
-/
import Derived.Test.YtdmijoochgmhiaaDoorRefSum
import Derived.Test.YtdmijoochgmhiaaDoorSame
import Derived.Test.YtdmijoochgmhiaaDoorAppend
import Derived.Test.YtdmijoochgmhiaaDoorSumAwake
import Derived.Deep.CutRange
import Derived.Deep.RegionHeld3
namespace Go.Proofs.YtdmijoochgmhiaaDoor
open Go.RowKit

/-- are parts gone through here? -/
def fewB (ls : List (List UInt8)) : Bool := ls.all (fun l => decide (l.length ≤ 1000)) && decide (ls.length ≤ 30)
theorem fewB_of {ls : List (List UInt8)} (h : fewB ls = true) : (∀ l ∈ ls, l.length ≤ 1000) ∧ ls.length ≤ 30 := by
  simp [fewB] at h; exact h
theorem fewB_long {ls : List (List UInt8)} {l : List UInt8} (h : l ∈ ls) (hl : 1000 < l.length) : fewB ls = false := by
  cases hf : fewB ls
  · rfl
  · have := (fewB_of hf).1 l h; omega
theorem fewB_all {ls : List (List UInt8)} (h : ∀ l ∈ ls, l.length ≤ 1000) : fewB ls = decide (ls.length ≤ 30) := by
  have : ls.all (fun l => decide (l.length ≤ 1000)) = true := by simp; exact h
  rw [fewB, this, Bool.true_and]

theorem flat_le : ∀ {ls : List (List UInt8)}, (∀ l ∈ ls, l.length ≤ 1000) → ls.length ≤ 30 → ls.flatten.length ≤ 30000 := by
  have key : ∀ ls : List (List UInt8), (∀ l ∈ ls, l.length ≤ 1000) → ls.flatten.length ≤ 1000 * ls.length := by
    intro ls
    induction ls with
    | nil => intro _; simp
    | cons l ls ih =>
      intro h
      have h1 := h l (by simp)
      have h2 := ih fun x hx => h x (by simp [hx])
      rw [List.flatten_cons, List.length_append, List.length_cons]; omega
  intro ls h hl
  have := key ls h; omega

set_option maxHeartbeats 1000000 in
theorem few_any (a : Option Addr) (len cap : Nat) (ls : List (List UInt8)) (w : World) (hs : Bss w a len cap ls) :
    Calls Tryd.prog 7 #[.slice a len cap] w fun e w' => e = .returned (.bool (fewB ls)) ∧ w = w' := by
  have hm : len ≤ 9223372036854775807 := by have h1 := hs.2.1; have h2 := hs.2.2.1; unfold maxLen at h2; omega
  have L1 : Hid (ls.length = len) := hs.1
  go_enter Tryd.func7, Tryd.ntmps7
  go_wp2
  go_loop [7] (fun i => ∃ k : Nat, k ≤ len ∧ i = .int .i64 k ∧ ∀ j l, j < k → ls[j]? = some l → l.length ≤ 1000) (fun i => len - (intOf i).toNat)
  case atStart => exact ⟨0, Nat.zero_le _, rfl, fun _ _ h => by omega⟩
  case round =>
    obtain ⟨k, hk, rfl, hall⟩ := hrel
    have HA := Lib.hid hall
    clear hall
    by_cases hlt : k < len
    · obtain ⟨b, off, rfl, _⟩ := hs.at_ (by omega)
      obtain ⟨l, a', len', cap', hl, hc, hbs⟩ := hs.get hlt
      have HL := Lib.hid hl
      clear hl
      have hl' : l.length = len' := hbs.1
      have hm' : len' ≤ 9223372036854775807 := by have h1 := hbs.2.1; have h2 := hbs.2.2.1; unfold maxLen at h2; omega
      by_cases hlong : 1000 < len'
      · have hf : Hid (fewB ls = false) := fewB_long (List.mem_of_getElem? HL.out) (by omega)
        clear hl'
        have ht : (1000 : Int) < (len' : Int) := by omega
        go_wp2
        go_ret
        exact ⟨by rw [hf.out]; rfl, rfl⟩
      · have hs' : Hid (l.length ≤ 1000) := by show l.length ≤ 1000; omega
        clear hl'
        have ht : ¬ (1000 : Int) < (len' : Int) := by omega
        go_wp2
        go_round
        case rel =>
          refine ⟨k + 1, by omega, by go_num, fun j l' hj hl' => ?_⟩
          by_cases e : j = k
          · subst e; rw [HL.out] at hl'; cases hl'; exact hs'.out
          · exact HA.out j l' (by omega) hl'
        case measure => simp [intOf]; omega
    · have hf : Hid (fewB ls = decide (len ≤ 30)) := by
        show _ = _
        rw [fewB_all, L1.out]
        intro l hl
        obtain ⟨j, hj, e⟩ := List.getElem_of_mem hl
        have := L1.out
        exact HA.out j l (by omega) (by rw [List.getElem?_eq_getElem hj, e])
      go_wp2
      go_ret
      refine ⟨?_, rfl⟩
      rw [hf.out]
      have : decide ((len : Int) ≤ 30) = decide (len ≤ 30) := by rw [decide_eq_decide]; omega
      rw [← this]; rfl

/-- what stays, while the running sum and what was collected go on: two blocks that hold sums. -/
def Mid (w : World) (B P c : Nat) (W : World) : Prop := Gr w W ∧ W.heap[B]? = some (.cells #[.int .u32 (c : Int)] 31 (0, 0)) ∧ W.heap[P]? = some (.cells #[.int .u32 (c : Int)] 31 (0, 0))
theorem Mid.gr {w W W' : World} {B P c : Nat} (h : Mid w B P c W) (hb : Gr W W') : Mid w B P c W' := ⟨h.1.trans hb, hb.heap h.2.1, hb.heap h.2.2⟩
theorem Mid.app {w W W' : World} {B P c base : Nat} {v : Value} {l : List UInt8} (h : Mid w B P c W) (ho : OwnV W base v l) (hB : B < base) (hw : w.heap.size ≤ base) (hP : ∀ k, v.ownBlock = some k → k < P) (hg : W.grownBy W' v.ownBlock) : Mid w B P c W' := by
  refine ⟨Gr.grown h.1 hg (fun k hk => Nat.le_trans hw (ho.lt k hk).1), ?_, ?_⟩
  · rw [hg.block B (lt_of_block h.2.1) (fun e => by have := (ho.lt B e.symm).1; omega)]; exact h.2.1
  · rw [hg.block P (lt_of_block h.2.2) (fun e => by have := hP P e.symm; omega)]; exact h.2.2
theorem Mid.fin {w W : World} {B P c : Nat} (h : Mid w B P c W) (hwB : w.heap.size ≤ B) (hBP : B < P) (d : Nat) :
    (W.setCell ⟨B, 0, none⟩ (.int .u32 (d : Int))).heap[B]? = some (.cells #[.int .u32 (d : Int)] 31 (0, 0)) ∧ (W.setCell ⟨B, 0, none⟩ (.int .u32 (d : Int))).heap[P]? = some (.cells #[.int .u32 (c : Int)] 31 (0, 0)) ∧ Gr w (W.setCell ⟨B, 0, none⟩ (.int .u32 (d : Int))) :=
  ⟨one_setCell h.2.1, by rw [Below.heap_setCell _ _ _ _ (by show P ≠ B; omega)]; exact h.2.2, h.1.setCell hwB _⟩
theorem OwnV.low {w : World} {base : Nat} {v : Value} {l : List UInt8} (h : OwnV w base v l) {p : Addr} (hp : p.block < base) (u : Value) : OwnV (w.setCell p u) base v l :=
  h.other fun k hk => Below.heap_setCell _ _ _ _ (fun e => by have := (h.lt k hk).1; omega)
/-- the state at the head of a round: what was collected, and the running sum. -/
def Told (w : World) (B : Nat) (v : Value) (acc : List UInt8) (W : World) : Prop :=
  OwnV W (B + 1) v acc ∧ W.heap[B]? = some (.cells #[.int .u32 (crcReg 4294967295 acc : Nat)] 31 (0, 0)) ∧ Gr w W ∧ w.heap.size ≤ B

set_option maxRecDepth 100000 in
set_option maxHeartbeats 2000000 in
theorem sumTells_walk (w : World) (htab : Tab w) (a0 : Option Addr) (len cap : Nat) (ls : List (List UInt8)) (hs : Bss w a0 len cap ls) (n : Nat) (hn : n < 4294967296) (a2 : Option Addr) (len2 cap2 : Nat) (l : List UInt8) (hl : Bs w a2 len2 cap2 l) :
    Calls Tryd.prog 4 #[.slice a0 len cap, .int .u32 (n : Int), .slice a2 len2 cap2] w fun e w' => e = .returned (.bool true) ∧ Gr w w' := by
  have hm : len ≤ 9223372036854775807 := by have h1 := hs.2.1; have h2 := hs.2.2.1; unfold maxLen at h2; omega
  have hm2 : len2 ≤ 9223372036854775807 := by have h1 := hl.2.1; have h2 := hl.2.2.1; unfold maxLen at h2; omega
  cases hf : fewB ls
  · go_enter Tryd.func4, Tryd.ntmps4
    go_wp2_with fail
    refine (sumAwake_any w htab).mono ?_
    rintro e w1 ⟨rfl, hb1⟩
    go_wp2_with fail
    refine (few_any a0 len cap ls w1 (hs.below hb1)).mono ?_
    rintro e w2 ⟨rfl, rfl⟩
    go_wp2
    go_ret
    exact ⟨rfl, hb1⟩
  by_cases h100 : 100 < len2
  · have h100' : (100 : Int) < (len2 : Int) := by omega
    go_enter Tryd.func4, Tryd.ntmps4
    go_wp2_with fail
    refine (sumAwake_any w htab).mono ?_
    rintro e w1 ⟨rfl, hb1⟩
    go_wp2_with fail
    refine (few_any a0 len cap ls w1 (hs.below hb1)).mono ?_
    rintro e w2 ⟨rfl, rfl⟩
    go_wp2
    go_ret
    exact ⟨rfl, hb1⟩
  have hfew := fewB_of hf
  have Hall := Lib.hid hfew.1
  have hl30 : len ≤ 30 := by rw [← hs.1]; exact hfew.2
  clear hfew
  have h100' : ¬ (100 : Int) < (len2 : Int) := by omega
  have Llen : Hid (ls.length = len) := hs.1
  go_enter Tryd.func4, Tryd.ntmps4
  go_wp2_with fail
  refine (sumAwake_any w htab).mono ?_
  rintro e w1 ⟨rfl, hb1⟩
  go_wp2_with fail
  refine (few_any a0 len cap ls w1 (hs.below hb1)).mono ?_
  rintro e w2 ⟨rfl, rfl⟩
  go_wp2_with fail
  refine (start_any _).mono ?_
  rintro e w2 ⟨rfl, hb2⟩
  go_wp2
  have Hstart : Told w w2.heap.size (.slice none 0 0) [] (w2.alloc (.cells #[.int .u32 4294967295] 31)) :=
    ⟨OwnV.nil _ _, heap_alloc_new _ _, (hb1.trans hb2).alloc _, (hb1.trans hb2).size⟩
  obtain ⟨B, hB⟩ : ∃ B, w2.heap.size = B := ⟨_, rfl⟩
  rw [hB] at Hstart
  rw [hB]
  have HB := Lib.hid hB
  clear hB
  go_loopw [7, 29] (fun v i wr => ∃ k : Nat, k ≤ len ∧ i = .int .i64 k ∧ Told w B v (ls.take k).flatten wr) (fun _ i _ => len - (intOf i).toNat)
  case atStart => exact ⟨0, Nat.zero_le _, rfl, Hstart⟩
  case round =>
    obtain ⟨k, hk, rfl, hown, hcell, hgr, hwB⟩ := hrel
    obtain ⟨acc, hacc⟩ : ∃ acc, (ls.take k).flatten = acc := ⟨_, rfl⟩
    rw [hacc] at hown hcell
    have HACC := Lib.hid hacc
    clear hacc
    by_cases hlt : k < len
    · obtain ⟨b, off, rfl, _⟩ := hs.at_ (by omega)
      obtain ⟨l', a', len', cap', hl', hc0, hbs⟩ := hs.get hlt
      have hc := hgr.cell hc0
      clear hc0
      have HL := Lib.hid hl'
      clear hl'
      have hl1 : Hid (l'.length ≤ 1000) := Hall.out l' (List.mem_of_getElem? HL.out)
      have hcB := cell_of_one hcell
      have hfB := free_of_one hcell
      obtain ⟨c, hcc⟩ : ∃ c, crcReg 4294967295 acc = c := ⟨_, rfl⟩
      rw [hcc] at hcB hcell
      have HC := Lib.hid hcc
      clear hcc
      have hclt : c < 4294967296 := by rw [← HC.out]; exact crcReg_lt _ (by decide)
      have HCELL := Lib.hid hcell
      clear hcell
      go_wp2
      have hM : Mid w B wr.heap.size c (wr.alloc (.cells #[.int .u32 (c : Int)] 31)) :=
        ⟨hgr.alloc _, (Gr.refl _ |>.alloc _).heap HCELL.out, heap_alloc_new _ _⟩
      have hown0 : OwnV (wr.alloc (.cells #[.int .u32 (c : Int)] 31)) (B + 1) u7 acc := hown.gr ((Gr.refl _).alloc _)
      have hPown := fun k hk => (hown.lt k hk).2
      have hBP : B < wr.heap.size := lt_of_block HCELL.out
      have hsz : wr.heap.size < (wr.alloc (.cells #[.int .u32 (c : Int)] 31)).heap.size := by simp
      clear hc hcB hfB hown HCELL hgr
      obtain ⟨W0, hW0⟩ : ∃ W, W = wr.alloc (.cells #[.int .u32 (c : Int)] 31) := ⟨_, rfl⟩
      rw [← hW0] at hM hown0 hsz ⊢
      clear hW0
      obtain ⟨P, hP⟩ : ∃ P, wr.heap.size = P := ⟨_, rfl⟩
      rw [hP] at hM hPown hBP hsz ⊢
      clear hP
      have hbase : B + 1 ≤ W0.heap.size := by omega
      have hB0 : B < W0.heap.size := by omega
      have HPOWN := Lib.hid hPown
      clear hPown
      have hbound : Hid (acc.length ≤ 30000) := by
        show acc.length ≤ 30000
        rw [← HACC.out]
        exact flat_le (fun l hl => Hall.out l (List.mem_of_mem_take hl)) (by rw [List.length_take]; have := Llen.out; omega)
      obtain ⟨c', hc'⟩ : ∃ c', crcReg c [l'].flatten = c' := ⟨_, rfl⟩
      have HC' := Lib.hid hc'
      have hq : acc.length + len' ≤ 140737488355328 := by have h1 := hbs.1; have h2 := hl1.out; have h3 := hbound.out; omega
      have hcB := cell_of_one hM.2.1
      have hfB := free_of_one hM.2.1
      have hcP := cell_of_one hM.2.2
      go_cut [7] from 34 to 55 (fun v wx => OwnV wx (B + 1) v (acc ++ l') ∧ wx.heap[B]? = some (.cells #[.int .u32 (c' : Int)] 31 (0, 0)) ∧ wx.heap[P]? = some (.cells #[.int .u32 (c : Int)] 31 (0, 0)) ∧ Gr w wx)
      case first =>
--HEAVY
        go_region_law (first
          | (refine step_append_bytes rfl (.tmp 34) (.tmp 35) rfl (B + 1) u7 acc rfl (OwnV.gr hown0 ?_) a' len' cap' l' rfl (Bs.below hbs (hM.1.trans ?_)) hq (Nat.le_trans hbase (Gr.size ?_)) ?_; (focus ((repeat (first | assumption | exact Gr.refl _ | exact Bss.nil _ | (refine Bss.of_alloc2 ?_ ?_ (by simp; done)) | (refine Bss.of_alloc1 ?_ (by simp; done)) | (refine Bs.below (by assumption) ?_) | (refine Bss.below (by assumption) ?_) | (refine Bss.below ?_ (Gr.alloc (Gr.refl _) _)) | (refine Bss.below ?_ (Gr.drew (Gr.refl _))) | (refine Bss.below ?_ (by assumption)) | (refine Tab.below (by assumption) ?_) | (refine OwnV.gr (by assumption) ?_) | (refine Mid.gr (by assumption) ?_) | (refine Gr.alloc ?_ _) | (refine Gr.drew ?_) | (refine Gr.drewN ?_ _) | (refine Gr.trans ?_ (by assumption)))); done)); (focus ((repeat (first | assumption | exact Gr.refl _ | exact Bss.nil _ | (refine Bss.of_alloc2 ?_ ?_ (by simp; done)) | (refine Bss.of_alloc1 ?_ (by simp; done)) | (refine Bs.below (by assumption) ?_) | (refine Bss.below (by assumption) ?_) | (refine Bss.below ?_ (Gr.alloc (Gr.refl _) _)) | (refine Bss.below ?_ (Gr.drew (Gr.refl _))) | (refine Bss.below ?_ (by assumption)) | (refine Tab.below (by assumption) ?_) | (refine OwnV.gr (by assumption) ?_) | (refine Mid.gr (by assumption) ?_) | (refine Gr.alloc ?_ _) | (refine Gr.drew ?_) | (refine Gr.drewN ?_ _) | (refine Gr.trans ?_ (by assumption)))); done)); (focus ((repeat (first | assumption | exact Gr.refl _ | exact Bss.nil _ | (refine Bss.of_alloc2 ?_ ?_ (by simp; done)) | (refine Bss.of_alloc1 ?_ (by simp; done)) | (refine Bs.below (by assumption) ?_) | (refine Bss.below (by assumption) ?_) | (refine Bss.below ?_ (Gr.alloc (Gr.refl _) _)) | (refine Bss.below ?_ (Gr.drew (Gr.refl _))) | (refine Bss.below ?_ (by assumption)) | (refine Tab.below (by assumption) ?_) | (refine OwnV.gr (by assumption) ?_) | (refine Mid.gr (by assumption) ?_) | (refine Gr.alloc ?_ _) | (refine Gr.drew ?_) | (refine Gr.drewN ?_ _) | (refine Gr.trans ?_ (by assumption)))); done)); intro v5 w5 ho5 hg5 hn5; have hm5 : Mid w B P c w5 := Mid.app (Mid.gr hM (by repeat (first | assumption | exact Gr.refl _ | (refine Gr.alloc ?_ _) | (refine Gr.drew ?_) | (refine Gr.drewN ?_ _) | (refine Gr.trans ?_ (by assumption))))) (OwnV.gr hown0 (by repeat (first | assumption | exact Gr.refl _ | (refine Gr.alloc ?_ _) | (refine Gr.drew ?_) | (refine Gr.drewN ?_ _) | (refine Gr.trans ?_ (by assumption))))) (by omega) (by omega) HPOWN.out hg5; have hc5 := cell_of_one hm5.2.1; have hf5 := free_of_one hm5.2.1; have hg5' := hm5.1; have hl5 := lt_of_block hm5.2.1; have hp5 := lt_of_block hm5.2.2)
          | (go_simp; go_at_call 9; refine (with_any c hclt _ 1 1 [l'] _ (Tab.below htab ?_) ?_).mono ?_; (focus ((repeat (first | assumption | exact Gr.refl _ | exact Bss.nil _ | (refine Bss.of_alloc2 ?_ ?_ (by simp; done)) | (refine Bss.of_alloc1 ?_ (by simp; done)) | (refine Bs.below (by assumption) ?_) | (refine Bss.below (by assumption) ?_) | (refine Bss.below ?_ (Gr.alloc (Gr.refl _) _)) | (refine Bss.below ?_ (Gr.drew (Gr.refl _))) | (refine Bss.below ?_ (by assumption)) | (refine Tab.below (by assumption) ?_) | (refine OwnV.gr (by assumption) ?_) | (refine Mid.gr (by assumption) ?_) | (refine Gr.alloc ?_ _) | (refine Gr.drew ?_) | (refine Gr.drewN ?_ _) | (refine Gr.trans ?_ (by assumption)))); done)); (first | (focus ((repeat (first | assumption | exact Gr.refl _ | exact Bss.nil _ | (refine Bss.of_alloc2 ?_ ?_ (by simp; done)) | (refine Bss.of_alloc1 ?_ (by simp; done)) | (refine Bs.below (by assumption) ?_) | (refine Bss.below (by assumption) ?_) | (refine Bss.below ?_ (Gr.alloc (Gr.refl _) _)) | (refine Bss.below ?_ (Gr.drew (Gr.refl _))) | (refine Bss.below ?_ (by assumption)) | (refine Tab.below (by assumption) ?_) | (refine OwnV.gr (by assumption) ?_) | (refine Mid.gr (by assumption) ?_) | (refine Gr.alloc ?_ _) | (refine Gr.drew ?_) | (refine Gr.drewN ?_ _) | (refine Gr.trans ?_ (by assumption)))); done)) | (focus (refine Bss.of_block1 (t := 22) (a := a') (n := len') (c := cap') (m := (0, 0)) ?_ (Bs.below hbs ?_); (focus (rw [hg5.block W0.heap.size (by simp) (fun e => by have := HPOWN.out _ e.symm; omega)]; exact heap_alloc_new _ _)); (focus ((repeat (first | assumption | exact Gr.refl _ | exact Bss.nil _ | (refine Bss.of_alloc2 ?_ ?_ (by simp; done)) | (refine Bss.of_alloc1 ?_ (by simp; done)) | (refine Bs.below (by assumption) ?_) | (refine Bss.below (by assumption) ?_) | (refine Bss.below ?_ (Gr.alloc (Gr.refl _) _)) | (refine Bss.below ?_ (Gr.drew (Gr.refl _))) | (refine Bss.below ?_ (by assumption)) | (refine Tab.below (by assumption) ?_) | (refine OwnV.gr (by assumption) ?_) | (refine Mid.gr (by assumption) ?_) | (refine Gr.alloc ?_ _) | (refine Gr.drew ?_) | (refine Gr.drewN ?_ _) | (refine Gr.trans ?_ (by assumption)))); done))))); rintro e w6 ⟨rfl, hb6⟩; have hm6 : Mid w B P c w6 := (by (focus ((repeat (first | assumption | exact Gr.refl _ | exact Bss.nil _ | (refine Bss.of_alloc2 ?_ ?_ (by simp; done)) | (refine Bss.of_alloc1 ?_ (by simp; done)) | (refine Bs.below (by assumption) ?_) | (refine Bss.below (by assumption) ?_) | (refine Bss.below ?_ (Gr.alloc (Gr.refl _) _)) | (refine Bss.below ?_ (Gr.drew (Gr.refl _))) | (refine Bss.below ?_ (by assumption)) | (refine Tab.below (by assumption) ?_) | (refine OwnV.gr (by assumption) ?_) | (refine Mid.gr (by assumption) ?_) | (refine Gr.alloc ?_ _) | (refine Gr.drew ?_) | (refine Gr.drewN ?_ _) | (refine Gr.trans ?_ (by assumption)))); done))); have hc6 := cell_of_one hm6.2.1; have hf6 := free_of_one hm6.2.1; have hl6 := lt_of_block hm6.2.1; have hp6 := lt_of_block hm6.2.2))
        all_goals go_wp2
        all_goals go_meet
        all_goals (have h6 := hm6.fin hwB hBP c')
        all_goals (have e6 : crcReg c l' = c' := (by have := HC'.out; simpa using this))
        all_goals (rw [e6])
        all_goals exact ⟨(OwnV.gr ho5 (by repeat (first | assumption | exact Gr.refl _ | (refine Gr.alloc ?_ _) | (refine Gr.drew ?_) | (refine Gr.drewN ?_ _) | (refine Gr.trans ?_ (by assumption))))).low (Nat.lt_succ_self _) _, h6.1, h6.2.1, h6.2.2⟩
--LIGHT
      case rest =>
        obtain ⟨hown1, hB1, hP1, hg1⟩ := hcut
        clear hM hown0 hsz hB0 hcB hfB hcP hbase hc'
        obtain ⟨av, capv, hv, hbv, _⟩ := hown1.bs
        obtain ⟨nl, hnl⟩ : ∃ nl, (acc ++ l').length = nl := ⟨_, rfl⟩
        rw [hnl] at hv hbv
        rw [hv] at hown1 ⊢
        have HNL := Lib.hid hnl
        clear hv hnl
        have hnm : nl ≤ 9223372036854775807 := by have h1 := hbv.2.1; have h2 := hbv.2.2.1; unfold maxLen at h2; omega
        have hcB := cell_of_one hB1
        have hcP := cell_of_one hP1
        have hBl := lt_of_block hB1
        have hPl := lt_of_block hP1
        have HB1 := Lib.hid hB1
        have HP1 := Lib.hid hP1
        clear hB1 hP1
        have hclt' : c' < 4294967296 := by rw [← HC'.out]; exact crcReg_lt _ hclt
        have hcr : crc (acc ++ l') = 4294967295 - c' := by rw [crc, crcReg_append, HC.out]; have := HC'.out; simp at this; rw [this]
        have e6 : crcReg c l' = c' := (by have := HC'.out; simpa using this)
        go_wp2
        go_region_held3 (fun W => W.cell? ⟨B, 0, none⟩ = some (.int .u32 (c' : Int)) ∧ W.cell? ⟨P, 0, none⟩ = some (.int .u32 (c : Int))) (first | go_keep | exact ⟨hc6, hc6'⟩) ((first
          | (go_at_call 9; refine (with_any c hclt _ 1 1 [l'] _ (Tab.below htab ?_) ?_).mono ?_; (focus ((repeat (first | assumption | exact Gr.refl _ | exact Bss.nil _ | (refine Bss.of_alloc2 ?_ ?_ (by simp; done)) | (refine Bss.of_alloc1 ?_ (by simp; done)) | (refine Bs.below (by assumption) ?_) | (refine Bss.below (by assumption) ?_) | (refine Bss.below ?_ (Gr.alloc (Gr.refl _) _)) | (refine Bss.below ?_ (Gr.drew (Gr.refl _))) | (refine Bss.below ?_ (by assumption)) | (refine Tab.below (by assumption) ?_) | (refine OwnV.gr (by assumption) ?_) | (refine Mid.gr (by assumption) ?_) | (refine Gr.alloc ?_ _) | (refine Gr.drew ?_) | (refine Gr.drewN ?_ _) | (refine Gr.trans ?_ (by assumption)))); done)); (focus ((repeat (first | assumption | exact Gr.refl _ | exact Bss.nil _ | (refine Bss.of_alloc2 ?_ ?_ (by simp; done)) | (refine Bss.of_alloc1 ?_ (by simp; done)) | (refine Bs.below (by assumption) ?_) | (refine Bss.below (by assumption) ?_) | (refine Bss.below ?_ (Gr.alloc (Gr.refl _) _)) | (refine Bss.below ?_ (Gr.drew (Gr.refl _))) | (refine Bss.below ?_ (by assumption)) | (refine Tab.below (by assumption) ?_) | (refine OwnV.gr (by assumption) ?_) | (refine Mid.gr (by assumption) ?_) | (refine Gr.alloc ?_ _) | (refine Gr.drew ?_) | (refine Gr.drewN ?_ _) | (refine Gr.trans ?_ (by assumption)))); done)); rintro e w6 ⟨rfl, hb6⟩; have hq6 := Gr.heap (w := w6) (by repeat (first | assumption | exact Gr.refl _ | (refine Gr.alloc ?_ _) | (refine Gr.drew ?_) | (refine Gr.drewN ?_ _) | (refine Gr.trans ?_ (by assumption)))) HB1.out; have hc6 := cell_of_one hq6; have hl6 := lt_of_block hq6; clear hq6; have hq6 := Gr.heap (w := w6) (by repeat (first | assumption | exact Gr.refl _ | (refine Gr.alloc ?_ _) | (refine Gr.drew ?_) | (refine Gr.drewN ?_ _) | (refine Gr.trans ?_ (by assumption)))) HP1.out; have hc6' := cell_of_one hq6; have hl6' := lt_of_block hq6; clear hq6)
          | (go_at_call 10; refine (sum_any c' hclt' _).mono ?_; rintro e w6 ⟨rfl, hb6⟩; have hq6 := Gr.heap (w := w6) (by repeat (first | assumption | exact Gr.refl _ | (refine Gr.alloc ?_ _) | (refine Gr.drew ?_) | (refine Gr.drewN ?_ _) | (refine Gr.trans ?_ (by assumption)))) HB1.out; have hc6 := cell_of_one hq6; have hl6 := lt_of_block hq6; clear hq6; have hq6 := Gr.heap (w := w6) (by repeat (first | assumption | exact Gr.refl _ | (refine Gr.alloc ?_ _) | (refine Gr.drew ?_) | (refine Gr.drewN ?_ _) | (refine Gr.trans ?_ (by assumption)))) HP1.out; have hc6' := cell_of_one hq6; have hl6' := lt_of_block hq6; clear hq6)
          | (go_at_call 11; refine (refSum_any av nl capv (acc ++ l') _ ?_).mono ?_; (focus ((repeat (first | assumption | exact Gr.refl _ | exact Bss.nil _ | (refine Bss.of_alloc2 ?_ ?_ (by simp; done)) | (refine Bss.of_alloc1 ?_ (by simp; done)) | (refine Bs.below (by assumption) ?_) | (refine Bss.below (by assumption) ?_) | (refine Bss.below ?_ (Gr.alloc (Gr.refl _) _)) | (refine Bss.below ?_ (Gr.drew (Gr.refl _))) | (refine Bss.below ?_ (by assumption)) | (refine Tab.below (by assumption) ?_) | (refine OwnV.gr (by assumption) ?_) | (refine Mid.gr (by assumption) ?_) | (refine Gr.alloc ?_ _) | (refine Gr.drew ?_) | (refine Gr.drewN ?_ _) | (refine Gr.trans ?_ (by assumption)))); done)); rintro e w6 ⟨rfl, rfl⟩)))
        go_wp2
        go_roundw
        case rel =>
          refine ⟨k + 1, by omega, by go_num, ?_⟩
          have e : (ls.take (k + 1)).flatten = acc ++ l' := by rw [List.take_add_one, HL.out, List.flatten_append, HACC.out]; simp
          have e2 : crcReg 4294967295 (acc ++ l') = c' := by rw [crcReg_append, HC.out]; exact e6
          rw [e]
          exact ⟨OwnV.gr hown1 (by repeat (first | assumption | exact Gr.refl _ | (refine Gr.alloc ?_ _) | (refine Gr.drew ?_) | (refine Gr.drewN ?_ _) | (refine Gr.trans ?_ (by assumption)))), by rw [e2]; exact Gr.heap (by repeat (first | assumption | exact Gr.refl _ | (refine Gr.alloc ?_ _) | (refine Gr.drew ?_) | (refine Gr.drewN ?_ _) | (refine Gr.trans ?_ (by assumption)))) HB1.out, (by repeat (first | assumption | exact Gr.refl _ | (refine Gr.alloc ?_ _) | (refine Gr.drew ?_) | (refine Gr.drewN ?_ _) | (refine Gr.trans ?_ (by assumption)))), hwB⟩
        case measure => simp [intOf]; omega
    · have hk' : k = len := by omega
      have HALL : Hid (acc = ls.flatten) := by show acc = _; rw [← HACC.out, List.take_of_length_le (by rw [Llen.out]; omega)]
      obtain ⟨av, capv, hv, hbv, _⟩ := hown.bs
      obtain ⟨nl, hnl⟩ : ∃ nl, acc.length = nl := ⟨_, rfl⟩
      rw [hnl] at hv hbv
      rw [hv]
      clear hv hnl hown hcell
      have hnm : nl ≤ 9223372036854775807 := by have h1 := hbv.2.1; have h2 := hbv.2.2.1; unfold maxLen at h2; omega
      have Hk := Lib.hid hk'
      clear hk'
      have hgp := get4_put4 n hn
      have Hgp := Lib.hid hgp
      clear hgp
      by_cases h4 : len2 = 4
      · subst h4
        have hpg := Lib.hid (put4_get4 l hl.1)
        have hglt := get4_lt l
        obtain ⟨x, hx⟩ : ∃ x, get4 l = x := ⟨_, rfl⟩
        rw [hx] at hpg hglt
        have HX := Lib.hid hx
        clear hx
        go_wp2_with fail
        refine (sumGet_any a2 4 cap2 l wr (hl.below hgr)).mono ?_
        rintro e w3 ⟨rfl, hb3⟩
        rw [if_pos rfl, if_pos rfl, HX.out]
        go_wp2_with fail
        refine (sumPut_any n hn w3).mono ?_
        rintro e w4 ⟨v4, rfl, a4, cap4, rfl, hbs4, hfr4, hb4⟩
        go_wp2_with fail
        refine (sumGet_any a4 _ cap4 _ w4 hbs4).mono ?_
        rintro e w5 ⟨rfl, hb5⟩
        rw [if_pos (show (put4 n).length = 4 by rfl), if_pos (show (put4 n).length = 4 by rfl), Hgp.out]
        go_wp2_with fail
        refine (refPut_any x hglt _).mono ?_
        rintro e w5b ⟨v5b, rfl, a5b, cap5b, rfl, hbs5b, hfr5b, hb5b⟩
        rw [hpg.out] at hbs5b ⊢
        obtain ⟨m5, hm5⟩ : ∃ m5, l.length = m5 := ⟨_, rfl⟩
        rw [hm5] at hbs5b ⊢
        clear hm5
        have hsame2 := sameB_self l
        go_wp2_with fail
        refine (same_any a5b a2 m5 cap5b 4 cap2 l l w5b hbs5b (Bs.below hl ?_)).mono ?_
        · (focus ((repeat (first | assumption | exact Gr.refl _ | exact Bss.nil _ | (refine Bss.of_alloc2 ?_ ?_ (by simp; done)) | (refine Bss.of_alloc1 ?_ (by simp; done)) | (refine Bs.below (by assumption) ?_) | (refine Bss.below (by assumption) ?_) | (refine Bss.below ?_ (Gr.alloc (Gr.refl _) _)) | (refine Bss.below ?_ (Gr.drew (Gr.refl _))) | (refine Bss.below ?_ (by assumption)) | (refine Tab.below (by assumption) ?_) | (refine OwnV.gr (by assumption) ?_) | (refine Mid.gr (by assumption) ?_) | (refine Gr.alloc ?_ _) | (refine Gr.drew ?_) | (refine Gr.drewN ?_ _) | (refine Gr.trans ?_ (by assumption)))); done))
        rintro e w5c ⟨rfl, hb5c⟩
        go_wp2_with fail
        refine (sumPut_any n hn _).mono ?_
        rintro e w6 ⟨v6, rfl, a6, cap6, rfl, hbs6, hfr6, hb6⟩
        go_wp2_with fail
        refine (refPut_any n hn _).mono ?_
        rintro e w7 ⟨v7, rfl, a7, cap7, rfl, hbs7, hfr7, hb7⟩
        have hsame := sameB_self (put4 n)
        go_wp2_with fail
        refine (same_any a6 a7 _ cap6 _ cap7 (put4 n) (put4 n) w7 ?_ ?_).mono ?_
        · (focus ((repeat (first | assumption | exact Gr.refl _ | exact Bss.nil _ | (refine Bss.of_alloc2 ?_ ?_ (by simp; done)) | (refine Bss.of_alloc1 ?_ (by simp; done)) | (refine Bs.below (by assumption) ?_) | (refine Bss.below (by assumption) ?_) | (refine Bss.below ?_ (Gr.alloc (Gr.refl _) _)) | (refine Bss.below ?_ (Gr.drew (Gr.refl _))) | (refine Bss.below ?_ (by assumption)) | (refine Tab.below (by assumption) ?_) | (refine OwnV.gr (by assumption) ?_) | (refine Mid.gr (by assumption) ?_) | (refine Gr.alloc ?_ _) | (refine Gr.drew ?_) | (refine Gr.drewN ?_ _) | (refine Gr.trans ?_ (by assumption)))); done))
        · (focus ((repeat (first | assumption | exact Gr.refl _ | exact Bss.nil _ | (refine Bss.of_alloc2 ?_ ?_ (by simp; done)) | (refine Bss.of_alloc1 ?_ (by simp; done)) | (refine Bs.below (by assumption) ?_) | (refine Bss.below (by assumption) ?_) | (refine Bss.below ?_ (Gr.alloc (Gr.refl _) _)) | (refine Bss.below ?_ (Gr.drew (Gr.refl _))) | (refine Bss.below ?_ (by assumption)) | (refine Tab.below (by assumption) ?_) | (refine OwnV.gr (by assumption) ?_) | (refine Mid.gr (by assumption) ?_) | (refine Gr.alloc ?_ _) | (refine Gr.drew ?_) | (refine Gr.drewN ?_ _) | (refine Gr.trans ?_ (by assumption)))); done))
        rintro e w8 ⟨rfl, hb8⟩
        go_wp2_with fail
        refine (of_any a0 len cap ls w8 (Tab.below htab ?_) (Bss.below hs ?_)).mono ?_
        · (focus ((repeat (first | assumption | exact Gr.refl _ | exact Bss.nil _ | (refine Bss.of_alloc2 ?_ ?_ (by simp; done)) | (refine Bss.of_alloc1 ?_ (by simp; done)) | (refine Bs.below (by assumption) ?_) | (refine Bss.below (by assumption) ?_) | (refine Bss.below ?_ (Gr.alloc (Gr.refl _) _)) | (refine Bss.below ?_ (Gr.drew (Gr.refl _))) | (refine Bss.below ?_ (by assumption)) | (refine Tab.below (by assumption) ?_) | (refine OwnV.gr (by assumption) ?_) | (refine Mid.gr (by assumption) ?_) | (refine Gr.alloc ?_ _) | (refine Gr.drew ?_) | (refine Gr.drewN ?_ _) | (refine Gr.trans ?_ (by assumption)))); done))
        · (focus ((repeat (first | assumption | exact Gr.refl _ | exact Bss.nil _ | (refine Bss.of_alloc2 ?_ ?_ (by simp; done)) | (refine Bss.of_alloc1 ?_ (by simp; done)) | (refine Bs.below (by assumption) ?_) | (refine Bss.below (by assumption) ?_) | (refine Bss.below ?_ (Gr.alloc (Gr.refl _) _)) | (refine Bss.below ?_ (Gr.drew (Gr.refl _))) | (refine Bss.below ?_ (by assumption)) | (refine Tab.below (by assumption) ?_) | (refine OwnV.gr (by assumption) ?_) | (refine Mid.gr (by assumption) ?_) | (refine Gr.alloc ?_ _) | (refine Gr.drew ?_) | (refine Gr.drewN ?_ _) | (refine Gr.trans ?_ (by assumption)))); done))
        rintro e w9 ⟨rfl, hb9⟩
        go_wp2_with fail
        refine (refSum_any av nl capv acc w9 ?_).mono ?_
        · (focus ((repeat (first | assumption | exact Gr.refl _ | exact Bss.nil _ | (refine Bss.of_alloc2 ?_ ?_ (by simp; done)) | (refine Bss.of_alloc1 ?_ (by simp; done)) | (refine Bs.below (by assumption) ?_) | (refine Bss.below (by assumption) ?_) | (refine Bss.below ?_ (Gr.alloc (Gr.refl _) _)) | (refine Bss.below ?_ (Gr.drew (Gr.refl _))) | (refine Bss.below ?_ (by assumption)) | (refine Tab.below (by assumption) ?_) | (refine OwnV.gr (by assumption) ?_) | (refine Mid.gr (by assumption) ?_) | (refine Gr.alloc ?_ _) | (refine Gr.drew ?_) | (refine Gr.drewN ?_ _) | (refine Gr.trans ?_ (by assumption)))); done))
        rintro e w10 ⟨rfl, rfl⟩
        rw [HALL.out]
        go_wp2
        go_ret
        exact ⟨rfl, (by repeat (first | assumption | exact Gr.refl _ | (refine Gr.alloc ?_ _) | (refine Gr.drew ?_) | (refine Gr.drewN ?_ _) | (refine Gr.trans ?_ (by assumption))))⟩
      · have hne : ((len2 : Int) != 4) = true := by rw [bne_iff_ne]; omega
        go_wp2_with fail
        refine (sumGet_any a2 len2 cap2 l wr (hl.below hgr)).mono ?_
        rintro e w3 ⟨rfl, hb3⟩
        rw [if_neg h4, if_neg h4]
        go_wp2_with fail
        refine (sumPut_any n hn w3).mono ?_
        rintro e w4 ⟨v4, rfl, a4, cap4, rfl, hbs4, hfr4, hb4⟩
        go_wp2_with fail
        refine (sumGet_any a4 _ cap4 _ w4 hbs4).mono ?_
        rintro e w5 ⟨rfl, hb5⟩
        rw [if_pos (show (put4 n).length = 4 by rfl), if_pos (show (put4 n).length = 4 by rfl), Hgp.out]
        go_wp2_with fail
        refine (sumPut_any n hn _).mono ?_
        rintro e w6 ⟨v6, rfl, a6, cap6, rfl, hbs6, hfr6, hb6⟩
        go_wp2_with fail
        refine (refPut_any n hn _).mono ?_
        rintro e w7 ⟨v7, rfl, a7, cap7, rfl, hbs7, hfr7, hb7⟩
        have hsame := sameB_self (put4 n)
        go_wp2_with fail
        refine (same_any a6 a7 _ cap6 _ cap7 (put4 n) (put4 n) w7 ?_ ?_).mono ?_
        · (focus ((repeat (first | assumption | exact Gr.refl _ | exact Bss.nil _ | (refine Bss.of_alloc2 ?_ ?_ (by simp; done)) | (refine Bss.of_alloc1 ?_ (by simp; done)) | (refine Bs.below (by assumption) ?_) | (refine Bss.below (by assumption) ?_) | (refine Bss.below ?_ (Gr.alloc (Gr.refl _) _)) | (refine Bss.below ?_ (Gr.drew (Gr.refl _))) | (refine Bss.below ?_ (by assumption)) | (refine Tab.below (by assumption) ?_) | (refine OwnV.gr (by assumption) ?_) | (refine Mid.gr (by assumption) ?_) | (refine Gr.alloc ?_ _) | (refine Gr.drew ?_) | (refine Gr.drewN ?_ _) | (refine Gr.trans ?_ (by assumption)))); done))
        · (focus ((repeat (first | assumption | exact Gr.refl _ | exact Bss.nil _ | (refine Bss.of_alloc2 ?_ ?_ (by simp; done)) | (refine Bss.of_alloc1 ?_ (by simp; done)) | (refine Bs.below (by assumption) ?_) | (refine Bss.below (by assumption) ?_) | (refine Bss.below ?_ (Gr.alloc (Gr.refl _) _)) | (refine Bss.below ?_ (Gr.drew (Gr.refl _))) | (refine Bss.below ?_ (by assumption)) | (refine Tab.below (by assumption) ?_) | (refine OwnV.gr (by assumption) ?_) | (refine Mid.gr (by assumption) ?_) | (refine Gr.alloc ?_ _) | (refine Gr.drew ?_) | (refine Gr.drewN ?_ _) | (refine Gr.trans ?_ (by assumption)))); done))
        rintro e w8 ⟨rfl, hb8⟩
        go_wp2_with fail
        refine (of_any a0 len cap ls w8 (Tab.below htab ?_) (Bss.below hs ?_)).mono ?_
        · (focus ((repeat (first | assumption | exact Gr.refl _ | exact Bss.nil _ | (refine Bss.of_alloc2 ?_ ?_ (by simp; done)) | (refine Bss.of_alloc1 ?_ (by simp; done)) | (refine Bs.below (by assumption) ?_) | (refine Bss.below (by assumption) ?_) | (refine Bss.below ?_ (Gr.alloc (Gr.refl _) _)) | (refine Bss.below ?_ (Gr.drew (Gr.refl _))) | (refine Bss.below ?_ (by assumption)) | (refine Tab.below (by assumption) ?_) | (refine OwnV.gr (by assumption) ?_) | (refine Mid.gr (by assumption) ?_) | (refine Gr.alloc ?_ _) | (refine Gr.drew ?_) | (refine Gr.drewN ?_ _) | (refine Gr.trans ?_ (by assumption)))); done))
        · (focus ((repeat (first | assumption | exact Gr.refl _ | exact Bss.nil _ | (refine Bss.of_alloc2 ?_ ?_ (by simp; done)) | (refine Bss.of_alloc1 ?_ (by simp; done)) | (refine Bs.below (by assumption) ?_) | (refine Bss.below (by assumption) ?_) | (refine Bss.below ?_ (Gr.alloc (Gr.refl _) _)) | (refine Bss.below ?_ (Gr.drew (Gr.refl _))) | (refine Bss.below ?_ (by assumption)) | (refine Tab.below (by assumption) ?_) | (refine OwnV.gr (by assumption) ?_) | (refine Mid.gr (by assumption) ?_) | (refine Gr.alloc ?_ _) | (refine Gr.drew ?_) | (refine Gr.drewN ?_ _) | (refine Gr.trans ?_ (by assumption)))); done))
        rintro e w9 ⟨rfl, hb9⟩
        go_wp2_with fail
        refine (refSum_any av nl capv acc w9 ?_).mono ?_
        · (focus ((repeat (first | assumption | exact Gr.refl _ | exact Bss.nil _ | (refine Bss.of_alloc2 ?_ ?_ (by simp; done)) | (refine Bss.of_alloc1 ?_ (by simp; done)) | (refine Bs.below (by assumption) ?_) | (refine Bss.below (by assumption) ?_) | (refine Bss.below ?_ (Gr.alloc (Gr.refl _) _)) | (refine Bss.below ?_ (Gr.drew (Gr.refl _))) | (refine Bss.below ?_ (by assumption)) | (refine Tab.below (by assumption) ?_) | (refine OwnV.gr (by assumption) ?_) | (refine Mid.gr (by assumption) ?_) | (refine Gr.alloc ?_ _) | (refine Gr.drew ?_) | (refine Gr.drewN ?_ _) | (refine Gr.trans ?_ (by assumption)))); done))
        rintro e w10 ⟨rfl, rfl⟩
        rw [HALL.out]
        go_wp2
        go_ret
        exact ⟨rfl, (by repeat (first | assumption | exact Gr.refl _ | (refine Gr.alloc ?_ _) | (refine Gr.drew ?_) | (refine Gr.drewN ?_ _) | (refine Gr.trans ?_ (by assumption))))⟩
end Go.Proofs.YtdmijoochgmhiaaDoor
