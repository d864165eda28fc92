/-
  The walk of kern.nought, where all rows are of one length.
-/
import Derived.Test.YtdmijoochgmhiacDoorKernPut
import Derived.FnLit
import Derived.Test.YtdmijoochgmhiacDoorCut
namespace Go.Proofs.YtdmijoochgmhiacDoor
open Go.RowKit
set_option linter.unusedVariables false

theorem one_cell {w : World} {b : Nat} {v : Value} {t : TypeId} (h : w.heap[b]? = some (.cells #[v] t)) : w.cell? ⟨b, 0, none⟩ = some v := by simp [World.cell?, h]

set_option maxRecDepth 100000 in
set_option maxHeartbeats 1000000 in
theorem indexRows_none (b off k cap n p : Nat) (ls : List (List UInt8)) (w : World) (h : Bss w (some ⟨b, off, none⟩) k cap ls) (hn : ∀ l ∈ ls, l.length = n) (hp : w.cell? ⟨p, 0, none⟩ = some (.int .i64 (n : Int))) :
    Calls Tryd.prog 100 #[.slice (some ⟨b, off, none⟩) k cap, .func (.func 97) #[] #[.pointer (some ⟨p, 0, none⟩)]] w fun e w' => e = .returned (.int .i64 (-1)) ∧ Gr w w' := by
  have hm : k ≤ 9223372036854775807 := by have h1 := h.2.1; have h2 := h.2.2.1; unfold maxLen at h2; omega
  have H := Lib.hid h
  have HN := Lib.hid hn
  have HP := Lib.hid hp
  clear h hn hp
  go_enter Tryd.func100, Tryd.ntmps100
  go_wp2
  go_loopw [8] (fun i wr => ∃ j : Nat, j ≤ k ∧ i = .int .i64 j ∧ Gr w wr) (fun i _ => k - (intOf i).toNat)
  case atStart => exact ⟨0, Nat.zero_le _, rfl, Gr.refl _⟩
  case round =>
    obtain ⟨j, hj, rfl, hgr⟩ := hrel
    by_cases hlt : j < k
    · obtain ⟨l, a', n', c', hl, hc, hb⟩ := (H.out.below hgr).get hlt
      have hn' : n' = n := by rw [← hb.1]; exact HN.out l (List.mem_of_getElem? hl)
      rw [hn'] at hc
      have hp := hgr.cell HP.out
      have hne : ((n : Int) != (n : Int)) = false := by simp
      clear hl hb hn'
      go_wp2
      go_roundw
      case rel => exact ⟨j + 1, by omega, by go_num, hgr⟩
      case measure => simp [intOf]; omega
    · have hge : (k : Int) ≤ (j : Int) := by omega
      go_wp2
      go_ret
      exact ⟨rfl, hgr⟩

set_option maxRecDepth 100000 in
set_option maxHeartbeats 1000000 in
theorem containsRows_none (b off k cap n p : Nat) (ls : List (List UInt8)) (w : World) (h : Bss w (some ⟨b, off, none⟩) k cap ls) (hn : ∀ l ∈ ls, l.length = n) (hp : w.cell? ⟨p, 0, none⟩ = some (.int .i64 (n : Int))) :
    Calls Tryd.prog 93 #[.slice (some ⟨b, off, none⟩) k cap, .func (.func 97) #[] #[.pointer (some ⟨p, 0, none⟩)]] w fun e w' => e = .returned (.bool false) ∧ Gr w w' := by
  have HC := Lib.hid (indexRows_none b off k cap n p ls w h hn hp)
  clear h hn hp
  go_enter Tryd.func93, Tryd.ntmps93
  go_wp2_with fail
  refine HC.out.mono ?_
  rintro e w1 ⟨rfl, hg⟩
  go_wp2
  go_ret
  exact ⟨rfl, hg⟩

set_option maxRecDepth 100000 in
set_option maxHeartbeats 2000000 in
theorem nought_ok (a : Option Addr) (k cap n : Nat) (ls : List (List UInt8)) (w : World) (h : Bss w a k cap ls) (hk : 1 ≤ k) (hn : ∀ l ∈ ls, l.length = n) (hn1 : 1 ≤ n) (hnm : n ≤ 1000000) :
    Calls Tryd.prog 85 #[.slice a k cap] w fun e w' => ∃ g, w.heap.size ≤ g ∧ e = .returned (.tuple #[.slice (some ⟨g, 0, none⟩) n n, .int .i64 0]) ∧ OwnB w' w.heap.size g n n (List.replicate n 0) ∧ Gr w w' := by
  have hm : k ≤ 9223372036854775807 := by have h1 := h.2.1; have h2 := h.2.2.1; unfold maxLen at h2; omega
  obtain ⟨b, off, rfl, _⟩ := h.at_ (by omega)
  obtain ⟨l0, a0, n0, c0, hl0, hc0, hb0⟩ := h.get (i := 0) (by omega)
  have hn0 : n0 = n := by rw [← hb0.1]; exact hn l0 (List.mem_of_getElem? hl0)
  rw [hn0] at hc0
  rw [Nat.add_zero] at hc0
  have hkt : ((k : Int) == 0) = false := by rw [beq_eq_false_iff_ne]; omega
  have hk0 : (0 : Int) < (k : Int) := by omega
  have H := Lib.hid h
  have HN := Lib.hid hn
  clear h hn hl0 hb0 hn0
  go_enter Tryd.func85, Tryd.ntmps85
  go_wp2_with fail
  have hal := (Gr.refl w).alloc (.cells #[.int .i64 (n : Int)] 3)
  have hP := heap_alloc_new w (.cells #[.int .i64 (n : Int)] 3)
  refine (containsRows_none b off k cap n w.heap.size ls _ (H.out.below hal) HN.out (one_cell hP)).mono ?_
  rintro e w1 ⟨rfl, hg⟩
  have hp1 := one_cell (hg.heap hP)
  have hgw := hal.trans hg
  obtain ⟨i0, hi0, hz0, hz1, hz2⟩ := info_parts infoByte
  clear hal hP hg
  go_wp2_with (at_make; refine wpList_make_full _ rfl (.tmp 17) (.tmp 17) 35 rfl w.heap.size 5 i0 (.int .u8 0) 1 Tryd.underlying35 hi0 hz0 hz1 .i64 .i64 (n : Int) (n : Int) n rfl rfl rfl rfl (by rw [hz2]; omega) (by unfold maxLen; omega) hgw.size ?_; intro w2 hown hgrow; rw [made_bytes] at hown; have hG : Gr w w2 := hgw.grown hgrow (fun k hk => by cases hk); clear hgrow)
  go_wp2
  first | go_ret | go_ret2
  exact ⟨_, hgw.size, rfl, hown, hG⟩
end Go.Proofs.YtdmijoochgmhiacDoor
