/-
  The walk of solve.Holds, where the equation holds.
-/
import Derived.Test.YtdmijoochgmhiacDoorKernComb
import Derived.Test.YtdmijoochgmhiacDoorEqual
namespace Go.Proofs.YtdmijoochgmhiacDoor
open Go.RowKit
set_option linter.unusedVariables false

theorem cells_two {W : World} {R : Nat} {v0 v1 : Value} {t : TypeId} (h : W.heap[R]? = some (.cells #[v0, v1] t)) : W.cell? ⟨R, 0, none⟩ = some v0 ∧ W.cell? ⟨R, 1, none⟩ = some v1 := by
  constructor <;> simp [World.cell?, h]

set_option maxRecDepth 100000 in
set_option maxHeartbeats 1000000 in
theorem hIndexRows_none (b off k cap n p : Nat) (ad : Option Addr) (cd : Nat) (ls : List (List UInt8)) (w : World) (h : Bss w (some ⟨b, off, none⟩) k cap ls) (hn : ∀ l ∈ ls, l.length = n) (hp : w.cell? ⟨p, 1, none⟩ = some (.slice ad n cd)) :
    Calls Tryd.prog 100 #[.slice (some ⟨b, off, none⟩) k cap, .func (.func 92) #[] #[.pointer (some ⟨p, 0, none⟩)]] w fun e w' => e = .returned (.int .i64 (-1)) ∧ Gr w w' := by
  have hm : k ≤ 9223372036854775807 := by have h1 := h.2.1; have h2 := h.2.2.1; unfold maxLen at h2; omega
  have H := Lib.hid h
  have HN := Lib.hid hn
  have HP := Lib.hid hp
  clear h hn hp
  go_enter Tryd.func100, Tryd.ntmps100
  go_wp2
  go_loopw [8] (fun i wr => ∃ j : Nat, j ≤ k ∧ i = .int .i64 j ∧ Gr w wr) (fun i _ => k - (intOf i).toNat)
  case atStart => exact ⟨0, Nat.zero_le _, rfl, Gr.refl _⟩
  case round =>
    obtain ⟨j, hj, rfl, hgr⟩ := hrel
    by_cases hlt : j < k
    · obtain ⟨l, a', n', c', hl, hc, hb⟩ := (H.out.below hgr).get hlt
      have hn' : n' = n := by rw [← hb.1]; exact HN.out l (List.mem_of_getElem? hl)
      rw [hn'] at hc
      have hp := hgr.cell HP.out
      have hne : ((n : Int) != (n : Int)) = false := by simp
      clear hl hb hn'
      go_wp2
      go_roundw
      case rel => exact ⟨j + 1, by omega, by go_num, hgr⟩
      case measure => simp [intOf]; omega
    · have hge : (k : Int) ≤ (j : Int) := by omega
      go_wp2
      go_ret
      exact ⟨rfl, hgr⟩

set_option maxRecDepth 100000 in
set_option maxHeartbeats 1000000 in
theorem hContainsRows_none (b off k cap n p : Nat) (ad : Option Addr) (cd : Nat) (ls : List (List UInt8)) (w : World) (h : Bss w (some ⟨b, off, none⟩) k cap ls) (hn : ∀ l ∈ ls, l.length = n) (hp : w.cell? ⟨p, 1, none⟩ = some (.slice ad n cd)) :
    Calls Tryd.prog 93 #[.slice (some ⟨b, off, none⟩) k cap, .func (.func 92) #[] #[.pointer (some ⟨p, 0, none⟩)]] w fun e w' => e = .returned (.bool false) ∧ Gr w w' := by
  have HC := Lib.hid (hIndexRows_none b off k cap n p ad cd ls w h hn hp)
  clear h hn hp
  go_enter Tryd.func93, Tryd.ntmps93
  go_wp2_with fail
  refine HC.out.mono ?_
  rintro e w1 ⟨rfl, hg⟩
  go_wp2
  go_ret
  exact ⟨rfl, hg⟩

set_option maxRecDepth 100000 in
set_option maxHeartbeats 2000000 in
/-- one equation holds. -/
theorem holds_ok (b off q cap s : Nat) (ls : List (List UInt8)) (av : Option Addr) (kv cv : Nat) (C : List UInt8) (ad : Option Addr) (cd : Nat) (w : World) (h : Bss w (some ⟨b, off, none⟩) q cap ls) (hq : 1 ≤ q) (hn : ∀ l ∈ ls, l.length = s) (hs1 : 1 ≤ s) (hsm : s ≤ 1000000)
    (hv : Bs w av kv cv C) (hkv : kv = q) (hd : Bs w ad s cd (combL C ls s)) :
    Calls Tryd.prog 71 #[.slice (some ⟨b, off, none⟩) q cap, .agg #[.slice av kv cv, .slice ad s cd]] w fun e w' => e = .returned (.bool true) ∧ Gr w w' := by
  subst hkv
  have HK := Lib.hid fun w h1 h2 => comb_ok av cv C (some ⟨b, off, none⟩) kv cap s ls w h1 h2 hq hn hs1 hsm
  have HN := Lib.hid hn
  have H := Lib.hid h
  have HV := Lib.hid hv
  have HD := Lib.hid hd
  obtain ⟨D, eD⟩ : ∃ D, combL C ls s = D := ⟨_, rfl⟩
  rw [eD] at HK HD
  clear h hv hd hn eD
  go_enter Tryd.func71, Tryd.ntmps71
  have hal := (Gr.refl w).alloc (.cells #[.slice av kv cv, .slice ad s cd] 88)
  have hA := heap_alloc_new w (.cells #[.slice av kv cv, .slice ad s cd] 88)
  obtain ⟨x0, x1⟩ := cells_two hA
  go_wp2_with fail
  refine (hContainsRows_none b off kv cap s w.heap.size ad cd ls _ (H.out.below hal) HN.out x1).mono ?_
  rintro e w1 ⟨rfl, hg⟩
  obtain ⟨y0, y1⟩ := cells_two (hg.heap hA)
  have HA := Lib.hid (hg.heap hA)
  have HW1 := Lib.hid (hal.trans hg)
  clear hal hA x0 x1 hg
  go_wp2_with fail
  refine (HK.out w1 (HV.out.below HW1.out) (H.out.below HW1.out)).mono ?_
  rintro e w2 ⟨g, _, rfl, hown, hg⟩
  obtain ⟨z0, z1⟩ := cells_two (hg.heap HA.out)
  have HS := Lib.hid hown.bs
  have HW2 := Lib.hid (HW1.out.trans hg)
  clear hg hown y0 y1
  go_wp2_with fail
  refine (sliceEqual_any (some ⟨g, 0, none⟩) ad s s s cd D D w2 HS.out (HD.out.below HW2.out)).mono ?_
  rintro e w3 ⟨rfl, hg⟩
  rw [sameB_self]
  have HW3 := Lib.hid (HW2.out.trans hg)
  clear hg z0 z1
  go_wp2
  first | go_ret | go_ret2
  exact ⟨rfl, HW3.out⟩

set_option maxRecDepth 100000 in
set_option maxHeartbeats 2000000 in
theorem holdsFn_ok (p : Nat) (b off q cap s : Nat) (ls : List (List UInt8)) (av : Option Addr) (kv cv : Nat) (C : List UInt8) (ad : Option Addr) (cd : Nat) (w : World) (h : Bss w (some ⟨b, off, none⟩) q cap ls) (hq : 1 ≤ q) (hn : ∀ l ∈ ls, l.length = s) (hs1 : 1 ≤ s) (hsm : s ≤ 1000000)
    (hv : Bs w av kv cv C) (hkv : kv = q) (hd : Bs w ad s cd (combL C ls s)) (hp : w.cell? ⟨p, 0, none⟩ = some (.slice (some ⟨b, off, none⟩) q cap)) :
    Calls Tryd.prog 70 #[.agg #[.slice av kv cv, .slice ad s cd], .pointer (some ⟨p, 0, none⟩)] w fun e w' => e = .returned (.bool false) ∧ Gr w w' := by
  have hal := (Gr.refl w).alloc (.cells #[.slice av kv cv, .slice ad s cd] 88)
  have hA := heap_alloc_new w (.cells #[.slice av kv cv, .slice ad s cd] 88)
  obtain ⟨x0, x1⟩ := cells_two hA
  have hp1 := hal.cell hp
  have HK := Lib.hid (holds_ok b off q cap s ls av kv cv C ad cd _ (h.below hal) hq hn hs1 hsm (hv.below hal) hkv (hd.below hal))
  have HAL := Lib.hid hal
  clear h hv hd hn hkv hal hA hp
  go_enter Tryd.func70, Tryd.ntmps70
  go_wp2_with fail
  refine HK.out.mono ?_
  rintro e w1 ⟨rfl, hg⟩
  have hG := HAL.out.trans hg
  clear hg x0 x1 hp1
  go_wp2
  first | go_ret | go_ret2
  exact ⟨rfl, hG⟩

set_option maxRecDepth 100000 in
set_option maxHeartbeats 2000000 in
/-- no row fails. -/
theorem holdsIndex_none (R p : Nat) (b off q cap s : Nat) (ls : List (List UInt8)) (av : Option Addr) (kv cv : Nat) (C : List UInt8) (ad : Option Addr) (cd : Nat) (w : World) (h : Bss w (some ⟨b, off, none⟩) q cap ls) (hq : 1 ≤ q) (hn : ∀ l ∈ ls, l.length = s) (hs1 : 1 ≤ s) (hsm : s ≤ 1000000)
    (hv : Bs w av kv cv C) (hkv : kv = q) (hd : Bs w ad s cd (combL C ls s)) (hp : w.cell? ⟨p, 0, none⟩ = some (.slice (some ⟨b, off, none⟩) q cap)) (hR0 : w.cell? ⟨R, 0, none⟩ = some (.slice av kv cv)) (hR1 : w.cell? ⟨R, 1, none⟩ = some (.slice ad s cd)) :
    Calls Tryd.prog 94 #[.slice (some ⟨R, 0, none⟩) 1 1, .func (.func 70) #[] #[.pointer (some ⟨p, 0, none⟩)]] w fun e w' => e = .returned (.int .i64 (-1)) ∧ Gr w w' := by
  have HK := Lib.hid fun w h h1 h2 hp => holdsFn_ok p b off q cap s ls av kv cv C ad cd w h hq hn hs1 hsm h1 hkv h2 hp
  have H := Lib.hid h
  have HV := Lib.hid hv
  have HD := Lib.hid hd
  have HP := Lib.hid hp
  have HR0 := Lib.hid hR0
  have HR1 := Lib.hid hR1
  clear h hv hd hn hp hR0 hR1 hkv
  go_enter Tryd.func94, Tryd.ntmps94
  go_wp2
  go_loopw [8] (fun i wr => ∃ j : Nat, j ≤ 1 ∧ i = .int .i64 j ∧ Gr w wr) (fun i _ => 1 - (intOf i).toNat)
  case atStart => exact ⟨0, Nat.zero_le _, rfl, Gr.refl _⟩
  case round =>
    obtain ⟨j, hj, rfl, hgr⟩ := hrel
    by_cases hlt : j = 0
    · subst hlt
      have hp := hgr.cell HP.out
      have hr0 := hgr.cell HR0.out
      have hr1 := hgr.cell HR1.out
      have HG := Lib.hid hgr
      clear hgr
      have hG2 := HG.out
      have HK2 := Lib.hid (HK.out _ (H.out.below hG2) (HV.out.below hG2) (HD.out.below hG2) hp)
      clear hG2
      go_wp2_with fail
      refine HK2.out.mono ?_
      rintro e w2 ⟨rfl, hg⟩
      have hG3 := HG.out.trans hg
      clear hg hp hr0 hr1
      go_wp2
      go_roundw
      case rel => exact ⟨1, by omega, by go_num, hG3⟩
      case measure => simp [intOf]
    · obtain rfl : j = 1 := by omega
      go_wp2
      go_ret
      exact ⟨rfl, hgr⟩

set_option maxRecDepth 100000 in
set_option maxHeartbeats 2000000 in
theorem solveHolds_ok (R : Nat) (b off q cap s : Nat) (ls : List (List UInt8)) (av : Option Addr) (kv cv : Nat) (C : List UInt8) (ad : Option Addr) (cd : Nat) (w : World) (h : Bss w (some ⟨b, off, none⟩) q cap ls) (hq : 1 ≤ q) (hn : ∀ l ∈ ls, l.length = s) (hs1 : 1 ≤ s) (hsm : s ≤ 1000000)
    (hv : Bs w av kv cv C) (hkv : kv = q) (hd : Bs w ad s cd (combL C ls s)) (hR0 : w.cell? ⟨R, 0, none⟩ = some (.slice av kv cv)) (hR1 : w.cell? ⟨R, 1, none⟩ = some (.slice ad s cd)) :
    Calls Tryd.prog 38 #[.slice (some ⟨b, off, none⟩) q cap, .slice (some ⟨R, 0, none⟩) 1 1] w fun e w' => e = .returned (.bool true) ∧ Gr w w' := by
  have HK : Hid (∀ (p : Nat) (W : World), Gr w W → W.cell? ⟨p, 0, none⟩ = some (.slice (some ⟨b, off, none⟩) q cap) →
      Calls Tryd.prog 72 #[.slice (some ⟨R, 0, none⟩) 1 1, .func (.func 70) #[] #[.pointer (some ⟨p, 0, none⟩)]] W fun e w' => e = .returned (.bool false) ∧ Gr W w') := by
    show ∀ p W, _
    intro p W hG hp
    have HC := Lib.hid (holdsIndex_none R p b off q cap s ls av kv cv C ad cd W (h.below hG) hq hn hs1 hsm (hv.below hG) hkv (hd.below hG) hp (hG.cell hR0) (hG.cell hR1))
    clear hG hp h hv hd hR0 hR1 hn
    go_enter Tryd.func72, Tryd.ntmps72
    go_wp2_with fail
    refine HC.out.mono ?_
    rintro e w1 ⟨rfl, hg⟩
    go_wp2
    go_ret
    exact ⟨rfl, hg⟩
  clear h hv hd hn hR0 hR1
  go_enter Tryd.func38, Tryd.ntmps38
  have hal := (Gr.refl w).alloc (.cells #[.slice (some ⟨b, off, none⟩) q cap] 25)
  have hA := heap_alloc_new w (.cells #[.slice (some ⟨b, off, none⟩) q cap] 25)
  go_wp2_with fail
  refine (HK.out w.heap.size _ hal (one_cell hA)).mono ?_
  rintro e w1 ⟨rfl, hg⟩
  have hG := hal.trans hg
  clear hal hA hg
  go_wp2
  first | go_ret | go_ret2
  exact ⟨rfl, hG⟩
end Go.Proofs.YtdmijoochgmhiacDoor
