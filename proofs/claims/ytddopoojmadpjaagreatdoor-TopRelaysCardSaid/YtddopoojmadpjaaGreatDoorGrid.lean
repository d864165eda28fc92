/-
  The walks of grid.Of: rows that are all as wide as they should.
-/
import Derived.Test.YtddopoojmadpjaaGreatDoorObject1
import Derived.Test.YtddopoojmadpjaaGreatDoorRowNorm
namespace Go.Proofs.YtddopoojmadpjaaGreatDoor
open Go.RowKit
set_option linter.unusedVariables false

set_option maxRecDepth 100000 in
set_option maxHeartbeats 1000000 in
theorem rIndexRows_none (a : Option Addr) (k cap n p : Nat) (ls : List (List UInt8)) (w : World) (h : Bss w a k cap ls) (hn : ∀ l ∈ ls, l.length = n) (hp : w.cell? ⟨p, 0, none⟩ = some (.int .i64 (n : Int))) :
    Calls Tryz.prog 89 #[.slice a k cap, .func (.func 47) #[] #[.pointer (some ⟨p, 0, none⟩)]] w fun e w' => e = .returned (.int .i64 (-1)) ∧ Gr w w' := by
  have hm : k ≤ 9223372036854775807 := by have h1 := h.2.1; have h2 := h.2.2.1; unfold maxLen at h2; omega
  have H := Lib.hid h
  have HN := Lib.hid hn
  have HP := Lib.hid hp
  clear h hn hp
  go_enter Tryz.func89, Tryz.ntmps89
  go_wp2
  go_loopw [8] (fun i wr => ∃ j : Nat, j ≤ k ∧ i = .int .i64 j ∧ Gr w wr) (fun i _ => k - (intOf i).toNat)
  case atStart => exact ⟨0, Nat.zero_le _, rfl, Gr.refl _⟩
  case round =>
    obtain ⟨j, hj, rfl, hgr⟩ := hrel
    by_cases hlt : j < k
    · obtain ⟨b, off, rfl, _⟩ := H.out.at_ (by omega)
      obtain ⟨l, a', n', c', hl, hc, hb⟩ := (H.out.below hgr).get hlt
      have hn' : n' = n := by rw [← hb.1]; exact HN.out l (List.mem_of_getElem? hl)
      rw [hn'] at hc
      have hp := hgr.cell HP.out
      have hne : ((n : Int) != (n : Int)) = false := by simp
      clear hl hb hn'
      go_wp2
      go_roundw
      case rel => exact ⟨j + 1, by omega, by go_num, hgr⟩
      case measure => simp [intOf]; omega
    · have hge : (k : Int) ≤ (j : Int) := by omega
      go_wp2
      go_ret
      exact ⟨rfl, hgr⟩

set_option maxRecDepth 100000 in
set_option maxHeartbeats 1000000 in
theorem rContainsRows_none (a : Option Addr) (k cap n p : Nat) (ls : List (List UInt8)) (w : World) (h : Bss w a k cap ls) (hn : ∀ l ∈ ls, l.length = n) (hp : w.cell? ⟨p, 0, none⟩ = some (.int .i64 (n : Int))) :
    Calls Tryz.prog 48 #[.slice a k cap, .func (.func 47) #[] #[.pointer (some ⟨p, 0, none⟩)]] w fun e w' => e = .returned (.bool false) ∧ Gr w w' := by
  have HC := Lib.hid (rIndexRows_none a k cap n p ls w h hn hp)
  clear h hn hp
  go_enter Tryz.func48, Tryz.ntmps48
  go_wp2_with fail
  refine HC.out.mono ?_
  rintro e w1 ⟨rfl, hg⟩
  go_wp2
  go_ret
  exact ⟨rfl, hg⟩

set_option maxRecDepth 100000 in
set_option maxHeartbeats 400000 in
theorem sliceGrow_none (w : World) :
    Calls Tryz.prog 90 #[.slice none 0 0, .int .i64 0] w fun e w' => e = .returned (.slice none 0 0) ∧ Gr w w' := by
  go_enter Tryz.func90, Tryz.ntmps90
  go_wp2
  go_ret
  exact ⟨rfl, Gr.refl w⟩
set_option maxRecDepth 100000 in
set_option maxHeartbeats 1000000 in
theorem sliceConcat_none (a : Option Addr) (cap : Nat) (w : World) :
    Calls Tryz.prog 49 #[.slice a 0 cap] w fun e w' => e = .returned (.slice none 0 0) ∧ Gr w w' := by
  go_enter Tryz.func49, Tryz.ntmps49
  go_wp2
  go_loop [3, 11] (fun s i => i = .int .i64 0 ∧ s = .int .i64 0) (fun _ i => 0)
  case atStart => exact ⟨rfl, rfl⟩
  case round =>
    obtain ⟨rfl, rfl⟩ := hrel
    go_wp2_with fail
    refine (sliceGrow_none w).mono ?_
    rintro e w1 ⟨rfl, hg1⟩
    go_wp2
    go_loopw [6, 27] (fun v i wr => v = .slice none 0 0 ∧ i = .int .i64 0 ∧ Gr w wr) (fun _ i _ => 0)
    case atStart => exact ⟨rfl, rfl, hg1⟩
    case round =>
      obtain ⟨rfl, rfl, hg⟩ := hrel
      go_wp2
      go_ret
      exact ⟨rfl, hg⟩
theorem concat_all (a : Option Addr) (len cap : Nat) (ls : List (List UInt8)) (t : Nat) (ht : ls.flatten.length = t) (h0 : len = 0 ∨ 0 < t) (hmx : t ≤ 140737488355328) (w : World) (hs : Bss w a len cap ls) :
    Calls Tryz.prog 49 #[.slice a len cap] w fun e w' => ∃ a' c', e = .returned (.slice a' t c') ∧ Bs w' a' t c' ls.flatten ∧ Gr w w' := by
  rcases h0 with rfl | h0
  · obtain rfl : ls = [] := List.eq_nil_of_length_eq_zero hs.1
    obtain rfl : t = 0 := ht.symm
    refine (sliceConcat_none a cap w).mono ?_
    rintro e w' ⟨rfl, hg⟩
    exact ⟨none, 0, rfl, Bs.nil _, hg⟩
  · refine (sliceConcat_own a len cap ls t ht h0 hmx w hs).mono ?_
    rintro e w' ⟨v, rfl, ho, hg⟩
    obtain ⟨a', c', rfl, hb⟩ := ho.slice
    rw [ht] at hb ⊢
    exact ⟨a', c', rfl, hb, hg⟩

set_option maxRecDepth 100000 in
set_option maxHeartbeats 2000000 in
theorem gridOf_ok (R : Nat) (hR1 : 1 ≤ R) (hR2 : R ≤ 1000) (a : Option Addr) (len cap : Nat) (hlen : len ≤ 60) (ls : List (List UInt8)) (w : World) (h : Bss w a len cap ls) (hn : ∀ l ∈ ls, l.length = R) :
    Calls Tryz.prog 22 #[.int .i64 (R : Int), .slice a len cap] w fun e w' => ∃ a' c', e = .returned (.tuple #[.agg #[.int .i64 (len : Int), .int .i64 (R : Int), .slice a' (len * R) c'], .int .i64 0]) ∧ Bs w' a' (len * R) c' ls.flatten ∧ Gr w w' := by
  have hfl : ls.flatten.length = len * R := by rw [flatten_same hn, h.1]
  have hq0 : len = 0 ∨ 0 < len * R := by
    by_cases h0 : len = 0
    · exact .inl h0
    · exact .inr (Nat.mul_pos (by omega) (by omega))
  have hqs : len * R ≤ 60 * 1000 := Nat.mul_le_mul hlen hR2
  have HC := Lib.hid fun p w h hp => rContainsRows_none a len cap R p ls w h hn hp
  have HK := Lib.hid fun w h => concat_all a len cap ls (len * R) hfl hq0 (by omega) w h
  have H := Lib.hid h
  have hmi : ((len : Int) * (R : Int)) = ((len * R : Nat) : Int) := by simp
  have hmle : ¬ (65536 : Int) < (len : Int) * (R : Int) := by rw [hmi]; omega
  have hal := (Gr.refl w).alloc (.cells #[.int .i64 (R : Int)] 3)
  have HAL := Lib.hid hal
  clear h hn hal hfl hq0
  obtain ⟨Q, eQ⟩ : ∃ x, len * R = x := ⟨_, rfl⟩
  rw [eQ] at HK hqs ⊢
  go_enter Tryz.func22, Tryz.ntmps22
  have HAL2 := Lib.hid (HAL.out.alloc (.cells #[.int .i64 0, .int .i64 0, .slice none 0 0] 62))
  have hP := Gr.heap ((Gr.refl _).alloc (.cells #[.int .i64 0, .int .i64 0, .slice none 0 0] 62)) (heap_alloc_new w (.cells #[.int .i64 (R : Int)] 3))
  have HPP := Lib.hid hP
  have hG := heap_alloc_new (w.alloc (.cells #[.int .i64 (R : Int)] 3)) (.cells #[.int .i64 0, .int .i64 0, .slice none 0 0] 62)
  rw [World.size_alloc] at hG
  have HGG := Lib.hid hG
  clear hP hG
  go_wp2_with fail
  refine (HC.out _ _ (H.out.below HAL2.out) (one_cell HPP.out)).mono ?_
  rintro e w1 ⟨rfl, hg⟩
  have HW1 := Lib.hid (HAL2.out.trans hg)
  have HPP1 := Lib.hid (hg.heap HPP.out)
  have HGG1 := Lib.hid (hg.heap HGG.out)
  have hp := one_cell HPP1.out
  clear hg
  go_wp2
  have hup : Nonempty (Up Gr w1.drew) := ⟨⟨_, Gr.refl _⟩⟩
  have u0 : ∀ x : Up Gr w1.drew, x.w.cell? ⟨w.heap.size, 0, none⟩ = some (.int .i64 (R : Int)) := fun x => gr_st x.rel hp
  clear hp
  refine wp_region_rg [.reck, .reck, .reck, .reck, .any (Option Addr × Nat) (none, 0) (fun x => .slice x.1 Q x.2) (fun x W => Bs W x.1 Q x.2 ls.flatten), .reck] Gr (by kernel_rfl) (by kernel_rfl) Gr.refl (fun _ _ _ => Gr.trans) ?_
  (refine wpRG_reck rfl (fun K hK => ?_); go_big_quiet_op; refine hK _ ?_; clear hK K)
  (refine wpRG_reck rfl (fun K hK => ?_); go_big_quiet_op; refine hK _ ?_; clear hK K)
  (refine wpRG_reck rfl (fun K hK => ?_); go_big_quiet_op; refine hK _ ?_; clear hK K)
  (refine wpRG_reck rfl (fun K hK => ?_); go_big_quiet_op; refine hK _ ?_; clear hK K)
  refine wpRG_any rfl (fun x w w' hg h => h.below hg) (fun W hw hF R hR => ?_) ?_
  · (have HF := Lib.hid hF; clear hF; unfold rgAt; go_simp)
    show Calls _ _ _ _ _
    have hb := HW1.out.trans (((Gr.refl w1).drew).trans hw)
    refine (HK.out W (H.out.below hb)).mono ?_
    rintro e w6 ⟨a6, c6, rfl, hb6, hg6⟩
    exact ⟨_, rfl, hR (a6, c6) _ hg6 hb6⟩
  rintro ⟨a6, c6⟩
  (simp only [Act.put, List.setIfInBounds_toArray, List.set_cons_zero, List.set_cons_succ])
  (refine wpRG_reck rfl (fun K hK => ?_); go_big_quiet_op; refine hK _ ?_; clear hK K)
  refine wpRG_end fun W hw hF => ?_
  have hb6 : Bs W a6 Q c6 ls.flatten := hF 4
  have hgW := ((Gr.refl w1).drew).trans hw
  have hGW := hgW.heap HGG1.out
  have hlt := lt_of_block HPP1.out
  obtain ⟨hgb, hh⟩ := three_set hGW (.int .i64 (len : Int)) (.int .i64 (R : Int)) (.slice a6 Q c6)
  obtain ⟨z0, z1, z2, zf⟩ := three_cells hGW
  obtain ⟨y0, y1, y2, yf⟩ := three_cells hh
  have HB6 := Lib.hid (hb6.gap hgb hGW (fun j u => by match j with | 0 => simp | 1 => simp | 2 => simp | j + 3 => simp))
  have HGF := Lib.hid ((HW1.out.trans hgW).grb hgb (by omega))
  clear hgb hh hF hw hb6 hgW hGW u0 hup
  go_wp2
  refine bodyPost_ret (v := .tuple #[.agg #[.int .i64 (len : Int), .int .i64 (R : Int), .slice a6 Q c6], .int .i64 0]) ?_ rfl ⟨a6, c6, rfl, HB6.out, HGF.out⟩
  simp [results, Tryz.results22, go_sem, y0, y1, y2]

/-- a row of them. -/
theorem Bs.sub {w : World} {b off n c : Nat} {l : List UInt8} (h : Bs w (some ⟨b, off, none⟩) n c l) {i k : Nat} (hi : i + k ≤ n) : Bs w (some ⟨b, off + i, none⟩) k (c - i) ((l.drop i).take k) := by
  have h1 := h.1
  have h2 := h.2.1
  have h3 := h.2.2.1
  have hd := h.drop (k := i) (by omega)
  have ht := hd.take (k := k) (by omega)
  exact ht
theorem flat_row {ls : List (List UInt8)} {R : Nat} (h : ∀ l ∈ ls, l.length = R) : ∀ {i : Nat} {l : List UInt8}, ls[i]? = some l → (ls.flatten.drop (i * R)).take R = l := by
  induction ls with
  | nil => intro i l hl; simp at hl
  | cons a r ih =>
    intro i l hl
    have ha := h a List.mem_cons_self
    cases i with
    | zero =>
      simp at hl; subst hl
      rw [List.flatten_cons, Nat.zero_mul, List.drop_zero, ← ha, List.take_left]
    | succ i =>
      simp at hl
      rw [List.flatten_cons, show (i + 1) * R = a.length + i * R by rw [ha, Nat.add_mul, Nat.one_mul, Nat.add_comm], ← List.drop_drop, List.drop_left]
      exact ih (fun l hl => h l (List.mem_cons_of_mem _ hl)) hl

set_option maxRecDepth 100000 in
set_option maxHeartbeats 1000000 in
theorem gridRow_ok (H R i b off c : Nat) (hH : H ≤ 1000) (hR : R ≤ 1000) (hR1 : 1 ≤ R) (hi : i < H) (l : List UInt8) (w : World) (h : Bs w (some ⟨b, off, none⟩) (H * R) c l) :
    Calls Tryz.prog 51 #[.agg #[.int .i64 (H : Int), .int .i64 (R : Int), .slice (some ⟨b, off, none⟩) (H * R) c], .int .i64 (i : Int)] w fun e w' => e = .returned (.slice (some ⟨b, off + i * R, none⟩) R (c - i * R)) ∧ Gr w w' := by
  have hal := (Gr.refl w).alloc (.cells #[.int .i64 (H : Int), .int .i64 (R : Int), .slice (some ⟨b, off, none⟩) (H * R) c] 62)
  obtain ⟨x0, x1, x2, xf⟩ := three_all (heap_alloc_new w (.cells #[.int .i64 (H : Int), .int .i64 (R : Int), .slice (some ⟨b, off, none⟩) (H * R) c] 62))
  have h2 := h.2.1
  have h3 := h.2.2.1
  unfold maxLen at h3
  have hle : (i + 1) * R ≤ H * R := Nat.mul_le_mul_right R (by omega)
  have hHR : H * R ≤ 1000 * 1000 := Nat.mul_le_mul hH hR
  have e1 : ((i + 1 : Nat) : Int) * (R : Int) = (((i + 1) * R : Nat) : Int) := by simp
  have e0 : (i : Int) * (R : Int) = ((i * R : Nat) : Int) := by simp
  have es : (i + 1) * R = i * R + R := by rw [Nat.add_mul, Nat.one_mul]
  have e1' : ((i : Int) + 1) * (R : Int) = ((i * R + R : Nat) : Int) := by rw [← es, ← e1]; simp
  obtain ⟨Q, eQ⟩ : ∃ x, i * R = x := ⟨_, rfl⟩
  rw [eQ] at e0 es e1' ⊢
  rw [es] at hle
  obtain ⟨N, eN⟩ : ∃ x, H * R = x := ⟨_, rfl⟩
  rw [eN] at hle hHR x2 hal ⊢
  have hb : 0 ≤ (Q : Int) + (R : Int) ∧ (Q : Int) + (R : Int) ≤ (c : Int) := by omega
  have hcq : ¬ c = Q := by omega
  have HAL := Lib.hid hal
  clear h eQ eN e1 es hal
  go_enter Tryz.func51, Tryz.ntmps51
  go_wp2
  first | go_ret | go_ret2
  exact ⟨by show Ending.returned (.slice _ (Q + R - Q) _) = _; rw [Nat.add_sub_cancel_left], HAL.out⟩
set_option maxRecDepth 100000 in
set_option maxHeartbeats 4000000 in
theorem put_nil (c : Nat) (hc : c < 256) (ad : Option Addr) (cd : Nat) (a : Option Addr) (cap' : Nat) (w : World) :
    Calls Tryz.prog 69 #[.slice ad 0 cd, .int .u8 (c : Int), .slice a 0 cap'] w fun e w' => e = .returned (.tuple #[]) ∧ Gr w w' := by
  go_enter Tryz.func69, Tryz.ntmps69
  go_wp2_with fail
  refine (halves_any c hc w).mono ?_
  rintro e w1 ⟨rfl, hg1⟩
  go_wp2_with (with_reducible refine wpList_hold (o := ⟨none, .store 183 _ _, _, _, _, _⟩) ?_)
  change wpList _ _ _ _ _ _
  have hl1 := ((Gr.refl w1).alloc (.cells #[.int .u8 0, .int .u8 0, .int .u8 0, .int .u8 0, .int .u8 0, .int .u8 0, .int .u8 0, .int .u8 0, .int .u8 0, .int .u8 0, .int .u8 0, .int .u8 0, .int .u8 0, .int .u8 0, .int .u8 0, .int .u8 0] 183)).alloc (.cells #[.int .u8 0, .int .u8 0, .int .u8 0, .int .u8 0, .int .u8 0, .int .u8 0, .int .u8 0, .int .u8 0, .int .u8 0, .int .u8 0, .int .u8 0, .int .u8 0, .int .u8 0, .int .u8 0, .int .u8 0, .int .u8 0] 183)
  have e0 : ((w1.alloc (.cells #[.int .u8 0, .int .u8 0, .int .u8 0, .int .u8 0, .int .u8 0, .int .u8 0, .int .u8 0, .int .u8 0, .int .u8 0, .int .u8 0, .int .u8 0, .int .u8 0, .int .u8 0, .int .u8 0, .int .u8 0, .int .u8 0] 183)).alloc (.cells #[.int .u8 0, .int .u8 0, .int .u8 0, .int .u8 0, .int .u8 0, .int .u8 0, .int .u8 0, .int .u8 0, .int .u8 0, .int .u8 0, .int .u8 0, .int .u8 0, .int .u8 0, .int .u8 0, .int .u8 0, .int .u8 0] 183)).heap[w1.heap.size]? = some (.cells (arr fun _ => 0) 183) := Gr.heap ((Gr.refl _).alloc (.cells #[.int .u8 0, .int .u8 0, .int .u8 0, .int .u8 0, .int .u8 0, .int .u8 0, .int .u8 0, .int .u8 0, .int .u8 0, .int .u8 0, .int .u8 0, .int .u8 0, .int .u8 0, .int .u8 0, .int .u8 0, .int .u8 0] 183)) (heap_alloc_new w1 (.cells #[.int .u8 0, .int .u8 0, .int .u8 0, .int .u8 0, .int .u8 0, .int .u8 0, .int .u8 0, .int .u8 0, .int .u8 0, .int .u8 0, .int .u8 0, .int .u8 0, .int .u8 0, .int .u8 0, .int .u8 0, .int .u8 0] 183))
  have e1 : ((w1.alloc (.cells #[.int .u8 0, .int .u8 0, .int .u8 0, .int .u8 0, .int .u8 0, .int .u8 0, .int .u8 0, .int .u8 0, .int .u8 0, .int .u8 0, .int .u8 0, .int .u8 0, .int .u8 0, .int .u8 0, .int .u8 0, .int .u8 0] 183)).alloc (.cells #[.int .u8 0, .int .u8 0, .int .u8 0, .int .u8 0, .int .u8 0, .int .u8 0, .int .u8 0, .int .u8 0, .int .u8 0, .int .u8 0, .int .u8 0, .int .u8 0, .int .u8 0, .int .u8 0, .int .u8 0, .int .u8 0] 183)).heap[w1.heap.size + 1]? = some (.cells (arr fun _ => 0) 183) := by
    have := heap_alloc_new (w1.alloc (.cells #[.int .u8 0, .int .u8 0, .int .u8 0, .int .u8 0, .int .u8 0, .int .u8 0, .int .u8 0, .int .u8 0, .int .u8 0, .int .u8 0, .int .u8 0, .int .u8 0, .int .u8 0, .int .u8 0, .int .u8 0, .int .u8 0] 183)) (.cells #[.int .u8 0, .int .u8 0, .int .u8 0, .int .u8 0, .int .u8 0, .int .u8 0, .int .u8 0, .int .u8 0, .int .u8 0, .int .u8 0, .int .u8 0, .int .u8 0, .int .u8 0, .int .u8 0, .int .u8 0, .int .u8 0] 183)
    rw [World.size_alloc] at this
    exact this
  have hs1 := hg1.size
  obtain ⟨W1, eW⟩ : ∃ W, (w1.alloc (.cells #[.int .u8 0, .int .u8 0, .int .u8 0, .int .u8 0, .int .u8 0, .int .u8 0, .int .u8 0, .int .u8 0, .int .u8 0, .int .u8 0, .int .u8 0, .int .u8 0, .int .u8 0, .int .u8 0, .int .u8 0, .int .u8 0] 183)).alloc (.cells #[.int .u8 0, .int .u8 0, .int .u8 0, .int .u8 0, .int .u8 0, .int .u8 0, .int .u8 0, .int .u8 0, .int .u8 0, .int .u8 0, .int .u8 0, .int .u8 0, .int .u8 0, .int .u8 0, .int .u8 0, .int .u8 0] 183) = W := ⟨_, rfl⟩
  rw [eW] at hl1 e0 e1 ⊢
  obtain ⟨B1, eB1⟩ : ∃ b, w1.heap.size + 1 = b := ⟨_, rfl⟩
  obtain ⟨B0, eB0⟩ : ∃ b, w1.heap.size = b := ⟨_, rfl⟩
  have hB01 : B0 < B1 := by omega
  have hwB : w.heap.size ≤ B0 := by omega
  rw [eB1] at e1
  rw [eB0] at e0
  rw [eB1, eB0]
  have h01 := hg1.trans hl1
  clear eW eB1 eB0 hg1 hl1 hs1
  refine wpList_store_row rfl 183 (.tmp 6) (.tmp 13) rfl B0 (arr (loT c)) rfl rfl _ _ e0 (by rw [infoArr, arr_size]) (by rw [arr_size, arr_size]) (arr_one _) ?_
  obtain ⟨s1, s2⟩ := setRow_grb (cs := arr (loT c)) e0
  have e1' := s1.heap e1 (by omega)
  obtain ⟨W2, eW⟩ : ∃ W, W1.setRow B0 (arr (loT c)) = W := ⟨_, rfl⟩
  rw [eW] at s1 s2 e1' ⊢
  refine wpList_store_row rfl 183 (.tmp 7) (.tmp 14) rfl B1 (arr (hiT c)) rfl rfl _ _ e1' (by rw [infoArr, arr_size]) (by rw [arr_size, arr_size]) (arr_one _) ?_
  obtain ⟨t1, t2⟩ := setRow_grb (cs := arr (hiT c)) e1'
  have e0' := t1.heap s2 (by omega)
  obtain ⟨W3, eW3⟩ : ∃ W, W2.setRow B1 (arr (hiT c)) = W := ⟨_, rfl⟩
  rw [eW3] at t1 t2 e0' ⊢
  have h03 : Gr w W3 := (h01.grb s1 hwB).grb t1 (by omega)
  have HLO := Lib.hid e0'
  have HHI := Lib.hid t2
  have HG3 := Lib.hid h03
  have hs3 := lt_of_block t2
  clear eW eW3 e0 e1 s1 s2 e1' t1 t2 e0' h01 h03
  go_wp2
  go_loopw [17] (fun i wr => i = .int .i64 0 ∧ wr = W3) (fun i _ => 0)
  case atStart => exact ⟨rfl, rfl⟩
  case round =>
    obtain ⟨rfl, rfl⟩ := hrel
    go_wp2
    first | go_ret | go_end0 | go_ret2
    exact ⟨rfl, HG3.out⟩
theorem Fr.nil_ {w : World} {base : Nat} {v : Value} (h : OwnV w base v []) : ∃ a c, v = .slice a 0 c ∧ Fr w base a 0 c [] := by
  obtain ⟨a, c, hv, hb, ha⟩ := h.bs
  exact ⟨a, c, hv, hb, ha⟩
set_option maxRecDepth 100000 in
set_option maxHeartbeats 2000000 in
theorem kernAxpy_nil (c : UInt8) (ax : Option Addr) (capx : Nat) (ay : Option Addr) (capy : Nat) (w : World) (hy : Bs w ay 0 capy []) :
    Calls Tryz.prog 88 #[.int .u8 (c.toNat : Int), .slice ax 0 capx, .slice ay 0 capy] w fun e w' => ∃ a' c', e = .returned (.tuple #[.slice a' 0 c', .int .i64 0]) ∧ Fr w' w.heap.size a' 0 c' [] ∧ Gr w w' := by
  have HC := Lib.hid (sliceClone_own ay 0 capy [] w hy (by omega))
  clear hy
  go_enter Tryz.func88, Tryz.ntmps88
  go_wp2_with fail
  refine HC.out.mono ?_
  rintro e w1 ⟨v, rfl, hown, hg⟩
  obtain ⟨a', c', rfl, hf⟩ := Fr.nil_ hown
  have HF := Lib.hid hf
  have HG := Lib.hid hg
  clear hown hg hf
  go_wp2_with fail
  refine (put_nil c.toNat c.toNat_lt a' c' ax capx w1).mono ?_
  rintro e w2 ⟨rfl, hg2⟩
  have HF2 := Lib.hid (HF.out.below hg2)
  have HG2 := Lib.hid (HG.out.trans hg2)
  clear hg2
  go_wp2
  first | go_ret | go_ret2
  exact ⟨_, _, rfl, HF2.out, HG2.out⟩
set_option maxRecDepth 100000 in
set_option maxHeartbeats 2000000 in
theorem kernScale_nil (c : UInt8) (a : Option Addr) (cap : Nat) (w : World) :
    Calls Tryz.prog 96 #[.int .u8 (c.toNat : Int), .slice a 0 cap] w fun e w' => ∃ a' c', e = .returned (.slice a' 0 c') ∧ Fr w' w.heap.size a' 0 c' [] ∧ Gr w w' := by
  obtain ⟨i0, hi0, hz0, hz1, hz2⟩ := info_parts infoByte
  go_enter Tryz.func96, Tryz.ntmps96
  go_wp2_with (at_make; refine wpList_make_full _ rfl (.tmp 7) (.tmp 7) 22 rfl w.heap.size 5 i0 (.int .u8 0) 1 Tryz.underlying22 hi0 hz0 hz1 .i64 .i64 0 0 0 rfl rfl rfl rfl (by rw [hz2]; omega) (by unfold maxLen; omega) (Nat.le_refl _) ?_; intro w2 hown hgrow; rw [made_bytes] at hown; have hG : Gr w w2 := (Gr.refl w).grown hgrow (fun k hk => by cases hk); clear hgrow)
  go_wp2_with fail
  refine (put_nil c.toNat c.toNat_lt _ 0 a cap w2).mono ?_
  rintro e w3 ⟨rfl, hg⟩
  have HF := Lib.hid (Fr.below (base := w.heap.size) (l := []) ⟨(OwnB.bs hown), fun y hy => by cases hy; exact Nat.le_refl _⟩ hg)
  have HG := Lib.hid (hG.trans hg)
  clear hown hG hg
  go_wp2
  first | go_ret | go_ret2
  exact ⟨_, _, rfl, HF.out, HG.out⟩

set_option maxRecDepth 100000 in
set_option maxHeartbeats 4000000 in
theorem rowLess_nil (cc : UInt8) (a a' b b' : Option Addr) (k c c' d d' : Nat) (r o : List UInt8) (w : World) (h1 : Bs w a k c r) (h2 : Bs w a' 0 c' []) (h3 : Bs w b k d o) (h4 : Bs w b' 0 d' []) (hk : 1 ≤ k) (hkm : k ≤ 1000000) :
    Calls Tryz.prog 46 #[.agg #[.slice a k c, .slice a' 0 c'], .int .u8 (cc.toNat : Int), .agg #[.slice b k d, .slice b' 0 d']] w fun e w' => ∃ a1 c1 a2 c2, e = .returned (.tuple #[.agg #[.slice a1 k c1, .slice a2 0 c2], .int .i64 0]) ∧ Fr w' w.heap.size a1 k c1 (axl cc o r) ∧ Fr w' w.heap.size a2 0 c2 [] ∧ Gr w w' := by
  have HX1 := Lib.hid fun w h1 h2 => kernAxpy_ok cc b k d o a c r w h1 h2 hk hkm
  have HX2 := Lib.hid fun w h2 => kernAxpy_nil cc b' d' a' c' w h2
  have hal := (((Gr.refl w).alloc (.cells #[.slice a k c, .slice a' 0 c'] 113)).alloc (.cells #[.slice b k d, .slice b' 0 d'] 113)).alloc (.cells #[.slice none 0 0, .slice none 0 0] 113)
  have hA := Gr.heap (((Gr.refl _).alloc (.cells #[.slice b k d, .slice b' 0 d'] 113)).alloc (.cells #[.slice none 0 0, .slice none 0 0] 113)) (heap_alloc_new w (.cells #[.slice a k c, .slice a' 0 c'] 113))
  have hO := Gr.heap ((Gr.refl _).alloc (.cells #[.slice none 0 0, .slice none 0 0] 113)) (heap_alloc_new (w.alloc (.cells #[.slice a k c, .slice a' 0 c'] 113)) (.cells #[.slice b k d, .slice b' 0 d'] 113))
  have hB := heap_alloc_new ((w.alloc (.cells #[.slice a k c, .slice a' 0 c'] 113)).alloc (.cells #[.slice b k d, .slice b' 0 d'] 113)) (.cells #[.slice none 0 0, .slice none 0 0] 113)
  simp only [World.size_alloc] at hO hB
  have HA := Lib.hid hA
  have HO := Lib.hid hO
  have HB := Lib.hid hB
  obtain ⟨x0, x1, xf⟩ := two_cells hA
  obtain ⟨y0, y1, yf⟩ := two_cells hO
  have H1 := Lib.hid (h1.below hal)
  have H2 := Lib.hid (h2.below hal)
  have H3 := Lib.hid (h3.below hal)
  have H4 := Lib.hid (h4.below hal)
  have HAL := Lib.hid hal
  clear h1 h2 h3 h4 hal hA hO hB
  go_enter Tryz.func46, Tryz.ntmps46
  go_wp2_with fail
  refine (HX1.out _ H3.out H1.out).mono ?_
  rintro e w1 ⟨a1, c1, rfl, f1, hg⟩
  simp only [World.size_alloc] at f1
  have HF1 := Lib.hid f1
  have HW1 := Lib.hid (HAL.out.trans hg)
  have H21 := Lib.hid (H2.out.below hg)
  have H41 := Lib.hid (H4.out.below hg)
  have HB1 := Lib.hid (hg.heap HB.out)
  obtain ⟨x0, x1, xf⟩ := two_cells (hg.heap HA.out)
  obtain ⟨y0, y1, yf⟩ := two_cells (hg.heap HO.out)
  clear f1 hg
  go_wp2_with fail
  refine (HX2.out _ H21.out).mono ?_
  rintro e w2 ⟨a2, c2, rfl, f2, hg⟩
  have hB2 := hg.heap HB1.out
  have hsz := HW1.out.size
  have hbl := lt_of_block HB1.out
  obtain ⟨hgb, hh⟩ := two_set hB2 (.slice a1 k c1) (.slice a2 0 c2)
  have f2' := Fr.mono (base' := w.heap.size + 3) f2 (by omega)
  have HE1 := Lib.hid (Fr.mono (base' := w.heap.size) ((HF1.out.below hg).grb hgb (by omega)) (by omega))
  have HE2 := Lib.hid (Fr.mono (base' := w.heap.size) (f2'.grb hgb (by omega)) (by omega))
  have HG := Lib.hid ((HW1.out.trans hg).grb hgb (by omega))
  obtain ⟨p0, p1, _⟩ := two_cells hh
  obtain ⟨q0, q1, qf⟩ := two_cells hB2
  clear hg f2 f2' hB2 hgb hh x0 x1 xf y0 y1 yf
  go_wp2
  refine bodyPost_ret (v := .tuple #[.agg #[.slice a1 k c1, .slice a2 0 c2], .int .i64 0]) ?_ rfl ⟨a1, c1, a2, c2, rfl, HE1.out, HE2.out, HG.out⟩
  simp [results, Tryz.results46, go_sem, p0, p1]

set_option maxRecDepth 100000 in
set_option maxHeartbeats 4000000 in
theorem rowNorm_nil (a a' : Option Addr) (k c c' : Nat) (l : List UInt8) (w : World) (h1 : Bs w a k c l) (h2 : Bs w a' 0 c' []) (hl : leadL l < l.length) (hkm : k ≤ 1000000) :
    Calls Tryz.prog 55 #[.agg #[.slice a k c, .slice a' 0 c']] w fun e w' => ∃ a1 c1 a2 c2, e = .returned (.agg #[.slice a1 k c1, .slice a2 0 c2]) ∧ Fr w' w.heap.size a1 k c1 (normL l) ∧ Fr w' w.heap.size a2 0 c2 [] ∧ Gr w w' := by
  have hk : 1 ≤ k := by have := h1.1; omega
  have HL := Lib.hid fun w h => vecLead_any a k c l w h
  have HT := Lib.hid fun w h => vecAt_any a k c l (leadL l) (by have := h1.1; omega) w h
  have HIV := Lib.hid fun w => fieldInv_any (fn l (leadL l)).toNat (UInt8.toNat_lt _) (u8_ne_zero (leadL_lead hl).1) w
  have HS1 := Lib.hid fun w h => kernScale_ok (normC l) a k c l w h hk hkm
  have HS2 := Lib.hid fun w => kernScale_nil (normC l) a' c' w
  rw [leadI_of (leadL_lead hl)] at HL
  rw [atN_nat] at HT
  rw [← normC_toNat] at HIV
  have hNL : normL l = scaleL (normC l) l := rfl
  rw [hNL]
  obtain ⟨NV, eNV⟩ : ∃ x, scaleL (normC l) l = x := ⟨_, rfl⟩
  rw [eNV] at HS1
  rw [eNV]
  have hN256 : (normC l).toNat < 256 := UInt8.toNat_lt _
  obtain ⟨N, eN⟩ : ∃ x, (normC l).toNat = x := ⟨_, rfl⟩
  rw [eN] at HIV HS1 HS2 hN256
  have hB256 : (fn l (leadL l)).toNat < 256 := UInt8.toNat_lt _
  obtain ⟨X, eX⟩ : ∃ x, (fn l (leadL l)).toNat = x := ⟨_, rfl⟩
  rw [eX] at HT HIV hB256
  obtain ⟨P, eP⟩ : ∃ x, leadL l = x := ⟨_, rfl⟩
  rw [eP] at HL HT
  clear hNL eNV eN eX eP hl
  have hal := ((Gr.refl w).alloc (.cells #[.slice a k c, .slice a' 0 c'] 113)).alloc (.cells #[.slice none 0 0, .slice none 0 0] 113)
  have hA := Gr.heap ((Gr.refl _).alloc (.cells #[.slice none 0 0, .slice none 0 0] 113)) (heap_alloc_new w (.cells #[.slice a k c, .slice a' 0 c'] 113))
  have hB := heap_alloc_new (w.alloc (.cells #[.slice a k c, .slice a' 0 c'] 113)) (.cells #[.slice none 0 0, .slice none 0 0] 113)
  simp only [World.size_alloc] at hB
  have HA := Lib.hid hA
  have HB := Lib.hid hB
  obtain ⟨x0, x1, xf⟩ := two_cells hA
  have H1 := Lib.hid (h1.below hal)
  have H2 := Lib.hid (h2.below hal)
  have HAL := Lib.hid hal
  clear h1 h2 hal hA hB
  go_enter Tryz.func55, Tryz.ntmps55
  go_wp2_with fail
  go_quiet ((first | (go_at_call 53; refine Calls.quiet_of_same ((HL.out _ (H1.out.below ((Gr.refl _).drewN _))).mono fun _ _ ⟨h1, h2⟩ => ⟨h1, h2.symm⟩)) | (go_at_call 52; refine Calls.quiet_of_same ((HT.out _ (H1.out.below ((Gr.refl _).drewN _))).mono fun _ _ ⟨h1, h2⟩ => ⟨h1, h2.symm⟩)) | (go_at_call 95; refine Calls.quiet_of_same ((HIV.out _).mono fun _ _ ⟨h1, h2⟩ => ⟨h1, h2.symm⟩))))
  go_wp2
  obtain ⟨W0, eW⟩ : ∃ W, (((w.alloc (.cells #[.slice a k c, .slice a' 0 c'] 113)).alloc (.cells #[.slice none 0 0, .slice none 0 0] 113)).drewN nq) = W := ⟨_, rfl⟩
  have hd := (Gr.refl ((w.alloc (.cells #[.slice a k c, .slice a' 0 c'] 113)).alloc (.cells #[.slice none 0 0, .slice none 0 0] 113))).drewN nq
  rw [eW] at hd ⊢
  clear eW
  have hup : Nonempty (Up Gr W0.drew) := ⟨⟨_, Gr.refl _⟩⟩
  obtain ⟨v0, v1⟩ := up_two (W0 := W0) (Rel := Gr) gr_st (hd.heap HA.out)
  have HD := Lib.hid hd
  clear x0 x1 xf hd
  refine wp_region_rg [.reck, .reck, .reck, spF (w.heap.size + 2) k NV, .reck, .reck, .reck, spF (w.heap.size + 2) 0 [], .reck] Gr (by kernel_rfl) (by kernel_rfl) Gr.refl (fun _ _ _ => Gr.trans) ?_
  (refine wpRG_reck rfl (fun K hK => ?_); go_big_quiet_op; refine hK _ ?_; clear hK K)
  (refine wpRG_reck rfl (fun K hK => ?_); go_big_quiet_op; refine hK _ ?_; clear hK K)
  (refine wpRG_reck rfl (fun K hK => ?_); go_big_quiet_op; refine hK _ ?_; clear hK K)
  refine wpRG_any rfl (fun x w w' hg h => ⟨h.1.below hg, h.2⟩) (fun W hw hF R hR => ?_) ?_
  · (have HF := Lib.hid hF; clear hF; unfold rgAt; go_simp)
    show Calls _ _ _ _ _
    have hb := HD.out.drew.trans hw
    refine (HS1.out W (H1.out.below hb)).mono ?_
    rintro e w6 ⟨a6, rfl, f6, hg6⟩
    have hsz := hb.size
    simp only [World.size_alloc] at hsz
    exact ⟨_, rfl, hR (a6, k) _ hg6 ⟨f6.1, fun y hy => Nat.le_trans hsz (f6.2 y hy)⟩⟩
  rintro ⟨a1, c1⟩
  (simp only [Act.put, List.setIfInBounds_toArray, List.set_cons_zero, List.set_cons_succ])
  (refine wpRG_reck rfl (fun K hK => ?_); go_big_quiet_op; refine hK _ ?_; clear hK K)
  (refine wpRG_reck rfl (fun K hK => ?_); go_big_quiet_op; refine hK _ ?_; clear hK K)
  (refine wpRG_reck rfl (fun K hK => ?_); go_big_quiet_op; refine hK _ ?_; clear hK K)
  refine wpRG_any rfl (fun x w w' hg h => ⟨h.1.below hg, h.2⟩) (fun W hw hF R hR => ?_) ?_
  · (have HF := Lib.hid hF; clear hF; unfold rgAt; go_simp)
    show Calls _ _ _ _ _
    have hb := HD.out.drew.trans hw
    refine (HS2.out W).mono ?_
    rintro e w6 ⟨a6, c6, rfl, f6, hg6⟩
    have hsz := hb.size
    simp only [World.size_alloc] at hsz
    exact ⟨_, rfl, hR (a6, c6) _ hg6 ⟨f6.1, fun y hy => Nat.le_trans hsz (f6.2 y hy)⟩⟩
  rintro ⟨a2, c2⟩
  (simp only [Act.put, List.setIfInBounds_toArray, List.set_cons_zero, List.set_cons_succ])
  (refine wpRG_reck rfl (fun K hK => ?_); go_big_quiet_op; refine hK _ ?_; clear hK K)
  refine wpRG_end fun W hw hF => ?_
  have hb1 : Bs W a1 k c1 NV ∧ ∀ y, a1 = some y → w.heap.size + 2 ≤ y.block := hF 3
  have hb2 : Bs W a2 0 c2 [] ∧ ∀ y, a2 = some y → w.heap.size + 2 ≤ y.block := hF 7
  have hb := HD.out.drew.trans hw
  have hB2 := hb.heap HB.out
  obtain ⟨hgb, hh⟩ := two_set hB2 (.slice a1 k c1) (.slice a2 0 c2)
  have HE1 := Lib.hid (Fr.mono (base' := w.heap.size) (Fr.grb (base := w.heap.size + 2) hb1 hgb (by omega)) (by omega))
  have HE2 := Lib.hid (Fr.mono (base' := w.heap.size) (Fr.grb (base := w.heap.size + 2) hb2 hgb (by omega)) (by omega))
  have HG := Lib.hid ((HAL.out.trans hb).grb hgb (by omega))
  obtain ⟨p0, p1, _⟩ := two_cells hh
  obtain ⟨q0, q1, qf⟩ := two_cells hB2
  clear hF hb1 hb2 hb hB2 hgb hh v0 v1 hup
  go_wp2
  refine bodyPost_ret (v := .agg #[.slice a1 k c1, .slice a2 0 c2]) ?_ rfl ⟨a1, c1, a2, c2, rfl, HE1.out, HE2.out, HG.out⟩
  simp [results, Tryz.results55, go_sem, p0, p1]
end Go.Proofs.YtddopoojmadpjaaGreatDoor
