/-
  The laws' own helpers: sameRows, heard, speaks.
-/
import Derived.Test.YtddopoojmadpjaaGreatDoorRelay
import Derived.Test.YtddopoojmadpjaaGreatDoorHeadPlain
namespace Go.Proofs.YtddopoojmadpjaaGreatDoor
open Go.RowKit
set_option linter.unusedVariables false

set_option maxHeartbeats 1000000 in
theorem vecEqual_any (a a' : Option Addr) (len cap len' cap' : Nat) (l m : List UInt8) (w : World) (hl : Bs w a len cap l) (hm : Bs w a' len' cap' m) :
    Calls Tryz.prog 80 #[.slice a len cap, .slice a' len' cap'] w fun e w' => e = .returned (.bool (sameB l m)) ∧ Gr w w' := by
  have b1 : len ≤ 9223372036854775807 := by have h1 := hl.2.1; have h2 := hl.2.2.1; unfold maxLen at h2; omega
  have b2 : len' ≤ 9223372036854775807 := by have h1 := hm.2.1; have h2 := hm.2.2.1; unfold maxLen at h2; omega
  have L1 : Hid (l.length = len) := hl.1
  have L2 : Hid (m.length = len') := hm.1
  by_cases hne : len = len'
  · subst hne
    go_enter Tryz.func80, Tryz.ntmps80
    go_wp2
    go_loopw [13] (fun i wr => ∃ k : Nat, k ≤ len ∧ i = .int .i64 k ∧ l.take k = m.take k ∧ ∃ n, wr = w.drewN n) (fun i _ => len - (intOf i).toNat)
    case atStart => exact ⟨0, Nat.zero_le _, rfl, rfl, 0, rfl⟩
    case round =>
      obtain ⟨k, hk, rfl, he, n, hw⟩ := hrel
      have HE := Lib.hid he
      have hb : Gr w wr := by rw [hw]; exact (Gr.refl _).drewN _
      have HW := Lib.hid hw
      clear he hw
      by_cases hlt : k < len
      · obtain ⟨b, off, rfl, _, _⟩ := hl.at_ (by omega)
        obtain ⟨b', off', rfl, _, _⟩ := hm.at_ (by omega)
        obtain ⟨x, hx, hcx⟩ := (hl.below hb).get hlt
        obtain ⟨y, hy, hcy⟩ := (hm.below hb).get hlt
        have HX := Lib.hid hx
        have HY := Lib.hid hy
        clear hx hy
        by_cases hxy : x = y
        · subst hxy
          have ht : ((x.toNat : Int) != (x.toNat : Int)) = false := by simp
          go_wp2
          go_quiet (fail)
          go_wp2
          go_roundw
          case rel => exact ⟨k + 1, by omega, by go_num, by rw [List.take_add_one, List.take_add_one, HE.out, HX.out, HY.out], n + nq, by rw [HW.out]; exact World.drewN_drewN _ _ _⟩
          case measure => simp [intOf]; omega
        · have hxn : x.toNat ≠ y.toNat := fun h => hxy (UInt8.toNat_inj.1 h)
          have ht : ((x.toNat : Int) != (y.toNat : Int)) = true := by rw [bne_iff_ne]; omega
          go_wp2
          go_quiet (fail)
          go_wp2
          go_ret
          refine ⟨?_, hb.drewN _⟩
          have : sameB l m = false := sameB_ne fun h => hxy (by have := HX.out; rw [h, HY.out] at this; exact (Option.some.inj this).symm)
          rw [this]; rfl
      · go_wp2
        go_ret
        refine ⟨?_, hb⟩
        obtain rfl : k = len := by omega
        have h := HE.out
        rw [List.take_of_length_le (by rw [L1.out]; exact Nat.le_refl _), List.take_of_length_le (by rw [L2.out]; exact Nat.le_refl _)] at h
        rw [sameB_of h]; rfl
  · have ht : ((len : Int) != (len' : Int)) = true := by rw [bne_iff_ne]; omega
    have hs : sameB l m = false := sameB_ne fun h => hne (by rw [← L1.out, ← L2.out, h])
    go_enter Tryz.func80, Tryz.ntmps80
    go_wp2
    go_ret
    exact ⟨by rw [hs]; rfl, Gr.refl _⟩

set_option maxRecDepth 100000 in
set_option maxHeartbeats 2000000 in
theorem vecSame_eq (a a' b b' : Option Addr) (k c t c' d d' : Nat) (l m : List UInt8) (w : World) (h1 : Bs w a k c l) (h2 : Bs w a' t c' m) (h3 : Bs w b k d l) (h4 : Bs w b' t d' m) :
    Calls Tryz.prog 43 #[.agg #[.slice a k c, .slice a' t c'], .agg #[.slice b k d, .slice b' t d']] w fun e w' => e = .returned (.bool true) ∧ Gr w w' := by
  have HE1 := Lib.hid fun w h h' => vecEqual_any a b k c k d l l w h h'
  have HE2 := Lib.hid fun w h h' => sliceEqual_any a' b' t c' t d' m m w h h'
  rw [sameB_self] at HE1 HE2
  have hal := ((Gr.refl w).alloc (.cells #[.slice a k c, .slice a' t c'] 113)).alloc (.cells #[.slice b k d, .slice b' t d'] 113)
  have hA := Gr.heap ((Gr.refl _).alloc (.cells #[.slice b k d, .slice b' t d'] 113)) (heap_alloc_new w (.cells #[.slice a k c, .slice a' t c'] 113))
  have hB := heap_alloc_new (w.alloc (.cells #[.slice a k c, .slice a' t c'] 113)) (.cells #[.slice b k d, .slice b' t d'] 113)
  rw [World.size_alloc] at hB
  have HA := Lib.hid hA
  have HB := Lib.hid hB
  have HAL := Lib.hid hal
  have H1 := Lib.hid (h1.below hal)
  have H2 := Lib.hid (h2.below hal)
  have H3 := Lib.hid (h3.below hal)
  have H4 := Lib.hid (h4.below hal)
  obtain ⟨x0, x1, -⟩ := two_cells hA
  obtain ⟨y0, y1, -⟩ := two_cells hB
  clear h1 h2 h3 h4 hal hA hB
  go_enter Tryz.func43, Tryz.ntmps43
  go_wp2_with fail
  refine (HE1.out _ H1.out H3.out).mono ?_
  rintro e w1 ⟨rfl, hg⟩
  have HG := Lib.hid hg
  obtain ⟨x0, x1, -⟩ := two_cells (hg.heap HA.out)
  obtain ⟨y0, y1, -⟩ := two_cells (hg.heap HB.out)
  clear hg
  go_wp2_with fail
  refine (HE2.out _ (H2.out.below HG.out) (H4.out.below HG.out)).mono ?_
  rintro e w2 ⟨rfl, hg⟩
  have HF := Lib.hid ((HAL.out.trans HG.out).trans hg)
  clear hg x0 x1 y0 y1
  go_wp2
  first | go_ret | go_ret2
  exact ⟨rfl, HF.out⟩

set_option maxRecDepth 100000 in
set_option maxHeartbeats 2000000 in
theorem sameRows_eq (k t : Nat) (S S' : Nat → Prop) (rv rv' : Value) (V : List (List UInt8)) (D : List UInt8 → List UInt8) (hV4 : V.length ≤ 4096) (w : World) (h : PrV w S rv V D k t) (h' : PrV w S' rv' V D k t) :
    Calls Tryz.prog 17 #[rv, rv'] w fun e w' => e = .returned (.bool true) ∧ Gr w w' := by
  obtain ⟨a1, c1, rfl, hc1, hm1⟩ := h.val
  obtain ⟨a2, c2, rfl, hc2, hm2⟩ := h'.val
  have H := Lib.hid h
  have H' := Lib.hid h'
  have hne : ((V.length : Int) != (V.length : Int)) = false := by simp
  clear h h'
  go_enter Tryz.func17, Tryz.ntmps17
  go_wp2
  go_loopw [13] (fun i wr => ∃ j : Nat, j ≤ V.length ∧ i = .int .i64 j ∧ Gr w wr) (fun i _ => V.length - (intOf i).toNat)
  case atStart => exact ⟨0, Nat.zero_le _, rfl, Gr.refl _⟩
  case round =>
    obtain ⟨j, hj, rfl, hgr⟩ := hrel
    have HGR := Lib.hid hgr
    clear hgr
    by_cases hlt : j < V.length
    · obtain ⟨R, cap, b1, d1, b2, d2, erv, -, -, r0, r1, hb1, hb2⟩ := (H.out.gr HGR.out).get hlt
      obtain ⟨R', cap', b1', d1', b2', d2', erv', -, -, r0', r1', hb1', hb2'⟩ := (H'.out.gr HGR.out).get hlt
      simp at erv erv'
      obtain ⟨rfl, rfl⟩ := erv
      obtain ⟨rfl, rfl⟩ := erv'
      obtain ⟨ROW, eROW⟩ : ∃ x, V[j] = x := ⟨_, rfl⟩
      rw [eROW] at hb1 hb2 hb1' hb2'
      have HS := Lib.hid fun w h1 h2 h3 h4 => vecSame_eq b1 b2 b1' b2' k d1 t d2 d1' d2' ROW (D ROW) w h1 h2 h3 h4
      have HB1 := Lib.hid hb1
      have HB2 := Lib.hid hb2
      have HB1' := Lib.hid hb1'
      have HB2' := Lib.hid hb2'
      have hji : (j : Int) < (V.length : Int) := by omega
      clear hb1 hb2 hb1' hb2' eROW
      go_wp2
      have hup : Nonempty (Up Gr wr.drew) := ⟨⟨_, Gr.refl _⟩⟩
      have u0 : ∀ x : Up Gr wr.drew, x.w.cell? ⟨R, j * 2, none⟩ = some (.slice b1 k d1) := fun x => gr_st x.rel r0
      have u1 : ∀ x : Up Gr wr.drew, x.w.cell? ⟨R, j * 2 + 1, none⟩ = some (.slice b2 t d2) := fun x => gr_st x.rel r1
      have u2 : ∀ x : Up Gr wr.drew, x.w.cell? ⟨R', j * 2, none⟩ = some (.slice b1' k d1') := fun x => gr_st x.rel r0'
      have u3 : ∀ x : Up Gr wr.drew, x.w.cell? ⟨R', j * 2 + 1, none⟩ = some (.slice b2' t d2') := fun x => gr_st x.rel r1'
      clear r0 r1 r0' r1'
      refine wp_region_rg [.reck, .reck, .reck, .reck, .reck, .reck, .reck, .reck, spV (.bool true), .reck] Gr (by kernel_rfl) (by kernel_rfl) Gr.refl (fun _ _ _ => Gr.trans) ?_
      (refine wpRG_reck rfl (fun K hK => ?_); go_big_quiet_op; refine hK _ ?_; clear hK K)
      (refine wpRG_reck rfl (fun K hK => ?_); go_big_quiet_op; refine hK _ ?_; clear hK K)
      (refine wpRG_reck rfl (fun K hK => ?_); go_big_quiet_op; refine hK _ ?_; clear hK K)
      (refine wpRG_reck rfl (fun K hK => ?_); go_big_quiet_op; refine hK _ ?_; clear hK K)
      (refine wpRG_reck rfl (fun K hK => ?_); go_big_quiet_op; refine hK _ ?_; clear hK K)
      (refine wpRG_reck rfl (fun K hK => ?_); go_big_quiet_op; refine hK _ ?_; clear hK K)
      (refine wpRG_reck rfl (fun K hK => ?_); go_big_quiet_op; refine hK _ ?_; clear hK K)
      (refine wpRG_reck rfl (fun K hK => ?_); go_big_quiet_op; refine hK _ ?_; clear hK K)
      refine wpRG_any rfl (fun _ _ _ _ h => h) (fun W hw hF R hR => ?_) ?_
      · (have HF := Lib.hid hF; clear hF; unfold rgAt; go_simp)
        show Calls _ _ _ _ _
        have hb := (Gr.refl wr).drew.trans hw
        refine (HS.out W (HB1.out.below hb) (HB2.out.below hb) (HB1'.out.below hb) (HB2'.out.below hb)).mono ?_
        rintro e w6 ⟨rfl, hg6⟩
        exact ⟨_, rfl, hR () _ hg6 trivial⟩
      rintro ⟨⟩
      (simp only [Act.put, List.setIfInBounds_toArray, List.set_cons_zero, List.set_cons_succ])
      (refine wpRG_reck rfl (fun K hK => ?_); go_big_quiet_op; refine hK _ ?_; clear hK K)
      refine wpRG_end fun W hw hF => ?_
      have HGF := Lib.hid (HGR.out.trans ((Gr.refl wr).drew.trans hw))
      clear hF hw u0 u1 u2 u3 hup
      refine wpList_nil ?_
      go_wp2
      go_roundw
      case rel => exact ⟨j + 1, by omega, by go_num, HGF.out⟩
      case measure => simp [intOf]; omega
    · have hge : (V.length : Int) ≤ (j : Int) := by omega
      go_wp2
      first | go_ret | go_ret2
      exact ⟨rfl, HGR.out⟩
end Go.Proofs.YtddopoojmadpjaaGreatDoor
