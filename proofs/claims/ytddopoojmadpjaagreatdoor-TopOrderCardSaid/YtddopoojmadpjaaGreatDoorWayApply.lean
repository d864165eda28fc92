/-
  The walks of way.Act's mask and cut, where one parcel is under way.
  The walks of way.play, Apply and Whole: one packet, one act.
  The walks of way.Apply and way.Whole: one packet, one act.
-/
import Derived.Test.YtddopoojmadpjaaGreatDoorBits
import Derived.Test.YtddopoojmadpjaaGreatDoorGate
import Derived.Test.YtddopoojmadpjaaGreatDoorSum
import Derived.Test.YtddopoojmadpjaaGreatDoorRowNorm
import Derived.Test.YtddopoojmadpjaaGreatDoorKernComb
import Derived.Test.YtddopoojmadpjaaGreatDoorVec
import Derived.Test.YtddopoojmadpjaaGreatDoorHead
import Derived.Test.YtddopoojmadpjaaGreatDoorRowsV
import Derived.StillTailTactics
namespace Go.Proofs.YtddopoojmadpjaaGreatDoor
open Go.RowKit
set_option linter.unusedVariables false

/-- one parcel at U, its bytes at Y. -/
def ParcelAt (w : World) (U Y k c : Nat) (f : Int) : Prop := w.heap[U]? = some (.cells #[.slice (some ⟨Y, 0, none⟩) k c, .int .i64 f] 134)
def ActAt (w : World) (A : Nat) (d J p : Nat) : Prop := w.heap[A]? = some (.cells #[.int .i64 (d : Int), .int .i64 0, .int .i64 (J : Int), .int .u32 (p : Int), .slice none 0 0] 73)
theorem ParcelAt.mark {w : World} {U Y k c : Nat} {f : Int} (h : ParcelAt w U Y k c f) (g : Int) : ParcelAt (w.setCell ⟨U, 1, none⟩ (.int .i64 g)) U Y k c g ∧ GrB w U (w.setCell ⟨U, 1, none⟩ (.int .i64 g)) := by
  unfold ParcelAt at h ⊢
  refine ⟨?_, (GrB.refl w U).set (.inl rfl) _⟩
  have h2 := heap_set (i := 1) h (.int .i64 g)
  simpa only [List.setIfInBounds_toArray, List.set_cons_zero, List.set_cons_succ] using h2
def fromN (b : Bool) : Int := if b = true then -1 else 0

set_option maxRecDepth 100000 in
set_option maxHeartbeats 4000000 in
theorem mask_one (wA : World) (U Y k c J p : Nat) (hp : p < 4294967296) (hk : 1 ≤ k) (hkm : k ≤ 1000000) (hJ : J < 8 * k) (l : List UInt8) (w : World) (hA : Gr wA w) (hU : wA.heap.size ≤ U) (hUY : U ≠ Y) (hP : ParcelAt w U Y k c 0) (hB : OwnB w wA.heap.size Y k c l) :
    Calls Tryz.prog 103 #[.agg #[.int .i64 4, .int .i64 0, .int .i64 (J : Int), .int .u32 (p : Int), .slice none 0 0], .slice (some ⟨U, 0, none⟩) 1 1] w fun e w' =>
      e = .returned (.slice (some ⟨U, 0, none⟩) 1 1) ∧ ParcelAt w' U Y k c (fromN (turned (8 * k) J p 32)) ∧ OwnB w' wA.heap.size Y k c (burst l J p 32) ∧ Gr wA w' := by
  have hal := (Gr.refl w).alloc (.cells #[.int .i64 4, .int .i64 0, .int .i64 (J : Int), .int .u32 (p : Int), .slice none 0 0] 73)
  have hAA : ActAt (w.alloc (.cells #[.int .i64 4, .int .i64 0, .int .i64 (J : Int), .int .u32 (p : Int), .slice none 0 0] 73)) w.heap.size 4 J p := heap_alloc_new w _
  have hll := hB.len
  have hYb := hB.base_le
  have hUs : U < w.heap.size := lt_of_block hP
  have HA := Lib.hid hAA
  have HP := Lib.hid (show ParcelAt _ U Y k c 0 from hal.heap hP)
  have HB := Lib.hid (hB.gr hal)
  have HG := Lib.hid (hA.trans hal)
  obtain ⟨x0, x1, x2, x3, x4, xf⟩ := five_cells hAA
  obtain ⟨u0, u1, uf⟩ := two_cells HP.out
  have HLL := Lib.hid hll
  have hJ8 : J / 8 < k := by omega
  clear hA hP hB hal hAA hll
  go_enter Tryz.func103, Tryz.ntmps103
  go_wp2
  go_quiet (fail)
  obtain ⟨W0, eW⟩ : ∃ W, (w.alloc (.cells #[.int .i64 4, .int .i64 0, .int .i64 (J : Int), .int .u32 (p : Int), .slice none 0 0] 73)).drewN nq = W := ⟨_, rfl⟩
  have hd := (Gr.refl (w.alloc (.cells #[.int .i64 4, .int .i64 0, .int .i64 (J : Int), .int .u32 (p : Int), .slice none 0 0] 73))).drewN nq
  rw [eW] at hd ⊢
  have HA0 := Lib.hid (show ActAt W0 w.heap.size 4 J p from hd.heap HA.out)
  have HP0 := Lib.hid (show ParcelAt W0 U Y k c 0 from hd.heap HP.out)
  have HB0 := Lib.hid (HB.out.gr hd)
  have HG0 := Lib.hid (HG.out.trans hd)
  clear eW hd HA HP HB HG x0 x1 x2 x3 x4 xf u0 u1 uf
  go_wp2
  go_loopw [22] (fun i wr => ∃ j : Nat, j ≤ 32 ∧ i = .int .i64 j ∧ ParcelAt wr U Y k c (fromN (turned (8 * k) J p j)) ∧ OwnB wr wA.heap.size Y k c (burst l J p j) ∧ ActAt wr w.heap.size 4 J p ∧ Gr wA wr) (fun i _ => 32 - (intOf i).toNat)
  case atStart => exact ⟨0, by omega, rfl, HP0.out, HB0.out, HA0.out, HG0.out⟩
  case round =>
    obtain ⟨j, hj, rfl, hpa, hob, haa, hgr⟩ := hrel
    have HPA := Lib.hid hpa
    have HOB := Lib.hid hob
    have HAA := Lib.hid haa
    have HGR := Lib.hid hgr
    by_cases hlt : j < 32
    · obtain ⟨x0, x1, x2, x3, x4, xf⟩ := five_cells haa
      obtain ⟨u0, u1, uf⟩ := two_cells hpa
      clear hpa haa hgr
      obtain ⟨JJ, hJJ⟩ : ∃ JJ : Nat, JJ = J + j := ⟨_, rfl⟩
      have hJ' : (J : Int) + (j : Int) = (JJ : Int) := by omega
      have HJ : Hid (JJ = J + j) := hJJ
      have hJl : JJ ≤ 8000040 := by omega
      clear hJJ
      have hbd := u32_bit p j hp
      by_cases hbit : p / 2 ^ j % 2 = 1
      · have hb15 : bits .and .u32 ((p : Int) / 2 ^ j) 1 = 1 := by rw [hbd, hbit]; rfl
        clear hbd
        by_cases hin : JJ < 8 * k
        · obtain ⟨x, hx⟩ : ∃ x, (burst l J p j)[JJ / 8]? = some x := by
            have := hob.len
            exact ⟨_, List.getElem?_eq_getElem (by omega)⟩
          have hcx := hob.cell hx
          have hfx := hob.free (JJ / 8)
          have h8 : JJ / 8 < k := by omega
          have ht := u8_turn x JJ
          have HT : Hid (turned (8 * k) J p (j + 1) = true) := by show turned (8 * k) J p (j + 1) = true; rw [turned, if_pos ⟨hbit, by have := HJ.out; omega⟩]
          have HB : Hid (burst l J p (j + 1) = (burst l J p j).set (JJ / 8) (x ^^^ UInt8.ofNat (2 ^ (JJ % 8)))) := by
            show burst l J p (j + 1) = _
            rw [burst, if_pos ⟨hbit, by rw [HLL.out, ← HJ.out]; exact hin⟩, flip, ← HJ.out, List.getD_eq_getElem?_getD, hx]; rfl
          have hbs := HOB.out.set (JJ / 8) (x ^^^ UInt8.ofNat (2 ^ (JJ % 8)))
          have hgb : GrB wr Y (wr.setCell ⟨Y, JJ / 8, none⟩ (.int .u8 ((x ^^^ UInt8.ofNat (2 ^ (JJ % 8))).toNat : Int))) := (GrB.refl _ _).set (.inl rfl) _
          clear hbit hx hob
          have hval : (x ^^^ UInt8.ofNat (2 ^ (JJ % 8))).toNat = x.toNat ^^^ 2 ^ (JJ % 8) % 256 := by rw [UInt8.toNat_xor, UInt8.toNat_ofNat']
          rw [hval] at hbs hgb
          have HBS := Lib.hid hbs
          have HGB := Lib.hid hgb
          clear hbs hgb hval
          go_wp2
          go_region
          obtain ⟨W1, eW⟩ : ∃ W, (wr.setCell ⟨Y, JJ / 8, none⟩ (.int .u8 ((x.toNat ^^^ 2 ^ (JJ % 8) % 256 : Nat) : Int))).drew = W := ⟨_, rfl⟩
          have hd := (Gr.refl (wr.setCell ⟨Y, JJ / 8, none⟩ (.int .u8 ((x.toNat ^^^ 2 ^ (JJ % 8) % 256 : Nat) : Int)))).drew
          have hp1 : ParcelAt W1 U Y k c (fromN (turned (8 * k) J p j)) := by rw [← eW]; exact HGB.out.heap HPA.out hUY
          have ha1 : ActAt W1 w.heap.size 4 J p := by rw [← eW]; exact HGB.out.heap HAA.out (by omega)
          have ho1 : OwnB W1 wA.heap.size Y k c (burst l J p (j + 1)) := by rw [← eW, HB.out]; exact HBS.out.gr hd
          have hg1 : Gr wA W1 := by rw [← eW]; exact (HGR.out.grb HGB.out hYb.1).drew
          rw [eW]
          clear eW hd u0 u1 uf x0 x1 x2 x3 x4 xf hcx hfx ht
          obtain ⟨u0, u1, uf⟩ := two_cells hp1
          obtain ⟨hp2, hgb2⟩ := hp1.mark (-1)
          have HP2 : Hid (ParcelAt (W1.setCell ⟨U, 1, none⟩ (.int .i64 (-1))) U Y k c (fromN (turned (8 * k) J p (j + 1)))) := by show ParcelAt _ _ _ _ _ _; rw [HT.out]; exact hp2
          have HA2 : Hid (ActAt (W1.setCell ⟨U, 1, none⟩ (.int .i64 (-1))) w.heap.size 4 J p) := hgb2.heap ha1 (by omega)
          have HO2 := Lib.hid (ho1.mid hgb2 (fun e => hUY e.symm))
          have HG2 := Lib.hid (hg1.grb hgb2 hU)
          clear hp1 ha1 ho1 hg1 hp2 hgb2
          go_wp2
          go_roundw
          case rel => exact ⟨j + 1, by omega, by go_num, HP2.out, HO2.out, HA2.out, HG2.out⟩
          case measure => simp [intOf]; omega
        · have HT : Hid (turned (8 * k) J p (j + 1) = turned (8 * k) J p j) := by show turned (8 * k) J p (j + 1) = _; rw [turned, if_neg (by have := HJ.out; omega)]
          have HB : Hid (burst l J p (j + 1) = burst l J p j) := by
            show burst l J p (j + 1) = _
            rw [burst, if_neg (by have := HJ.out; rw [HLL.out]; omega)]
          clear hbit hob
          go_wp2
          go_roundw
          case rel => exact ⟨j + 1, by omega, by go_num, by rw [HT.out]; exact HPA.out, by rw [HB.out]; exact HOB.out, HAA.out, HGR.out⟩
          case measure => simp [intOf]; omega
      · have hb15 : (bits .and .u32 ((p : Int) / 2 ^ j) 1 == 1) = false := by rw [hbd, beq_eq_false_iff_ne]; omega
        have HT : Hid (turned (8 * k) J p (j + 1) = turned (8 * k) J p j) := by show turned (8 * k) J p (j + 1) = _; rw [turned, if_neg (by omega)]
        have HB : Hid (burst l J p (j + 1) = burst l J p j) := by
          show burst l J p (j + 1) = _
          rw [burst, if_neg (by omega)]
        clear hbit hbd hob
        go_wp2
        go_roundw
        case rel => exact ⟨j + 1, by omega, by go_num, by rw [HT.out]; exact HPA.out, by rw [HB.out]; exact HOB.out, HAA.out, HGR.out⟩
        case measure => simp [intOf]; omega
    · obtain rfl : j = 32 := by omega
      clear hpa hob haa hgr
      go_wp2
      first | go_ret | go_ret2
      exact ⟨rfl, HPA.out, HOB.out, HGR.out⟩

set_option maxRecDepth 100000 in
set_option maxHeartbeats 4000000 in
theorem cut_one (wA : World) (U Y k c J p : Nat) (hk : 1 ≤ k) (hkm : k ≤ 1000000) (hJ : J < k) (l : List UInt8) (w : World) (hA : Gr wA w) (hU : wA.heap.size ≤ U) (hUY : U ≠ Y) (hP : ParcelAt w U Y k c 0) (hB : OwnB w wA.heap.size Y k c l) :
    Calls Tryz.prog 102 #[.agg #[.int .i64 3, .int .i64 0, .int .i64 (J : Int), .int .u32 (p : Int), .slice none 0 0], .slice (some ⟨U, 0, none⟩) 1 1] w fun e w' =>
      ∃ a' c', e = .returned (.slice (some ⟨U, 0, none⟩) 1 1) ∧ w'.heap[U]? = some (.cells #[.slice a' J c', .int .i64 (-1)] 134) ∧ Bs w' a' J c' (l.take J) ∧ (∀ y, a' = some y → y.block < w'.heap.size) ∧ Gr wA w' := by
  have hal := (Gr.refl w).alloc (.cells #[.int .i64 3, .int .i64 0, .int .i64 (J : Int), .int .u32 (p : Int), .slice none 0 0] 73)
  have hAA : ActAt (w.alloc (.cells #[.int .i64 3, .int .i64 0, .int .i64 (J : Int), .int .u32 (p : Int), .slice none 0 0] 73)) w.heap.size 3 J p := heap_alloc_new w _
  have hcap := hB.cap
  have hc9 : c ≤ 9223372036854775807 := by have := hcap.2; unfold maxLen at this; exact this
  have hUs : U < w.heap.size := lt_of_block hP
  have HC := Lib.hid fun w h => byteClone_own (some ⟨Y, 0, none⟩) J c (l.take J) w h (by omega)
  have hwA := hA.size
  have HA := Lib.hid hAA
  have HP := Lib.hid (show ParcelAt _ U Y k c 0 from hal.heap hP)
  have HB := Lib.hid (((hB.gr hal).bs).take (Nat.le_of_lt hJ))
  have HG := Lib.hid (hA.trans hal)
  obtain ⟨x0, x1, x2, x3, x4, xf⟩ := five_cells hAA
  obtain ⟨u0, u1, uf⟩ := two_cells HP.out
  have hJi : (J : Int) < (k : Int) := by omega
  have hJc : J ≤ c := by omega
  clear hA hP hB hal hAA
  go_enter Tryz.func102, Tryz.ntmps102
  go_wp2
  go_quiet (fail)
  obtain ⟨W0, eW⟩ : ∃ W, (w.alloc (.cells #[.int .i64 3, .int .i64 0, .int .i64 (J : Int), .int .u32 (p : Int), .slice none 0 0] 73)).drewN nq = W := ⟨_, rfl⟩
  have hd := (Gr.refl (w.alloc (.cells #[.int .i64 3, .int .i64 0, .int .i64 (J : Int), .int .u32 (p : Int), .slice none 0 0] 73))).drewN nq
  rw [eW] at hd ⊢
  have hA0 : ActAt W0 w.heap.size 3 J p := hd.heap HA.out
  have hP0 : ParcelAt W0 U Y k c 0 := hd.heap HP.out
  have HP0 := Lib.hid hP0
  have HB0 := Lib.hid (HB.out.below hd)
  have HG0 := Lib.hid (HG.out.trans hd)
  clear eW hd HA HP HB HG x0 x1 x2 x3 x4 xf u0 u1 uf
  go_wp2
  have hup : Nonempty (Up Gr W0.drew) := ⟨⟨_, Gr.refl _⟩⟩
  obtain ⟨y0, y1, y2, -, -, -⟩ := five_cells hA0
  obtain ⟨z0, z1, -⟩ := two_cells hP0
  have v1 : ∀ x : Up Gr W0.drew, x.w.cell? ⟨w.heap.size, 1, none⟩ = some (.int .i64 0) := fun x => gr_st x.rel y1
  have v2 : ∀ x : Up Gr W0.drew, x.w.cell? ⟨w.heap.size, 2, none⟩ = some (.int .i64 (J : Int)) := fun x => gr_st x.rel y2
  have v3 : ∀ x : Up Gr W0.drew, x.w.cell? ⟨U, 0, none⟩ = some (.slice (some ⟨Y, 0, none⟩) k c) := fun x => gr_st x.rel z0
  clear y0 y1 y2 z0 z1 hA0 hP0
  refine wp_region_rg [.reck, .reck, .reck, .reck, .reck, .reck, .reck, .reck, .reck, .reck, .reck, .reck, .any (Option Addr × Nat) (none, 0) (fun x => .slice x.1 J x.2) (fun x w => Bs w x.1 J x.2 (l.take J) ∧ ∀ y, x.1 = some y → y.block < w.heap.size), .reck, .reck] Gr (by kernel_rfl) (by kernel_rfl) Gr.refl (fun _ _ _ => Gr.trans) ?_
  (refine wpRG_reck rfl (fun K hK => ?_); go_big_quiet_op; refine hK _ ?_; clear hK K)
  (refine wpRG_reck rfl (fun K hK => ?_); go_big_quiet_op; refine hK _ ?_; clear hK K)
  (refine wpRG_reck rfl (fun K hK => ?_); go_big_quiet_op; refine hK _ ?_; clear hK K)
  (refine wpRG_reck rfl (fun K hK => ?_); go_big_quiet_op; refine hK _ ?_; clear hK K)
  (refine wpRG_reck rfl (fun K hK => ?_); go_big_quiet_op; refine hK _ ?_; clear hK K)
  (refine wpRG_reck rfl (fun K hK => ?_); go_big_quiet_op; refine hK _ ?_; clear hK K)
  (refine wpRG_reck rfl (fun K hK => ?_); go_big_quiet_op; refine hK _ ?_; clear hK K)
  (refine wpRG_reck rfl (fun K hK => ?_); go_big_quiet_op; refine hK _ ?_; clear hK K)
  (refine wpRG_reck rfl (fun K hK => ?_); go_big_quiet_op; refine hK _ ?_; clear hK K)
  (refine wpRG_reck rfl (fun K hK => ?_); go_big_quiet_op; refine hK _ ?_; clear hK K)
  (refine wpRG_reck rfl (fun K hK => ?_); go_big_quiet_op; refine hK _ ?_; clear hK K)
  (refine wpRG_reck rfl (fun K hK => ?_); go_big_quiet_op; refine hK _ ?_; clear hK K)
  refine wpRG_any rfl (fun x w w' hg h => ⟨h.1.below hg, fun y hy => Nat.lt_of_lt_of_le (h.2 y hy) hg.size⟩) (fun W hw hF R hR => ?_) ?_
  · (have HF := Lib.hid hF; clear hF; unfold rgAt; go_simp)
    show Calls _ _ _ _ _
    have hb := ((Gr.refl W0).drew).trans hw
    refine (HC.out W (HB0.out.below hb)).mono ?_
    rintro e w6 ⟨v, rfl, hown, hg6⟩
    obtain ⟨a6, c6, rfl, hb6⟩ := hown.slice
    have hlen : (l.take J).length = J := (HB0.out).1
    rw [hlen] at hown hb6 ⊢
    exact ⟨_, rfl, hR (a6, c6) _ hg6 ⟨hb6, fun y hy => (World.ownsRow.lt hown y.block (by have hy' : a6 = some y := hy; rw [hy']; rfl)).2⟩⟩
  rintro ⟨a2, c2⟩
  (simp only [Act.put, List.setIfInBounds_toArray, List.set_cons_zero, List.set_cons_succ])
  (refine wpRG_reck rfl (fun K hK => ?_); go_big_quiet_op; refine hK _ ?_; clear hK K)
  (refine wpRG_reck rfl (fun K hK => ?_); go_big_quiet_op; refine hK _ ?_; clear hK K)
  refine wpRG_end fun W hw hF => ?_
  have hb2 : Bs W a2 J c2 (l.take J) ∧ ∀ y, a2 = some y → y.block < W.heap.size := hF 12
  have hb := ((Gr.refl W0).drew).trans hw
  have hPW : ParcelAt W U Y k c 0 := hb.heap HP0.out
  obtain ⟨q0, q1, qf⟩ := two_cells hPW
  obtain ⟨hgb, hh⟩ := two_set hPW (.slice a2 J c2) (.int .i64 (-1))
  have HH := Lib.hid hh
  have HB2 := Lib.hid (hb2.1.gap hgb hPW (fun j u => by match j with | 0 => simp | 1 => simp | j + 2 => simp))
  have HA2 := Lib.hid fun y hy => Nat.lt_of_lt_of_le (hb2.2 y hy) hgb.size
  have HG2 := Lib.hid ((HG0.out.trans hb).grb hgb hU)
  clear hF hb2 hb hPW hgb hh v1 v2 v3 hup
  go_wp2
  first | go_ret | go_ret2
  exact ⟨a2, c2, rfl, HH.out, HB2.out, HA2.out, HG2.out⟩
end Go.Proofs.YtddopoojmadpjaaGreatDoor

namespace Go.Proofs.YtddopoojmadpjaaGreatDoor
open Go.RowKit
set_option linter.unusedVariables false

theorem infoParcel : (Tryz.prog.info? 134).map (fun i => (i.zero, i.size, i.bytes)) = some (some (.agg #[.slice none 0 0, .int .i64 0]), 2, 32) := by kernel_rfl
theorem own_one2 {w : World} {base g : Nat} {e : TypeId} {x y : Value} (h : w.ownsRow base e 2 (.slice (some ⟨g, 0, none⟩) 1 1) 1 [x, y]) : w.heap[g]? = some (.cells #[x, y] e (0, 0)) := by
  rcases h.2 with ⟨h', _⟩ | ⟨g', cap', cur, h', _, hg, _, _, hs, ht⟩
  · cases h'
  · cases h'
    have : cur = #[x, y] := by
      apply Array.toList_inj.1
      rw [← ht, List.take_of_length_le (by simp [hs])]
    rw [this] at hg; exact hg
theorem OwnB.baseTo {w : World} {base b' g len cap : Nat} {l : List UInt8} (h : OwnB w base g len cap l) (hb : b' ≤ base) : OwnB w b' g len cap l := by
  refine ⟨h.1, ?_⟩
  rcases h.2 with hn | ⟨g, cap, cur, hv, hg, r⟩
  · exact .inl hn
  · exact .inr ⟨g, cap, cur, hv, Nat.le_trans hb hg, r⟩
theorem made_parcel : (madeCells (Value.agg #[.slice none 0 0, .int .i64 0]).cells (1 * 2)).toList = [.slice none 0 0, .int .i64 0] := by
  simp [madeCells, Value.cells, List.range, List.range.loop]
/-- what is under way: one parcel. -/
def Parc (w : World) (U : Nat) (f : Int) (l : List UInt8) : Prop := ∃ (a : Option Addr) (k c : Nat), w.heap[U]? = some (.cells #[.slice a k c, .int .i64 f] 134) ∧ Bs w a k c l ∧ ∀ y, a = some y → y.block < w.heap.size
def actOut (d J p : Nat) (l : List UInt8) : List UInt8 := if d = 4 then burst l J p 32 else l.take J
def actFrom (d J p : Nat) (l : List UInt8) : Int := if d = 4 then fromN (turned (8 * l.length) J p 32) else -1
def actFits (d J k : Nat) : Prop := (d = 4 ∧ J < 8 * k) ∨ (d = 3 ∧ J < k)

set_option maxRecDepth 100000 in
set_option maxHeartbeats 4000000 in
theorem play_one (b off cap A d J p : Nat) (l : List UInt8) (w : World) (hd : actFits d J l.length) (hp : p < 4294967296) (hk : 1 ≤ l.length) (hkm : l.length ≤ 1000000) (hs : Bss w (some ⟨b, off, none⟩) 1 cap [l]) (hA : ActAt w A d J p) :
    Calls Tryz.prog 58 #[.slice (some ⟨b, off, none⟩) 1 cap, .slice (some ⟨A, 0, none⟩) 1 1] w fun e w' => ∃ U, e = .returned (.slice (some ⟨U, 0, none⟩) 1 1) ∧ Parc w' U (actFrom d J p l) (actOut d J p l) ∧ Gr w w' := by
  obtain ⟨l', a, k, c, hl', hc, hb⟩ := hs.get (i := 0) (by omega)
  obtain rfl : l = l' := by simpa using hl'
  have hkl := hb.1
  obtain ⟨i0, hi0, hz0, hz1, hz2⟩ := info_parts infoParcel
  have HAct := Lib.hid hA
  rw [Nat.add_zero] at hc
  have HC := Lib.hid hc
  have HB := Lib.hid hb
  have HCL := Lib.hid fun w h => byteClone_own a k c l w h (by omega)
  have HLK := Lib.hid hkl
  rw [hkl] at hd hk hkm
  have hd6 : d < 6 := by rcases hd with h | h <;> omega
  have hd5 : ((d : Int) != 5) = true := by rw [bne_iff_ne]; rcases hd with h | h <;> omega
  have HD := Lib.hid hd
  clear hs hA hl' hb hkl hd
  go_enter Tryz.func58, Tryz.ntmps58
  have hZ := heap_alloc_new w (.cells #[.nilFunc, .nilFunc, .nilFunc, .nilFunc, .nilFunc, .nilFunc] 179)
  go_wp2_with (with_reducible refine wpList_hold (o := ⟨none, .store 179 _ _, _, _, _, _⟩) ?_)
  change wpList _ _ _ _ _ _
  refine wpList_store_row rfl 179 (.tmp 5) (.tmp 11) rfl w.heap.size #[.func (.func 99) #[] #[], .func (.func 100) #[] #[], .func (.func 101) #[] #[], .func (.func 102) #[] #[], .func (.func 103) #[] #[], .func (.func 104) #[] #[]] rfl rfl _ _ hZ (by kernel_rfl) rfl (by simp [Value.oneCell']) ?_
  obtain ⟨hs1, hs2⟩ := setRow_grb (cs := #[.func (.func 99) #[] #[], .func (.func 100) #[] #[], .func (.func 101) #[] #[], .func (.func 102) #[] #[], .func (.func 103) #[] #[], .func (.func 104) #[] #[]]) hZ
  have hal := ((Gr.refl w).alloc (.cells #[.nilFunc, .nilFunc, .nilFunc, .nilFunc, .nilFunc, .nilFunc] 179)).grb hs1 (Nat.le_refl _)
  obtain ⟨W0, eW⟩ : ∃ W, (w.alloc (.cells #[.nilFunc, .nilFunc, .nilFunc, .nilFunc, .nilFunc, .nilFunc] 179)).setRow w.heap.size #[.func (.func 99) #[] #[], .func (.func 100) #[] #[], .func (.func 101) #[] #[], .func (.func 102) #[] #[], .func (.func 103) #[] #[], .func (.func 104) #[] #[]] = W := ⟨_, rfl⟩
  rw [eW] at hs2 hal ⊢
  clear eW hs1 hZ
  have HDD := Lib.hid hs2
  have HAL := Lib.hid hal
  have HWL := Lib.hid (lt_of_block hs2)
  clear hs2
  go_wp2_with (with_reducible refine wpList_hold (o := ⟨some 14, _, _, _, _, _⟩) ?_)
  change wpList _ _ _ _ _ _
  refine wpList_make_full _ rfl (.tmp 13) (.tmp 13) 131 rfl W0.heap.size 134 i0 (.agg #[.slice none 0 0, .int .i64 0]) 2 Tryz.underlying131 hi0 hz0 hz1 .i64 .i64 (1 : Int) (1 : Int) 1 rfl rfl rfl rfl (by rw [hz2]; omega) (by unfold maxLen; omega) (Nat.le_refl _) ?_
  intro w2 hown hgrow
  have hR : Hid (w2.heap[W0.heap.size]? = some (.cells #[.slice none 0 0, .int .i64 0] 134)) := own_one2 (x := .slice none 0 0) (y := .int .i64 0) (by rw [← made_parcel]; exact hown)
  have hG : Gr W0 w2 := (Gr.refl W0).grown hgrow (fun k hk => by cases hk)
  clear hown hgrow
  obtain ⟨U, eU⟩ : ∃ U, W0.heap.size = U := ⟨_, rfl⟩
  rw [eU] at hR ⊢
  have hUw : w.heap.size < U := by have h := HWL.out; omega
  have HG2 := Lib.hid hG
  have HW2 := Lib.hid (HAL.out.trans hG)
  clear hG hal hc
  go_wp2
  go_loopw [17] (fun i wr => (i = .int .i64 0 ∧ Gr W0 wr ∧ wr.heap[U]? = some (.cells #[.slice none 0 0, .int .i64 0] 134)) ∨ (i = .int .i64 1 ∧ ∃ Y cy, Gr W0 wr ∧ ParcelAt wr U Y k cy 0 ∧ U ≠ Y ∧ OwnB wr W0.heap.size Y k cy l)) (fun i _ => 1 - (intOf i).toNat)
  case atStart => exact .inl ⟨rfl, HG2.out, hR.out⟩
  case round =>
    rcases hrel with ⟨rfl, hgr, hu⟩ | ⟨rfl, Y, cy, hgr, hpa, hUY, hob⟩
    · have hc := (HAL.out.trans hgr).cell HC.out
      have HGR := Lib.hid hgr
      have HU := Lib.hid hu
      clear hgr hu
      go_wp2_with fail
      refine (HCL.out wr (HB.out.below (HAL.out.trans HGR.out))).mono ?_
      rintro e w4 ⟨v, rfl, hown, hg⟩
      obtain ⟨Y, cy, rfl, ho⟩ := OwnB.of_owns hown (by rw [HLK.out]; omega)
      rw [HLK.out] at ho ⊢
      have hYl := ho.base_le.1
      have hUwr : U < wr.heap.size := lt_of_block HU.out
      have hu4 := hg.heap HU.out
      obtain ⟨u0, u1, uf⟩ := two_cells hu4
      obtain ⟨hgb, hh⟩ := two_set hu4 (.slice (some ⟨Y, 0, none⟩) k cy) (.int .i64 0)
      have HH := Lib.hid hh
      have HO4 := Lib.hid (OwnB.mid (ho.baseTo (b' := W0.heap.size) (by omega)) hgb (by omega))
      have HG4 := Lib.hid ((HGR.out.trans hg).grb hgb (by omega))
      clear hown ho hg hu4 hgb hh hc
      go_wp2
      go_roundw
      case rel => exact .inr ⟨rfl, Y, cy, HG4.out, HH.out, by omega, HO4.out⟩
      case measure => simp [intOf]
    · have HPA := Lib.hid hpa
      have HOB := Lib.hid hob
      have HGR := Lib.hid hgr
      clear hpa hob hgr
      rcases HD.out with ⟨rfl, hJ⟩ | ⟨rfl, hJ⟩
      · have hA1 : ActAt wr A 4 J p := (HAL.out.trans HGR.out).heap HAct.out
        have hUs : U < wr.heap.size := lt_of_block HPA.out
        obtain ⟨a0, a1, a2, a3, a4, -⟩ := five_cells hA1
        clear hA1
        go_wp2
        go_loopw [6, 32] (fun un i wq => un = .slice (some ⟨U, 0, none⟩) 1 1 ∧ ((i = .int .i64 0 ∧ wq = wr) ∨ (i = .int .i64 1 ∧ Parc wq U (actFrom 4 J p l) (actOut 4 J p l) ∧ Gr W0 wq))) (fun _ i _ => 1 - (intOf i).toNat)
        case atStart => exact ⟨rfl, .inl ⟨rfl, rfl⟩⟩
        case round =>
          rcases hrel with ⟨rfl, ⟨rfl, rfl⟩ | ⟨rfl, hpc, hgq⟩⟩
          · have hal := (Gr.refl wr).alloc (.cells #[.int .i64 4, .int .i64 0, .int .i64 (J : Int), .int .u32 (p : Int), .slice none 0 0] 73)
            have hAB := heap_alloc_new wr (.cells #[.int .i64 4, .int .i64 0, .int .i64 (J : Int), .int .u32 (p : Int), .slice none 0 0] 73)
            obtain ⟨x0, x1, x2, x3, x4, xf⟩ := five_cells hAB
            go_wp2
            obtain ⟨W1, eW⟩ : ∃ W, wr.alloc (.cells #[.int .i64 4, .int .i64 0, .int .i64 (J : Int), .int .u32 (p : Int), .slice none 0 0] 73) = W := ⟨_, rfl⟩
            rw [eW] at hal x0 x1 x2 x3 x4 ⊢
            have hDW : W1.heap[w.heap.size]? = (_ : Option Obj) := (HGR.out.trans hal).heap HDD.out
            have hDc : W1.cell? ⟨w.heap.size, 4, none⟩ = some (.func (.func 103) #[] #[]) := by simp [World.cell?, hDW]
            have HG1 := Lib.hid (HGR.out.trans hal)
            have HP1 : Hid (ParcelAt W1 U Y k cy 0) := hal.heap HPA.out
            have HO1 := Lib.hid (HOB.out.gr hal)
            clear eW hal hAB xf hDW a0 a1 a2 a3 a4
            go_still_tail 6, (by kernel_rfl)
            change wpList _ _ _ _ _ W1.drew
            go_wp2_with fail
            refine (mask_one W0 U Y k cy J p hp hk hkm hJ l W1.drew (HG1.out.drew) (by omega) hUY (show ParcelAt W1.drew U Y k cy 0 from HP1.out) (HO1.out.gr (Gr.refl W1).drew)).mono ?_
            rintro e w6 ⟨rfl, hpa, hob, hg⟩
            have hpc : Parc w6 U (actFrom 4 J p l) (actOut 4 J p l) := ⟨some ⟨Y, 0, none⟩, k, cy, by
              have h1 : actFrom 4 J p l = fromN (turned (8 * k) J p 32) := by rw [actFrom, if_pos rfl, HLK.out]
              rw [h1]; exact hpa, by rw [actOut, if_pos rfl]; exact hob.bs, fun y hy => by cases hy; exact hob.base_le.2⟩
            have HPC := Lib.hid hpc
            have HGC := Lib.hid hg
            clear hpa hob hg hpc
            go_wp2
            go_roundw
            case rel => exact ⟨rfl, .inr ⟨rfl, HPC.out, HGC.out⟩⟩
            case measure => simp [intOf]
          · have HPC := Lib.hid hpc
            have HGQ := Lib.hid (HAL.out.trans hgq)
            clear hpc hgq
            go_wp2
            first | go_ret | go_ret2
            exact ⟨U, rfl, HPC.out, HGQ.out⟩
      · have hA1 : ActAt wr A 3 J p := (HAL.out.trans HGR.out).heap HAct.out
        have hUs : U < wr.heap.size := lt_of_block HPA.out
        obtain ⟨a0, a1, a2, a3, a4, -⟩ := five_cells hA1
        clear hA1
        go_wp2
        go_loopw [6, 32] (fun un i wq => un = .slice (some ⟨U, 0, none⟩) 1 1 ∧ ((i = .int .i64 0 ∧ wq = wr) ∨ (i = .int .i64 1 ∧ Parc wq U (actFrom 3 J p l) (actOut 3 J p l) ∧ Gr W0 wq))) (fun _ i _ => 1 - (intOf i).toNat)
        case atStart => exact ⟨rfl, .inl ⟨rfl, rfl⟩⟩
        case round =>
          rcases hrel with ⟨rfl, ⟨rfl, rfl⟩ | ⟨rfl, hpc, hgq⟩⟩
          · have hal := (Gr.refl wr).alloc (.cells #[.int .i64 3, .int .i64 0, .int .i64 (J : Int), .int .u32 (p : Int), .slice none 0 0] 73)
            have hAB := heap_alloc_new wr (.cells #[.int .i64 3, .int .i64 0, .int .i64 (J : Int), .int .u32 (p : Int), .slice none 0 0] 73)
            obtain ⟨x0, x1, x2, x3, x4, xf⟩ := five_cells hAB
            go_wp2
            obtain ⟨W1, eW⟩ : ∃ W, wr.alloc (.cells #[.int .i64 3, .int .i64 0, .int .i64 (J : Int), .int .u32 (p : Int), .slice none 0 0] 73) = W := ⟨_, rfl⟩
            rw [eW] at hal x0 x1 x2 x3 x4 ⊢
            have hDW : W1.heap[w.heap.size]? = _ := (HGR.out.trans hal).heap HDD.out
            have hDc : W1.cell? ⟨w.heap.size, 3, none⟩ = some (.func (.func 102) #[] #[]) := by simp [World.cell?, hDW]
            have HG1 := Lib.hid (HGR.out.trans hal)
            have HP1 : Hid (ParcelAt W1 U Y k cy 0) := hal.heap HPA.out
            have HO1 := Lib.hid (HOB.out.gr hal)
            clear eW hal hAB xf hDW a0 a1 a2 a3 a4
            go_still_tail 6, (by kernel_rfl)
            change wpList _ _ _ _ _ W1.drew
            go_wp2_with fail
            refine (cut_one W0 U Y k cy J p hk hkm hJ l W1.drew (HG1.out.drew) (by omega) hUY (show ParcelAt W1.drew U Y k cy 0 from HP1.out) (HO1.out.gr (Gr.refl W1).drew)).mono ?_
            rintro e w6 ⟨a6, c6, rfl, hpa, hob, hbl, hg⟩
            have hpc : Parc w6 U (actFrom 3 J p l) (actOut 3 J p l) := ⟨a6, J, c6, by rw [actFrom, if_neg (by decide)]; exact hpa, by rw [actOut, if_neg (by decide)]; exact hob, hbl⟩
            clear hbl
            have HPC := Lib.hid hpc
            have HGC := Lib.hid hg
            clear hpa hob hg hpc
            go_wp2
            go_roundw
            case rel => exact ⟨rfl, .inr ⟨rfl, HPC.out, HGC.out⟩⟩
            case measure => simp [intOf]
          · have HPC := Lib.hid hpc
            have HGQ := Lib.hid (HAL.out.trans hgq)
            clear hpc hgq
            go_wp2
            first | go_ret | go_ret2
            exact ⟨U, rfl, HPC.out, HGQ.out⟩
end Go.Proofs.YtddopoojmadpjaaGreatDoor

namespace Go.Proofs.YtddopoojmadpjaaGreatDoor
open Go.RowKit
set_option linter.unusedVariables false

set_option maxRecDepth 100000 in
set_option maxHeartbeats 4000000 in
theorem apply_one (b off cap A d J p : Nat) (l : List UInt8) (w : World) (hd : actFits d J l.length) (hp : p < 4294967296) (hk : 1 ≤ l.length) (hkm : l.length ≤ 1000000) (hs : Bss w (some ⟨b, off, none⟩) 1 cap [l]) (hA : ActAt w A d J p) :
    Calls Tryz.prog 26 #[.slice (some ⟨b, off, none⟩) 1 cap, .slice (some ⟨A, 0, none⟩) 1 1] w fun e w' => ∃ v, e = .returned v ∧ RowsV w' w.heap.size v [actOut d J p l] none ∧ Gr w w' := by
  have HP := Lib.hid (play_one b off cap A d J p l w hd hp hk hkm hs hA)
  obtain ⟨OUT, eO⟩ : ∃ x, actOut d J p l = x := ⟨_, rfl⟩
  obtain ⟨F, eF⟩ : ∃ x, actFrom d J p l = x := ⟨_, rfl⟩
  rw [eO, eF] at HP
  rw [eO]
  clear hd hs hA eO eF
  go_enter Tryz.func26, Tryz.ntmps26
  go_wp2_with fail
  refine HP.out.mono ?_
  rintro e w1 ⟨U, rfl, ⟨a, k, c, hu, hb, hbl⟩, hg⟩
  have HBL := Lib.hid hbl
  have HU := Lib.hid hu
  have HB := Lib.hid hb
  have HG := Lib.hid hg
  clear hu hb hg hbl
  go_wp2
  go_loopw [5, 12] (fun o i wr => (i = .int .i64 0 ∧ o = .slice none 0 0 ∧ wr = w1) ∨ (i = .int .i64 1 ∧ RowsV wr w.heap.size o [OUT] none ∧ Gr w wr)) (fun _ i _ => 1 - (intOf i).toNat)
  case atStart => exact .inl ⟨rfl, rfl, rfl⟩
  case round =>
    rcases hrel with ⟨rfl, rfl, rfl⟩ | ⟨rfl, hrow, hgr⟩
    · obtain ⟨u0, u1, uf⟩ := two_cells HU.out
      have hal := (Gr.refl wr).alloc (.cells #[.slice a k c, .int .i64 F] 134)
      obtain ⟨x0, x1, xf⟩ := two_cells (heap_alloc_new wr (.cells #[.slice a k c, .int .i64 F] 134))
      go_wp2_with (with_reducible refine wpList_hold (o := ⟨some 20, _, _, _, _, _⟩) ?_)
      change wpList _ _ _ _ _ _
      have hal2 := hal.alloc (.cells #[.slice a k c] 22)
      have hcl := one_cell (heap_alloc_new (wr.alloc (.cells #[.slice a k c, .int .i64 F] 134)) (.cells #[.slice a k c] 22))
      rw [World.size_alloc] at hcl
      obtain ⟨W4, eW⟩ : ∃ W, (wr.alloc (.cells #[.slice a k c, .int .i64 F] 134)).alloc (.cells #[.slice a k c] 22) = W := ⟨_, rfl⟩
      rw [eW] at hal2 hcl ⊢
      clear eW
      have hwW := (HG.out.trans hal2).size
      refine wpList_append_rows rfl (.tmp 16) (.tmp 19) rfl w.heap.size rfl (RowsV.nil W4 _ none) rfl hcl (HB.out.below hal2) (fun y hy => ⟨(fun e => by cases e), Nat.lt_of_lt_of_le (HBL.out y hy) hal2.size⟩) (by decide) hwW ?_
      intro v4 w4 hr4 hg4 hn4
      have HR4 := Lib.hid hr4
      have HG4 := Lib.hid ((HG.out.trans hal2).grown hg4 (fun k hk => by cases hk))
      clear hr4 hg4 hn4 hwW hcl hal2 hal u0 u1 uf x0 x1 xf
      go_wp2
      go_roundw
      case rel => exact .inr ⟨rfl, HR4.out, HG4.out⟩
      case measure => simp [intOf]
    · have HROW := Lib.hid hrow
      have HGR := Lib.hid hgr
      clear hrow hgr
      go_wp2
      first | go_ret | go_ret2
      exact ⟨_, rfl, HROW.out, HGR.out⟩

theorem infoInt1 : (Tryz.prog.info? 3).map (fun i => (i.zero, i.size, i.bytes)) = some (some (.int .i64 0), 1, 8) := by kernel_rfl
/-- append of one number to none. -/
theorem run_append_int1 (w : World) (ty : TypeId) (b : Nat) (x0 : Value) (h0 : w.cell? ⟨b, 0, none⟩ = some x0) (o0 : x0.oneCell' = true) :
    ∃ R cap w', (Builtin.append_ #[71, 71] ty #[.slice none 0 0, .slice (some ⟨b, 0, none⟩) 1 1]).run Tryz.prog w = .ok (.slice (some ⟨R, 0, none⟩) 1 cap) w' ∧ 1 ≤ cap ∧ cap ≤ maxLen ∧ w'.cell? ⟨R, 0, none⟩ = some x0 ∧ Gr w w' := by
  obtain ⟨i, hi, hz0, hz1, hz2⟩ := info_parts infoInt1
  obtain ⟨v', w', hr, ho, hg, _, _⟩ := run_append_own_at (P := Tryz.prog) w w.heap.size _ ty _ i _ 1 8 Tryz.underlying71 hi hz0 hz1 hz2 rfl (by decide) (.slice none 0 0) 0 [] (World.ownsRow_nil w _ _ 1) ⟨b, 0, none⟩ 1 1 [x0] rfl
    (fun j u hu => by
      match j with
      | 0 => simp at hu; subst hu; rw [Addr.add_zero']; exact h0
      | j + 1 => simp at hu) (fun u hu => by simp at hu; subst hu; exact o0) (by decide) (by decide) (Nat.le_refl _)
  have ho0 := ho
  rcases ho.2 with ⟨_, hn⟩ | ⟨R, cap, cur, rfl, hR, _, hn, hm, _, _⟩
  · omega
  · refine ⟨R, cap, w', hr, by omega, hm, ?_, (Gr.refl w).grown hg fun k hk => by cases hk⟩
    rw [World.ownsRow.cellAt ho0 0 (by decide)]; rfl

end Go.Proofs.YtddopoojmadpjaaGreatDoor
