/-
  Acts that come in: a slice of structs of a byte, a source and a number. The walk of Few.
-/
import Derived.Test.YtdmijoochgmhiacDoorOpenOne
import Derived.Test.YtdmijoochgmhiacDoorPlan
import Derived.Test.YtdmijoochgmhiacDoorPacket
import Derived.Deep.Slices
namespace Go.Proofs.YtdmijoochgmhiacDoor
open Go.RowKit Go.ChangeShapes Go.WideShapes
set_option linter.unusedVariables false

/-- the acts; kf: how long each one's bytes are. -/
def Acts (w : World) (a : Option Addr) (len cap : Nat) (kf : Nat → Nat) : Prop :=
  len ≤ cap ∧ cap ≤ maxLen ∧ (a = none → len = 0) ∧ ∀ x, a = some x → ∀ i, i < len → ∃ (d m : Nat) (a' : Option Addr) (c : Nat) (l : List UInt8) (sd nn : Nat),
    w.cell? (x.add (i * 5 + 0)) = some (.int .u8 (d : Int)) ∧ w.cell? (x.add (i * 5 + 1)) = some (.int .u8 (m : Int)) ∧ w.cell? (x.add (i * 5 + 2)) = some (.slice a' (kf i) c) ∧
    w.cell? (x.add (i * 5 + 3)) = some (.int .u64 (sd : Int)) ∧ w.cell? (x.add (i * 5 + 4)) = some (.int .u64 (nn : Int)) ∧ d < 256 ∧ m < 256 ∧ Bs w a' (kf i) c l ∧ sd < 18446744073709551616 ∧ nn < 18446744073709551616
theorem Acts.below {w w' : World} {a : Option Addr} {len cap : Nat} {kf : Nat → Nat} (h : Acts w a len cap kf) (g : Gr w w') : Acts w' a len cap kf := by
  refine ⟨h.1, h.2.1, h.2.2.1, fun x hx i hi => ?_⟩
  obtain ⟨d, m, a', c, l, sd, nn, h0, h1, h2, h3, h4, hd, hm, hb, hs, hn⟩ := h.2.2.2 x hx i hi
  exact ⟨d, m, a', c, l, sd, nn, g.cell h0, g.cell h1, g.cell h2, g.cell h3, g.cell h4, hd, hm, hb.below g, hs, hn⟩
theorem Acts.at_ {w : World} {a : Option Addr} {len cap : Nat} {kf : Nat → Nat} (h : Acts w a len cap kf) (hl : 0 < len) : ∃ b off, a = some ⟨b, off, none⟩ ∧ b < w.heap.size := by
  obtain ⟨_, _, h3, h4⟩ := h
  cases a with
  | none => have := h3 rfl; omega
  | some x =>
    obtain ⟨_, _, _, _, _, _, _, h0, _⟩ := h4 x rfl 0 hl
    rw [show 0 * 5 + 0 = 0 from rfl, Addr.add_zero'] at h0
    have hs := World.cell?_spot h0
    obtain ⟨b, off, spot⟩ := x
    simp at hs; subst hs
    exact ⟨b, off, rfl, World.block_lt_of_cell? w _ h0⟩
theorem Acts.get {w : World} {b off len cap : Nat} {kf : Nat → Nat} (h : Acts w (some ⟨b, off, none⟩) len cap kf) {i : Nat} (hi : i < len) : ∃ (d m : Nat) (a' : Option Addr) (c : Nat) (l : List UInt8) (sd nn : Nat),
    w.cell? ⟨b, off + i * 5, none⟩ = some (.int .u8 (d : Int)) ∧ w.cell? ⟨b, off + i * 5 + 1, none⟩ = some (.int .u8 (m : Int)) ∧ w.cell? ⟨b, off + i * 5 + 2, none⟩ = some (.slice a' (kf i) c) ∧
    w.cell? ⟨b, off + i * 5 + 3, none⟩ = some (.int .u64 (sd : Int)) ∧ w.cell? ⟨b, off + i * 5 + 4, none⟩ = some (.int .u64 (nn : Int)) ∧ d < 256 ∧ m < 256 ∧ Bs w a' (kf i) c l ∧ sd < 18446744073709551616 ∧ nn < 18446744073709551616 := by
  obtain ⟨d, m, a', c, l, sd, nn, h0, h1, h2, h3, h4, r⟩ := h.2.2.2 _ rfl i hi
  rw [Addr.add_lit, ← Nat.add_assoc] at h0 h1 h2 h3 h4
  exact ⟨d, m, a', c, l, sd, nn, h0, h1, h2, h3, h4, r⟩
theorem list5 {α : Type} : ∀ {l : List α}, l.length = 5 → ∃ a b c d e, l = [a, b, c, d, e]
  | [a, b, c, d, e], _ => ⟨a, b, c, d, e, rfl⟩

set_option maxRecDepth 100000 in
theorem Acts.of_trod {H : Type} {enc : TypeId × Value → H} {W : World} {base : Nat} {held : Bool} {fuel : Nat} {a : Option Addr} {len cap : Nat} {x : DataW H × List MemPlace}
    (h : DataW.trod enc Tryd.prog W base (fun _ => true) held fuel 59 (Value.slice a len cap).cells.toList = some x) : ∃ kf, Acts W a len cap kf := by
  have hC : Tryd.prog.cellsOf 68 = 5 := by kernel_rfl
  have cS : Tryd.prog.cellsOf 40 = 3 := by kernel_rfl
  have c8 : Tryd.prog.cellsOf 5 = 1 := by kernel_rfl
  have c64 : Tryd.prog.cellsOf 38 = 1 := by kernel_rfl
  rcases Deep.open_slice Tryd.underlying59 h with ⟨hcs, _⟩ | ⟨A, len', cap', mm, n, D, Pl, hcs, hb, hl, hm, hmm, hx, hi⟩
  · simp [Value.cells] at hcs
    obtain ⟨rfl, rfl, rfl⟩ := hcs
    exact ⟨fun _ => 0, Nat.le_refl _, Nat.zero_le _, fun _ => rfl, fun _ h => by cases h⟩
  · simp [Value.cells] at hcs
    obtain ⟨rfl, rfl, rfl⟩ := hcs
    have each : ∀ i, i < len → ∃ k : Nat, ∃ (d m : Nat) (a' : Option Addr) (c : Nat) (l : List UInt8) (sd nn : Nat),
        W.cell? (A.add (i * 5 + 0)) = some (.int .u8 (d : Int)) ∧ W.cell? (A.add (i * 5 + 1)) = some (.int .u8 (m : Int)) ∧ W.cell? (A.add (i * 5 + 2)) = some (.slice a' k c) ∧
        W.cell? (A.add (i * 5 + 3)) = some (.int .u64 (sd : Int)) ∧ W.cell? (A.add (i * 5 + 4)) = some (.int .u64 (nn : Int)) ∧ d < 256 ∧ m < 256 ∧ Bs W a' k c l ∧ sd < 18446744073709551616 ∧ nn < 18446744073709551616 := by
      intro i hil
      obtain ⟨cs', hc, ht'⟩ := hi i (by rw [hmm]; simp; omega)
      rw [hC] at hc
      obtain ⟨_, hcl, hat⟩ := World.cells?_some hc
      obtain ⟨c0, c1, c2, c3, c4, rfl⟩ := list5 hcl
      have y0 := hat 0 (by decide)
      have y1 := hat 1 (by decide)
      have y2 := hat 2 (by decide)
      have y3 := hat 3 (by decide)
      have y4 := hat 4 (by decide)
      rw [Go.Deep.add_add] at y0 y1 y2 y3 y4
      obtain ⟨xs, k, _, _, _, hlen, hg⟩ := DataW.trod_struct Tryd.underlying68 ht'
      obtain ⟨x0, h0⟩ := get_some hlen (i := 0) (by decide)
      obtain ⟨x1, h1⟩ := get_some hlen (i := 1) (by decide)
      obtain ⟨x2, h2⟩ := get_some hlen (i := 2) (by decide)
      have g0 : DataW.trod enc Tryd.prog W base (fun _ => true) held k 5 (([c0, c1, c2, c3, c4].drop 0).take (Tryd.prog.cellsOf 5)) = some x0 := (hg 0 _ rfl).trans h0
      rw [c8] at g0
      have g1 : DataW.trod enc Tryd.prog W base (fun _ => true) held k 40 (([c0, c1, c2, c3, c4].drop 1).take (Tryd.prog.cellsOf 40)) = some x1 := (hg 1 _ rfl).trans h1
      rw [cS] at g1
      have g2 : DataW.trod enc Tryd.prog W base (fun _ => true) held k 38 (([c0, c1, c2, c3, c4].drop 4).take (Tryd.prog.cellsOf 38)) = some x2 := (hg 2 _ rfl).trans h2
      rw [c64] at g2
      obtain ⟨d, rfl, hd⟩ := cell_u8 g0
      obtain ⟨m, a', k', c, l, sd, rfl, rfl, rfl, hm', hbs, hs⟩ := cells_source g1
      obtain ⟨nn, rfl, hn⟩ := cell_u64 g2
      exact ⟨k', d, m, a', c, l, sd, nn, y0, y1, y2, y3, y4, hd, hm', hbs, hs, hn⟩
    obtain ⟨kf, hk⟩ := Go.Deep.choose_lt each
    exact ⟨kf, hl, hm, (fun h => by cases h), fun y hy i hi => by cases hy; exact hk i hi⟩

/-- what is known where the acts are gone through. -/
def FewP (n s q : Int) (kf : Nat → Nat) (len ko : Nat) (b : Bool) : Prop := b = true → (∀ i, i < len → kf i ≤ 100) ∧ ko ≤ 300 ∧ len ≤ 20 ∧ (planErr n s q = 0 → q ≤ 60 ∧ s ≤ 60)
/-- what Few answers. -/
def FewOut (n s q : Int) (kf : Nat → Nat) (len ko : Nat) (w : World) (e : Ending) (w' : World) : Prop := ∃ b, e = .returned (.bool b) ∧ FewP n s q kf len ko b ∧ Gr w w'
theorem FewOut.mk {n s q : Int} {kf : Nat → Nat} {len ko : Nat} {w : World} {e : Ending} {w' : World} (b : Bool) (he : e = .returned (.bool b)) (hf : FewP n s q kf len ko b) (hg : Gr w w') : FewOut n s q kf len ko w e w' := ⟨b, he, hf, hg⟩

set_option maxRecDepth 100000 in
set_option maxHeartbeats 2000000 in
theorem actFew_any (n s q : Int) (id : Nat) (hlo : -9223372036854775808 ≤ n) (hm : n ≤ 9223372036854775807) (hsl : -9223372036854775808 ≤ s) (hsm : s ≤ 9223372036854775807) (ao : Option Addr) (ko co : Nat) (a : Option Addr) (len cap : Nat) (kf : Nat → Nat) (w : World) (h : Acts w a len cap kf) :
    Calls Tryd.prog 23 #[.agg #[.int .i64 n, .int .i64 s, .int .i64 q, .int .u32 (id : Int)], .slice ao ko co, .slice a len cap] w
      fun e w' => FewOut n s q kf len ko w e w' := by
  have hlm : len ≤ 9223372036854775807 := by have h1 := h.1; have h2 := h.2.1; unfold maxLen at h2; omega
  have CP := Lib.hid fun w => planCheck_any n s q id hlo hm hsl hsm w
  have H := Lib.hid h
  clear h
  go_enter Tryd.func23, Tryd.ntmps23
  have hal := (Gr.refl w).alloc (.cells #[.int .i64 n, .int .i64 s, .int .i64 q, .int .u32 (id : Int)] 24)
  have hP := Lib.hid (heap_alloc_new w (.cells #[.int .i64 n, .int .i64 s, .int .i64 q, .int .u32 (id : Int)] 24))
  go_wp2
  obtain ⟨W0, eW⟩ : ∃ W, w.alloc (.cells #[.int .i64 n, .int .i64 s, .int .i64 q, .int .u32 (id : Int)] 24) = W := ⟨_, rfl⟩
  rw [eW] at hal hP ⊢
  clear eW
  have HAL := Lib.hid hal
  clear hal
  go_loopw [11] (fun i wr => ∃ j : Nat, j ≤ len ∧ i = .int .i64 j ∧ (∀ t, t < j → kf t ≤ 100) ∧ Gr W0 wr) (fun i _ => len - (intOf i).toNat)
  case atStart => exact ⟨0, Nat.zero_le _, rfl, fun _ h => by omega, Gr.refl _⟩
  case round =>
    obtain ⟨j, hj, rfl, hall, hgr⟩ := hrel
    have HA := Lib.hid hall
    have HG := Lib.hid hgr
    clear hall hgr
    by_cases hlt : j < len
    · have hw := HAL.out.trans HG.out
      obtain ⟨b, off, rfl, _⟩ := H.out.at_ (by omega)
      obtain ⟨d, m, a', c, l, sd, nn, c0, c1, c2, c3, c4, hd, hm', hb, hs, hn⟩ := (H.out.below hw).get hlt
      have hk : kf j ≤ 9223372036854775807 := by have h1 := hb.2.1; have h2 := hb.2.2.1; unfold maxLen at h2; omega
      obtain ⟨kj, ekj⟩ : ∃ k, kf j = k := ⟨_, rfl⟩
      rw [ekj] at c2 hk
      have HK := Lib.hid ekj
      clear ekj hb hw
      by_cases hlong : 100 < kj
      · have ht : (100 : Int) < (kj : Int) := by omega
        go_wp2
        first | go_ret | go_ret2
        exact FewOut.mk false rfl ((fun h => by cases h)) (HAL.out.trans (HG.out.alloc _))
      · have ht : ¬ (100 : Int) < (kj : Int) := by omega
        go_wp2
        go_roundw
        case rel =>
          refine ⟨j + 1, by omega, by go_num, fun t htj => ?_, HG.out.trans (by repeat (first | assumption | exact Gr.refl _ | (refine Gr.alloc ?_ _) | (refine Gr.drew ?_) | (refine Gr.drewN ?_ _) | (refine Gr.trans ?_ (by assumption))))⟩
          by_cases e : t = j
          · rw [e, HK.out]; omega
          · exact HA.out t (by omega)
        case measure => simp [intOf]; omega
    · have hall : ∀ i, i < len → kf i ≤ 100 := fun i hi => HA.out i (by omega)
      have hge : (len : Int) ≤ (j : Int) := by omega
      have hw := HAL.out.trans HG.out
      have HALL := Lib.hid hall
      have HW := Lib.hid hw
      obtain ⟨p0, p1, p2, p3⟩ := p_four_cells (HG.out.heap hP.out)
      have HP := Lib.hid (HG.out.heap hP.out)
      clear hall hw HA
      by_cases h1 : ko ≤ 300
      · have h1i : (ko : Int) ≤ 300 := by omega
        by_cases h2 : len ≤ 20
        · have h2i : (len : Int) ≤ 20 := by omega
          go_wp2_with fail
          refine (CP.out _).mono ?_
          rintro e w2 ⟨rfl, hg2⟩
          obtain ⟨p0, p1, p2, p3⟩ := p_four_cells (hg2.heap HP.out)
          have HW2 := Lib.hid (HW.out.trans hg2)
          clear hg2
          obtain ⟨E, eE⟩ : ∃ E, planErr n s q = E := ⟨_, rfl⟩
          have EE := Lib.hid eE
          rw [eE]
          clear eE
          by_cases hE : E = 0
          · have ht : ((E : Int) != 0) = false := by rw [hE]; rfl
            clear hE
            by_cases h3 : q ≤ 60
            · by_cases h4 : s ≤ 60
              · go_wp2
                first | go_ret | go_ret2
                exact FewOut.mk true rfl (fun _ => ⟨HALL.out, h1, h2, fun _ => ⟨h3, h4⟩⟩) (HW2.out)
              · go_wp2
                first | go_ret | go_ret2
                exact FewOut.mk _ rfl ((fun h => absurd (of_decide_eq_true h) (by omega))) (HW2.out)
            · go_wp2
              first | go_ret | go_ret2
              exact FewOut.mk _ rfl ((fun h => by cases h)) (HW2.out)
          · have ht : ((E : Int) != 0) = true := by rw [bne_iff_ne]; omega
            go_wp2
            first | go_ret | go_ret2
            exact FewOut.mk true rfl (fun _ => ⟨HALL.out, h1, h2, fun h => absurd (EE.out.symm.trans h) hE⟩) (HW2.out)
        · have h2i : ¬ (len : Int) ≤ 20 := by omega
          go_wp2
          first | go_ret | go_ret2
          exact FewOut.mk false rfl ((fun h => by cases h)) (HW.out)
      · have h1i : ¬ (ko : Int) ≤ 300 := by omega
        go_wp2
        first | go_ret | go_ret2
        exact FewOut.mk false rfl ((fun h => by cases h)) (HW.out)
end Go.Proofs.YtdmijoochgmhiacDoor
