/-
  Acts that come in: a slice of structs of a byte, a source and a number. The walk of Few.
  The walk of law SenderSends.
  The proof's frame of 'SenderSends': the given statement, out of the walk.
-/
import Derived.Test.YtdmijoochgmhiacDoorOpenOne
import Derived.Test.YtdmijoochgmhiacDoorPlan
import Derived.Test.YtdmijoochgmhiacDoorPacket
import Derived.Deep.Slices
import Derived.Test.YtdmijoochgmhiacDoorSenderSpent
import Derived.Test.YtdmijoochgmhiacDoorRefPacket
import Derived.Test.YtdmijoochgmhiacDoorPacketWriteRef
import Derived.Test.YtdmijoochgmhiacDoorSame
import Derived.Test.YtdmijoochgmhiacDoorCards
import Derived.Test.YtdmijoochgmhiacDoorTie
import Derived.Deep.DeepHandedRow
import Derived.Lib.LaidTab
import Derived.Lib.SmallJoins
namespace Go.Proofs.YtdmijoochgmhiacDoor
open Go.RowKit Go.ChangeShapes Go.WideShapes
set_option linter.unusedVariables false

/-- the acts; kf: how long each one's bytes are. -/
def Acts (w : World) (a : Option Addr) (len cap : Nat) (kf : Nat → Nat) : Prop :=
  len ≤ cap ∧ cap ≤ maxLen ∧ (a = none → len = 0) ∧ ∀ x, a = some x → ∀ i, i < len → ∃ (d m : Nat) (a' : Option Addr) (c : Nat) (l : List UInt8) (sd nn : Nat),
    w.cell? (x.add (i * 5 + 0)) = some (.int .u8 (d : Int)) ∧ w.cell? (x.add (i * 5 + 1)) = some (.int .u8 (m : Int)) ∧ w.cell? (x.add (i * 5 + 2)) = some (.slice a' (kf i) c) ∧
    w.cell? (x.add (i * 5 + 3)) = some (.int .u64 (sd : Int)) ∧ w.cell? (x.add (i * 5 + 4)) = some (.int .u64 (nn : Int)) ∧ d < 256 ∧ m < 256 ∧ Bs w a' (kf i) c l ∧ sd < 18446744073709551616 ∧ nn < 18446744073709551616
theorem Acts.below {w w' : World} {a : Option Addr} {len cap : Nat} {kf : Nat → Nat} (h : Acts w a len cap kf) (g : Gr w w') : Acts w' a len cap kf := by
  refine ⟨h.1, h.2.1, h.2.2.1, fun x hx i hi => ?_⟩
  obtain ⟨d, m, a', c, l, sd, nn, h0, h1, h2, h3, h4, hd, hm, hb, hs, hn⟩ := h.2.2.2 x hx i hi
  exact ⟨d, m, a', c, l, sd, nn, g.cell h0, g.cell h1, g.cell h2, g.cell h3, g.cell h4, hd, hm, hb.below g, hs, hn⟩
theorem Acts.at_ {w : World} {a : Option Addr} {len cap : Nat} {kf : Nat → Nat} (h : Acts w a len cap kf) (hl : 0 < len) : ∃ b off, a = some ⟨b, off, none⟩ ∧ b < w.heap.size := by
  obtain ⟨_, _, h3, h4⟩ := h
  cases a with
  | none => have := h3 rfl; omega
  | some x =>
    obtain ⟨_, _, _, _, _, _, _, h0, _⟩ := h4 x rfl 0 hl
    rw [show 0 * 5 + 0 = 0 from rfl, Addr.add_zero'] at h0
    have hs := World.cell?_spot h0
    obtain ⟨b, off, spot⟩ := x
    simp at hs; subst hs
    exact ⟨b, off, rfl, World.block_lt_of_cell? w _ h0⟩
theorem Acts.get {w : World} {b off len cap : Nat} {kf : Nat → Nat} (h : Acts w (some ⟨b, off, none⟩) len cap kf) {i : Nat} (hi : i < len) : ∃ (d m : Nat) (a' : Option Addr) (c : Nat) (l : List UInt8) (sd nn : Nat),
    w.cell? ⟨b, off + i * 5, none⟩ = some (.int .u8 (d : Int)) ∧ w.cell? ⟨b, off + i * 5 + 1, none⟩ = some (.int .u8 (m : Int)) ∧ w.cell? ⟨b, off + i * 5 + 2, none⟩ = some (.slice a' (kf i) c) ∧
    w.cell? ⟨b, off + i * 5 + 3, none⟩ = some (.int .u64 (sd : Int)) ∧ w.cell? ⟨b, off + i * 5 + 4, none⟩ = some (.int .u64 (nn : Int)) ∧ d < 256 ∧ m < 256 ∧ Bs w a' (kf i) c l ∧ sd < 18446744073709551616 ∧ nn < 18446744073709551616 := by
  obtain ⟨d, m, a', c, l, sd, nn, h0, h1, h2, h3, h4, r⟩ := h.2.2.2 _ rfl i hi
  rw [Addr.add_lit, ← Nat.add_assoc] at h0 h1 h2 h3 h4
  exact ⟨d, m, a', c, l, sd, nn, h0, h1, h2, h3, h4, r⟩
theorem list5 {α : Type} : ∀ {l : List α}, l.length = 5 → ∃ a b c d e, l = [a, b, c, d, e]
  | [a, b, c, d, e], _ => ⟨a, b, c, d, e, rfl⟩

set_option maxRecDepth 100000 in
theorem Acts.of_trod {H : Type} {enc : TypeId × Value → H} {W : World} {base : Nat} {held : Bool} {fuel : Nat} {a : Option Addr} {len cap : Nat} {x : DataW H × List MemPlace}
    (h : DataW.trod enc Tryd.prog W base (fun _ => true) held fuel 59 (Value.slice a len cap).cells.toList = some x) : ∃ kf, Acts W a len cap kf := by
  have hC : Tryd.prog.cellsOf 68 = 5 := by kernel_rfl
  have cS : Tryd.prog.cellsOf 40 = 3 := by kernel_rfl
  have c8 : Tryd.prog.cellsOf 5 = 1 := by kernel_rfl
  have c64 : Tryd.prog.cellsOf 38 = 1 := by kernel_rfl
  rcases Deep.open_slice Tryd.underlying59 h with ⟨hcs, _⟩ | ⟨A, len', cap', mm, n, D, Pl, hcs, hb, hl, hm, hmm, hx, hi⟩
  · simp [Value.cells] at hcs
    obtain ⟨rfl, rfl, rfl⟩ := hcs
    exact ⟨fun _ => 0, Nat.le_refl _, Nat.zero_le _, fun _ => rfl, fun _ h => by cases h⟩
  · simp [Value.cells] at hcs
    obtain ⟨rfl, rfl, rfl⟩ := hcs
    have each : ∀ i, i < len → ∃ k : Nat, ∃ (d m : Nat) (a' : Option Addr) (c : Nat) (l : List UInt8) (sd nn : Nat),
        W.cell? (A.add (i * 5 + 0)) = some (.int .u8 (d : Int)) ∧ W.cell? (A.add (i * 5 + 1)) = some (.int .u8 (m : Int)) ∧ W.cell? (A.add (i * 5 + 2)) = some (.slice a' k c) ∧
        W.cell? (A.add (i * 5 + 3)) = some (.int .u64 (sd : Int)) ∧ W.cell? (A.add (i * 5 + 4)) = some (.int .u64 (nn : Int)) ∧ d < 256 ∧ m < 256 ∧ Bs W a' k c l ∧ sd < 18446744073709551616 ∧ nn < 18446744073709551616 := by
      intro i hil
      obtain ⟨cs', hc, ht'⟩ := hi i (by rw [hmm]; simp; omega)
      rw [hC] at hc
      obtain ⟨_, hcl, hat⟩ := World.cells?_some hc
      obtain ⟨c0, c1, c2, c3, c4, rfl⟩ := list5 hcl
      have y0 := hat 0 (by decide)
      have y1 := hat 1 (by decide)
      have y2 := hat 2 (by decide)
      have y3 := hat 3 (by decide)
      have y4 := hat 4 (by decide)
      rw [Go.Deep.add_add] at y0 y1 y2 y3 y4
      obtain ⟨xs, k, _, _, _, hlen, hg⟩ := DataW.trod_struct Tryd.underlying68 ht'
      obtain ⟨x0, h0⟩ := get_some hlen (i := 0) (by decide)
      obtain ⟨x1, h1⟩ := get_some hlen (i := 1) (by decide)
      obtain ⟨x2, h2⟩ := get_some hlen (i := 2) (by decide)
      have g0 : DataW.trod enc Tryd.prog W base (fun _ => true) held k 5 (([c0, c1, c2, c3, c4].drop 0).take (Tryd.prog.cellsOf 5)) = some x0 := (hg 0 _ rfl).trans h0
      rw [c8] at g0
      have g1 : DataW.trod enc Tryd.prog W base (fun _ => true) held k 40 (([c0, c1, c2, c3, c4].drop 1).take (Tryd.prog.cellsOf 40)) = some x1 := (hg 1 _ rfl).trans h1
      rw [cS] at g1
      have g2 : DataW.trod enc Tryd.prog W base (fun _ => true) held k 38 (([c0, c1, c2, c3, c4].drop 4).take (Tryd.prog.cellsOf 38)) = some x2 := (hg 2 _ rfl).trans h2
      rw [c64] at g2
      obtain ⟨d, rfl, hd⟩ := cell_u8 g0
      obtain ⟨m, a', k', c, l, sd, rfl, rfl, rfl, hm', hbs, hs⟩ := cells_source g1
      obtain ⟨nn, rfl, hn⟩ := cell_u64 g2
      exact ⟨k', d, m, a', c, l, sd, nn, y0, y1, y2, y3, y4, hd, hm', hbs, hs, hn⟩
    obtain ⟨kf, hk⟩ := Go.Deep.choose_lt each
    exact ⟨kf, hl, hm, (fun h => by cases h), fun y hy i hi => by cases hy; exact hk i hi⟩

/-- what is known where the acts are gone through. -/
def FewP (n s q : Int) (kf : Nat → Nat) (len ko : Nat) (b : Bool) : Prop := b = true → (∀ i, i < len → kf i ≤ 100) ∧ ko ≤ 300 ∧ len ≤ 20 ∧ (planErr n s q = 0 → q ≤ 60 ∧ s ≤ 60)
/-- what Few answers. -/
def FewOut (n s q : Int) (kf : Nat → Nat) (len ko : Nat) (w : World) (e : Ending) (w' : World) : Prop := ∃ b, e = .returned (.bool b) ∧ FewP n s q kf len ko b ∧ Gr w w'
theorem FewOut.mk {n s q : Int} {kf : Nat → Nat} {len ko : Nat} {w : World} {e : Ending} {w' : World} (b : Bool) (he : e = .returned (.bool b)) (hf : FewP n s q kf len ko b) (hg : Gr w w') : FewOut n s q kf len ko w e w' := ⟨b, he, hf, hg⟩

set_option maxRecDepth 100000 in
set_option maxHeartbeats 2000000 in
theorem actFew_any (n s q : Int) (id : Nat) (hlo : -9223372036854775808 ≤ n) (hm : n ≤ 9223372036854775807) (hsl : -9223372036854775808 ≤ s) (hsm : s ≤ 9223372036854775807) (ao : Option Addr) (ko co : Nat) (a : Option Addr) (len cap : Nat) (kf : Nat → Nat) (w : World) (h : Acts w a len cap kf) :
    Calls Tryd.prog 23 #[.agg #[.int .i64 n, .int .i64 s, .int .i64 q, .int .u32 (id : Int)], .slice ao ko co, .slice a len cap] w
      fun e w' => FewOut n s q kf len ko w e w' := by
  have hlm : len ≤ 9223372036854775807 := by have h1 := h.1; have h2 := h.2.1; unfold maxLen at h2; omega
  have CP := Lib.hid fun w => planCheck_any n s q id hlo hm hsl hsm w
  have H := Lib.hid h
  clear h
  go_enter Tryd.func23, Tryd.ntmps23
  have hal := (Gr.refl w).alloc (.cells #[.int .i64 n, .int .i64 s, .int .i64 q, .int .u32 (id : Int)] 24)
  have hP := Lib.hid (heap_alloc_new w (.cells #[.int .i64 n, .int .i64 s, .int .i64 q, .int .u32 (id : Int)] 24))
  go_wp2
  obtain ⟨W0, eW⟩ : ∃ W, w.alloc (.cells #[.int .i64 n, .int .i64 s, .int .i64 q, .int .u32 (id : Int)] 24) = W := ⟨_, rfl⟩
  rw [eW] at hal hP ⊢
  clear eW
  have HAL := Lib.hid hal
  clear hal
  go_loopw [11] (fun i wr => ∃ j : Nat, j ≤ len ∧ i = .int .i64 j ∧ (∀ t, t < j → kf t ≤ 100) ∧ Gr W0 wr) (fun i _ => len - (intOf i).toNat)
  case atStart => exact ⟨0, Nat.zero_le _, rfl, fun _ h => by omega, Gr.refl _⟩
  case round =>
    obtain ⟨j, hj, rfl, hall, hgr⟩ := hrel
    have HA := Lib.hid hall
    have HG := Lib.hid hgr
    clear hall hgr
    by_cases hlt : j < len
    · have hw := HAL.out.trans HG.out
      obtain ⟨b, off, rfl, _⟩ := H.out.at_ (by omega)
      obtain ⟨d, m, a', c, l, sd, nn, c0, c1, c2, c3, c4, hd, hm', hb, hs, hn⟩ := (H.out.below hw).get hlt
      have hk : kf j ≤ 9223372036854775807 := by have h1 := hb.2.1; have h2 := hb.2.2.1; unfold maxLen at h2; omega
      obtain ⟨kj, ekj⟩ : ∃ k, kf j = k := ⟨_, rfl⟩
      rw [ekj] at c2 hk
      have HK := Lib.hid ekj
      clear ekj hb hw
      by_cases hlong : 100 < kj
      · have ht : (100 : Int) < (kj : Int) := by omega
        go_wp2
        first | go_ret | go_ret2
        exact FewOut.mk false rfl ((fun h => by cases h)) (HAL.out.trans (HG.out.alloc _))
      · have ht : ¬ (100 : Int) < (kj : Int) := by omega
        go_wp2
        go_roundw
        case rel =>
          refine ⟨j + 1, by omega, by go_num, fun t htj => ?_, HG.out.trans (by repeat (first | assumption | exact Gr.refl _ | (refine Gr.alloc ?_ _) | (refine Gr.drew ?_) | (refine Gr.drewN ?_ _) | (refine Gr.trans ?_ (by assumption))))⟩
          by_cases e : t = j
          · rw [e, HK.out]; omega
          · exact HA.out t (by omega)
        case measure => simp [intOf]; omega
    · have hall : ∀ i, i < len → kf i ≤ 100 := fun i hi => HA.out i (by omega)
      have hge : (len : Int) ≤ (j : Int) := by omega
      have hw := HAL.out.trans HG.out
      have HALL := Lib.hid hall
      have HW := Lib.hid hw
      obtain ⟨p0, p1, p2, p3⟩ := p_four_cells (HG.out.heap hP.out)
      have HP := Lib.hid (HG.out.heap hP.out)
      clear hall hw HA
      by_cases h1 : ko ≤ 300
      · have h1i : (ko : Int) ≤ 300 := by omega
        by_cases h2 : len ≤ 20
        · have h2i : (len : Int) ≤ 20 := by omega
          go_wp2_with fail
          refine (CP.out _).mono ?_
          rintro e w2 ⟨rfl, hg2⟩
          obtain ⟨p0, p1, p2, p3⟩ := p_four_cells (hg2.heap HP.out)
          have HW2 := Lib.hid (HW.out.trans hg2)
          clear hg2
          obtain ⟨E, eE⟩ : ∃ E, planErr n s q = E := ⟨_, rfl⟩
          have EE := Lib.hid eE
          rw [eE]
          clear eE
          by_cases hE : E = 0
          · have ht : ((E : Int) != 0) = false := by rw [hE]; rfl
            clear hE
            by_cases h3 : q ≤ 60
            · by_cases h4 : s ≤ 60
              · go_wp2
                first | go_ret | go_ret2
                exact FewOut.mk true rfl (fun _ => ⟨HALL.out, h1, h2, fun _ => ⟨h3, h4⟩⟩) (HW2.out)
              · go_wp2
                first | go_ret | go_ret2
                exact FewOut.mk _ rfl ((fun h => absurd (of_decide_eq_true h) (by omega))) (HW2.out)
            · go_wp2
              first | go_ret | go_ret2
              exact FewOut.mk _ rfl ((fun h => by cases h)) (HW2.out)
          · have ht : ((E : Int) != 0) = true := by rw [bne_iff_ne]; omega
            go_wp2
            first | go_ret | go_ret2
            exact FewOut.mk true rfl (fun _ => ⟨HALL.out, h1, h2, fun h => absurd (EE.out.symm.trans h) hE⟩) (HW2.out)
        · have h2i : ¬ (len : Int) ≤ 20 := by omega
          go_wp2
          first | go_ret | go_ret2
          exact FewOut.mk false rfl ((fun h => by cases h)) (HW.out)
      · have h1i : ¬ (ko : Int) ≤ 300 := by omega
        go_wp2
        first | go_ret | go_ret2
        exact FewOut.mk false rfl ((fun h => by cases h)) (HW.out)
end Go.Proofs.YtdmijoochgmhiacDoor

namespace Go.Proofs.YtdmijoochgmhiacDoor
open Go.RowKit
set_option linter.unusedVariables false

/-- whatever is sent: an answer, and the sender's block alone is changed. -/
theorem send_some (B n s q id : Nat) (hP : planErr n s q = 0) (hid : id < 4294967296) (hnm : n ≤ 1000000000) (obj : List UInt8) (next : Nat) (hnx : next ≤ 4294967296) (m : Nat) (a : Option Addr) (len cap sd : Nat) (hsd : sd < 18446744073709551616) (l : List UInt8) (hlm : len ≤ 1000000) (w : World) (htab : Tab w) (hs : Bs w a len cap l) (h : SendAt w B n s q id obj next) :
    Calls Tryd.prog 28 #[.pointer (some ⟨B, 0, none⟩), .agg #[.int .u8 (m : Int), .slice a len cap, .int .u64 (sd : Int)]] w fun e w' => ∃ a' k' c' E, e = .returned (.tuple #[.slice a' k' c', .int .i64 E]) ∧ GrB w B w' := by
  by_cases hn : next = 4294967296
  · subst hn
    refine (send_spent B n s q id obj m a len cap sd w h).mono ?_
    rintro e w' ⟨rfl, hg⟩
    exact ⟨_, _, _, _, rfl, GrB.of_gr hg⟩
  · by_cases hE : rowErr m len q = 0
    · refine (send_ok B n s q id hP hid hnm obj next (by omega) m a len cap sd hsd l (by omega) hE w htab hs h).mono ?_
      rintro e w' ⟨a', k', c', rfl, _, _, _, hg⟩
      exact ⟨_, _, _, _, rfl, hg⟩
    · refine (send_bad B n s q id obj next (by omega) m a len cap sd (by omega) hE w h).mono ?_
      rintro e w' ⟨rfl, hg⟩
      exact ⟨_, _, _, _, rfl, GrB.of_gr hg⟩
theorem refPacket_some (n s q id : Nat) (hP : planErr n s q = 0) (hnm : n ≤ 1000000000) (ao : Option Addr) (co : Nat) (obj : List UInt8) (nn m : Nat) (a : Option Addr) (len cap sd : Nat) (hsd : sd < 18446744073709551616) (l : List UInt8) (hlm : len ≤ 1000000) (w : World) (ho : Bs w ao n co obj) (hs : Bs w a len cap l) :
    Calls Tryd.prog 29 #[.agg #[.int .i64 (n : Int), .int .i64 (s : Int), .int .i64 (q : Int), .int .u32 (id : Int)], .slice ao n co, .int .u32 (nn : Int), .int .u8 (m : Int), .slice a len cap, .int .u64 (sd : Int)] w
      fun e w' => ∃ (m' id' n' m2 sd' : Int) (a1 : Option Addr) (k1 c1 : Nat) (a2 : Option Addr) (k2 c2 : Nat) (E : Nat), e = .returned (.tuple #[.agg #[.int .u8 m', .int .u32 id', .int .u32 n', .int .u8 m2, .slice a1 k1 c1, .int .u64 sd', .slice a2 k2 c2], .int .i64 (E : Int)]) ∧ Gr w w' := by
  by_cases hE : rowErr m len q = 0
  · refine (refPacket_ok n s q id hP hnm ao co obj nn m a len cap sd hsd l hlm hE w ho hs).mono ?_
    rintro e w' ⟨a', c', rfl, _, hg⟩
    exact ⟨_, _, _, _, _, _, _, _, _, _, _, 0, rfl, hg⟩
  · refine (refPacket_bad n s q id ao n co nn m a len cap sd (by omega) hE w).mono ?_
    rintro e w' ⟨rfl, hg⟩
    exact ⟨_, _, _, _, _, _, _, _, _, _, _, _, rfl, hg⟩

set_option maxRecDepth 100000 in
set_option maxHeartbeats 2000000 in
theorem sends_bad (n s q : Int) (id : Nat) (hlo : -9223372036854775808 ≤ n) (hm : n ≤ 9223372036854775807) (hsl : -9223372036854775808 ≤ s) (hsm : s ≤ 9223372036854775807) (ao : Option Addr) (ko co : Nat) (hko : ko ≤ 9223372036854775807) (hE : cutErr n s q ko ≠ 0) (a : Option Addr) (len cap : Nat) (kf : Nat → Nat) (w : World) (htab : Tab w) (h : Acts w a len cap kf) :
    Calls Tryd.prog 5 #[.agg #[.int .i64 n, .int .i64 s, .int .i64 q, .int .u32 (id : Int)], .slice ao ko co, .slice a len cap] w fun e w' => e = .returned (.bool true) ∧ Gr w w' := by
  have CF := Lib.hid fun w h => actFew_any n s q id hlo hm hsl hsm ao ko co a len cap kf w h
  have CN := Lib.hid fun w => senderNew_bad n s q id hlo hm hsl hsm ao ko co hko hE w
  have CC := Lib.hid fun w => refCut_bad n s q id hm hsm ao ko co hko hE w
  obtain ⟨E, eE⟩ : ∃ E, cutErr n s q ko = E := ⟨_, rfl⟩
  rw [eE] at CN CC hE
  have ht : ((E : Int) != 0) = true := by rw [bne_iff_ne]; omega
  have H := Lib.hid h
  have HT := Lib.hid htab
  clear eE hE h htab
  go_enter Tryd.func5, Tryd.ntmps5
  have hal := (Gr.refl w).alloc (.cells #[.int .i64 n, .int .i64 s, .int .i64 q, .int .u32 (id : Int)] 24)
  have HP := Lib.hid (heap_alloc_new w (.cells #[.int .i64 n, .int .i64 s, .int .i64 q, .int .u32 (id : Int)] 24))
  go_wp2_with fail
  refine (sendAwake _ (HT.out.below hal)).mono ?_
  rintro e w1 ⟨rfl, hg⟩
  have HW1 := Lib.hid (hal.trans hg)
  have HP1 := Lib.hid (hg.heap HP.out)
  obtain ⟨p0, p1, p2, p3⟩ := p_four_cells HP1.out
  clear hg hal HP
  go_wp2_with fail
  refine (CF.out w1 (H.out.below HW1.out)).mono ?_
  rintro e w2 ⟨b, rfl, _, hg⟩
  have HW2 := Lib.hid (HW1.out.trans hg)
  have HP2 := Lib.hid (hg.heap HP1.out)
  obtain ⟨p0, p1, p2, p3⟩ := p_four_cells HP2.out
  clear hg HW1 HP1
  cases b with
  | false =>
    go_wp2
    first | go_ret | go_ret2
    exact ⟨rfl, HW2.out⟩
  | true =>
    have hal := (Gr.refl w2).alloc (.cells #[.int .i64 n, .int .i64 s, .int .i64 q, .int .u32 (id : Int)] 61)
    have HD := Lib.hid (heap_alloc_new w2 (.cells #[.int .i64 n, .int .i64 s, .int .i64 q, .int .u32 (id : Int)] 61))
    obtain ⟨r0, r1, r2, r3⟩ := p_four_cells (hal.heap HP2.out)
    go_wp2_with fail
    refine (CN.out _).mono ?_
    rintro e w3 ⟨rfl, hg⟩
    have HW3 := Lib.hid (HW2.out.trans (hal.trans hg))
    obtain ⟨p0, p1, p2, p3⟩ := p_four_cells (hg.heap HD.out)
    clear hg hal HD
    go_wp2_with fail
    refine (CC.out _).mono ?_
    rintro e w4 ⟨rfl, hg⟩
    have HW4 := HW3.out.trans hg
    clear hg
    go_wp2
    first | go_ret | go_ret2
    exact ⟨rfl, HW4⟩

set_option maxRecDepth 100000 in
set_option maxHeartbeats 4000000 in
theorem sends_ok (n s q : Nat) (id : Nat) (hP : planErr n s q = 0) (hid : id < 4294967296) (hnm : n ≤ 9223372036854775807) (ao : Option Addr) (co : Nat) (obj : List UInt8) (a : Option Addr) (len cap : Nat) (kf : Nat → Nat) (w : World) (htab : Tab w) (ho : Bs w ao n co obj) (h : Acts w a len cap kf) :
    Calls Tryd.prog 5 #[.agg #[.int .i64 (n : Int), .int .i64 (s : Int), .int .i64 (q : Int), .int .u32 (id : Int)], .slice ao n co, .slice a len cap] w fun e w' => e = .returned (.bool true) ∧ Gr w w' := by
  obtain ⟨hs1, hs2, hq1, hq2⟩ := plan_bounds hP
  have CF := Lib.hid fun w h => actFew_any n s q id (by omega) (by omega) (by omega) (by omega) ao n co a len cap kf w h
  have H := Lib.hid h
  have HT := Lib.hid htab
  have HO := Lib.hid ho
  have HPE := Lib.hid hP
  have hlm : len ≤ 9223372036854775807 := by have h1 := h.1; have h2 := h.2.1; unfold maxLen at h2; omega
  clear h htab ho hP
  go_enter Tryd.func5, Tryd.ntmps5
  have hal := (Gr.refl w).alloc (.cells #[.int .i64 (n : Int), .int .i64 (s : Int), .int .i64 (q : Int), .int .u32 (id : Int)] 24)
  have HP := Lib.hid (heap_alloc_new w (.cells #[.int .i64 (n : Int), .int .i64 (s : Int), .int .i64 (q : Int), .int .u32 (id : Int)] 24))
  go_wp2_with fail
  refine (sendAwake _ (HT.out.below hal)).mono ?_
  rintro e w1 ⟨rfl, hg⟩
  have HW1 := Lib.hid (hal.trans hg)
  have HP1 := Lib.hid (hg.heap HP.out)
  obtain ⟨p0, p1, p2, p3⟩ := p_four_cells HP1.out
  clear hg hal HP
  go_wp2_with fail
  refine (CF.out w1 (H.out.below HW1.out)).mono ?_
  rintro e w2 ⟨b, rfl, hf, hg⟩
  have HF := Lib.hid hf
  have HW2 := Lib.hid (HW1.out.trans hg)
  have HP2 := Lib.hid (hg.heap HP1.out)
  obtain ⟨p0, p1, p2, p3⟩ := p_four_cells HP2.out
  clear hg HW1 HP1 hf CF
  cases b with
  | false =>
    go_wp2
    first | go_ret | go_ret2
    exact ⟨rfl, HW2.out⟩
  | true =>
    obtain ⟨hkf, hn3, hl2, _⟩ := HF.out rfl
    have HKF := Lib.hid hkf
    have CN := Lib.hid fun w h => senderNew_ok n s q id HPE.out ao co obj w h (by omega)
    have CC := Lib.hid fun w h => refCut_ok n s q id HPE.out ao co obj w h (by omega)
    clear HF hkf
    have hal := (Gr.refl w2).alloc (.cells #[.int .i64 (n : Int), .int .i64 (s : Int), .int .i64 (q : Int), .int .u32 (id : Int)] 61)
    have HD := Lib.hid (heap_alloc_new w2 (.cells #[.int .i64 (n : Int), .int .i64 (s : Int), .int .i64 (q : Int), .int .u32 (id : Int)] 61))
    obtain ⟨r0, r1, r2, r3⟩ := p_four_cells (hal.heap HP2.out)
    go_wp2_with fail
    refine (CN.out _ (HO.out.below (HW2.out.trans hal))).mono ?_
    rintro e w3 ⟨B, hB, rfl, hsa, hg⟩
    have hDB : w2.heap.size < B := by have h1 := World.size_alloc w2 (.cells #[.int .i64 (n : Int), .int .i64 (s : Int), .int .i64 (q : Int), .int .u32 (id : Int)] 61); omega
    have HSA := Lib.hid hsa
    have HW3 := Lib.hid (HW2.out.trans (hal.trans hg))
    have HD3 := Lib.hid (hg.heap HD.out)
    obtain ⟨p0, p1, p2, p3⟩ := p_four_cells HD3.out
    have hwB : w.heap.size ≤ B := by have := HW2.out.size; omega
    clear hg hal HD hsa hB
    go_wp2_with fail
    refine (CC.out _ (HO.out.below HW3.out)).mono ?_
    rintro e w4 ⟨a4, c4, rfl, _, hg⟩
    have HW4 := Lib.hid (HW3.out.trans hg)
    have HD4 := Lib.hid (hg.heap HD3.out)
    have HSA4 := Lib.hid (HSA.out.gr hg)
    clear hg p0 p1 p2 p3 r0 r1 r2 r3 HD3 HSA HW3 HP2 HW2 CN CC
    go_wp2
    go_loopw [12, 53] (fun nx i wr => ∃ j next : Nat, j ≤ len ∧ i = .int .i64 j ∧ nx = .int .u64 (next : Int) ∧ next ≤ 4294967296 ∧ SendAt wr B n s q id obj next ∧ GrB w4 B wr) (fun _ i _ => len - (intOf i).toNat)
    case atStart => exact ⟨0, 0, Nat.zero_le _, rfl, rfl, by decide, HSA4.out, GrB.refl _ _⟩
    case round =>
      obtain ⟨j, next, hj, rfl, rfl, hnx, hsa, hgr⟩ := hrel
      have HSA := Lib.hid hsa
      have HGR := Lib.hid hgr
      have HWR := Lib.hid (HW4.out.grb hgr hwB)
      have HDR := Lib.hid (hgr.heap HD4.out (by omega))
      clear hsa hgr HSA4
      by_cases hlt : j < len
      · obtain ⟨b, off, rfl, _⟩ := H.out.at_ (by omega)
        obtain ⟨d, m, a', c, l, sd, nn, c0, c1, c2, c3, c4, hd, hm', hb, hsd, hnn⟩ := H.out.get hlt
        replace c0 := HWR.out.cell c0
        replace c1 := HWR.out.cell c1
        replace c2 := HWR.out.cell c2
        replace c3 := HWR.out.cell c3
        replace c4 := HWR.out.cell c4
        have hk := HKF.out j hlt
        obtain ⟨kj, ekj⟩ : ∃ k, kf j = k := ⟨_, rfl⟩
        rw [ekj] at c2 hk hb
        clear ekj
        have hal := (Gr.refl wr).alloc (.cells #[.int .u8 (d : Int), .int .u8 (m : Int), .slice a' kj c, .int .u64 (sd : Int), .int .u64 (nn : Int)] 68)
        have HA := Lib.hid (heap_alloc_new wr (.cells #[.int .u8 (d : Int), .int .u8 (m : Int), .slice a' kj c, .int .u64 (sd : Int), .int .u64 (nn : Int)] 68))
        obtain ⟨x0, x1, x2, x3, x4, _⟩ := five_cells HA.out
        have HBW := Lib.hid hb
        have HB := Lib.hid (hb.below (HWR.out.trans hal))
        have HSA1 := Lib.hid (HSA.out.gr hal)
        have HG1 := Lib.hid (HGR.out.gr hal)
        have HW1 := Lib.hid (HWR.out.trans hal)
        have HD1 := Lib.hid (hal.heap HDR.out)
        have hAB : wr.heap.size ≠ B := by obtain ⟨_, h1, _⟩ := HSA.out; have := lt_of_block h1; omega
        have hlti : (j : Int) < (len : Int) := by omega
        have hnxi : (next : Int) ≤ 4294967296 := by omega
        have hcases : d % 3 = 1 ∨ d % 3 = 2 ∨ d % 3 = 0 := by omega
        clear hal hb HSA HGR HWR HDR
        rcases hcases with h3 | h3 | h3
        · have hr1 : ((d : Int) % 3 == 1) = true := by rw [beq_iff_eq]; omega
          clear h3
          by_cases hfit : nn ≤ 4294967296 - next
          · have hfi : (nn : Int) ≤ (4294967296 : Int) - (next : Int) := by omega
            go_wp2_with fail
            refine (sendSkip_ok B n s q id obj next nn hnx hfit _ HSA1.out).mono ?_
            rintro e w6 ⟨rfl, hsa, hg⟩
            have HSA2 := Lib.hid hsa
            have HG2 := Lib.hid (HG1.out.trans hg)
            obtain ⟨x0, x1, x2, x3, x4, _⟩ := five_cells (hg.heap HA.out hAB)
            clear hsa hg
            go_wp2_with fail
            refine (sendNext B n s q id obj (next + nn) _ HSA2.out).mono ?_
            rintro e w7 ⟨rfl, rfl⟩
            go_wp2
            go_roundw
            case rel => exact ⟨j + 1, next + nn, by omega, by go_num, by go_num, by omega, HSA2.out, HG2.out⟩
            case measure => simp [intOf]; omega
          · have hfi : (4294967296 : Int) - (next : Int) < (nn : Int) := by omega
            go_wp2_with fail
            refine (sendSkip_bad B n s q id obj next nn hnx (by omega) _ HSA1.out).mono ?_
            rintro e w6 ⟨rfl, rfl⟩
            go_wp2_with fail
            refine (sendNext B n s q id obj next _ HSA1.out).mono ?_
            rintro e w7 ⟨rfl, rfl⟩
            go_wp2
            go_roundw
            case rel => exact ⟨j + 1, next, by omega, by go_num, rfl, hnx, HSA1.out, HG1.out⟩
            case measure => simp [intOf]; omega
        · have hr1 : ((d : Int) % 3 == 1) = false := by rw [beq_eq_false_iff_ne]; omega
          have hr2 : ((d : Int) % 3 == 2) = true := by rw [beq_iff_eq]; omega
          clear h3
          have CS := Lib.hid fun (C : Nat) w' ht hs h => send_some C n s q id HPE.out hid (by omega) obj next hnx m a' kj c sd hsd l (by omega) w' ht hs h
          go_wp2
          obtain ⟨W0, eW⟩ : ∃ W, wr.alloc (.cells #[.int .u8 (d : Int), .int .u8 (m : Int), .slice a' kj c, .int .u64 (sd : Int), .int .u64 (nn : Int)] 68) = W := ⟨_, rfl⟩
          rw [eW] at x0 x1 x2 x3 x4 HA HB HSA1 HG1 HW1 HD1 ⊢
          clear eW
          have hup : Nonempty (Up Gr W0.drew) := ⟨⟨_, Gr.refl _⟩⟩
          have v1 : ∀ x : Up Gr W0.drew, x.w.cell? ⟨wr.heap.size, 1, none⟩ = some (.int .u8 (m : Int)) := fun x => gr_st x.rel x1
          have v2 : ∀ x : Up Gr W0.drew, x.w.cell? ⟨wr.heap.size, 2, none⟩ = some (.slice a' kj c) := fun x => gr_st x.rel x2
          have v3 : ∀ x : Up Gr W0.drew, x.w.cell? ⟨wr.heap.size, 3, none⟩ = some (.int .u64 (sd : Int)) := fun x => gr_st x.rel x3
          clear x0 x1 x2 x3 x4 c0 c1 c2 c3 c4
          refine wp_region_rg [.reck, .any Nat 0 (fun b => .pointer (some ⟨b, 0, none⟩)) (fun b W => W0.heap.size ≤ b ∧ SendAt W b n s q id obj next), .reck, .reck] Gr (by kernel_rfl) (by kernel_rfl) Gr.refl (fun _ _ _ => Gr.trans) ?_
          (refine wpRG_reck rfl (fun K hK => ?_); go_big_quiet_op; refine hK _ ?_; clear hK K)
          refine wpRG_any rfl (fun x w1 w2 hg h => ⟨h.1, h.2.gr hg⟩) (fun W hw hF R hR => ?_) ?_
          · (have HF := Lib.hid hF; clear hF; unfold rgAt; go_simp)
            show Calls _ _ _ _ _
            refine (sendClone_any B n s q id obj next W (HSA1.out.gr ((Gr.refl _).drew.trans hw))).mono ?_
            rintro e w6 ⟨C, hC, rfl, hsc, hg6⟩
            exact ⟨_, rfl, hR C _ hg6 ⟨Nat.le_trans hw.size hC, hsc⟩⟩
          intro bC
          (simp only [Act.put, List.setIfInBounds_toArray, List.set_cons_zero, List.set_cons_succ])
          (refine wpRG_reck rfl (fun K hK => ?_); go_big_quiet_op; refine hK _ ?_; clear hK K)
          (refine wpRG_reck rfl (fun K hK => ?_); go_big_quiet_op; refine hK _ ?_; clear hK K)
          refine wpRG_end fun W1 hw hF => ?_
          have fC : W0.heap.size ≤ bC ∧ SendAt W1 bC n s q id obj next := hF 1
          have h01 : Gr W0 W1 := (Gr.refl _).drew.trans hw
          clear hF hw v1 v2 v3 hup
          go_wp2_with fail
          refine (CS.out bC W1 (HT.out.below (HW1.out.trans h01)) (HB.out.below h01) fC.2).mono ?_
          rintro e w6 ⟨a7, k7, c7, E, rfl, hg⟩
          have hg06 := h01.grb hg fC.1
          have HSA2 := Lib.hid (HSA1.out.gr hg06)
          have HG2 := Lib.hid (HG1.out.gr hg06)
          clear hg hg06 h01 fC
          go_wp2_with fail
          refine (sendNext B n s q id obj next _ HSA2.out).mono ?_
          rintro e w7 ⟨rfl, rfl⟩
          go_wp2
          go_roundw
          case rel => exact ⟨j + 1, next, by omega, by go_num, rfl, hnx, HSA2.out, HG2.out⟩
          case measure => simp [intOf]; omega
        · have hr1 : ((d : Int) % 3 == 1) = false := by rw [beq_eq_false_iff_ne]; omega
          have hr2 : ((d : Int) % 3 == 2) = false := by rw [beq_eq_false_iff_ne]; omega
          clear h3
          by_cases hmax : next = 4294967296
          · have hs4 : Hid (SendAt (wr.alloc (.cells #[.int .u8 (d : Int), .int .u8 (m : Int), .slice a' kj c, .int .u64 (sd : Int), .int .u64 (nn : Int)] 68)) B n s q id obj 4294967296) := by have := HSA1.out; rw [hmax] at this; exact this
            have hgei : (4294967296 : Int) ≤ (next : Int) := by omega
            have hwz : (next : Int) % 4294967296 = 0 := by omega
            clear hmax
            go_wp2_with fail
            refine (send_spent B n s q id obj m a' kj c sd _ hs4.out).mono ?_
            rintro e w6 ⟨rfl, hg⟩
            have HSA2 := Lib.hid (HSA1.out.gr hg)
            have HG2 := Lib.hid (HG1.out.gr hg)
            have HW2 := Lib.hid (HW1.out.trans hg)
            have HB2 := Lib.hid (HB.out.below hg)
            obtain ⟨x0, x1, x2, x3, x4, _⟩ := five_cells (hg.heap HA.out)
            obtain ⟨p0, p1, p2, p3⟩ := p_four_cells (hg.heap HD1.out)
            clear hg hs4 HSA1 HG1 HW1 HD1 HB
            go_wp2_with fail
            refine (refPacket_some n s q id HPE.out (by omega) ao co obj 0 m a' kj c sd hsd l (by omega) _ (HO.out.below HW2.out) HB2.out).mono ?_
            rintro e w7 ⟨m', id', n', m2, sd', a1, k1, c1', a2, k2, c2', E, rfl, hg⟩
            have hal := hg.alloc (.cells #[.int .u8 m', .int .u32 id', .int .u32 n', .int .u8 m2, .slice a1 k1 c1', .int .u64 sd', .slice a2 k2 c2'] 74)
            have HSA3 := Lib.hid (HSA2.out.gr hal)
            have HG3 := Lib.hid (HG2.out.gr hal)
            clear hg hal HSA2 HG2 HW2 HB2 x0 x1 x2 x3 x4 p0 p1 p2 p3
            go_wp2_with fail
            refine (sendNext B n s q id obj next _ HSA3.out).mono ?_
            rintro e w8 ⟨rfl, rfl⟩
            go_wp2
            go_roundw
            case rel => exact ⟨j + 1, next, by omega, by go_num, rfl, hnx, HSA3.out, HG3.out⟩
            case measure => simp [intOf]; omega
          · have hlt4 : next < 4294967296 := by omega
            have hlt4i : (next : Int) < 4294967296 := by omega
            have HL4 := Lib.hid hlt4
            have HNX := Lib.hid hnx
            have hng : ¬ (4294967296 : Int) ≤ (next : Int) := by omega
            have hngd : decide ((4294967296 : Int) ≤ (next : Int)) = false := decide_eq_false hng
            clear hmax
            by_cases hE : rowErr m kj q = 0
            · have CS := Lib.hid fun w ht h1 h2 => send_ok B n s q id HPE.out hid (by omega) obj next hlt4 m a' kj c sd hsd l (by omega) hE w ht h1 h2
              have CP := Lib.hid fun w h1 h2 => refPacket_ok n s q id HPE.out (by omega) ao co obj next m a' kj c sd hsd l (by omega) hE w h1 h2
              have CW := Lib.hid fun a8 c8 lp w h1 h2 => refWrite_ok n s q id m next kj s sd hid hlt4 hsd (by omega) (by omega) a' a8 c c8 l lp w h1 h2 (by omega) (by omega) (sendFit HPE.out hE)
              have hsent : Hid (sentL n s q id obj next m l sd = packText m id next l sd (combL (rowVec m l sd q) (cutL obj s q) s)) := rfl
              obtain ⟨LP, eLP⟩ : ∃ L, combL (rowVec m l sd q) (cutL obj s q) s = L := ⟨_, rfl⟩
              rw [eLP] at CP hsent
              obtain ⟨TX, eTX⟩ : ∃ T, packText m id next l sd LP = T := ⟨_, rfl⟩
              have CW2 := Lib.hid fun a8 c8 => CW.out a8 c8 LP
              rw [eTX] at CW2 hsent
              rw [hsent.out] at CS
              clear hE eLP eTX CW hsent hlt4 hnx
              go_wp2_with fail
              refine (CS.out _ (HT.out.below HW1.out) HB.out HSA1.out).mono ?_
              rintro e w6 ⟨a7, k7, c7, rfl, hb7, hf7, hsa, hg⟩
              have HSA2 := Lib.hid hsa
              have HG2 := Lib.hid (HG1.out.trans hg)
              have HW2 := Lib.hid (HW1.out.grb hg hwB)
              have HA2 := Lib.hid (hg.heap HA.out hAB)
              have HD2 := Lib.hid (hg.heap HD1.out (by omega))
              have HB7 := Lib.hid hb7
              obtain ⟨x0, x1, x2, x3, x4, _⟩ := five_cells HA2.out
              obtain ⟨p0, p1, p2, p3⟩ := p_four_cells HD2.out
              clear hsa hg hb7 hf7 HSA1 HG1 HW1 HD1 CS HB HA2
              go_wp2_with fail
              refine (CP.out _ (HO.out.below HW2.out) (HBW.out.below HW2.out)).mono ?_
              rintro e w7 ⟨a8, c8, rfl, hb8, hg⟩
              have hal := hg.alloc (.cells #[.int .u8 (m : Int), .int .u32 (id : Int), .int .u32 (next : Int), .int .u8 (m : Int), .slice a' kj c, .int .u64 (sd : Int), .slice a8 s c8] 74)
              have HD3 := Lib.hid (hal.heap HD2.out)
              have HP3 := Lib.hid (heap_alloc_new w7 (.cells #[.int .u8 (m : Int), .int .u32 (id : Int), .int .u32 (next : Int), .int .u8 (m : Int), .slice a' kj c, .int .u64 (sd : Int), .slice a8 s c8] 74))
              have HSA3 := Lib.hid (HSA2.out.gr hal)
              have HG3 := Lib.hid (HG2.out.gr hal)
              have HW3 := Lib.hid (HW2.out.trans hal)
              have HB73 := Lib.hid (HB7.out.below hal)
              have HB8 := Lib.hid (hb8.below ((Gr.refl w7).alloc (.cells #[.int .u8 (m : Int), .int .u32 (id : Int), .int .u32 (next : Int), .int .u8 (m : Int), .slice a' kj c, .int .u64 (sd : Int), .slice a8 s c8] 74)))
              obtain ⟨p0, p1, p2, p3⟩ := p_four_cells HD3.out
              obtain ⟨y0, y1, y2, y3, y4, y5, y6, _⟩ := seven_cells HP3.out
              clear hg hal hb8 HSA2 HG2 HW2 HB7 HD2 CP
              go_wp2_with fail
              refine (CW2.out a8 c8 _ (HBW.out.below HW3.out) HB8.out).mono ?_
              rintro e w8 ⟨a9, c9, rfl, hb9, hg⟩
              have HB9 := Lib.hid hb9
              have HB74 := Lib.hid (HB73.out.below hg)
              have HSA4 := Lib.hid (HSA3.out.gr hg)
              have HG4 := Lib.hid (HG3.out.gr hg)
              clear hg hb9 HSA3 HG3 HW3 HB73 HB8 HD3 HP3 x0 x1 x2 x3 x4 y0 y1 y2 y3 y4 y5 y6 CW2
              go_wp2_with fail
              refine (same_any a7 a9 k7 c7 _ c9 TX TX _ HB74.out HB9.out).mono ?_
              rintro e w9 ⟨rfl, hg⟩
              rw [sameB_self]
              have HSA5 := Lib.hid (HSA4.out.gr hg)
              have HG5 := Lib.hid (HG4.out.gr hg)
              clear hg HSA4 HG4 HB74 HB9
              go_wp2_with fail
              refine (sendNext B n s q id obj (next + 1) _ HSA5.out).mono ?_
              rintro e w10 ⟨rfl, rfl⟩
              go_wp2
              go_roundw
              case rel => exact ⟨j + 1, next + 1, by omega, by go_num, by go_num, HL4.out, HSA5.out, HG5.out⟩
              case measure => simp [intOf]; omega
            · have CS := Lib.hid fun w h => send_bad B n s q id obj next hlt4 m a' kj c sd (by omega) hE w h
              have CP := Lib.hid fun w => refPacket_bad n s q id ao n co next m a' kj c sd (by omega) hE w
              obtain ⟨E, eE⟩ : ∃ E, rowErr m kj q = E := ⟨_, rfl⟩
              rw [eE] at CS CP hE
              have hEE : ((E : Int) != (E : Int)) = false := by simp
              have hE0 : ((E : Int) == 0) = false := by rw [beq_eq_false_iff_ne]; omega
              clear eE hE hlt4 hnx
              go_wp2_with fail
              refine (CS.out _ HSA1.out).mono ?_
              rintro e w6 ⟨rfl, hg⟩
              have HSA2 := Lib.hid (HSA1.out.gr hg)
              have HG2 := Lib.hid (HG1.out.gr hg)
              obtain ⟨x0, x1, x2, x3, x4, _⟩ := five_cells (hg.heap HA.out)
              obtain ⟨p0, p1, p2, p3⟩ := p_four_cells (hg.heap HD1.out)
              clear hg HSA1 HG1 HW1 HD1 HB
              go_wp2_with fail
              refine (CP.out _).mono ?_
              rintro e w7 ⟨he, hg⟩
              unfold packZ at he
              subst he
              have hal := hg.alloc (.cells #[.int .u8 0, .int .u32 0, .int .u32 0, .int .u8 0, .slice none 0 0, .int .u64 0, .slice none 0 0] 74)
              have HSA3 := Lib.hid (HSA2.out.gr hal)
              have HG3 := Lib.hid (HG2.out.gr hal)
              clear hg hal HSA2 HG2 x0 x1 x2 x3 x4 p0 p1 p2 p3
              go_wp2_with fail
              refine (sendNext B n s q id obj next _ HSA3.out).mono ?_
              rintro e w8 ⟨rfl, rfl⟩
              go_wp2
              go_roundw
              case rel => exact ⟨j + 1, next, by omega, by go_num, rfl, HNX.out, HSA3.out, HG3.out⟩
              case measure => simp [intOf]; omega
      · have hge : (len : Int) ≤ (j : Int) := by omega
        go_wp2
        first | go_ret | go_ret2
        exact ⟨rfl, HWR.out⟩

theorem cutErr_zero {n s q : Int} {ko : Nat} (h : cutErr n s q ko = 0) : planErr n s q = 0 ∧ (ko : Int) = n := by
  unfold cutErr at h
  by_cases h1 : planErr n s q ≠ 0
  · rw [if_pos h1] at h; exact absurd h h1
  rw [if_neg h1] at h
  by_cases h2 : (ko : Int) ≠ n
  · rw [if_pos h2] at h; cases h
  exact ⟨Decidable.not_not.1 h1, Decidable.not_not.1 h2⟩

theorem senderSends_walk (w : World) (htab : Tab w) (n : Int) (hlo : -9223372036854775808 ≤ n) (hm : n ≤ 9223372036854775807) (s : Int) (hsl : -9223372036854775808 ≤ s) (hsm : s ≤ 9223372036854775807) (q : Int) (hq1 : -9223372036854775808 ≤ q) (hq2 : q ≤ 9223372036854775807) (id : Nat) (hid : id < 4294967296)
    (ao : Option Addr) (ko co : Nat) (obj : List UInt8) (ho : Bs w ao ko co obj) (a : Option Addr) (len cap : Nat) (kf : Nat → Nat) (h : Acts w a len cap kf) :
    Calls Tryd.prog 5 #[.agg #[.int .i64 n, .int .i64 s, .int .i64 q, .int .u32 (id : Int)], .slice ao ko co, .slice a len cap] w fun e w' => e = .returned (.bool true) ∧ Gr w w' := by
  by_cases hE : cutErr n s q ko = 0
  · obtain ⟨hP, rfl⟩ := cutErr_zero hE
    obtain ⟨e1, e2⟩ := planErr_zero hP
    obtain ⟨f1, f2, f3, f4⟩ := planFit_zero e1
    have hp := planNeed_pos f1 f2
    obtain ⟨s', rfl⟩ := Int.eq_ofNat_of_zero_le (show 0 ≤ s by omega)
    obtain ⟨q', rfl⟩ := Int.eq_ofNat_of_zero_le (show 0 ≤ q by omega)
    exact sends_ok ko s' q' id hP hid (by omega) ao co obj a len cap kf w htab ho h
  · exact sends_bad n s q id hlo hm hsl hsm ao ko co (by have h1 := ho.2.1; have h2 := ho.2.2.1; unfold maxLen at h2; omega) hE a len cap kf w htab h
end Go.Proofs.YtdmijoochgmhiacDoor

namespace Go.Proofs.YtdmijoochgmhiacDoor.senderSendsDone
open Go.ChangeShapes Go.WideShapes Go.ChangeAt Go.RowKit
set_option linter.unusedVariables false

theorem own : ownKnob Tryd.prog.godebug = none := by kernel_rfl
theorem laidOut : laidOutB Tryd.prog = true := by kernel_rfl

theorem gTab : Tryd.prog.globalNamed "wellspring/sum.halves" = some 0 := by kernel_rfl
theorem gTabType : (Tryd.prog.globals[0]?).map (·.type) = some 156 := by kernel_rfl
theorem cellsTab : Tryd.prog.cellsOf 156 = 16 := by kernel_rfl
theorem cellsElem : Tryd.prog.cellsOf 22 = 1 := by kernel_rfl
/-- what the row's list gives: the table's cells. -/
theorem table {W : World} (h : laidMetH Tryd.prog Rows.senderSendsRow.laid W) : Tab W := by
  have ht : Lib.TabIs Tryd.prog W "wellspring/sum.halves" .u32 [0, 498536548, 997073096, 651767980, 1994146192, 1802195444, 1303535960, 1342533948, 3988292384, 4027552580, 3604390888, 3412177804, 2607071920, 2262029012, 2685067896, 3183342108] :=
    Lib.tabIs_of_head (rest := []) gTab gTabType Tryd.underlying156 Tryd.underlying22 cellsElem cellsTab h
  exact tab_of_is fun k hk => ht.cell gTab k (by simpa using hk)

set_option maxRecDepth 100000 in
/-- what the walk gives, for every argument. -/
theorem contract (H : Type) (enc : TypeId × Value → H) (W : World) (base : Nat) (args : Array Value) (ds gs : List (DataW H)) (before : List MemPlace)
    (hval0 : ∀ (j : Nat) t v, Tryd.f5.params[j]? = some t → args[j]? = some v → Value.okWide Tryd.prog W .any base t v)
    (hW : DataW.Whole enc Tryd.prog Tryd.f5.params.toList Rows.senderSendsSpec.vars false W args.toList ds gs before) (hL : laidMetH Tryd.prog Rows.senderSendsRow.laid W) :
    Calls Tryd.prog 5 args W fun e W' => ∃ v, e = .returned v ∧ Rows.senderSendsSpec.post enc Tryd.prog Tryd.f5 false true false false W args v W' := by
  have hval : ∀ (j : Nat) t v, Tryd.f5.params[j]? = some t → args[j]? = some v → Value.okWide Tryd.prog W .any base t v := hval0
  have hW' := hW
  obtain ⟨p, q, hA0, hV, rfl, hfz, hnd⟩ := hW
  have hA : DataW.TrodAll enc Tryd.prog W 0 (fun _ => true) true Tryd.f5.params.toList args.toList ds p := hA0
  rw [Tryd.params5] at hA hval
  obtain ⟨v0, vs0, d0, ds0, p0, q0, hargs, rfl, rfl, h0, r0⟩ := trodAll_cons hA
  obtain ⟨v1, vs1, d1, ds1, p1, q1, rfl, rfl, rfl, h1, r1⟩ := trodAll_cons r0
  obtain ⟨v2, vs2, d2, ds2, p2, q2, rfl, rfl, rfl, h2, r2⟩ := trodAll_cons r1
  obtain ⟨rfl, rfl, rfl⟩ := trodAll_nil r2
  obtain rfl : args = #[v0, v1, v2] := by cases args; simp_all
  obtain ⟨rfl, rfl⟩ := trodVars_none hV
  have k0 := h0
  have lt0 : ∀ x ∈ p0, x.block < W.heap.size := by obtain ⟨m, hm⟩ := k0; exact DataW.trod_lt m _ _ _ hm
  obtain ⟨c00, c01, c02, c03, y00, y01, y02, y03, n0, rfl, rfl, rfl, g00, g01, g02, g03⟩ := Joins.open_agg4 Tryd.underlying24 (by kernel_rfl) (by kernel_rfl) (hval 0 24 v0 rfl rfl) h0
  obtain ⟨a00, e00, rfl, z00⟩ := DataW.trod_int Tryd.underlying3 g00
  simp at e00; subst e00
  have b00 := i64_of_wf z00
  obtain ⟨a01, e01, rfl, z01⟩ := DataW.trod_int Tryd.underlying3 g01
  simp at e01; subst e01
  have b01 := i64_of_wf z01
  obtain ⟨a02, e02, rfl, z02⟩ := DataW.trod_int Tryd.underlying3 g02
  simp at e02; subst e02
  have b02 := i64_of_wf z02
  obtain ⟨a03, e03, rfl, z03⟩ := DataW.trod_int Tryd.underlying22 g03
  simp at e03; subst e03
  obtain ⟨n03, rfl, b03⟩ := u32_of_wf z03
  have k1 := h1
  have lt1 : ∀ x ∈ p1, x.block < W.heap.size := by obtain ⟨m, hm⟩ := k1; exact DataW.trod_lt m _ _ _ hm
  obtain ⟨a1, len1, cap1, rfl⟩ := okWide_slice Tryd.underlying35 (hval 1 35 v1 rfl rfl)
  obtain ⟨l1, w1⟩ : ∃ l, Bs W a1 len1 cap1 l := by obtain ⟨fuel, hf⟩ := h1; exact Bs.of_trod Tryd.underlying35 Tryd.underlying5 (by kernel_rfl) hf
  have k2 := h2
  have lt2 : ∀ x ∈ p2, x.block < W.heap.size := by obtain ⟨m, hm⟩ := k2; exact DataW.trod_lt m _ _ _ hm
  obtain ⟨a2, len2, cap2, rfl⟩ := okWide_slice Tryd.underlying59 (hval 2 59 v2 rfl rfl)
  obtain ⟨l2, w2⟩ : ∃ l, Acts W a2 len2 cap2 l := by obtain ⟨fuel, hf⟩ := h2; exact Acts.of_trod hf
  clear hA0 hval0
  refine (senderSends_walk W (table hL) a00 b00.1 b00.2 a01 b01.1 b01.2 a02 b02.1 b02.2 n03 b03 a1 len1 cap1 l1 w1 a2 len2 cap2 l2 w2).mono fun e W' ⟨he, bel⟩ => ?_
  subst he
  exact ⟨_, rfl, _, _, _, [], _, [], hW', trodAll_mk1 (shut_bool Tryd.underlying4 _), (trodAll_cons_mk (Below.trod laidOut (by kernel_rfl) (of_decide_eq_true (by kernel_rfl)) k0 bel lt0) (trodAll_cons_mk (Below.trod laidOut (by kernel_rfl) (of_decide_eq_true (by kernel_rfl)) k1 bel lt1) (trodAll_cons_mk (Below.trod laidOut (by kernel_rfl) (of_decide_eq_true (by kernel_rfl)) k2 bel lt2) trodAll_mk0))), rfl, bel.frame _, fun h => by cases h⟩

/-- a world for the witness: the settled one, the table holding what its initialiser lays. -/
noncomputable def laidWorld (os : Os) : World :=
  { World.holding Tryd.prog os ⟨#[], #[], []⟩ with heap := (World.holding Tryd.prog os ⟨#[], #[], []⟩).heap.modify 0 fun
      | .cells _ t frozen => .cells #[.int .u32 0, .int .u32 498536548, .int .u32 997073096, .int .u32 651767980, .int .u32 1994146192, .int .u32 1802195444, .int .u32 1303535960, .int .u32 1342533948, .int .u32 3988292384, .int .u32 4027552580, .int .u32 3604390888, .int .u32 3412177804, .int .u32 2607071920, .int .u32 2262029012, .int .u32 2685067896, .int .u32 3183342108] t frozen
      | o => o }
theorem laid_met (os : Os) : laidMet Tryd.prog Rows.senderSendsRow.laid ((laidWorld os).forCall (fun _ _ => 0) ⟨#[], #[.agg #[.int .i64 0, .int .i64 0, .int .i64 0, .int .u32 0], .slice none 0 0, .slice none 0 0], []⟩).memory :=
  laidMet_of_run' 8 (by kernel_rfl) (by kernel_rfl)

set_option maxRecDepth 100000 in
theorem lifted (os : Os) (started : os.Started) (H : Type) (enc : TypeId × Value → H) (F : Stop.Interp) :
    ReturnsInHanded {} Tryd.checked os 5 .any ((OpenSpec.ofChange Rows.senderSendsSpec).preRow enc Tryd.prog Tryd.f5 Rows.senderSendsRow.domain false Rows.senderSendsRow.laid) (((OpenSpec.ofChange Rows.senderSendsSpec).at F).post enc Tryd.prog Tryd.f5 false true false false) := by
  obtain ⟨places, hx⟩ : ∃ x, DataW.whole enc Tryd.prog ((laidWorld os).forCall (fun _ _ => 0) ⟨#[], #[.agg #[.int .i64 0, .int .i64 0, .int .i64 0, .int .u32 0], .slice none 0 0, .slice none 0 0], []⟩).memory Tryd.f5.params.toList Rows.senderSendsSpec.vars false (#[.agg #[.int .i64 0, .int .i64 0, .int .i64 0, .int .u32 0], .slice none 0 0, .slice none 0 0] : Array Value).toList 8 = some ([.agg [.lit (.int .i64 0), .lit (.int .i64 0), .lit (.int .i64 0), .lit (.int .u32 0)], .nil, .nil], [], x) := ⟨[], by kernel_rfl⟩
  refine returnsInHanded_of_row (C := Tryd.checked) (s := OpenSpec.ofChange Rows.senderSendsSpec) own started (by kernel_rfl) Tryd.func5
    (witness_row_at (enc := enc) (C := Tryd.checked) false (laidWorld os) #[.agg #[.int .i64 0, .int .i64 0, .int .i64 0, .int .u32 0], .slice none 0 0, .slice none 0 0] rfl (by kernel_rfl) (by kernel_rfl) (by kernel_rfl)
      (OpenSpec.preRow_of_cond 8 hx (by kernel_rfl) (fun k hk => by cases hk) (by kernel_rfl) (laid_met os))) ?_
  intro W base args ds gs before hval hW _ _ _ hL _ _
  exact contract H enc W base args ds gs before hval hW hL

theorem said : Rows.SenderSendsSaid :=
  OpenClaim.holds_of_cond 5 Tryd.f5 rfl rfl rfl rfl rfl rfl rfl ⟨rfl, rfl, rfl, rfl, rfl⟩ rfl rfl rfl rfl rfl (by kernel_rfl) Tryd.func5 (by kernel_rfl)
    (of_decide_eq_true (by kernel_rfl)) (by unfold Func.isWrapper; first | (rw [if_pos (by decide +kernel)]; kernel_rfl) | (rw [if_neg (by decide +kernel)]; exact ⟨rfl, rfl⟩))
    (fun os started H enc _ F => by rw [OpenClaim.pre_eq_preRow]; exact lifted os started H enc F)

/-- no parameter wants a stand-in; the program's own looks are off. -/
theorem plain (f : FuncId) (fn : Func) (hf : Tryd.pinned.checked.prog.funcNamed "wellspring/wellspringlaw17.SenderSends" = some f) (hfn : Tryd.pinned.checked.prog.funcs[f]? = some fn) :
    false = Tryd.pinned.checked.prog.looks [] ∧ ∀ (j : Nat) t, fn.params[j]? = some t → Tryd.pinned.checked.prog.wantsStandIn t = false := by
  obtain rfl : f = 5 := Option.some.inj ((show Tryd.prog.funcNamed "wellspring/wellspringlaw17.SenderSends" = some 5 by kernel_rfl).symm.trans hf) |>.symm
  obtain rfl : fn = Tryd.f5 := (Option.some.inj (Tryd.func5.symm.trans hfn)).symm
  refine ⟨by kernel_rfl, fun j t ht => ?_⟩
  rw [Tryd.params5] at ht
  have hm := Array.mem_of_getElem? ht
  simp only [List.mem_toArray, List.mem_cons, List.not_mem_nil, or_false] at hm
  rcases hm with rfl | rfl | rfl
  · exact (show Tryd.prog.wantsStandIn 24 = false by kernel_rfl)
  · exact (show Tryd.prog.wantsStandIn 35 = false by kernel_rfl)
  · exact (show Tryd.prog.wantsStandIn 59 = false by kernel_rfl)

/-- ████ THE CARD ████ -/
theorem card : Rows.SenderSendsCardSaid :=
  Claim7.holds_tied_plain_at .later [] _ _ _ _ said (fun _ h => by cases h) (by kernel_rfl) (fun _ h => by cases h) senderSends_row_tie rfl ⟨rfl, rfl⟩ (by kernel_rfl) rfl plain (by kernel_rfl)
#print axioms card
end Go.Proofs.YtdmijoochgmhiacDoor.senderSendsDone
