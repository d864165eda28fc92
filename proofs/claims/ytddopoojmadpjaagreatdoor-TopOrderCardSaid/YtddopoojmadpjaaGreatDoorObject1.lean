/-
  The walks of elim.New, Rank, and of Rest and Put on a system without rows.
  The walk of elim.Put on a system without rows.
  The walks of a taker: New, Rank, Status, Gate; Take, where nothing came yet.
  The walk of a taker's Take: bytes that are no packet; and a packet where no row is yet.
  The walks of package glue: whole, Join; of slices.Clip.
  The walks of elim.Solve of one row, and of a taker's Object out of it.
-/
import Derived.Test.YtddopoojmadpjaaGreatDoorRowNorm
import Derived.Test.YtddopoojmadpjaaGreatDoorGate
import Derived.Test.YtddopoojmadpjaaGreatDoorVec
import Derived.Deep.RegionHeld3
import Derived.Test.YtddopoojmadpjaaGreatDoorKernComb
import Derived.Test.YtddopoojmadpjaaGreatDoorCutCut
import Derived.Test.YtddopoojmadpjaaGreatDoorHead
namespace Go.Proofs.YtddopoojmadpjaaGreatDoor
open Go.RowKit
set_option linter.unusedVariables false

theorem three_all {W : World} {R : Nat} {v0 v1 v2 : Value} {t : TypeId} (h : W.heap[R]? = some (.cells #[v0, v1, v2] t)) :
    W.cell? ⟨R, 0, none⟩ = some v0 ∧ W.cell? ⟨R, 1, none⟩ = some v1 ∧ W.cell? ⟨R, 2, none⟩ = some v2 ∧ ∀ i, W.frozen? ⟨R, i, none⟩ = false := by
  refine ⟨?_, ?_, ?_, fun i => ?_⟩ <;> simp [World.cell?, World.frozen?, h]
theorem three_last {W : World} {R : Nat} {v0 v1 v2 : Value} {t : TypeId} (h : W.heap[R]? = some (.cells #[v0, v1, v2] t)) (u : Value) :
    GrB W R (W.setCell ⟨R, 2, none⟩ u) ∧ (W.setCell ⟨R, 2, none⟩ u).heap[R]? = some (.cells #[v0, v1, u] t) := by
  refine ⟨(GrB.refl W R).set (.inl rfl) _, ?_⟩
  have h2 := heap_set (i := 2) h u
  simpa only [List.setIfInBounds_toArray, List.set_cons_zero, List.set_cons_succ] using h2

set_option maxHeartbeats 1000000 in
theorem elimNew_ok (k t : Nat) (h1 : 1 ≤ k) (h2 : k ≤ 4096) (h3 : t ≤ 65535) (w : World) :
    Calls Tryz.prog 38 #[.int .i64 (k : Int), .int .i64 (t : Int)] w fun e w' => e = .returned (.tuple #[.pointer (some ⟨w.heap.size, 0, none⟩), .int .i64 0]) ∧ w'.heap[w.heap.size]? = some (.cells #[.int .i64 (k : Int), .int .i64 (t : Int), .slice none 0 0] 154) ∧ Gr w w' := by
  have HN := Lib.hid (heap_alloc_new w (.cells #[.int .i64 (k : Int), .int .i64 (t : Int), .slice none 0 0] 154))
  have hk1 : ¬ (k : Int) < 1 := by omega
  have hk2 : ¬ (4096 : Int) < (k : Int) := by omega
  have ht1 : ¬ (t : Int) < 0 := by omega
  have ht2 : ¬ (65535 : Int) < (t : Int) := by omega
  go_enter Tryz.func38, Tryz.ntmps38
  go_wp2
  first | go_ret | go_ret2
  exact ⟨rfl, HN.out, (Gr.refl w).alloc _⟩

set_option maxRecDepth 100000 in
set_option maxHeartbeats 2000000 in
theorem elimRest_empty (E k t : Nat) (av : Option Addr) (cv : Nat) (v : List UInt8) (ad : Option Addr) (cd : Nat) (d : List UInt8) (w : World) (hE : w.heap[E]? = some (.cells #[.int .i64 (k : Int), .int .i64 (t : Int), .slice none 0 0] 154)) (hv : Bs w av k cv v) (hd : Bs w ad t cd d) (hk : k ≤ 1000000) (ht : t ≤ 1000000) :
    Calls Tryz.prog 76 #[.pointer (some ⟨E, 0, none⟩), .agg #[.slice av k cv, .slice ad t cd]] w fun e w' => ∃ a1 c1 a2 c2, e = .returned (.tuple #[.agg #[.slice a1 k c1, .slice a2 t c2], .int .i64 0]) ∧ Fr w' w.heap.size a1 k c1 v ∧ Fr w' w.heap.size a2 t c2 d ∧ Gr w w' := by
  have HC := Lib.hid fun w h1 h2 => rowClone_any av ad k cv t cd v d w h1 h2 (by omega) (by omega)
  have hal := ((Gr.refl w).alloc (.cells #[.slice av k cv, .slice ad t cd] 113)).alloc (.cells #[.slice none 0 0, .slice none 0 0] 113)
  have hA := Gr.heap ((Gr.refl _).alloc (.cells #[.slice none 0 0, .slice none 0 0] 113)) (heap_alloc_new w (.cells #[.slice av k cv, .slice ad t cd] 113))
  have hB := heap_alloc_new (w.alloc (.cells #[.slice av k cv, .slice ad t cd] 113)) (.cells #[.slice none 0 0, .slice none 0 0] 113)
  simp only [World.size_alloc] at hB
  have HA := Lib.hid hA
  have HB := Lib.hid hB
  have HEE := Lib.hid (hal.heap hE)
  obtain ⟨x0, x1, xf⟩ := two_cells hA
  obtain ⟨e0, e1, e2, ef⟩ := three_all HEE.out
  have H1 := Lib.hid (hv.below hal)
  have H2 := Lib.hid (hd.below hal)
  have HAL := Lib.hid hal
  have hkk : ((k : Int) != (k : Int)) = false := by simp
  have htt : ((t : Int) != (t : Int)) = false := by simp
  clear hv hd hal hA hB hE
  go_enter Tryz.func76, Tryz.ntmps76
  go_wp2_with fail
  go_quiet (fail)
  go_wp2_with fail
  have hd0 := HAL.out.drewN nq
  refine (HC.out _ (H1.out.below ((Gr.refl _).drewN _)) (H2.out.below ((Gr.refl _).drewN _))).mono ?_
  rintro e w1 ⟨a1, c1, a2, c2, rfl, f1, f2, hg⟩
  have hsz := hd0.size
  have f1' := f1.mono (base' := w.heap.size + 2) (by simp)
  have f2' := f2.mono (base' := w.heap.size + 2) (by simp)
  have hg1 := Gr.trans ((Gr.refl _).drewN nq) hg
  have hal := (Gr.refl w1).alloc (.cells #[.slice a1 k c1, .slice a2 t c2] 113)
  have HL := Lib.hid (heap_alloc_new w1 (.cells #[.slice a1 k c1, .slice a2 t c2] 113))
  have HF1 := Lib.hid (f1'.below hal)
  have HF2 := Lib.hid (f2'.below hal)
  have HW := Lib.hid ((HAL.out.trans hg1).trans hal)
  have HB1 := Lib.hid (hal.heap (hg1.heap HB.out))
  obtain ⟨e0, e1, e2, ef⟩ := three_all (hal.heap (hg1.heap HEE.out))
  obtain ⟨y0, y1, yf⟩ := two_cells HL.out
  clear hd0 f1 f2 f1' f2' hg hg1 hal hsz x0 x1 xf
  go_wp2
  go_loopw [39] (fun i wr => i = .int .i64 0 ∧ wr = w1.alloc (.cells #[.slice a1 k c1, .slice a2 t c2] 113)) (fun i _ => 0)
  case atStart => exact ⟨rfl, rfl⟩
  case round =>
    obtain ⟨rfl, rfl⟩ := hrel
    obtain ⟨hgb, hh⟩ := two_set HB1.out (.slice a1 k c1) (.slice a2 t c2)
    have HE1 := Lib.hid (Fr.mono (base' := w.heap.size) (HF1.out.grb hgb (by omega)) (by omega))
    have HE2 := Lib.hid (Fr.mono (base' := w.heap.size) (HF2.out.grb hgb (by omega)) (by omega))
    have HG := Lib.hid (HW.out.grb hgb (by omega))
    obtain ⟨p0, p1, _⟩ := two_cells hh
    obtain ⟨q0, q1, qf⟩ := two_cells HB1.out
    clear hgb hh
    go_wp2
    refine bodyPost_ret (v := .tuple #[.agg #[.slice a1 k c1, .slice a2 t c2], .int .i64 0]) ?_ rfl ⟨a1, c1, a2, c2, rfl, HE1.out, HE2.out, HG.out⟩
    simp [results, Tryz.results76, go_sem, p0, p1]

/-- a system of one row. -/
def ElimOne (w : World) (E k t : Nat) (v d : List UInt8) : Prop :=
  ∃ R cap a1 c1 a2 c2, w.heap[E]? = some (.cells #[.int .i64 (k : Int), .int .i64 (t : Int), .slice (some ⟨R, 0, none⟩) 1 cap] 154) ∧ R ≠ E ∧ 1 ≤ cap ∧ cap ≤ maxLen ∧
    w.cell? ⟨R, 0, none⟩ = some (.slice a1 k c1) ∧ w.cell? ⟨R, 1, none⟩ = some (.slice a2 t c2) ∧ Bs w a1 k c1 v ∧ Bs w a2 t c2 d ∧ (∀ y, a1 = some y → y.block ≠ E) ∧ (∀ y, a2 = some y → y.block ≠ E)
theorem ElimOne.gr {w w' : World} {E k t : Nat} {v d : List UInt8} (h : ElimOne w E k t v d) (g : Gr w w') : ElimOne w' E k t v d := by
  obtain ⟨R, cap, a1, c1, a2, c2, h1, h2, h3, h4, h5, h6, h7, h8, h9, h10⟩ := h
  exact ⟨R, cap, a1, c1, a2, c2, g.heap h1, h2, h3, h4, g.cell h5, g.cell h6, h7.below g, h8.below g, h9, h10⟩

set_option maxHeartbeats 1000000 in
/-- sort.Search of nothing. -/
theorem search_none (p q : Nat) (w : World) : Calls Tryz.prog 78 #[.int .i64 0, .func (.func 77) #[] #[.pointer (some ⟨p, 0, none⟩), .pointer (some ⟨q, 0, none⟩)]] w fun e w' => e = .returned (.int .i64 0) ∧ w = w' := by
  go_enter Tryz.func78, Tryz.ntmps78
  go_wp2
  go_loopw [5, 6] (fun i j wr => i = .int .i64 0 ∧ j = .int .i64 0 ∧ w = wr) (fun _ _ _ => 0)
  case atStart => exact ⟨rfl, rfl, rfl⟩
  case round =>
    obtain ⟨rfl, rfl, rfl⟩ := hrel
    go_wp2
    first | go_ret | go_ret2
    exact ⟨rfl, rfl⟩

theorem infoRow : (Tryz.prog.info? 113).map (fun i => (i.zero, i.size, i.bytes)) = some (some (.agg #[.slice none 0 0, .slice none 0 0]), 2, 48) := by kernel_rfl
/-- append of one row to none. -/
theorem run_append_row1 (w : World) (ty : TypeId) (b : Nat) (x0 x1 : Value) (h0 : w.cell? ⟨b, 0, none⟩ = some x0) (h1 : w.cell? ⟨b, 1, none⟩ = some x1) (o0 : x0.oneCell' = true) (o1 : x1.oneCell' = true) :
    ∃ R cap w', (Builtin.append_ #[54, 54] ty #[.slice none 0 0, .slice (some ⟨b, 0, none⟩) 1 1]).run Tryz.prog w = .ok (.slice (some ⟨R, 0, none⟩) 1 cap) w' ∧ w.heap.size ≤ R ∧ 1 ≤ cap ∧ cap ≤ maxLen ∧ w'.cell? ⟨R, 0, none⟩ = some x0 ∧ w'.cell? ⟨R, 1, none⟩ = some x1 ∧ Gr w w' := by
  obtain ⟨i, hi, hz0, hz1, hz2⟩ := info_parts infoRow
  obtain ⟨v', w', hr, ho, hg, _, _⟩ := run_append_own_at (P := Tryz.prog) w w.heap.size _ ty _ i _ 2 48 Tryz.underlying54 hi hz0 hz1 hz2 rfl (by decide) (.slice none 0 0) 0 [] (World.ownsRow_nil w _ _ 2) ⟨b, 0, none⟩ 1 1 [x0, x1] rfl
    (fun j u hu => by
      match j with
      | 0 => simp at hu; subst hu; rw [Addr.add_zero']; exact h0
      | 1 => simp at hu; subst hu; exact h1
      | j + 2 => simp at hu) (fun u hu => by simp at hu; rcases hu with rfl | rfl <;> assumption) (by decide) (by decide) (Nat.le_refl _)
  have ho0 := ho
  rcases ho.2 with ⟨_, hn⟩ | ⟨R, cap, cur, rfl, hR, _, hn, hm, _, _⟩
  · omega
  · refine ⟨R, cap, w', hr, hR, by omega, hm, ?_, ?_, (Gr.refl w).grown hg fun k hk => by cases hk⟩
    · rw [World.ownsRow.cellAt ho0 0 (by decide)]; rfl
    · rw [World.ownsRow.cellAt ho0 1 (by decide)]; rfl

set_option maxRecDepth 100000 in
set_option maxHeartbeats 2000000 in
theorem insert_none (b : Nat) (x0 x1 : Value) (w : World) (h0 : w.cell? ⟨b, 0, none⟩ = some x0) (h1 : w.cell? ⟨b, 1, none⟩ = some x1) (o0 : x0.oneCell' = true) (o1 : x1.oneCell' = true) :
    Calls Tryz.prog 79 #[.slice none 0 0, .int .i64 0, .slice (some ⟨b, 0, none⟩) 1 1] w fun e w' =>
      ∃ R cap, e = .returned (.slice (some ⟨R, 0, none⟩) 1 cap) ∧ w.heap.size ≤ R ∧ 1 ≤ cap ∧ cap ≤ maxLen ∧ w'.cell? ⟨R, 0, none⟩ = some x0 ∧ w'.cell? ⟨R, 1, none⟩ = some x1 ∧ Gr w w' := by
  obtain ⟨R, cap, w', hr, hf⟩ := run_append_row1 w 54 b x0 x1 h0 h1 o0 o1
  have HF := Lib.hid hf
  clear h0 h1 o0 o1 hf
  go_enter Tryz.func79, Tryz.ntmps79
  go_wp2_with (at_builtin; refine Lib.wpList_append_run _ rfl _ _ 54 54 rfl _ _ rfl rfl _ _ hr ?_)
  go_wp2
  first | go_ret | go_ret2
  exact ⟨R, cap, rfl, HF.out⟩
end Go.Proofs.YtddopoojmadpjaaGreatDoor

namespace Go.Proofs.YtddopoojmadpjaaGreatDoor
open Go.RowKit
set_option linter.unusedVariables false

theorem one_all {W : World} {R : Nat} {v0 : Value} {t : TypeId} (h : W.heap[R]? = some (.cells #[v0] t)) : W.cell? ⟨R, 0, none⟩ = some v0 ∧ ∀ i, W.frozen? ⟨R, i, none⟩ = false := by
  refine ⟨?_, fun i => ?_⟩ <;> simp [World.cell?, World.frozen?, h]

set_option maxRecDepth 100000 in
set_option maxHeartbeats 4000000 in
/-- nothing is left of a zero equation. -/
theorem elimPut_spare (E k t : Nat) (av : Option Addr) (cv : Nat) (v : List UInt8) (ad : Option Addr) (cd : Nat) (d : List UInt8) (w : World) (hE : w.heap[E]? = some (.cells #[.int .i64 (k : Int), .int .i64 (t : Int), .slice none 0 0] 154)) (hv : Bs w av k cv v) (hd : Bs w ad t cd d) (hk : k ≤ 1000000) (ht : t ≤ 1000000)
    (hz : ¬ leadL v < v.length) (hz' : ¬ leadL d < d.length) :
    Calls Tryz.prog 41 #[.pointer (some ⟨E, 0, none⟩), .agg #[.slice av k cv, .slice ad t cd]] w fun e w' => e = .returned (.tuple #[.int .i64 1, .int .i64 0]) ∧ Gr w w' := by
  have HR := Lib.hid fun w hE h1 h2 => elimRest_empty E k t av cv v ad cd d w hE h1 h2 hk ht
  have HZ : Hid (zeroB v = true) := by show _ = _; unfold zeroB; simp [hz]
  have HZ' : Hid (zeroB d = true) := by show _ = _; unfold zeroB; simp [hz']
  have hal := ((Gr.refl w).alloc (.cells #[.pointer (some ⟨E, 0, none⟩)] 105)).alloc (.cells #[.slice av k cv, .slice ad t cd] 113)
  have hS := Gr.heap ((Gr.refl _).alloc (.cells #[.slice av k cv, .slice ad t cd] 113)) (heap_alloc_new w (.cells #[.pointer (some ⟨E, 0, none⟩)] 105))
  have hR := heap_alloc_new (w.alloc (.cells #[.pointer (some ⟨E, 0, none⟩)] 105)) (.cells #[.slice av k cv, .slice ad t cd] 113)
  simp only [World.size_alloc] at hR
  have HS := Lib.hid hS
  have HEE := Lib.hid (hal.heap hE)
  have H1 := Lib.hid (hv.below hal)
  have H2 := Lib.hid (hd.below hal)
  have HAL := Lib.hid hal
  obtain ⟨s0, sf⟩ := one_all hS
  obtain ⟨r0, r1, rf⟩ := two_cells hR
  clear hv hd hal hS hR hE hz hz'
  go_enter Tryz.func41, Tryz.ntmps41
  go_wp2_with fail
  refine (HR.out _ HEE.out H1.out H2.out).mono ?_
  rintro e w1 ⟨a1, c1, a2, c2, rfl, f1, f2, hg⟩
  have hal := (Gr.refl w1).alloc (.cells #[.slice a1 k c1, .slice a2 t c2] 113)
  have HL := Lib.hid (heap_alloc_new w1 (.cells #[.slice a1 k c1, .slice a2 t c2] 113))
  have HF1 := Lib.hid (f1.below hal)
  have HF2 := Lib.hid (f2.below hal)
  have HW := Lib.hid ((HAL.out.trans hg).trans hal)
  obtain ⟨y0, y1, yf⟩ := two_cells HL.out
  clear f1 f2 hg hal s0 sf r0 r1 rf
  go_wp2_with fail
  refine (vecZero_any a1 k c1 v _ HF1.out.1).mono ?_
  rintro e w2 ⟨rfl, rfl⟩
  rw [HZ.out]
  go_wp2_with fail
  refine (vecZero_any a2 t c2 d _ HF2.out.1).mono ?_
  rintro e w2 ⟨rfl, rfl⟩
  rw [HZ'.out]
  go_wp2
  first | go_ret | go_ret2
  exact ⟨rfl, HW.out⟩

set_option maxRecDepth 100000 in
set_option maxHeartbeats 4000000 in
theorem elimPut_one (E k t : Nat) (av : Option Addr) (cv : Nat) (v : List UInt8) (ad : Option Addr) (cd : Nat) (d : List UInt8) (w : World) (hE : w.heap[E]? = some (.cells #[.int .i64 (k : Int), .int .i64 (t : Int), .slice none 0 0] 154)) (hv : Bs w av k cv v) (hd : Bs w ad t cd d) (hk : k ≤ 1000000) (ht1 : 1 ≤ t) (ht : t ≤ 1000000)
    (hl : leadL v < v.length) :
    Calls Tryz.prog 41 #[.pointer (some ⟨E, 0, none⟩), .agg #[.slice av k cv, .slice ad t cd]] w fun e w' => e = .returned (.tuple #[.int .i64 0, .int .i64 0]) ∧ ElimOne w' E k t (normL v) (scaleL (normC v) d) ∧ GrB w E w' := by
  have HR := Lib.hid fun w hE h1 h2 => elimRest_empty E k t av cv v ad cd d w hE h1 h2 hk ht
  have HZ : Hid (zeroB v = false) := by show _ = _; unfold zeroB; simp [hl]
  have HN := Lib.hid fun a1 c1 a2 c2 w h1 h2 => rowNorm_ok a1 a2 k c1 t c2 v d w h1 h2 hl ht1 hk ht
  obtain ⟨NV, eNV⟩ : ∃ x, normL v = x := ⟨_, rfl⟩
  obtain ⟨ND, eND⟩ : ∃ x, scaleL (normC v) d = x := ⟨_, rfl⟩
  rw [eNV, eND] at HN ⊢
  clear eNV eND
  have hEs : E < w.heap.size := lt_of_block hE
  have hal := ((Gr.refl w).alloc (.cells #[.pointer (some ⟨E, 0, none⟩)] 105)).alloc (.cells #[.slice av k cv, .slice ad t cd] 113)
  have hS := Gr.heap ((Gr.refl _).alloc (.cells #[.slice av k cv, .slice ad t cd] 113)) (heap_alloc_new w (.cells #[.pointer (some ⟨E, 0, none⟩)] 105))
  have hR := heap_alloc_new (w.alloc (.cells #[.pointer (some ⟨E, 0, none⟩)] 105)) (.cells #[.slice av k cv, .slice ad t cd] 113)
  simp only [World.size_alloc] at hR
  have HS := Lib.hid hS
  have HEE := Lib.hid (hal.heap hE)
  have H1 := Lib.hid (hv.below hal)
  have H2 := Lib.hid (hd.below hal)
  have HAL := Lib.hid hal
  obtain ⟨s0, sf⟩ := one_all hS
  obtain ⟨r0, r1, rf⟩ := two_cells hR
  clear hv hd hal hS hR hE hl
  go_enter Tryz.func41, Tryz.ntmps41
  go_wp2_with fail
  refine (HR.out _ HEE.out H1.out H2.out).mono ?_
  rintro e w1 ⟨a1, c1, a2, c2, rfl, f1, f2, hg⟩
  have hal := (Gr.refl w1).alloc (.cells #[.slice a1 k c1, .slice a2 t c2] 113)
  have HL := Lib.hid (heap_alloc_new w1 (.cells #[.slice a1 k c1, .slice a2 t c2] 113))
  have hLs : w.heap.size + 2 ≤ w1.heap.size := by have := hg.size; simp at this; exact this
  have HF1 := Lib.hid (f1.below hal)
  have HF2 := Lib.hid (f2.below hal)
  have HW := Lib.hid ((HAL.out.trans hg).trans hal)
  have HS1 := Lib.hid (hal.heap (hg.heap HS.out))
  have HE1 := Lib.hid (hal.heap (hg.heap HEE.out))
  obtain ⟨y0, y1, yf⟩ := two_cells HL.out
  clear f1 f2 hg hal s0 sf r0 r1 rf
  go_wp2_with fail
  refine (vecZero_any a1 k c1 v _ HF1.out.1).mono ?_
  rintro e w2 ⟨rfl, rfl⟩
  rw [HZ.out]
  go_wp2_with fail
  refine (HN.out a1 c1 a2 c2 _ HF1.out.1 HF2.out.1).mono ?_
  rintro e w2 ⟨a3, c3, a4, c4, rfl, f3, f4, hg⟩
  clear HN HZ HR
  have hL2 := hg.heap HL.out
  obtain ⟨hgb, hh⟩ := two_set hL2 (.slice a3 k c3) (.slice a4 t c4)
  have f3' := f3.mono (base' := w1.heap.size + 1) (by simp)
  have f4' := f4.mono (base' := w1.heap.size + 1) (by simp)
  have HF3 := Lib.hid (f3'.grb hgb (by omega))
  have HF4 := Lib.hid (f4'.grb hgb (by omega))
  have HW2 := Lib.hid ((HW.out.trans hg).grb hgb (by omega))
  have HS2 := Lib.hid (hgb.heap (hg.heap HS1.out) (by omega))
  have HE2 := Lib.hid (hgb.heap (hg.heap HE1.out) (by omega))
  have HL2 := Lib.hid hh
  obtain ⟨z0, z1, zf⟩ := two_cells hL2
  clear hg hgb hh hL2 f3 f4 f3' f4' y0 y1 yf HF1 HF2 HW HS1 HE1 HL
  have HX := Lib.hid fun w h => vecLead_any a3 k c3 NV w h
  obtain ⟨AT, eAT⟩ : ∃ x, leadI NV = x := ⟨_, rfl⟩
  rw [eAT] at HX
  clear eAT
  obtain ⟨q0, q1, qf⟩ := two_cells HL2.out
  go_wp2_with fail
  refine (HX.out _ HF3.out.1).mono ?_
  rintro e w3 ⟨rfl, hw3⟩
  obtain ⟨W2, eW⟩ : ∃ W, ((w2.setCell ⟨w1.heap.size, 0, none⟩ (.slice a3 k c3)).setCell ⟨w1.heap.size, 1, none⟩ (.slice a4 t c4)) = W := ⟨_, rfl⟩
  rw [eW] at hw3 HF3 HF4 HW2 HS2 HE2 HL2 q0 q1 qf
  subst hw3
  clear eW z0 z1 zf
  have hal := (Gr.refl W2).alloc (.cells #[.int .i64 AT] 3)
  have HA3 := Lib.hid (heap_alloc_new W2 (.cells #[.int .i64 AT] 3))
  have HS3 := Lib.hid (hal.heap HS2.out)
  have HE3 := Lib.hid (hal.heap HE2.out)
  have HL3 := Lib.hid (hal.heap HL2.out)
  have HF33 := Lib.hid (HF3.out.below hal)
  have HF43 := Lib.hid (HF4.out.below hal)
  have HW3 := Lib.hid (HW2.out.trans hal)
  obtain ⟨s0, sf⟩ := one_all HS3.out
  obtain ⟨e0, e1, e2, ef⟩ := three_all HE3.out
  obtain ⟨l0, l1, lf⟩ := two_cells HL3.out
  clear hal HS2 HE2 HL2 HF3 HF4 HW2 q0 q1 qf
  go_wp2
  go_loopw [39] (fun i wr => i = .int .i64 0 ∧ wr = W2.alloc (.cells #[.int .i64 AT] 3)) (fun i _ => 0)
  case atStart => exact ⟨rfl, rfl⟩
  case round =>
    obtain ⟨rfl, rfl⟩ := hrel
    go_wp2_with fail
    refine (search_none _ _ _).mono ?_
    rintro e w4 ⟨rfl, hw4⟩
    obtain ⟨W3, eW⟩ : ∃ W, W2.alloc (.cells #[.int .i64 AT] 3) = W := ⟨_, rfl⟩
    rw [eW] at hw4 HA3 HS3 HE3 HL3 HF33 HF43 HW3 s0 sf e0 e1 e2 ef l0 l1 lf
    subst hw4
    clear eW
    go_wp2
    have hup : Nonempty (Up Gr W3.drew) := ⟨⟨_, Gr.refl _⟩⟩
    have u0 : ∀ x : Up Gr W3.drew, x.w.cell? ⟨w.heap.size, 0, none⟩ = some (.pointer (some ⟨E, 0, none⟩)) := fun x => gr_st x.rel s0
    have u1 : ∀ x : Up Gr W3.drew, x.w.cell? ⟨E, 2, none⟩ = some (.slice none 0 0) := fun x => gr_st x.rel e2
    have u2 : ∀ x : Up Gr W3.drew, x.w.cell? ⟨w1.heap.size, 0, none⟩ = some (.slice a3 k c3) := fun x => gr_st x.rel l0
    have u3 : ∀ x : Up Gr W3.drew, x.w.cell? ⟨w1.heap.size, 1, none⟩ = some (.slice a4 t c4) := fun x => gr_st x.rel l1
    have HLT := Lib.hid (lt_of_block HL3.out)
    clear s0 sf e0 e1 e2 ef l0 l1 lf
    refine wp_region_rg [.reck, .reck, .reck, .reck, .reck, .reck, .reck, .any Nat 0 (fun b => .slice (some ⟨b, 0, none⟩) 1 1) (fun b W => W.cell? ⟨b, 0, none⟩ = some (.slice a3 k c3) ∧ W.cell? ⟨b, 1, none⟩ = some (.slice a4 t c4)),
      .any (Nat × Nat) (0, 0) (fun x => .slice (some ⟨x.1, 0, none⟩) 1 x.2) (fun x W => w1.heap.size < x.1 ∧ 1 ≤ x.2 ∧ x.2 ≤ maxLen ∧ W.cell? ⟨x.1, 0, none⟩ = some (.slice a3 k c3) ∧ W.cell? ⟨x.1, 1, none⟩ = some (.slice a4 t c4)), .reck, .reck] Gr (by kernel_rfl) (by kernel_rfl) Gr.refl (fun _ _ _ => Gr.trans) ?_
    (refine wpRG_reck rfl (fun K hK => ?_); go_big_quiet_op; refine hK _ ?_; clear hK K)
    (refine wpRG_reck rfl (fun K hK => ?_); go_big_quiet_op; refine hK _ ?_; clear hK K)
    (refine wpRG_reck rfl (fun K hK => ?_); go_big_quiet_op; refine hK _ ?_; clear hK K)
    (refine wpRG_reck rfl (fun K hK => ?_); go_big_quiet_op; refine hK _ ?_; clear hK K)
    (refine wpRG_reck rfl (fun K hK => ?_); go_big_quiet_op; refine hK _ ?_; clear hK K)
    (refine wpRG_reck rfl (fun K hK => ?_); go_big_quiet_op; refine hK _ ?_; clear hK K)
    (refine wpRG_reck rfl (fun K hK => ?_); go_big_quiet_op; refine hK _ ?_; clear hK K)
    refine wpRG_any rfl (fun x w w' hg h => ⟨hg.cell h.1, hg.cell h.2⟩) (fun W hw hF R hR => ?_) ?_
    · (have HF := Lib.hid hF; clear hF; unfold rgAt; go_simp)
      have hn := two_cells (heap_alloc_new W (.cells #[.slice a3 k c3, .slice a4 t c4] 113))
      exact hR W.heap.size _ ((Gr.refl _).alloc _) ⟨hn.1, hn.2.1⟩
    rintro b
    (simp only [Act.put, List.setIfInBounds_toArray, List.set_cons_zero, List.set_cons_succ])
    refine wpRG_any rfl (fun x w w' hg h => ⟨h.1, h.2.1, h.2.2.1, hg.cell h.2.2.2.1, hg.cell h.2.2.2.2⟩) (fun W hw hF R hR => ?_) ?_
    · have hb : W.cell? ⟨b, 0, none⟩ = some (.slice a3 k c3) ∧ W.cell? ⟨b, 1, none⟩ = some (.slice a4 t c4) := hF 7 (by kernel_rfl)
      (have HF := Lib.hid hF; clear hF; unfold rgAt; go_simp)
      show Calls _ _ _ _ _
      refine (insert_none b (.slice a3 k c3) (.slice a4 t c4) W hb.1 hb.2 rfl rfl).mono ?_
      rintro e w6 ⟨R', cap, rfl, hR', h1, h2, h3, h4, hg6⟩
      have hsz : W3.heap.size ≤ W.heap.size := hw.size
      have hlt := HLT.out
      exact ⟨_, rfl, hR (R', cap) _ hg6 ⟨by omega, h1, h2, h3, h4⟩⟩
    rintro ⟨RR, cap⟩
    (simp only [Act.put, List.setIfInBounds_toArray, List.set_cons_zero, List.set_cons_succ])
    (refine wpRG_reck rfl (fun K hK => ?_); go_big_quiet_op; refine hK _ ?_; clear hK K)
    (refine wpRG_reck rfl (fun K hK => ?_); go_big_quiet_op; refine hK _ ?_; clear hK K)
    refine wpRG_end fun W hw hF => ?_
    have hb1 : w1.heap.size < RR ∧ 1 ≤ cap ∧ cap ≤ maxLen ∧ W.cell? ⟨RR, 0, none⟩ = some (.slice a3 k c3) ∧ W.cell? ⟨RR, 1, none⟩ = some (.slice a4 t c4) := hF 8
    have hEW := Gr.heap hw (show W3.drew.heap[E]? = _ from HE3.out)
    obtain ⟨p0, p1, p2, pf⟩ := three_all hEW
    obtain ⟨hgb, hh⟩ := three_last hEW (.slice (some ⟨RR, 0, none⟩) 1 cap)
    have hg3 : Gr W3 W := ((Gr.refl W3).drew).trans hw
    have g3 := Fr.grb (base := w1.heap.size + 1) (HF33.out.below hg3) hgb (by omega)
    have g4 := Fr.grb (base := w1.heap.size + 1) (HF43.out.below hg3) hgb (by omega)
    have HFIN : Hid (ElimOne (W.setCell ⟨E, 2, none⟩ (.slice (some ⟨RR, 0, none⟩) 1 cap)) E k t NV ND) :=
      ⟨RR, cap, a3, c3, a4, c4, hh, by omega, hb1.2.1, hb1.2.2.1, hgb.cell hb1.2.2.2.1 (by show RR ≠ E; omega), hgb.cell hb1.2.2.2.2 (by show RR ≠ E; omega), g3.1, g4.1, fun y hy => by have := g3.2 y hy; omega, fun y hy => by have := g4.2 y hy; omega⟩
    have HG := Lib.hid ((GrB.of_gr (b := E) (HW3.out.trans hg3)).trans hgb)
    clear hF hb1 hEW hgb hh hg3 g3 g4 u0 u1 u2 u3 hup
    go_wp2
    first | go_ret | go_ret2
    exact ⟨rfl, HFIN.out, HG.out⟩
end Go.Proofs.YtddopoojmadpjaaGreatDoor

namespace Go.Proofs.YtddopoojmadpjaaGreatDoor
open Go.RowKit
set_option linter.unusedVariables false

/-- A TAKER at T, its system at E. -/
def TakAt (w : World) (T E : Nat) (n s q : Nat) (id : Nat) (g : Option Nat) (st : Nat) : Prop :=
  w.heap[T]? = some (.cells #[.int .i64 (n : Int), .int .i64 (s : Int), .int .i64 (q : Int), .int .u32 (id : Int), .map g, .pointer (some ⟨E, 0, none⟩), .int .i64 (st : Int)] 109)
theorem TakAt.gr {w w' : World} {T E n s q id st : Nat} {g : Option Nat} (h : TakAt w T E n s q id g st) (hg : Gr w w') : TakAt w' T E n s q id g st := hg.heap h
/-- the gate is told anew. -/
theorem TakAt.gate {w : World} {T E n s q id st : Nat} {g : Option Nat} (h : TakAt w T E n s q id g st) (g' : Option Nat) :
    TakAt (((((w.setCell ⟨T, 0, none⟩ (.int .i64 (n : Int))).setCell ⟨T, 1, none⟩ (.int .i64 (s : Int))).setCell ⟨T, 2, none⟩ (.int .i64 (q : Int))).setCell ⟨T, 3, none⟩ (.int .u32 (id : Int))).setCell ⟨T, 4, none⟩ (.map g')) T E n s q id g' st ∧
    GrB w T (((((w.setCell ⟨T, 0, none⟩ (.int .i64 (n : Int))).setCell ⟨T, 1, none⟩ (.int .i64 (s : Int))).setCell ⟨T, 2, none⟩ (.int .i64 (q : Int))).setCell ⟨T, 3, none⟩ (.int .u32 (id : Int))).setCell ⟨T, 4, none⟩ (.map g')) := by
  unfold TakAt at h ⊢
  refine ⟨?_, ((((((GrB.refl w T).set (.inl rfl) _).set (.inl rfl) _).set (.inl rfl) _).set (.inl rfl) _).set (.inl rfl) _)⟩
  have h2 := heap_set (i := 4) (heap_set (i := 3) (heap_set (i := 2) (heap_set (i := 1) (heap_set (i := 0) h (.int .i64 (n : Int))) (.int .i64 (s : Int))) (.int .i64 (q : Int))) (.int .u32 (id : Int))) (.map g')
  simpa only [List.setIfInBounds_toArray, List.set_cons_zero, List.set_cons_succ] using h2
theorem TakAt.status {w : World} {T E n s q id st : Nat} {g : Option Nat} (h : TakAt w T E n s q id g st) (st' : Nat) :
    TakAt (w.setCell ⟨T, 6, none⟩ (.int .i64 (st' : Int))) T E n s q id g st' ∧ GrB w T (w.setCell ⟨T, 6, none⟩ (.int .i64 (st' : Int))) := by
  unfold TakAt at h ⊢
  refine ⟨?_, (GrB.refl w T).set (.inl rfl) _⟩
  have h2 := heap_set (i := 6) h (.int .i64 (st' : Int))
  simpa only [List.setIfInBounds_toArray, List.set_cons_zero, List.set_cons_succ] using h2

set_option maxHeartbeats 1000000 in
theorem elimRank_any (E k t r c : Nat) (a : Option Addr) (w : World) (h : w.heap[E]? = some (.cells #[.int .i64 (k : Int), .int .i64 (t : Int), .slice a r c] 154)) :
    Calls Tryz.prog 42 #[.pointer (some ⟨E, 0, none⟩)] w fun e w' => e = .returned (.int .i64 (r : Int)) ∧ w = w' := by
  obtain ⟨e0, e1, e2, ef⟩ := three_all h
  clear h
  go_enter Tryz.func42, Tryz.ntmps42
  go_wp2
  first | go_ret | go_ret2
  exact ⟨rfl, rfl⟩

set_option maxHeartbeats 1000000 in
theorem takerRank_any (T E n s q id st : Nat) (g : Option Nat) (k t r c : Nat) (a : Option Addr) (w : World) (h : TakAt w T E n s q id g st) (hE : w.heap[E]? = some (.cells #[.int .i64 (k : Int), .int .i64 (t : Int), .slice a r c] 154)) :
    Calls Tryz.prog 21 #[.pointer (some ⟨T, 0, none⟩)] w fun e w' => e = .returned (.int .i64 (r : Int)) ∧ w = w' := by
  have HR := Lib.hid (elimRank_any E k t r c a w hE)
  obtain ⟨t0, t1, t2, t3, t4, t5, t6, tf⟩ := seven_cells h
  clear h hE
  go_enter Tryz.func21, Tryz.ntmps21
  go_wp2_with fail
  refine HR.out.mono ?_
  rintro e w1 ⟨rfl, rfl⟩
  go_wp2
  first | go_ret | go_ret2
  exact ⟨rfl, rfl⟩

set_option maxHeartbeats 1000000 in
theorem takerStatus_any (T E n s q id st : Nat) (g : Option Nat) (w : World) (h : TakAt w T E n s q id g st) :
    Calls Tryz.prog 19 #[.pointer (some ⟨T, 0, none⟩)] w fun e w' => e = .returned (.int .i64 (st : Int)) ∧ w = w' := by
  obtain ⟨t0, t1, t2, t3, t4, t5, t6, tf⟩ := seven_cells h
  clear h
  go_enter Tryz.func19, Tryz.ntmps19
  go_wp2
  first | go_ret | go_ret2
  exact ⟨rfl, rfl⟩

set_option maxHeartbeats 2000000 in
theorem takerGate_any (T E n s q id st : Nat) (g : Option Nat) (w : World) (h : TakAt w T E n s q id g st) :
    Calls Tryz.prog 75 #[.pointer (some ⟨T, 0, none⟩)] w fun e w' => e = .returned (.agg #[.int .i64 (n : Int), .int .i64 (s : Int), .int .i64 (q : Int), .int .u32 (id : Int), .map g]) ∧ Gr w w' := by
  obtain ⟨t0, t1, t2, t3, t4, t5, t6, tf⟩ := seven_cells (Gr.heap ((Gr.refl w).alloc (.cells #[.int .i64 0, .int .i64 0, .int .i64 0, .int .u32 0, .map none] 102)) h)
  clear h
  go_enter Tryz.func75, Tryz.ntmps75
  go_wp2
  refine bodyPost_ret (v := .agg #[.int .i64 (n : Int), .int .i64 (s : Int), .int .i64 (q : Int), .int .u32 (id : Int), .map g]) ?_ rfl ⟨rfl, (Gr.refl w).alloc _⟩
  simp [results, Tryz.results75, go_sem]

set_option maxRecDepth 100000 in
set_option maxHeartbeats 2000000 in
theorem takerNew_ok (n s q id : Nat) (hP : planErr n s q = 0) (hnm : n ≤ 9223372036854775807) (w : World) :
    Calls Tryz.prog 15 #[.agg #[.int .i64 (n : Int), .int .i64 (s : Int), .int .i64 (q : Int), .int .u32 (id : Int)]] w fun e w' => ∃ T E, e = .returned (.tuple #[.pointer (some ⟨T, 0, none⟩), .int .i64 0]) ∧ w.heap.size ≤ E ∧ E < T ∧ TakAt w' T E n s q id none 0 ∧ w'.heap[E]? = some (.cells #[.int .i64 (q : Int), .int .i64 (s : Int), .slice none 0 0] 154) ∧ Gr w w' := by
  obtain ⟨e1, e2⟩ := planErr_zero hP
  obtain ⟨f1, f2, f3, f4⟩ := planFit_zero e1
  have hp := planNeed_pos f1 f2
  have HG := Lib.hid fun w => gateNew_any n s q id (by omega) (by omega) (by omega) (by omega) w
  rw [if_pos hP, hP] at HG
  have HE := Lib.hid fun w => elimNew_ok q s (by omega) (by omega) (by omega) w
  have hal := (Gr.refl w).alloc (.cells #[.int .i64 (n : Int), .int .i64 (s : Int), .int .i64 (q : Int), .int .u32 (id : Int)] 28)
  have HP := Lib.hid (heap_alloc_new w (.cells #[.int .i64 (n : Int), .int .i64 (s : Int), .int .i64 (q : Int), .int .u32 (id : Int)] 28))
  obtain ⟨p0, p1, p2, p3⟩ := p_four_cells HP.out
  have HAL := Lib.hid hal
  clear hP e1 e2 f1 f2 f3 f4 hp hal
  go_enter Tryz.func15, Tryz.ntmps15
  go_wp2_with fail
  refine (HG.out _).mono ?_
  rintro e w1 ⟨rfl, hg⟩
  have hal := (Gr.refl w1).alloc (.cells #[.int .i64 (n : Int), .int .i64 (s : Int), .int .i64 (q : Int), .int .u32 (id : Int), .map none] 102)
  have HG1 := Lib.hid (heap_alloc_new w1 (.cells #[.int .i64 (n : Int), .int .i64 (s : Int), .int .i64 (q : Int), .int .u32 (id : Int), .map none] 102))
  have HW1 := Lib.hid ((HAL.out.trans hg).trans hal)
  obtain ⟨p0, p1, p2, p3⟩ := p_four_cells (hal.heap (hg.heap HP.out))
  clear hg hal
  go_wp2_with fail
  refine (HE.out _).mono ?_
  rintro e w2 ⟨rfl, hE, hg⟩
  obtain ⟨g0, g1, g2, g3, g4, gf⟩ := five_cells (hg.heap HG1.out)
  have HW2 := Lib.hid (HW1.out.trans hg)
  have HEE := Lib.hid hE
  have hsz := HW1.out.size
  have hlt := lt_of_block hE
  clear hg hE
  simp only [World.size_alloc] at hsz hlt HEE
  go_wp2
  first | go_ret | go_ret2
  have hal := (Gr.refl w2).alloc (.cells #[.int .i64 (n : Int), .int .i64 (s : Int), .int .i64 (q : Int), .int .u32 (id : Int), .map none, .pointer (some ⟨w1.heap.size + 1, 0, none⟩), .int .i64 0] 109)
  refine ⟨w2.heap.size, w1.heap.size + 1, by simp, by omega, by omega, heap_alloc_new w2 _, hal.heap HEE.out, HW2.out.trans hal⟩
end Go.Proofs.YtddopoojmadpjaaGreatDoor

namespace Go.Proofs.YtddopoojmadpjaaGreatDoor
open Go.RowKit
set_option linter.unusedVariables false

set_option maxRecDepth 100000 in
set_option maxHeartbeats 4000000 in
theorem take_bad (T E n s q id st : Nat) (hnm : n ≤ 9223372036854775807) (hsm : s ≤ 9223372036854775807) (g : Option Nat) (es : List Nat) (hes : es.length ≤ 1000) (a : Option Addr) (len cap : Nat) (l : List UInt8) (w : World) (htab : Tab w) (hs : Bs w a len cap l) (hmx : len ≤ 1000000) (hT : TakAt w T E n s q id g st) (hG : GateAt w g es) (hE : packErr n s q id l ≠ 0) :
    Calls Tryz.prog 16 #[.pointer (some ⟨T, 0, none⟩), .slice a len cap] w fun e w' => ∃ g', e = .returned (.int .i64 (packErr n s q id l : Nat)) ∧ TakAt w' T E n s q id (some g') st ∧ GateAt w' (some g') (packErr n s q id l :: es) ∧ GrB w T w' := by
  have HL := Lib.hid fun w ht hb hg => gateLook_any n s q id (by omega) (by omega) (by omega) (by omega) a len cap l g es hes w ht hb (by omega) hg
  obtain ⟨PE, ePE⟩ : ∃ x, packErr n s q id l = x := ⟨_, rfl⟩
  obtain ⟨⟨gm, go, gn, gd, gs, lb, lp⟩, eG⟩ : ∃ x, packGot n s q id l = x := ⟨_, rfl⟩
  rw [ePE] at hE
  rw [ePE, eG] at HL
  rw [ePE]
  have hne : ((PE : Int) != 0) = true := by rw [bne_iff_ne]; omega
  obtain ⟨t0, t1, t2, t3, t4, t5, t6, tf⟩ := seven_cells hT
  have HT := Lib.hid htab
  have HS := Lib.hid hs
  have HTA := Lib.hid hT
  have HGA := Lib.hid hG
  clear hE ePE eG htab hs hT hG
  go_enter Tryz.func16, Tryz.ntmps16
  go_wp2_with fail
  refine (HL.out w HT.out HS.out HGA.out).mono ?_
  rintro e w1 ⟨g', a1, k1, c1, a2, k2, c2, rfl, hga, hb1, hb2, hg⟩
  have hal := (hg.alloc (.cells #[.int .i64 (n : Int), .int .i64 (s : Int), .int .i64 (q : Int), .int .u32 (id : Int), .map (some g')] 102)).alloc (.cells #[.int .u8 (gm : Int), .int .u32 (go : Int), .int .u32 (gn : Int), .int .u8 (gd : Int), .slice a1 k1 c1, .int .u64 (gs : Int), .slice a2 k2 c2] 96)
  have hal1 := ((Gr.refl w1).alloc (.cells #[.int .i64 (n : Int), .int .i64 (s : Int), .int .i64 (q : Int), .int .u32 (id : Int), .map (some g')] 102)).alloc (.cells #[.int .u8 (gm : Int), .int .u32 (go : Int), .int .u32 (gn : Int), .int .u8 (gd : Int), .slice a1 k1 c1, .int .u64 (gs : Int), .slice a2 k2 c2] 96)
  have HTA1 := Lib.hid (HTA.out.gr hal)
  have HGA1 := Lib.hid (hga.gr hal1)
  have HW1 := Lib.hid hal
  have hG1 := Gr.heap ((Gr.refl _).alloc (.cells #[.int .u8 (gm : Int), .int .u32 (go : Int), .int .u32 (gn : Int), .int .u8 (gd : Int), .slice a1 k1 c1, .int .u64 (gs : Int), .slice a2 k2 c2] 96)) (heap_alloc_new w1 (.cells #[.int .i64 (n : Int), .int .i64 (s : Int), .int .i64 (q : Int), .int .u32 (id : Int), .map (some g')] 102))
  obtain ⟨x0, x1, x2, x3, x4, xf⟩ := five_cells hG1
  obtain ⟨t0, t1, t2, t3, t4, t5, t6, tf⟩ := seven_cells HTA1.out
  have hTs := lt_of_block HTA1.out
  obtain ⟨hta, hgb⟩ := HTA1.out.gate (some g')
  have HTA2 := Lib.hid hta
  have HGB := Lib.hid ((GrB.of_gr (b := T) HW1.out).trans hgb)
  have HGA2 := Lib.hid (HGA1.out.grb hgb (GateAt.ne HGA1.out HTA1.out))
  clear hg hal hal1 hga hb1 hb2 hG1 hta hgb
  go_wp2
  first | go_ret | go_ret2
  exact ⟨g', rfl, HTA2.out, HGA2.out, HGB.out⟩

theorem TakAt.bs {w w' : World} {T E n s q id st : Nat} {g : Option Nat} {a : Option Addr} {k c : Nat} {l : List UInt8} (hT : TakAt w T E n s q id g st) (h : Bs w a k c l) (hg : GrB w T w') : Bs w' a k c l :=
  h.gap hg hT fun j u => by match j with | 0 => simp | 1 => simp | 2 => simp | 3 => simp | 4 => simp | 5 => simp | 6 => simp | j + 7 => simp
/-- a system to which one equation came, that leads or is nought. -/
def ElimSt (w : World) (E k t : Nat) (b : Bool) (v d : List UInt8) : Prop :=
  if b = true then ElimOne w E k t v d else w.heap[E]? = some (.cells #[.int .i64 (k : Int), .int .i64 (t : Int), .slice none 0 0] 154)
theorem ElimSt.cells {w : World} {E k t : Nat} {b : Bool} {v d : List UInt8} (h : ElimSt w E k t b v d) : ∃ (r : Nat) (a : Option Addr) (c : Nat), r = (if b = true then 1 else 0) ∧ w.heap[E]? = some (.cells #[.int .i64 (k : Int), .int .i64 (t : Int), .slice a r c] 154) := by
  cases b with
  | false => exact ⟨0, none, 0, rfl, h⟩
  | true =>
    obtain ⟨R, cap, _, _, _, _, h1, _⟩ := (show ElimOne w E k t v d from h)
    exact ⟨1, _, cap, rfl, h1⟩
theorem ElimSt.gr {w w' : World} {E k t : Nat} {b : Bool} {v d : List UInt8} (h : ElimSt w E k t b v d) (g : Gr w w') : ElimSt w' E k t b v d := by
  cases b with
  | false => exact g.heap (show w.heap[E]? = _ from h)
  | true => exact (show ElimOne w E k t v d from h).gr g
def ledB (v : List UInt8) : Bool := decide (leadL v < v.length)
theorem elimPut_any (E k t : Nat) (av : Option Addr) (cv : Nat) (v : List UInt8) (ad : Option Addr) (cd : Nat) (d : List UInt8) (w : World) (hE : w.heap[E]? = some (.cells #[.int .i64 (k : Int), .int .i64 (t : Int), .slice none 0 0] 154)) (hv : Bs w av k cv v) (hd : Bs w ad t cd d) (hk : k ≤ 1000000) (ht1 : 1 ≤ t) (ht : t ≤ 1000000)
    (hz : ¬ leadL v < v.length → ¬ leadL d < d.length) :
    Calls Tryz.prog 41 #[.pointer (some ⟨E, 0, none⟩), .agg #[.slice av k cv, .slice ad t cd]] w fun e w' => ∃ c : Nat, c ≤ 1 ∧ e = .returned (.tuple #[.int .i64 (c : Int), .int .i64 0]) ∧ ElimSt w' E k t (ledB v) (normL v) (scaleL (normC v) d) ∧ GrB w E w' := by
  by_cases hl : leadL v < v.length
  · refine (elimPut_one E k t av cv v ad cd d w hE hv hd hk ht1 ht hl).mono ?_
    rintro e w' ⟨he, h1, h2⟩
    exact ⟨0, by omega, he, by rw [ledB, decide_eq_true hl]; exact h1, h2⟩
  · refine (elimPut_spare E k t av cv v ad cd d w hE hv hd hk ht hl (hz hl)).mono ?_
    rintro e w' ⟨he, h1⟩
    exact ⟨1, by omega, he, by rw [ledB, decide_eq_false hl]; exact h1.heap hE, GrB.of_gr h1⟩
theorem ElimSt.other {w w' : World} {E T k t : Nat} {b : Bool} {v d : List UInt8} {n s q id st : Nat} {g : Option Nat} (h : ElimSt w E k t b v d) (hT : TakAt w T E n s q id g st) (hg : GrB w T w') (hne : E ≠ T) : ElimSt w' E k t b v d := by
  cases b with
  | false => exact hg.heap (show w.heap[E]? = _ from h) hne
  | true =>
    obtain ⟨R, cap, a1, c1, a2, c2, h1, h2, h3, h4, h5, h6, h7, h8, h9, h10⟩ := (show ElimOne w E k t v d from h)
    have hR : R ≠ T := fun e => by
      subst e
      obtain ⟨t0, _⟩ := seven_cells hT
      rw [t0] at h5; cases h5
    exact ⟨R, cap, a1, c1, a2, c2, hg.heap h1 hne, h2, h3, h4, hg.cell h5 hR, hg.cell h6 hR, hT.bs h7 hg, hT.bs h8 hg, h9, h10⟩

/-- what comes of a packet where no row is yet. -/
def TakeOut (T E n s q id : Nat) (es : List Nat) (LB : Bool) (NV ND : List UInt8) (w : World) (e : Ending) (w' : World) : Prop :=
  ∃ g', e = .returned (.int .i64 0) ∧ TakAt w' T E n s q id (some g') (if LB = true ∧ q = 1 then 1 else 0) ∧ GateAt w' (some g') (0 :: es) ∧ ElimSt w' E q s LB NV ND ∧ GrC w T E w'
theorem TakeOut.mk {T E n s q id : Nat} {es : List Nat} {LB : Bool} {NV ND : List UInt8} {w : World} {e : Ending} {w' : World} (g' st : Nat) (he : e = .returned (.int .i64 0)) (hs : Hid ((if LB = true ∧ q = 1 then 1 else 0) = st)) (h1 : TakAt w' T E n s q id (some g') st) (h2 : GateAt w' (some g') (0 :: es)) (h3 : ElimSt w' E q s LB NV ND) (h4 : GrC w T E w') :
    TakeOut T E n s q id es LB NV ND w e w' := ⟨g', he, by rw [hs.out]; exact h1, h2, h3, h4⟩

set_option maxRecDepth 100000 in
set_option maxHeartbeats 4000000 in
theorem take_ok (T E n s q id : Nat) (hTE : E ≠ T) (hnm : n ≤ 9223372036854775807) (hs1 : 1 ≤ s) (hsm : s ≤ 1000000) (hq1 : 1 ≤ q) (hqm : q ≤ 1000000) (g : Option Nat) (es : List Nat) (hes : es.length ≤ 1000) (a : Option Addr) (len cap : Nat) (l : List UInt8) (w : World) (htab : Tab w) (hs : Bs w a len cap l) (hmx : len ≤ 1000000) (hT : TakAt w T E n s q id g 0) (hG : GateAt w g es)
    (hEE : w.heap[E]? = some (.cells #[.int .i64 (q : Int), .int .i64 (s : Int), .slice none 0 0] 154))
    (m nn sd : Nat) (lb lp : List UInt8) (hsd : sd < 18446744073709551616) (hpe : packErr n s q id l = 0) (hpg : packGot n s q id l = ⟨m, id, nn, m, sd, lb, lp⟩) (hfit : fitErr n s q id m id m lb.length lp.length = 0) (hlb : lb.length ≤ 1000000) (hz : ¬ leadL (rowVec m lb sd q) < (rowVec m lb sd q).length → ¬ leadL lp < lp.length) (hvl : (rowVec m lb sd q).length = q) :
    Calls Tryz.prog 16 #[.pointer (some ⟨T, 0, none⟩), .slice a len cap] w (TakeOut T E n s q id es (ledB (rowVec m lb sd q)) (normL (rowVec m lb sd q)) (scaleL (normC (rowVec m lb sd q)) lp) w) := by
  have hlps : lp.length = s := by obtain ⟨_, _, _, _, _, h6⟩ := fitErr_zero hfit; omega
  have HL := Lib.hid fun w ht hb hg => gateLook_any n s q id (by omega) (by omega) (by omega) (by omega) a len cap l g es hes w ht hb (by omega) hg
  rw [hpe, hpg] at HL
  have HQ : Hid (∀ a1 k1 c1 a2 k2 c2 w, Bs w a1 k1 c1 lb → Bs w a2 k2 c2 lp → Calls Tryz.prog 40 #[.agg #[.int .u8 (m : Int), .int .u32 (id : Int), .int .u32 (nn : Int), .int .u8 (m : Int), .slice a1 k1 c1, .int .u64 (sd : Int), .slice a2 k2 c2], .agg #[.int .i64 (n : Int), .int .i64 (s : Int), .int .i64 (q : Int), .int .u32 (id : Int)]] w fun e w' =>
      ∃ a3 c3 a4 c4, e = .returned (.tuple #[.agg #[.slice a3 q c3, .slice a4 s c4], .int .i64 0]) ∧ Bs w' a3 q c3 (rowVec m lb sd q) ∧ Bs w' a4 s c4 lp ∧ Gr w w') := by
    show ∀ a1 k1 c1 a2 k2 c2 w, _
    intro a1 k1 c1 a2 k2 c2 w h1 h2
    have e1 := h1.1
    have e2 := h2.1
    rw [hlps] at e2
    subst e1 e2
    rw [hlps] at hfit
    refine (packEq_ok n s q id m nn lb.length s sd hsd (by omega) (by omega) (by omega) (by omega) a1 a2 c1 c2 _ _ w h1 h2 (by omega) (by omega) (by omega) hfit).mono ?_
    rintro e w' ⟨a3, c3, a4, c4, he, ho3, ho4, hg⟩
    exact ⟨a3, c3, a4, c4, he, ho3.bs2.1, ho4.bs2.1, hg⟩
  have HPUT := Lib.hid fun a3 c3 a4 c4 w hE h1 h2 => elimPut_any E q s a3 c3 (rowVec m lb sd q) a4 c4 lp w hE h1 h2 hqm hs1 hsm hz
  obtain ⟨V, eV⟩ : ∃ x, rowVec m lb sd q = x := ⟨_, rfl⟩
  rw [eV] at HQ HPUT ⊢
  obtain ⟨NV, eNV⟩ : ∃ x, normL V = x := ⟨_, rfl⟩
  obtain ⟨ND, eND⟩ : ∃ x, scaleL (normC V) lp = x := ⟨_, rfl⟩
  obtain ⟨LB, eLB⟩ : ∃ x, ledB V = x := ⟨_, rfl⟩
  rw [eNV, eND, eLB] at HPUT ⊢
  obtain ⟨t0, t1, t2, t3, t4, t5, t6, tf⟩ := seven_cells hT
  have HT := Lib.hid htab
  have HS := Lib.hid hs
  have HTA := Lib.hid hT
  have HGA := Lib.hid hG
  have HE0 := Lib.hid hEE
  clear hpe hpg hfit hz hvl eV eNV eND eLB htab hs hT hG hEE hlps hlb
  go_enter Tryz.func16, Tryz.ntmps16
  go_wp2_with fail
  refine (HL.out w HT.out HS.out HGA.out).mono ?_
  rintro e w1 ⟨g', a1, k1, c1, a2, k2, c2, rfl, hga, hb1, hb2, hg⟩
  go_wp2_with (with_reducible refine wpList_hold (o := ⟨none, .store 96 _ _, _, _, _, _⟩) ?_)
  change wpList _ _ _ _ _ _
  go_step
  go_step
  have hal1 := ((Gr.refl w1).alloc (.cells #[.int .i64 (n : Int), .int .i64 (s : Int), .int .i64 (q : Int), .int .u32 (id : Int), .map (some g')] 102)).alloc (.cells #[.int .u8 (m : Int), .int .u32 (id : Int), .int .u32 (nn : Int), .int .u8 (m : Int), .slice a1 k1 c1, .int .u64 (sd : Int), .slice a2 k2 c2] 96)
  have hG1 := Gr.heap ((Gr.refl _).alloc (.cells #[.int .u8 (m : Int), .int .u32 (id : Int), .int .u32 (nn : Int), .int .u8 (m : Int), .slice a1 k1 c1, .int .u64 (sd : Int), .slice a2 k2 c2] 96)) (heap_alloc_new w1 (.cells #[.int .i64 (n : Int), .int .i64 (s : Int), .int .i64 (q : Int), .int .u32 (id : Int), .map (some g')] 102))
  have hK1 := heap_alloc_new (w1.alloc (.cells #[.int .i64 (n : Int), .int .i64 (s : Int), .int .i64 (q : Int), .int .u32 (id : Int), .map (some g')] 102)) (.cells #[.int .u8 (m : Int), .int .u32 (id : Int), .int .u32 (nn : Int), .int .u8 (m : Int), .slice a1 k1 c1, .int .u64 (sd : Int), .slice a2 k2 c2] 96)
  rw [World.size_alloc] at hK1
  obtain ⟨W1, eW⟩ : ∃ W, (w1.alloc (.cells #[.int .i64 (n : Int), .int .i64 (s : Int), .int .i64 (q : Int), .int .u32 (id : Int), .map (some g')] 102)).alloc (.cells #[.int .u8 (m : Int), .int .u32 (id : Int), .int .u32 (nn : Int), .int .u8 (m : Int), .slice a1 k1 c1, .int .u64 (sd : Int), .slice a2 k2 c2] 96) = W := ⟨_, rfl⟩
  rw [eW] at hal1 hG1 hK1 ⊢
  clear eW
  have hal := hg.trans hal1
  have HTA1 := Lib.hid (HTA.out.gr hal)
  have HGA1 := Lib.hid (hga.gr hal1)
  have HW1 := Lib.hid hal
  obtain ⟨x0, x1, x2, x3, x4, xf⟩ := five_cells hG1
  obtain ⟨t0, t1, t2, t3, t4, t5, t6, tf⟩ := seven_cells HTA1.out
  have hTw : T < w1.heap.size := by have h1 := lt_of_block HTA.out; have := hg.size; omega
  have hEw : E < w1.heap.size := by have h1 := lt_of_block HE0.out; have := hg.size; omega
  obtain ⟨hta, hgb⟩ := HTA1.out.gate (some g')
  have HTA2 := Lib.hid hta
  have HGB := Lib.hid ((GrB.of_gr (b := T) HW1.out).trans hgb)
  have HGA2 := Lib.hid (HGA1.out.grb hgb (GateAt.ne HGA1.out HTA1.out))
  have HGG2 := Lib.hid (hgb.heap hG1 (by omega))
  have HK2 := Lib.hid (hgb.heap hK1 (by omega))
  have HE2 := Lib.hid (hgb.heap (hal.heap HE0.out) hTE)
  have HB1 := Lib.hid (HTA1.out.bs (hb1.below hal1) hgb)
  have HB2 := Lib.hid (HTA1.out.bs (hb2.below hal1) hgb)
  obtain ⟨k0, k1', k2', k3, k4, k5, k6, -⟩ := seven_cells HK2.out
  obtain ⟨y0, y1, y2, y3, -, -⟩ := five_cells HGG2.out
  obtain ⟨-, -, -, -, -, -, r6, -⟩ := seven_cells HTA2.out
  clear hg hal hal1 hga hb1 hb2 hG1 hK1 hta hgb HTA1 HGA1
  go_wp2_with fail
  obtain ⟨W2, eW⟩ : ∃ W, (((((W1.setCell ⟨T, 0, none⟩ (.int .i64 (n : Int))).setCell ⟨T, 1, none⟩ (.int .i64 (s : Int))).setCell ⟨T, 2, none⟩ (.int .i64 (q : Int))).setCell ⟨T, 3, none⟩ (.int .u32 (id : Int))).setCell ⟨T, 4, none⟩ (.map (some g'))) = W := ⟨_, rfl⟩
  rw [eW] at HTA2 HGB HGA2 HGG2 HK2 HE2 HB1 HB2 ⊢
  clear eW k0 k1' k2' k3 k4 k5 k6 y0 y1 y2 y3 r6 x0 x1 x2 x3 x4 xf t0 t1 t2 t3 t4 t5 t6 tf
  refine (HQ.out a1 k1 c1 a2 k2 c2 W2 HB1.out HB2.out).mono ?_
  rintro e w3 ⟨a3, c3, a4, c4, rfl, hb3, hb4, hg⟩
  have hal1 := (Gr.refl w3).alloc (.cells #[.slice a3 q c3, .slice a4 s c4] 113)
  have hR3 := heap_alloc_new w3 (.cells #[.slice a3 q c3, .slice a4 s c4] 113)
  go_wp2
  obtain ⟨W3, eW⟩ : ∃ W, w3.alloc (.cells #[.slice a3 q c3, .slice a4 s c4] 113) = W := ⟨_, rfl⟩
  rw [eW] at hal1 hR3 ⊢
  clear eW
  have hal := hg.trans hal1
  have HB3 := Lib.hid (hb3.below hal1)
  have HB4 := Lib.hid (hb4.below hal1)
  have HTA3 := Lib.hid (HTA2.out.gr hal)
  have HGA3 := Lib.hid (HGA2.out.gr hal)
  have HGB3 := Lib.hid (HGB.out.gr hal)
  have HGG3 := Lib.hid (hal.heap HGG2.out)
  have HE3 := Lib.hid (hal.heap HE2.out)
  obtain ⟨-, -, -, -, -, r5, -, -⟩ := seven_cells HTA3.out
  obtain ⟨z0, z1, -⟩ := two_cells hR3
  have hTE' : T ≠ E := fun e => hTE e.symm
  have hwE : w3.heap.size ≠ E := by have h1 := lt_of_block HE2.out; have := hg.size; omega
  have R5 := Lib.hid r5
  have Z0 := Lib.hid z0
  have Z1 := Lib.hid z1
  clear hg hal1 hR3 hal hb3 hb4 HTA2 HGA2 HGB HGG2 HE2 HB1 HB2 HK2
  go_region_held3 (fun W => W.cell? ⟨T, 5, none⟩ = some (.pointer (some ⟨E, 0, none⟩)) ∧ W.cell? ⟨w3.heap.size, 0, none⟩ = some (.slice a3 q c3) ∧ W.cell? ⟨w3.heap.size, 1, none⟩ = some (.slice a4 s c4)) (first | go_keep | exact ⟨q5, q0, q1⟩) ((first
    | (go_at_call 41; refine (HPUT.out a3 c3 a4 c4 W3.drew (show W3.drew.heap[E]? = _ from HE3.out) (HB3.out.below (Gr.refl W3).drew) (HB4.out.below (Gr.refl W3).drew)).mono ?_; rintro e w6 ⟨c, hc, rfl, hst, hg6⟩; have q5 := hg6.cell (show W3.drew.cell? _ = _ from R5.out) hTE'; have q0 := hg6.cell (show W3.drew.cell? _ = _ from Z0.out) hwE; have q1 := hg6.cell (show W3.drew.cell? _ = _ from Z1.out) hwE)))
  have hTA6 : TakAt w6 T E n s q id (some g') 0 := hg6.heap (show W3.drew.heap[T]? = _ from HTA3.out) hTE'
  have hGA6 : GateAt w6 (some g') (0 :: es) := GateAt.grb (w := W3.drew) (HGA3.out.gr (Gr.refl W3).drew) hg6 (GateAt.ne HGA3.out HE3.out)
  have hw1E : w1.heap.size ≠ E := by omega
  have hGG6 := hg6.heap (show W3.drew.heap[w1.heap.size]? = _ from HGG3.out) hw1E
  have hall : GrC w T E w6 := ((GrC.of_grb (HGB3.out.gr (Gr.refl W3).drew)).trans (GrC.of_grb' hg6))
  obtain ⟨r, ar, cr, er, hE6⟩ := hst.cells
  have HR6 := Lib.hid (elimRank_any E q s r cr ar w6 hE6)
  have HR6' := Lib.hid fun (nq : Nat) => elimRank_any E q s r cr ar (w6.drewN nq) (((Gr.refl w6).drewN nq).heap hE6)
  obtain ⟨-, -, -, -, -, v5, v6, vf⟩ := seven_cells hTA6
  obtain ⟨-, -, g2, -, -, -⟩ := five_cells hGG6
  have HTA6 := Lib.hid hTA6
  have HGA6 := Lib.hid hGA6
  have HALL := Lib.hid hall
  have HST6 := Lib.hid hst
  have HER := Lib.hid er
  have hr1 : (r : Int) ≤ 1 := by rw [er]; split <;> omega
  have hc2 : ((c : Int) == 2) = false := by rw [beq_eq_false_iff_ne]; omega
  clear hTA6 hGA6 hGG6 hall hE6 hst er hg6 q5 q0 q1 r5 z0 z1 HTA3 HGA3 HGG3 HE3 HB3 HB4 HPUT HL HQ HGB3
  by_cases hrq : r = q
  · have hrq' : ((r : Int) == (q : Int)) = true := by rw [beq_iff_eq, hrq]
    have hfin : (if LB = true ∧ q = 1 then 1 else 0) = 1 := by
      have h1 := HER.out
      rw [if_pos]
      cases LB with
      | false => exfalso; rw [if_neg (by decide)] at h1; omega
      | true => rw [if_pos rfl] at h1; exact ⟨rfl, by omega⟩
    have HFIN := Lib.hid hfin
    clear hfin hrq
    go_wp2_with fail
    go_quiet ((go_at_call 42; refine Calls.quiet_of_same ((HR6'.out _).mono fun _ _ ⟨h1, h2⟩ => ⟨h1, h2.symm⟩)))
    obtain ⟨W6, eW⟩ : ∃ W, w6.drewN nq = W := ⟨_, rfl⟩
    have hg7 := (Gr.refl w6).drewN nq
    rw [eW] at hg7 ⊢
    clear eW
    obtain ⟨hta, hgb⟩ := (HTA6.out.gr hg7).status 1
    have HTA7 := Lib.hid hta
    have HGA7 := Lib.hid ((HGA6.out.gr hg7).grb hgb (GateAt.ne (HGA6.out.gr hg7) (HTA6.out.gr hg7)))
    have HST7 := Lib.hid ((HST6.out.gr hg7).other (HTA6.out.gr hg7) hgb hTE)
    have HALL7 := Lib.hid ((HALL.out.trans (GrC.of_gr hg7)).trans (GrC.of_grb hgb))
    obtain ⟨-, -, -, -, -, -, y6, yf⟩ := seven_cells (HTA6.out.gr hg7)
    clear hg7 hta hgb v5 v6 vf g2
    go_wp2
    first | go_ret | go_ret2
    exact TakeOut.mk g' 1 rfl HFIN HTA7.out HGA7.out HST7.out HALL7.out
  · have hrq' : ((r : Int) == (q : Int)) = false := by rw [beq_eq_false_iff_ne]; omega
    have hfin : (if LB = true ∧ q = 1 then 1 else 0) = 0 := by
      have h1 := HER.out
      rw [if_neg]
      rintro ⟨e1, e2⟩
      rw [if_pos e1] at h1; omega
    have HFIN := Lib.hid hfin
    clear hfin hrq
    go_wp2_with fail
    go_quiet ((go_at_call 42; refine Calls.quiet_of_same ((HR6'.out _).mono fun _ _ ⟨h1, h2⟩ => ⟨h1, h2.symm⟩)))
    have hg7 := (Gr.refl w6).drewN nq
    have HF := Lib.hid (show _ ∧ _ ∧ _ ∧ _ from ⟨HTA6.out.gr hg7, HGA6.out.gr hg7, HST6.out.gr hg7, HALL.out.trans (GrC.of_gr hg7)⟩)
    clear hg7 v5 v6 vf g2
    go_wp2
    first | go_ret | go_ret2
    exact TakeOut.mk g' 0 rfl HFIN HF.out.1 HF.out.2.1 HF.out.2.2.1 HF.out.2.2.2
end Go.Proofs.YtddopoojmadpjaaGreatDoor

namespace Go.Proofs.YtddopoojmadpjaaGreatDoor
open Go.RowKit
set_option linter.unusedVariables false

set_option maxRecDepth 100000 in
set_option maxHeartbeats 1000000 in
theorem gIndexRows_none (b off k cap n p : Nat) (ls : List (List UInt8)) (w : World) (h : Bss w (some ⟨b, off, none⟩) k cap ls) (hn : ∀ l ∈ ls, l.length = n) (hp : w.cell? ⟨p, 1, none⟩ = some (.int .i64 (n : Int))) :
    Calls Tryz.prog 89 #[.slice (some ⟨b, off, none⟩) k cap, .func (.func 122) #[] #[.pointer (some ⟨p, 0, none⟩)]] w fun e w' => e = .returned (.int .i64 (-1)) ∧ Gr w w' := by
  have hm : k ≤ 9223372036854775807 := by have h1 := h.2.1; have h2 := h.2.2.1; unfold maxLen at h2; omega
  have H := Lib.hid h
  have HN := Lib.hid hn
  have HP := Lib.hid hp
  clear h hn hp
  go_enter Tryz.func89, Tryz.ntmps89
  go_wp2
  go_loopw [8] (fun i wr => ∃ j : Nat, j ≤ k ∧ i = .int .i64 j ∧ Gr w wr) (fun i _ => k - (intOf i).toNat)
  case atStart => exact ⟨0, Nat.zero_le _, rfl, Gr.refl _⟩
  case round =>
    obtain ⟨j, hj, rfl, hgr⟩ := hrel
    by_cases hlt : j < k
    · obtain ⟨l, a', n', c', hl, hc, hb⟩ := (H.out.below hgr).get hlt
      have hn' : n' = n := by rw [← hb.1]; exact HN.out l (List.mem_of_getElem? hl)
      rw [hn'] at hc
      have hp := hgr.cell HP.out
      have hne : ((n : Int) != (n : Int)) = false := by simp
      clear hl hb hn'
      go_wp2
      go_roundw
      case rel => exact ⟨j + 1, by omega, by go_num, hgr⟩
      case measure => simp [intOf]; omega
    · have hge : (k : Int) ≤ (j : Int) := by omega
      go_wp2
      go_ret
      exact ⟨rfl, hgr⟩

set_option maxRecDepth 100000 in
set_option maxHeartbeats 1000000 in
theorem gContainsRows_none (b off k cap n p : Nat) (ls : List (List UInt8)) (w : World) (h : Bss w (some ⟨b, off, none⟩) k cap ls) (hn : ∀ l ∈ ls, l.length = n) (hp : w.cell? ⟨p, 1, none⟩ = some (.int .i64 (n : Int))) :
    Calls Tryz.prog 48 #[.slice (some ⟨b, off, none⟩) k cap, .func (.func 122) #[] #[.pointer (some ⟨p, 0, none⟩)]] w fun e w' => e = .returned (.bool false) ∧ Gr w w' := by
  have HC := Lib.hid (gIndexRows_none b off k cap n p ls w h hn hp)
  clear h hn hp
  go_enter Tryz.func48, Tryz.ntmps48
  go_wp2_with fail
  refine HC.out.mono ?_
  rintro e w1 ⟨rfl, hg⟩
  go_wp2
  go_ret
  exact ⟨rfl, hg⟩

theorem flatten_same {ls : List (List UInt8)} {s : Nat} (h : ∀ l ∈ ls, l.length = s) : ls.flatten.length = ls.length * s := by
  induction ls with
  | nil => simp
  | cons a r ih => simp only [List.flatten_cons, List.length_append, List.length_cons]; rw [ih fun l hl => h l (List.mem_cons_of_mem _ hl), h a List.mem_cons_self, Nat.add_mul]; omega

set_option maxRecDepth 100000 in
set_option maxHeartbeats 2000000 in
theorem whole_ok (n s q id : Nat) (hP : planErr n s q = 0) (hnm : n ≤ 9223372036854775807) (b off cap : Nat) (ls : List (List UInt8)) (w : World) (h : Bss w (some ⟨b, off, none⟩) q cap ls) (hn : ∀ l ∈ ls, l.length = s) (hsm : s ≤ 65535) (hqm : q ≤ 4096) (hs1 : 1 ≤ s) (hq1 : 1 ≤ q) :
    Calls Tryz.prog 97 #[.agg #[.int .i64 (n : Int), .int .i64 (s : Int), .int .i64 (q : Int), .int .u32 (id : Int)], .slice (some ⟨b, off, none⟩) q cap] w fun e w' => ∃ g c, w.heap.size ≤ g ∧ e = .returned (.tuple #[.slice (some ⟨g, 0, none⟩) (q * s) c, .int .i64 0]) ∧ Bs w' (some ⟨g, 0, none⟩) (q * s) c ls.flatten ∧ Gr w w' := by
  have CP := Lib.hid fun w => planCheck_any n s q id (by omega) (by omega) (by omega) (by omega) w
  rw [hP] at CP
  have hfl : ls.flatten.length = q * s := by rw [flatten_same hn, h.1]
  have hq0 : 0 < q * s := Nat.mul_pos (by omega) (by omega)
  have hqs : q * s ≤ 4096 * 65535 := Nat.mul_le_mul hqm hsm
  have HC := Lib.hid fun p w h hp => gContainsRows_none b off q cap s p ls w h hn hp
  have HK := Lib.hid fun w h => sliceConcat_own (some ⟨b, off, none⟩) q cap ls (q * s) hfl hq0 (by omega) w h
  have H := Lib.hid h
  have hal := (Gr.refl w).alloc (.cells #[.int .i64 (n : Int), .int .i64 (s : Int), .int .i64 (q : Int), .int .u32 (id : Int)] 28)
  have HPP := Lib.hid (heap_alloc_new w (.cells #[.int .i64 (n : Int), .int .i64 (s : Int), .int .i64 (q : Int), .int .u32 (id : Int)] 28))
  obtain ⟨p0, p1, p2, p3⟩ := p_four_cells HPP.out
  have HAL := Lib.hid hal
  have HFL := Lib.hid hfl
  obtain ⟨QS, eQS⟩ : ∃ x, q * s = x := ⟨_, rfl⟩
  rw [eQS] at HFL hq0 ⊢
  have hqq : ((q : Int) != (q : Int)) = false := by simp
  clear h hn hP hal hfl hqs eQS
  go_enter Tryz.func97, Tryz.ntmps97
  go_wp2_with fail
  refine (CP.out _).mono ?_
  rintro e w1 ⟨rfl, hg⟩
  have HW1 := Lib.hid (HAL.out.trans hg)
  have HP1 := Lib.hid (hg.heap HPP.out)
  obtain ⟨p0, p1, p2, p3⟩ := p_four_cells HP1.out
  clear hg
  go_wp2_with fail
  refine (HC.out w.heap.size w1 (H.out.below HW1.out) p1).mono ?_
  rintro e w2 ⟨rfl, hg⟩
  have HW2 := Lib.hid (HW1.out.trans hg)
  clear hg p0 p1 p2 p3
  go_wp2_with fail
  refine (HK.out w2 (H.out.below HW2.out)).mono ?_
  rintro e w3 ⟨v, rfl, hown, hg⟩
  obtain ⟨g, c, rfl, ho⟩ := OwnB.of_owns hown (by rw [HFL.out]; omega)
  rw [HFL.out] at ho ⊢
  have HB := Lib.hid ho.bs
  have hgb : w.heap.size ≤ g := Nat.le_trans HW2.out.size ho.base_le.1
  have HW3 := Lib.hid (HW2.out.trans hg)
  clear hg ho hown
  go_wp2
  first | go_ret | go_ret2
  exact ⟨g, c, hgb, rfl, HB.out, HW3.out⟩

set_option maxHeartbeats 1000000 in
theorem clip_any (g n c : Nat) (hnc : n ≤ c) (hcm : c ≤ 9223372036854775807) (w : World) :
    Calls Tryz.prog 98 #[.slice (some ⟨g, 0, none⟩) n c] w fun e w' => e = .returned (.slice (some ⟨g, 0, none⟩) n n) ∧ Gr w w' := by
  go_enter Tryz.func98, Tryz.ntmps98
  go_wp2
  first | go_ret | go_ret2
  exact ⟨rfl, Gr.refl _⟩

theorem Bs.clip {w : World} {a : Option Addr} {n c : Nat} {l : List UInt8} (h : Bs w a n c l) : Bs w a n n l :=
  ⟨h.1, Nat.le_refl _, Nat.le_trans h.2.1 h.2.2.1, fun ha => by have := h.2.2.2.1 ha; have := h.2.1; omega, h.2.2.2.2⟩

set_option maxRecDepth 100000 in
set_option maxHeartbeats 2000000 in
theorem join_ok (n s q id : Nat) (hP : planErr n s q = 0) (hnm : n ≤ 9223372036854775807) (b off cap : Nat) (ls : List (List UInt8)) (w : World) (h : Bss w (some ⟨b, off, none⟩) q cap ls) (hn : ∀ l ∈ ls, l.length = s) (hsm : s ≤ 65535) (hqm : q ≤ 4096) (hs1 : 1 ≤ s) (hq1 : 1 ≤ q) (hnq : n ≤ q * s) :
    Calls Tryz.prog 57 #[.agg #[.int .i64 (n : Int), .int .i64 (s : Int), .int .i64 (q : Int), .int .u32 (id : Int)], .slice (some ⟨b, off, none⟩) q cap] w fun e w' => ∃ a c, e = .returned (.tuple #[.slice a n c, .int .i64 0]) ∧ Bs w' a n c (ls.flatten.take n) ∧ Gr w w' := by
  have HWH := Lib.hid fun w h => whole_ok n s q id hP hnm b off cap ls w h hn hsm hqm hs1 hq1
  have H := Lib.hid h
  have hal := (Gr.refl w).alloc (.cells #[.int .i64 (n : Int), .int .i64 (s : Int), .int .i64 (q : Int), .int .u32 (id : Int)] 28)
  have HPP := Lib.hid (heap_alloc_new w (.cells #[.int .i64 (n : Int), .int .i64 (s : Int), .int .i64 (q : Int), .int .u32 (id : Int)] 28))
  obtain ⟨p0, p1, p2, p3⟩ := p_four_cells HPP.out
  have HAL := Lib.hid hal
  have hqs : q * s ≤ 4096 * 65535 := Nat.mul_le_mul hqm hsm
  obtain ⟨QS, eQS⟩ : ∃ x, q * s = x := ⟨_, rfl⟩
  rw [eQS] at HWH hnq hqs
  clear h hn hP hal eQS
  go_enter Tryz.func57, Tryz.ntmps57
  go_wp2_with fail
  refine (HWH.out _ (H.out.below HAL.out)).mono ?_
  rintro e w1 ⟨g, c, hgl, rfl, hb, hg⟩
  have hc1 : QS ≤ c := hb.2.1
  have hc2 : c ≤ 9223372036854775807 := by have := hb.2.2.1; unfold maxLen at this; exact this
  have hnc : n ≤ c := by omega
  have HB := Lib.hid ((hb.take hnq).clip)
  have HW1 := Lib.hid (HAL.out.trans hg)
  obtain ⟨p0, p1, p2, p3⟩ := p_four_cells (hg.heap HPP.out)
  clear hg hb hgl
  go_wp2_with fail
  refine (clip_any g n c hnc hc2 _).mono ?_
  rintro e w2 ⟨rfl, hg⟩
  have HB2 := Lib.hid (HB.out.below hg)
  have HW2 := Lib.hid (HW1.out.trans hg)
  clear hg p0 p1 p2 p3
  go_wp2
  first | go_ret | go_ret2
  exact ⟨_, _, rfl, HB2.out, HW2.out⟩
end Go.Proofs.YtddopoojmadpjaaGreatDoor

namespace Go.Proofs.YtddopoojmadpjaaGreatDoor
open Go.RowKit
set_option linter.unusedVariables false

set_option maxRecDepth 100000 in
set_option maxHeartbeats 4000000 in
theorem solve_one (E t : Nat) (htm : t ≤ 1000000) (v d : List UInt8) (w : World) (h : ElimOne w E 1 t v d) :
    Calls Tryz.prog 56 #[.pointer (some ⟨E, 0, none⟩)] w fun e w' => ∃ S, e = .returned (.tuple #[.slice (some ⟨S, 0, none⟩) 1 1, .int .i64 0]) ∧ Bss w' (some ⟨S, 0, none⟩) 1 1 [d] ∧ Gr w w' := by
  obtain ⟨R, cap, a1, c1, a2, c2, h1, hRE, hc1, hcm, r0, r1, hb1, hb2, _, _⟩ := h
  obtain ⟨i0, hi0, hz0, hz1, hz2⟩ := info_parts infoSl
  have HE := Lib.hid h1
  have HR0 := Lib.hid r0
  have HR1 := Lib.hid r1
  have HB := Lib.hid hb2
  have HC := Lib.hid fun w h => sliceClone_own a2 t c2 d w h (by omega)
  obtain ⟨e0, e1, e2, ef⟩ := three_all h1
  clear h1 r0 r1 hb1 hb2
  go_enter Tryz.func56, Tryz.ntmps56
  go_wp2
  go_quiet (fail)
  obtain ⟨W0, eW⟩ : ∃ W, w.drewN nq = W := ⟨_, rfl⟩
  have hd := (Gr.refl w).drewN nq
  rw [eW] at hd ⊢
  clear eW e0 e1 e2 ef
  obtain ⟨e0, e1, e2, ef⟩ := three_all (hd.heap HE.out)
  have HD := Lib.hid hd
  go_wp2_with (at_make; refine wpList_make_full _ rfl (.tmp 22) (.tmp 22) 25 rfl w.heap.size 22 i0 (.slice none 0 0) 1 Tryz.underlying25 hi0 hz0 hz1 .i64 .i64 (1 : Int) (1 : Int) 1 rfl rfl rfl rfl (by rw [hz2]; omega) (by unfold maxLen; omega) hd.size ?_; intro w2 hown hgrow; have hR := Lib.hid (RowsTo.made (ls := [d]) hown); have hG : Gr w w2 := hd.grown hgrow (fun k hk => by cases hk); clear hown hgrow; obtain ⟨y0, y1, y2, yf⟩ := three_all (hG.heap HE.out))
  have HG := Lib.hid hG
  have hWs := hd.size
  obtain ⟨S, hSe⟩ : ∃ S, W0.heap.size = S := ⟨_, rfl⟩
  rw [hSe] at hR hWs ⊢
  clear hSe hG e0 e1 e2 ef hd HD
  go_loopw [29] (fun i wr => ∃ k : Nat, k ≤ 1 ∧ i = .int .i64 k ∧ RowsTo wr S 1 [d] k ∧ Gr w wr) (fun i _ => 1 - (intOf i).toNat)
  case atStart => exact ⟨0, Nat.zero_le _, rfl, hR.out, HG.out⟩
  case round =>
    obtain ⟨k, hk, rfl, hrow, hgr⟩ := hrel
    have HRW := Lib.hid hrow
    have HGR := Lib.hid hgr
    clear hrow hgr y0 y1 y2 yf
    by_cases hlt : k = 0
    · subst hlt
      have r0 := HGR.out.cell HR0.out
      have r1 := HGR.out.cell HR1.out
      have hal := (Gr.refl wr).alloc (.cells #[.slice a1 1 c1, .slice a2 t c2] 113)
      obtain ⟨z0, z1, zf⟩ := two_cells (heap_alloc_new wr (.cells #[.slice a1 1 c1, .slice a2 t c2] 113))
      go_wp2_with fail
      refine (HC.out _ (HB.out.below (HGR.out.trans hal))).mono ?_
      rintro e w3 ⟨vv, rfl, hown, hg3⟩
      obtain ⟨a3, c3, rfl, hb3⟩ := hown.slice
      have ha3 := hown.bs2.2
      have hl3 := hown.bs2.1.1
      have hrow3 := HRW.out.gr (hal.trans hg3)
      obtain ⟨⟨v0, hv0⟩, hf0, hS3⟩ := hrow3.at_ (i := 0) (by omega)
      have hSr := (HRW.out.at_ (i := 0) (by omega)).2.2
      obtain ⟨hrow4, hgb4⟩ := hrow3.step (by omega) (show [d][0]? = some d from rfl) hb3 (fun y hy => by have := ha3 y hy; simp only [World.size_alloc] at this; omega)
      have HR4 := Lib.hid hrow4
      have HG4 := Lib.hid ((HGR.out.trans (hal.trans hg3)).grb hgb4 hWs)
      clear hal hown hb3 ha3 hl3 hrow3 hrow4 hgb4 hg3 z0 z1 zf r0 r1
      go_wp2
      go_roundw
      case rel => exact ⟨1, by omega, by go_num, HR4.out, HG4.out⟩
      case measure => simp [intOf]
    · obtain rfl : k = 1 := by omega
      have hfin : Bss wr (some ⟨S, 0, none⟩) 1 1 [d] := HRW.out.all rfl (by decide)
      have HFIN := Lib.hid hfin
      clear hfin
      go_wp2
      first | go_ret | go_ret2
      exact ⟨S, rfl, HFIN.out, HGR.out⟩

set_option maxRecDepth 100000 in
set_option maxHeartbeats 4000000 in
theorem object_one (T E n s id : Nat) (hP : planErr n s (1 : Nat) = 0) (hnm : n ≤ 9223372036854775807) (hs1 : 1 ≤ s) (hsm : s ≤ 65535) (hns : n ≤ s) (g : Option Nat) (v d : List UInt8) (hd : d.length = s) (w : World) (hT : TakAt w T E n s 1 id g 1) (h : ElimOne w E 1 s v d) :
    Calls Tryz.prog 24 #[.pointer (some ⟨T, 0, none⟩)] w fun e w' => ∃ a c, e = .returned (.tuple #[.slice a n c, .int .i64 0]) ∧ Bs w' a n c (d.take n) ∧ Gr w w' := by
  have HS := Lib.hid (solve_one E s (by omega) v d w h)
  have HJ : Hid (∀ S w, Bss w (some ⟨S, 0, none⟩) 1 1 [d] → Calls Tryz.prog 57 #[.agg #[.int .i64 (n : Int), .int .i64 (s : Int), .int .i64 1, .int .u32 (id : Int)], .slice (some ⟨S, 0, none⟩) 1 1] w fun e w' => ∃ a c, e = .returned (.tuple #[.slice a n c, .int .i64 0]) ∧ Bs w' a n c (d.take n) ∧ Gr w w') := by
    show ∀ S w, _
    intro S w h
    have := join_ok n s 1 id hP hnm S 0 1 [d] w h (fun l hl => by simp at hl; rw [hl, hd]) hsm (by omega) hs1 (Nat.le_refl _) (by omega)
    simpa using this
  have HT := Lib.hid hT
  obtain ⟨t0, t1, t2, t3, t4, t5, t6, tf⟩ := seven_cells hT
  clear hP hT h hd
  go_enter Tryz.func24, Tryz.ntmps24
  go_wp2_with fail
  refine HS.out.mono ?_
  rintro e w1 ⟨S, rfl, hss, hg⟩
  have HG := Lib.hid hg
  have HSS := Lib.hid hss
  obtain ⟨t0, t1, t2, t3, t4, t5, t6, tf⟩ := seven_cells (hg.heap HT.out)
  clear hg hss
  go_wp2_with fail
  refine (HJ.out S w1 HSS.out).mono ?_
  rintro e w2 ⟨a, c, rfl, hb, hg⟩
  have HF := Lib.hid (show _ ∧ _ from ⟨hb, HG.out.trans hg⟩)
  clear hb hg t0 t1 t2 t3 t4 t5 t6 tf
  go_wp2
  first | go_ret | go_ret2
  exact ⟨a, c, rfl, HF.out.1, HF.out.2⟩
end Go.Proofs.YtddopoojmadpjaaGreatDoor
