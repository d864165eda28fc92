/-
  What row.Read reads lies in a block of its own.
-/
import Derived.Test.YtdmijoochgmhiaaGreatDoorRowRead
namespace Go.Proofs.YtdmijoochgmhiaaGreatDoor
open Go.RowKit
set_option linter.unusedVariables false

theorem OwnV.grb {w w' : World} {base b : Nat} {a : Option Addr} {n cap : Nat} {l : List UInt8} (h : OwnV w base (.slice a n cap) l) (hb : GrB w b w') (ha : ∀ x, a = some x → x.block ≠ b) : OwnV w' base (.slice a n cap) l := by
  refine ⟨h.1, ?_⟩
  rcases h.2 with hn | ⟨g, c, cur, hv, hg, hh, r⟩
  · exact .inl hn
  · refine .inr ⟨g, c, cur, hv, hg, hb.heap hh ?_, r⟩
    cases hv
    exact ha _ rfl
theorem OwnV.bs2 {w : World} {base : Nat} {a : Option Addr} {n cap : Nat} {l : List UInt8} (h : OwnV w base (.slice a n cap) l) : Bs w a n cap l ∧ ∀ x, a = some x → base ≤ x.block := by
  obtain ⟨a', cap', hv, h1, h2⟩ := h.bs
  cases hv
  exact ⟨h1, h2⟩

/-- a row of its own does not lie in a block of another type. -/
theorem OwnV.ne_block {w : World} {base b : Nat} {a : Option Addr} {n cap : Nat} {l : List UInt8} {cs : Array Value} {t : TypeId} {m : Nat × Nat} (h : OwnV w base (.slice a n cap) l) (hb : w.heap[b]? = some (.cells cs t m)) (ht : t ≠ 5) : ∀ x, a = some x → x.block ≠ b := by
  intro x hx e
  rcases h.2 with hn | ⟨g, c, cur, hv, hg, hh, r⟩
  · cases hn.1; cases hx
  · cases hv
    cases hx
    simp only at e
    subst e
    rw [hh] at hb
    cases hb
    exact ht rfl

set_option maxRecDepth 100000 in
set_option maxHeartbeats 1000000 in
theorem explicit_own (a : Option Addr) (len cap : Nat) (l : List UInt8) (w : World) (hs : Bs w a len cap l) (hm : len ≤ 140737488355328) :
    Calls Tryz.prog 56 #[.slice a len cap] w fun e w' => ∃ a' cap', e = .returned (.agg #[.int .u8 0, .slice a' len cap', .int .u64 0]) ∧ OwnV w' w.heap.size (.slice a' len cap') l ∧ Gr w w' := by
  go_enter Tryz.func56, Tryz.ntmps56
  go_wp2_with fail
  refine (sliceClone_own a len cap l _ (hs.below ((Gr.refl w).alloc _)) hm).mono ?_
  rintro e w1 ⟨v, rfl, ho, hg⟩
  obtain ⟨a1, cap1, rfl, _⟩ := ho.slice
  have ha := (ho.bs').2
  rw [hs.1] at ho ⊢
  have hA := hg.heap (heap_alloc_new w _)
  have hgw : Gr w w1 := ((Gr.refl w).alloc _).trans hg
  obtain ⟨c0, c1, c2, f0⟩ := three_cells hA
  obtain ⟨hgb, hh⟩ := three_set hA (.int .u8 0) (.slice a1 len cap1) (.int .u64 0)
  have hg3 := hgw.grb hgb (Nat.le_refl _)
  have hb3 := (ho.mono (b' := w.heap.size) (by simp)).grb hgb (fun y hy => by have := ha y hy; simp at this; omega)
  obtain ⟨d0, d1, d2, _⟩ := three_cells hh
  have H3 := Lib.hid hg3
  have HB3 := Lib.hid hb3
  clear hA hgb hh hg3 hb3 ho ha hg
  go_wp2
  refine bodyPost_ret (v := .agg #[.int .u8 0, .slice a1 len cap1, .int .u64 0]) ?_ rfl ⟨a1, cap1, rfl, HB3.out, H3.out⟩
  simp [results, Tryz.results56, go_sem, c0, c1, c2]

set_option maxRecDepth 100000 in
set_option maxHeartbeats 1000000 in
theorem rowRead_own (mode : Nat) (k : Int) (a : Option Addr) (len cap : Nat) (l : List UInt8) (w : World) (hs : Bs w a len cap l) (hm : len ≤ 140737488355328) (hE : readErr mode len k = 0) :
    Calls Tryz.prog 52 #[.int .u8 (mode : Int), .int .i64 k, .slice a len cap] w fun e w' => ∃ a' len' cap', e = .returned (.tuple #[.agg #[.int .u8 (mode : Int), .slice a' len' cap', .int .u64 (readSeed mode l : Nat)], .int .i64 0]) ∧ OwnV w' w.heap.size (.slice a' len' cap') (readBytes mode l) ∧ Gr w w' := by
  obtain ⟨h1, h2, h3, h4, h5, h6, h7⟩ := readErr_zero hE
  have CW := width_any mode k
  rw [h4] at CW
  have hn : ((len : Int) != widthN mode k) = false := by simpa using h5
  have H7 := Lib.hid h7
  obtain ⟨q, hq⟩ : ∃ q, widthN mode k = q := ⟨_, rfl⟩
  rw [hq] at CW hn
  have HCW := Lib.hid CW
  clear hE h2 h3 h4 h5 h6 h7 hq CW
  have hmm : mode = 0 ∨ mode = 1 := by omega
  rcases hmm with rfl | rfl
  · go_enter Tryz.func52, Tryz.ntmps52
    go_wp2_with fail
    refine (HCW.out _).mono ?_
    rintro e w1 ⟨rfl, rfl⟩
    go_wp2_with fail
    refine (explicit_own a len cap l _ (hs.below ((Gr.refl w).alloc _)) hm).mono ?_
    rintro e w1 ⟨a1, cap1, rfl, hb, hg⟩
    have hA := hg.heap (heap_alloc_new w _)
    have hgw : Gr w w1 := ((Gr.refl w).alloc _).trans hg
    obtain ⟨c0, c1, c2, f0⟩ := three_cells hA
    obtain ⟨hgb, hh⟩ := three_set hA (.int .u8 0) (.slice a1 len cap1) (.int .u64 0)
    have hg3 := hgw.grb hgb (Nat.le_refl _)
    have hb3 := (hb.mono (b' := w.heap.size) (by simp)).grb hgb (fun y hy => by have := (hb.bs2).2 y hy; simp at this; omega)
    have H3 := Lib.hid hg3
    have HB3 := Lib.hid hb3
    clear hA hgb hh hg3 hb3 hb hg
    go_wp2
    refine bodyPost_ret (v := .tuple #[.agg #[.int .u8 0, .slice a1 len cap1, .int .u64 0], .int .i64 0]) ?_ rfl ⟨a1, len, cap1, rfl, HB3.out, H3.out⟩
    simp [results, Tryz.results52, go_sem, c0, c1, c2]
  · have h8 : len = 8 := H7.out rfl
    subst h8
    go_enter Tryz.func52, Tryz.ntmps52
    go_wp2_with fail
    refine (HCW.out _).mono ?_
    rintro e w1 ⟨rfl, rfl⟩
    go_wp2_with fail
    refine (mixSeed_any a cap l _ (hs.below ((Gr.refl w).alloc _))).mono ?_
    rintro e w1 ⟨rfl, rfl⟩
    go_wp2_with fail
    refine (seeded_any (seedTo l : Nat) _).mono ?_
    rintro e w1 ⟨rfl, hg⟩
    have hA := hg.heap (heap_alloc_new w _)
    have hgw : Gr w w1 := ((Gr.refl w).alloc _).trans hg
    obtain ⟨c0, c1, c2, f0⟩ := three_cells hA
    obtain ⟨hgb, hh⟩ := three_set hA (.int .u8 1) (.slice none 0 0) (.int .u64 (seedTo l : Nat))
    have hg3 := hgw.grb hgb (Nat.le_refl _)
    have H3 := Lib.hid hg3
    clear hA hgb hh hg3 hg
    go_wp2
    refine bodyPost_ret (v := .tuple #[.agg #[.int .u8 1, .slice none 0 0, .int .u64 (seedTo l : Nat)], .int .i64 0]) ?_ rfl ⟨none, 0, 0, rfl, OwnV.nil _ _, H3.out⟩
    simp [results, Tryz.results52, go_sem, c0, c1, c2]
end Go.Proofs.YtdmijoochgmhiaaGreatDoor
