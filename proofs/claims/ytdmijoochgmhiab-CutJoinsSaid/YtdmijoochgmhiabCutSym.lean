/-
  The walks of cut.Symbol, Spread, and Room of a plan; of the document's Zero; of the chapter's example.
-/
import Derived.Test.YtdmijoochgmhiabCutRef
import Derived.Test.YtdmijoochgmhiabSameRows
namespace Go.Proofs.Ytdmijoochgmhiab
open Go.RowKit

/-- what is wrong with a number of a symbol. -/
def symErr (sym i : Int) : Nat := if i < 0 ∨ sym ≤ i then 2 else 0
set_option maxHeartbeats 1000000 in
theorem cutSymbol_bad (len size sym : Int) (id : Int) (hlo : -9223372036854775808 ≤ len) (hm : len ≤ 9223372036854775807) (hsl : -9223372036854775808 ≤ size) (hsm : size ≤ 9223372036854775807) (a : Option Addr) (n cap : Nat) (hn : n ≤ 9223372036854775807) (i : Int) (hE : cutErr len size sym n ≠ 0) (w : World) :
    Calls Try.prog 24 #[.agg #[.int .i64 len, .int .i64 size, .int .i64 sym, .int .u32 id], .slice a n cap, .int .i64 i] w fun e w' => e = .returned (.tuple #[.slice none 0 0, .int .i64 (cutErr len size sym n : Nat)]) ∧ Gr w w' := by
  have CC := Lib.hid (cutFits_any len size sym id hlo hm hsl hsm a n cap hn)
  obtain ⟨q, hq⟩ : ∃ q, cutErr len size sym n = q := ⟨_, rfl⟩
  rw [hq] at CC hE ⊢
  have ht : ((q : Int) != 0) = true := by rw [bne_iff_ne]; omega
  clear hq hE
  go_enter Try.func24, Try.ntmps24
  go_wp2_with fail
  refine (CC.out _).mono ?_
  rintro e w1 ⟨rfl, hg⟩
  go_wp2
  go_ret2
  exact ⟨rfl, ((Gr.refl w).alloc _).trans hg⟩
set_option maxHeartbeats 1000000 in
theorem cutSymbol_out (n s q : Nat) (id : Int) (hE : planErr n s q = 0) (a : Option Addr) (cap : Nat) (hm : n ≤ 140737488355328) (i : Int) (hi : i < 0 ∨ (q : Int) ≤ i) (w : World) :
    Calls Try.prog 24 #[.agg #[.int .i64 (n : Int), .int .i64 (s : Int), .int .i64 (q : Int), .int .u32 id], .slice a n cap, .int .i64 i] w fun e w' => e = .returned (.tuple #[.slice none 0 0, .int .i64 2]) ∧ Gr w w' := by
  obtain ⟨hs1, hs2, hq1, hq2⟩ := plan_bounds hE
  have CC := Lib.hid (cutFits_any n s q id (by omega) (by omega) (by omega) (by omega) a n cap (by omega))
  have H0 := Lib.hid (cutErr_nat hE)
  clear hE
  rcases hi with hi | hi
  all_goals
    go_enter Try.func24, Try.ntmps24
    go_wp2_with fail
    refine (CC.out _).mono ?_
    rintro e w1 ⟨rfl, hg⟩
    rw [H0.out]
    have hB := hg.heap (heap_alloc_new w _)
    have c2 : w1.cell? ⟨w.heap.size, 2, none⟩ = some (.int .i64 (q : Int)) := by simp [World.cell?, hB]
    have hgw := ((Gr.refl w).alloc _).trans hg
    clear hB hg
    go_wp2
    go_ret2
    exact ⟨rfl, hgw⟩
set_option maxHeartbeats 1000000 in
theorem cutSymbol_ok (n s q i : Nat) (id : Int) (hE : planErr n s q = 0) (a : Option Addr) (cap : Nat) (obj : List UInt8) (w : World) (hb : Bs w a n cap obj) (hm : n ≤ 140737488355328) (hi : i < q) :
    Calls Try.prog 24 #[.agg #[.int .i64 (n : Int), .int .i64 (s : Int), .int .i64 (q : Int), .int .u32 id], .slice a n cap, .int .i64 (i : Int)] w fun e w' => ∃ a' cap', e = .returned (.tuple #[.slice a' s cap', .int .i64 0]) ∧ Bs w' a' s cap' (pieceL obj s i) ∧ Gr w w' := by
  obtain ⟨hs1, hs2, hq1, hq2⟩ := plan_bounds hE
  have CC := Lib.hid (cutFits_any n s q id (by omega) (by omega) (by omega) (by omega) a n cap (by omega))
  have H0 := Lib.hid (cutErr_nat hE)
  have hle := Lib.hid (piece_le hE hi)
  have hi' : (i : Int) < (q : Int) := by omega
  clear hE
  go_enter Try.func24, Try.ntmps24
  go_wp2_with fail
  refine (CC.out _).mono ?_
  rintro e w1 ⟨rfl, hg⟩
  rw [H0.out]
  have hB := hg.heap (heap_alloc_new w _)
  have c0 : w1.cell? ⟨w.heap.size, 0, none⟩ = some (.int .i64 (n : Int)) := by simp [World.cell?, hB]
  have c1 : w1.cell? ⟨w.heap.size, 1, none⟩ = some (.int .i64 (s : Int)) := by simp [World.cell?, hB]
  have c2 : w1.cell? ⟨w.heap.size, 2, none⟩ = some (.int .i64 (q : Int)) := by simp [World.cell?, hB]
  have c3 : w1.cell? ⟨w.heap.size, 3, none⟩ = some (.int .u32 id) := by simp [World.cell?, hB]
  have hgw := ((Gr.refl w).alloc _).trans hg
  clear hB hg
  go_wp2_with fail
  refine (piece_any n s i q id hs2 a cap obj w1 (hb.below hgw) hle.out hm).mono ?_
  rintro e w2 ⟨g, hgl, rfl, hb2, hg2⟩
  go_wp2
  go_ret2
  exact ⟨_, _, rfl, hb2, hgw.trans hg2⟩

theorem planOf_ex : planFit 5 2 = 0 ∧ planNeed 5 2 = 3 ∧ planErr 5 2 3 = 0 := by decide
theorem cutL_ex : cutL [1, 2, 3, 4, 5] 2 3 = [[1, 2], [3, 4], [5, 0]] := by decide
theorem Bss.of_alloc3' {w : World} {b : Nat} {a a' a'' : Option Addr} {n c n' c' n'' c'' : Nat} {l l' l'' : List UInt8} {t : TypeId} (h : Bs w a n c l) (h' : Bs w a' n' c' l') (h'' : Bs w a'' n'' c'' l'') (hb : b = w.heap.size) :
    Bss (w.alloc (.cells #[.slice a n c, .slice a' n' c', .slice a'' n'' c''] t)) (some ⟨b, 0, none⟩) 3 3 [l, l', l''] := by
  subst hb
  refine ⟨rfl, Nat.le_refl _, by decide, (fun h => by cases h), fun x hx i u hu => ?_⟩
  cases hx
  rw [Addr.add_lit, Nat.zero_add, World.cell?_alloc_at _ _ _ _ rfl]
  match i, hu with
  | 0, hu => simp at hu; subst hu; exact ⟨a, n, c, rfl, h.below ((Gr.refl _).alloc _)⟩
  | 1, hu => simp at hu; subst hu; exact ⟨a', n', c', rfl, h'.below ((Gr.refl _).alloc _)⟩
  | 2, hu => simp at hu; subst hu; exact ⟨a'', n'', c'', rfl, h''.below ((Gr.refl _).alloc _)⟩
theorem cutCut_ex (a : Option Addr) (w : World) (hb : Bs w a 5 5 [1, 2, 3, 4, 5]) :
    Calls Try.prog 22 #[.agg #[.int .i64 5, .int .i64 2, .int .i64 3, .int .u32 0], .slice a 5 5] w fun e w' =>
      ∃ S, e = .returned (.tuple #[.slice (some ⟨S, 0, none⟩) 3 3, .int .i64 0]) ∧ Bss w' (some ⟨S, 0, none⟩) 3 3 [[1, 2], [3, 4], [5, 0]] ∧ Gr w w' := by
  have h := cutCut_ok 5 2 3 0 (by decide) a 5 [1, 2, 3, 4, 5] w hb (by decide)
  rw [cutL_ex] at h
  exact h.mono fun e w' ⟨S, _, he, hb, hg⟩ => ⟨S, he, hb, hg⟩
set_option maxRecDepth 100000 in
set_option maxHeartbeats 400000 in
theorem cutAwake_any (w : World) : Calls Try.prog 21 #[] w fun e w' => e = .returned (.bool true) ∧ Gr w w' := by
  have CP := planOf_ok 5 2 0 (by decide) planOf_ex.1
  rw [planOf_ex.2.1] at CP
  have HCP := Lib.hid CP
  clear CP
  go_enter Try.func21, Try.ntmps21
  go_wp2_with fail
  refine (HCP.out w).mono ?_
  rintro e w1 ⟨rfl, hg1⟩
  go_wp2_with fail
  refine (cutCut_ex _ _ ?_).mono ?_
  · exact Bs.of_alloc rfl rfl (by decide) (by simp)
  rintro e w2 ⟨S, rfl, hb2, hg2⟩
  have hgw2 := (((hg1.alloc (.cells #[.int .i64 5, .int .i64 2, .int .i64 3, .int .u32 0] 37)).alloc (.cells #[.int .u8 1, .int .u8 2, .int .u8 3, .int .u8 4, .int .u8 5] 5))).trans hg2
  clear hg1 hg2
  go_wp2_with fail
  have q1 : Bs (w2.alloc (.cells #[.int .u8 1, .int .u8 2] 5)) (some ⟨w2.heap.size, 0, none⟩) 2 2 [1, 2] := Bs.of_alloc rfl rfl (by decide) rfl
  have q2 : Bs ((w2.alloc (.cells #[.int .u8 1, .int .u8 2] 5)).alloc (.cells #[.int .u8 3, .int .u8 4] 5)) (some ⟨w2.heap.size + 1, 0, none⟩) 2 2 [3, 4] := Bs.of_alloc rfl rfl (by decide) (by simp)
  have q3 : Bs (((w2.alloc (.cells #[.int .u8 1, .int .u8 2] 5)).alloc (.cells #[.int .u8 3, .int .u8 4] 5)).alloc (.cells #[.int .u8 5, .int .u8 0] 5)) (some ⟨w2.heap.size + 1 + 1, 0, none⟩) 2 2 [5, 0] := Bs.of_alloc rfl rfl (by decide) (by simp)
  have g2 := (Gr.refl (w2.alloc (.cells #[.int .u8 1, .int .u8 2] 5))).alloc (.cells #[.int .u8 3, .int .u8 4] 5)
  have g3 := (Gr.refl ((w2.alloc (.cells #[.int .u8 1, .int .u8 2] 5)).alloc (.cells #[.int .u8 3, .int .u8 4] 5))).alloc (.cells #[.int .u8 5, .int .u8 0] 5)
  have g0 := (((Gr.refl w2).alloc (.cells #[.int .u8 1, .int .u8 2] 5)).alloc (.cells #[.int .u8 3, .int .u8 4] 5)).alloc (.cells #[.int .u8 5, .int .u8 0] 5)
  have h1 := (q1.below g2).below g3
  have h2 := q2.below g3
  have h4 := Bss.of_alloc3' (t := 38) (b := w2.heap.size + 1 + 1 + 1) h1 h2 q3 (by simp)
  refine (sameRows_eq _ _ 3 3 3 _ _ (hb2.below (g0.alloc _)) h4).mono ?_
  rintro e w3 ⟨rfl, hg3⟩
  have hfin := (hgw2.trans (g0.alloc _)).trans hg3
  clear h1 h2 h4 q1 q2 q3 g0 g2 g3 hg3 hgw2 hb2
  go_wp2
  go_ret
  exact ⟨rfl, hfin⟩
end Go.Proofs.Ytdmijoochgmhiab
