/-
  The walks of cut.Cut, Symbol and Spread.
-/
import Derived.Test.YtddopoojmadpjaaGreatDoorCut
namespace Go.Proofs.YtddopoojmadpjaaGreatDoor
open Go.RowKit

theorem infoSl : (Tryz.prog.info? 22).map (fun i => (i.zero, i.size, i.bytes)) = some (some (.slice none 0 0), 1, 24) := by kernel_rfl

/-- A ROW OF SLICES OF THE CALL's OWN: block S, of q cells, of which the first k read as these. -/
def RowsTo (w : World) (S q : Nat) (ls : List (List UInt8)) (k : Nat) : Prop :=
  ∃ cs : Array Value, w.heap[S]? = some (.cells cs 22 (0, 0)) ∧ cs.size = q ∧
    ∀ j l, j < k → ls[j]? = some l → ∃ a n c, cs[j]? = some (.slice a n c) ∧ Bs w a n c l ∧ ∀ y, a = some y → S < y.block
theorem RowsTo.gr {w w' : World} {S q k : Nat} {ls : List (List UInt8)} (h : RowsTo w S q ls k) (hg : Gr w w') : RowsTo w' S q ls k := by
  obtain ⟨cs, h1, h2, h3⟩ := h
  refine ⟨cs, hg.heap h1, h2, fun j l hj hl => ?_⟩
  obtain ⟨a, n, c, e, hb, ha⟩ := h3 j l hj hl
  exact ⟨a, n, c, e, hb.below hg, ha⟩
theorem RowsTo.at_ {w : World} {S q k i : Nat} {ls : List (List UInt8)} (h : RowsTo w S q ls k) (hi : i < q) : (∃ v, w.cell? ⟨S, i, none⟩ = some v) ∧ w.frozen? ⟨S, i, none⟩ = false ∧ S < w.heap.size := by
  obtain ⟨cs, h1, h2, h3⟩ := h
  refine ⟨⟨cs[i]'(by omega), by simp [World.cell?, h1, h2, hi]⟩, by simp [World.frozen?, h1], lt_of_block h1⟩
theorem RowsTo.step {w : World} {S q k : Nat} {ls : List (List UInt8)} (h : RowsTo w S q ls k) (hk : k < q) {a : Option Addr} {n c : Nat} {l : List UInt8} (hl : ls[k]? = some l) (hb : Bs w a n c l) (ha : ∀ y, a = some y → S < y.block) :
    RowsTo (w.setCell ⟨S, k, none⟩ (.slice a n c)) S q ls (k + 1) ∧ GrB w S (w.setCell ⟨S, k, none⟩ (.slice a n c)) := by
  obtain ⟨cs, h1, h2, h3⟩ := h
  have hg : GrB w S (w.setCell ⟨S, k, none⟩ (.slice a n c)) := (GrB.refl _ _).set (.inl rfl) _
  have hh : (w.setCell ⟨S, k, none⟩ (.slice a n c)).heap[S]? = some (.cells (cs.setIfInBounds k (.slice a n c)) 22 (0, 0)) := by
    have hlt := lt_of_block h1
    have h' : w.heap[S] = .cells cs 22 (0, 0) := by simpa [Array.getElem?_eq_getElem hlt] using h1
    show (w.heap.modify S _)[S]? = _
    rw [Array.getElem?_eq_getElem (by simpa using hlt), Array.getElem_modify_self, h']
    rfl
  refine ⟨⟨_, hh, by simp [h2], fun j l' hj hl' => ?_⟩, hg⟩
  by_cases hjk : j = k
  · subst hjk
    have : l' = l := Option.some.inj (hl'.symm.trans hl)
    subst this
    exact ⟨a, n, c, by simp [h2, hk], hb.grb hg (fun y hy => by have := ha y hy; omega), ha⟩
  · obtain ⟨a', n', c', e, hb', ha'⟩ := h3 j l' (by omega) hl'
    exact ⟨a', n', c', by rw [Array.getElem?_setIfInBounds_ne (by omega)]; exact e, hb'.grb hg (fun y hy => by have := ha' y hy; omega), ha'⟩
theorem RowsTo.all {w : World} {S q : Nat} {ls : List (List UInt8)} (h : RowsTo w S q ls q) (hl : ls.length = q) (hm : q ≤ maxLen) : Bss w (some ⟨S, 0, none⟩) q q ls := by
  obtain ⟨cs, h1, h2, h3⟩ := h
  refine ⟨hl, Nat.le_refl _, hm, (fun h => by cases h), fun x hx i l hil => ?_⟩
  cases hx
  have hi : i < q := by have := (List.getElem?_eq_some_iff.1 hil).1; omega
  obtain ⟨a, n, c, e, hb, _⟩ := h3 i l hi hil
  refine ⟨a, n, c, ?_, hb⟩
  rw [Addr.add_lit, Nat.zero_add]
  simp [World.cell?, h1, e]
theorem made_slices (n : Nat) : (madeCells (Value.slice none 0 0).cells (n * 1)).toList = List.replicate n (.slice none 0 0) := by
  apply List.ext_getElem
  · simp [madeCells]
  · intro i h1 h2; simp [madeCells, Value.cells, Nat.mod_one]
theorem RowsTo.made {w : World} {base S q : Nat} {ls : List (List UInt8)} (h : w.ownsRow base 22 1 (.slice (some ⟨S, 0, none⟩) q q) q (madeCells (Value.slice none 0 0).cells (q * 1)).toList) : RowsTo w S q ls 0 := by
  rw [made_slices] at h
  exact ⟨_, own_whole h, by simp, fun j l hj => by omega⟩

set_option maxHeartbeats 1000000 in
theorem cutFits_any (len size sym : Int) (id : Int) (hlo : -9223372036854775808 ≤ len) (hm : len ≤ 9223372036854775807) (hsl : -9223372036854775808 ≤ size) (hsm : size ≤ 9223372036854775807) (a : Option Addr) (n cap : Nat) (_ : n ≤ 9223372036854775807) (w : World) :
    Calls Tryz.prog 63 #[.agg #[.int .i64 len, .int .i64 size, .int .i64 sym, .int .u32 id], .slice a n cap] w fun e w' => e = .returned (.int .i64 (cutErr len size sym n : Nat)) ∧ Gr w w' := by
  have CC := Lib.hid (planCheck_any len size sym id hlo hm hsl hsm)
  by_cases hE : planErr len size sym = 0
  · have HE : Hid (cutErr len size sym n = if (n : Int) ≠ len then 4 else 0) := by show _ = _; rw [cutErr, if_neg (by simpa using hE)]
    have H0 := Lib.hid hE
    clear hE
    by_cases hl : (n : Int) ≠ len
    · have ht : ((n : Int) != len) = true := by rw [bne_iff_ne]; exact hl
      have HL := Lib.hid hl
      clear hl
      go_enter Tryz.func63, Tryz.ntmps63
      go_wp2_with fail
      refine (CC.out _).mono ?_
      rintro e w1 ⟨rfl, hg⟩
      rw [H0.out]
      have hB := hg.heap (heap_alloc_new w _)
      have c0 : w1.cell? ⟨w.heap.size, 0, none⟩ = some (.int .i64 len) := by simp [World.cell?, hB]
      have hgw := ((Gr.refl w).alloc _).trans hg
      clear hB hg
      go_wp2
      go_ret
      exact ⟨by rw [HE.out, if_pos HL.out]; rfl, hgw⟩
    · have ht : ((n : Int) != len) = false := by simpa using hl
      have HL := Lib.hid hl
      clear hl
      go_enter Tryz.func63, Tryz.ntmps63
      go_wp2_with fail
      refine (CC.out _).mono ?_
      rintro e w1 ⟨rfl, hg⟩
      rw [H0.out]
      have hB := hg.heap (heap_alloc_new w _)
      have c0 : w1.cell? ⟨w.heap.size, 0, none⟩ = some (.int .i64 len) := by simp [World.cell?, hB]
      have hgw := ((Gr.refl w).alloc _).trans hg
      clear hB hg
      go_wp2
      go_ret
      exact ⟨by rw [HE.out, if_neg HL.out]; rfl, hgw⟩
  · have HE : Hid (cutErr len size sym n = planErr len size sym) := by show _ = _; rw [cutErr, if_pos hE]
    obtain ⟨q, hq⟩ : ∃ q, planErr len size sym = q := ⟨_, rfl⟩
    rw [hq] at HE CC hE
    have ht : ((q : Int) != 0) = true := by rw [bne_iff_ne]; omega
    clear hq hE
    go_enter Tryz.func63, Tryz.ntmps63
    go_wp2_with fail
    refine (CC.out _).mono ?_
    rintro e w1 ⟨rfl, hg⟩
    go_wp2
    go_ret
    exact ⟨by rw [HE.out]; rfl, ((Gr.refl w).alloc _).trans hg⟩

set_option maxHeartbeats 1000000 in
theorem cutCut_bad (len size sym : Int) (id : Int) (hlo : -9223372036854775808 ≤ len) (hm : len ≤ 9223372036854775807) (hsl : -9223372036854775808 ≤ size) (hsm : size ≤ 9223372036854775807) (a : Option Addr) (n cap : Nat) (hn : n ≤ 9223372036854775807) (hE : cutErr len size sym n ≠ 0) (w : World) :
    Calls Tryz.prog 31 #[.agg #[.int .i64 len, .int .i64 size, .int .i64 sym, .int .u32 id], .slice a n cap] w fun e w' => e = .returned (.tuple #[.slice none 0 0, .int .i64 (cutErr len size sym n : Nat)]) ∧ Gr w w' := by
  have CC := Lib.hid (cutFits_any len size sym id hlo hm hsl hsm a n cap hn)
  obtain ⟨q, hq⟩ : ∃ q, cutErr len size sym n = q := ⟨_, rfl⟩
  rw [hq] at CC hE ⊢
  have ht : ((q : Int) != 0) = true := by rw [bne_iff_ne]; omega
  clear hq hE
  go_enter Tryz.func31, Tryz.ntmps31
  go_wp2_with fail
  refine (CC.out _).mono ?_
  rintro e w1 ⟨rfl, hg⟩
  go_wp2
  go_ret2
  exact ⟨rfl, ((Gr.refl w).alloc _).trans hg⟩

theorem cutErr_nat {n s q : Nat} (h : planErr n s q = 0) : cutErr n s q n = 0 := by
  unfold cutErr; rw [if_neg (by simpa using h), if_neg (by simp)]

set_option maxRecDepth 100000 in
set_option maxHeartbeats 2000000 in
theorem cutCut_ok (n s q : Nat) (id : Int) (hE : planErr n s q = 0) (a : Option Addr) (cap : Nat) (obj : List UInt8) (w : World) (hb : Bs w a n cap obj) (hm : n ≤ 140737488355328) :
    Calls Tryz.prog 31 #[.agg #[.int .i64 (n : Int), .int .i64 (s : Int), .int .i64 (q : Int), .int .u32 id], .slice a n cap] w fun e w' =>
      ∃ S, w.heap.size ≤ S ∧ e = .returned (.tuple #[.slice (some ⟨S, 0, none⟩) q q, .int .i64 0]) ∧ Bss w' (some ⟨S, 0, none⟩) q q (cutL obj s q) ∧ Gr w w' := by
  obtain ⟨hs1, hs2, hq1, hq2⟩ := plan_bounds hE
  obtain ⟨i0, hi0, hz0, hz1, hz2⟩ := info_parts infoSl
  have CC := Lib.hid (cutFits_any n s q id (by omega) (by omega) (by omega) (by omega) a n cap (by omega))
  have H0 := Lib.hid (cutErr_nat hE)
  have HE := Lib.hid hE
  clear hE
  go_enter Tryz.func31, Tryz.ntmps31
  go_wp2_with fail
  refine (CC.out _).mono ?_
  rintro e w1 ⟨rfl, hg⟩
  rw [H0.out]
  have hbA := hb.below ((Gr.refl w).alloc (.cells #[.int .i64 (n : Int), .int .i64 (s : Int), .int .i64 (q : Int), .int .u32 id] 28))
  have hAn := heap_alloc_new w (.cells #[.int .i64 (n : Int), .int .i64 (s : Int), .int .i64 (q : Int), .int .u32 id] 28)
  have hgA := (Gr.refl w).alloc (.cells #[.int .i64 (n : Int), .int .i64 (s : Int), .int .i64 (q : Int), .int .u32 id] 28)
  obtain ⟨wA, hwA⟩ : ∃ x, x = w.alloc (.cells #[.int .i64 (n : Int), .int .i64 (s : Int), .int .i64 (q : Int), .int .u32 id] 28) := ⟨_, rfl⟩
  rw [← hwA] at hg hbA hAn hgA
  have HAN := Lib.hid hAn
  have hB := hg.heap hAn
  have c2 : w1.cell? ⟨w.heap.size, 2, none⟩ = some (.int .i64 (q : Int)) := by simp [World.cell?, hB]
  clear hB hwA hAn
  go_wp2_with (at_make; refine wpList_make_full _ rfl (.tmp 16) (.tmp 16) 25 rfl wA.heap.size 22 i0 (.slice none 0 0) 1 Tryz.underlying25 hi0 hz0 hz1 .i64 .i64 (q : Int) (q : Int) q rfl rfl rfl rfl (by rw [hz2]; omega) (by unfold maxLen; omega) hg.size ?_; intro w2 hown hgrow; have hR := Lib.hid (RowsTo.made (ls := cutL obj s q) hown); have hG : Gr wA w2 := hg.grown hgrow (fun k hk => by cases hk); clear hown hgrow)
  have hS := hg.size
  obtain ⟨S, hSe⟩ : ∃ S, w1.heap.size = S := ⟨_, rfl⟩
  rw [hSe] at hR hS ⊢
  clear hSe c2 hg
  go_loopw [20] (fun i wr => ∃ k : Nat, k ≤ q ∧ i = .int .i64 k ∧ RowsTo wr S q (cutL obj s q) k ∧ Gr wA wr) (fun i _ => q - (intOf i).toNat)
  case atStart => exact ⟨0, Nat.zero_le _, rfl, hR.out, hG⟩
  case round =>
    obtain ⟨k, hk, rfl, hrow, hgr⟩ := hrel
    by_cases hlt : k < q
    · have hB := hgr.heap HAN.out
      have c0 : wr.cell? ⟨w.heap.size, 0, none⟩ = some (.int .i64 (n : Int)) := by simp [World.cell?, hB]
      have c1 : wr.cell? ⟨w.heap.size, 1, none⟩ = some (.int .i64 (s : Int)) := by simp [World.cell?, hB]
      have c2 : wr.cell? ⟨w.heap.size, 2, none⟩ = some (.int .i64 (q : Int)) := by simp [World.cell?, hB]
      have c3 : wr.cell? ⟨w.heap.size, 3, none⟩ = some (.int .u32 id) := by simp [World.cell?, hB]
      have hbr := hbA.below hgr
      have hle := piece_le HE.out hlt
      have HLE := Lib.hid hle
      clear hB hle
      go_wp2_with fail
      refine (piece_any n s k q id hs2 a cap obj wr hbr HLE.out hm).mono ?_
      rintro e w3 ⟨g, hgl, rfl, hb3, hg3⟩
      have hrow3 := hrow.gr hg3
      obtain ⟨⟨v0, hv0⟩, hf0, hS3⟩ := hrow3.at_ hlt
      have hSr := (hrow.at_ hlt).2.2
      obtain ⟨hrow4, hgb4⟩ := hrow3.step hlt (cutL_get obj s q k hlt) hb3 (fun y hy => by cases hy; show S < g; omega)
      have hgr4 := (hgr.trans hg3).grb hgb4 hS
      have HR4 := Lib.hid hrow4
      have HG4 := Lib.hid hgr4
      clear hrow hrow3 hrow4 hgb4 hgr4 hg3 hgr hb3 hbr
      go_wp2
      go_roundw
      case rel => exact ⟨k + 1, by omega, by go_num, HR4.out, HG4.out⟩
      case measure => simp [intOf]; omega
    · obtain rfl : k = q := by omega
      go_wp2
      go_ret2
      exact ⟨S, Nat.le_trans hgA.size hS, rfl, hrow.all (cutL_length _ _ _) (by unfold maxLen; omega), hgA.trans hgr⟩
end Go.Proofs.YtddopoojmadpjaaGreatDoor
