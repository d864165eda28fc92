/-
  A relay: New, Say of what its taker has; what is said is a packet of the combination.
-/
import Derived.Test.YtddopoojmadpjaaGreatDoorTakerMore
import Derived.Test.YtddopoojmadpjaaGreatDoorRowsV
import Derived.Test.YtddopoojmadpjaaGreatDoorTopSent
namespace Go.Proofs.YtddopoojmadpjaaGreatDoor
open Go.RowKit
set_option linter.unusedVariables false

/-- A slice of the call's own, of slices of bytes that lie in blocks of an elder world. -/
def RowsB (w1 w : World) (v : Value) (ls : List (List UInt8)) : Prop :=
  ∃ xs, w.ownsRow w1.heap.size 22 1 v ls.length xs ∧ ∀ (j : Nat) (l : List UInt8), ls[j]? = some l → ∃ a n c, xs[j]? = some (.slice a n c) ∧ Bs w1 a n c l ∧ ∀ y, a = some y → y.block < w1.heap.size
theorem RowsB.nil (w1 w : World) : RowsB w1 w (.slice none 0 0) [] := ⟨[], World.ownsRow_nil w _ _ 1, fun j l h => by simp at h⟩
theorem RowsB.lt {w1 w : World} {v : Value} {ls : List (List UInt8)} (h : RowsB w1 w v ls) : ∀ k, v.ownBlock = some k → w1.heap.size ≤ k ∧ k < w.heap.size := by
  obtain ⟨xs, h1, _⟩ := h; exact World.ownsRow.lt h1
theorem RowsB.kept {w1 w w' : World} {v : Value} {ls : List (List UInt8)} {row : Option Nat} (h : RowsB w1 w v ls) (hg : w.grownBy w' row) (hne : ∀ k, v.ownBlock = some k → row ≠ some k) : RowsB w1 w' v ls := by
  obtain ⟨xs, h1, h2⟩ := h
  refine ⟨xs, h1.kept hg ?_, h2⟩
  cases e : v.ownBlock with
  | none => exact .inl rfl
  | some k => exact .inr fun e2 => hne k e e2.symm
theorem RowsB.gr {w1 w w' : World} {v : Value} {ls : List (List UInt8)} (h : RowsB w1 w v ls) (hg : Gr w w') : RowsB w1 w' v ls :=
  h.kept (row := none) ⟨hg.os, hg.tape, hg.output, hg.size, fun i hi _ => hg.block hi⟩ fun k _ e => by cases e
theorem RowsB.bss {w1 w : World} {v : Value} {ls : List (List UInt8)} (h : RowsB w1 w v ls) (hg : Gr w1 w) : ∃ a cap, v = .slice a ls.length cap ∧ Bss w a ls.length cap ls := by
  obtain ⟨xs, h1, h2⟩ := h
  rcases h1.2 with ⟨rfl, hn⟩ | ⟨g, cap, cur, rfl, hg', hh, hn, hm, hs, ht⟩
  · rw [hn]
    have : ls = [] := List.eq_nil_of_length_eq_zero hn
    subst this
    exact ⟨none, 0, rfl, Bss.nil w⟩
  · refine ⟨some ⟨g, 0, none⟩, cap, rfl, ⟨rfl, hn, hm, (fun h => by cases h), fun x hx i l hl => ?_⟩⟩
    cases hx
    obtain ⟨a, n, c, e, hb, ha⟩ := h2 i l hl
    refine ⟨a, n, c, ?_, hb.below hg⟩
    rw [Addr.add_lit, Nat.zero_add]
    rw [← ht, List.getElem?_take] at e
    split at e
    · have e2 : cur[i]? = some (.slice a n c) := by rw [← Array.getElem?_toList]; exact e
      simp [World.cell?, hh, e2]
    · cases e
theorem run_append_rowsB {w1 w : World} (ty : TypeId) {v : Value} {ls : List (List UInt8)} (h : RowsB w1 w v ls) {ad : Addr} {a : Option Addr} {n c : Nat} {l : List UInt8} (hc : w.cell? ad = some (.slice a n c)) (hb : Bs w1 a n c l)
    (ha : ∀ y, a = some y → y.block < w1.heap.size) (hlen : (ls.length + 1) * 24 ≤ 140737488355328) (hbase : w1.heap.size ≤ w.heap.size) :
    ∃ v' w', (Builtin.append_ #[25, 25] ty #[v, .slice (some ad) 1 1]).run Tryz.prog w = .ok v' w' ∧ RowsB w1 w' v' (ls ++ [l]) ∧ w.grownBy w' v.ownBlock ∧ (v'.ownBlock = v.ownBlock ∨ v'.ownBlock = some w.heap.size) := by
  obtain ⟨i, hi, hz0, hz1, hz2⟩ := info_parts infoSlice
  obtain ⟨xs, h1, h2⟩ := h
  obtain ⟨v', w', hr, h3, h4, _, h5⟩ := run_append_own_at (P := Tryz.prog) w w1.heap.size _ ty _ i (.slice none 0 0) 1 24 Tryz.underlying25 hi hz0 hz1 hz2 rfl (by decide) v _ _ h1 ad 1 1 [.slice a n c] rfl
    (fun j u hu => by
      cases j with
      | zero => simp at hu; subst hu; rw [Addr.add_zero']; exact hc
      | succ j => simp at hu) (fun u hu => by simp at hu; subst hu; rfl) (by unfold maxLen; omega) hlen hbase
  have hxl : xs.length = ls.length := by simpa using h1.1
  refine ⟨v', w', hr, ⟨xs ++ [.slice a n c], by rw [List.length_append]; exact h3, fun j l' hl' => ?_⟩, h4, h5⟩
  by_cases hj : j < ls.length
  · rw [List.getElem?_append_left hj] at hl'
    obtain ⟨a', n', c', e, r⟩ := h2 j l' hl'
    exact ⟨a', n', c', by rw [List.getElem?_append_left (by omega)]; exact e, r⟩
  · have hj' : j = ls.length := by have := (List.getElem?_eq_some_iff.1 hl').1; simp at this; omega
    subst hj'
    have : l' = l := by simpa using hl'.symm
    subst this
    exact ⟨a, n, c, by rw [List.getElem?_append_right (by omega)]; simp [hxl], hb, ha⟩
theorem wpList_append_rowsB {w1 w : World} {ops : Array Oper} {rest : List Oper} {o : Oper} {act : Act} {Q : Exit → Act → World → Prop} (hw : Region.wanted o (yielded ops act.tmps) = true) (s x : Operand)
    (ho : o.op = .call { callee := .builtin .append, args := #[s, x], argTypes := #[25, 25] })
    {v : Value} {ls : List (List UInt8)} (hs : act.eval s = v) (h : RowsB w1 w v ls) {ad : Addr} (hx : act.eval x = .slice (some ad) 1 1) {a : Option Addr} {n c : Nat} {l : List UInt8} (hc : w.cell? ad = some (.slice a n c)) (hb : Bs w1 a n c l)
    (ha : ∀ y, a = some y → y.block < w1.heap.size) (hlen : (ls.length + 1) * 24 ≤ 140737488355328) (hbase : w1.heap.size ≤ w.heap.size)
    (hk : ∀ v' w', RowsB w1 w' v' (ls ++ [l]) → w.grownBy w' v.ownBlock → (v'.ownBlock = v.ownBlock ∨ v'.ownBlock = some w.heap.size) → wpList Tryz.prog ops Q rest (act.put o.dst v') w') : wpList Tryz.prog ops Q (o :: rest) act w := by
  obtain ⟨v', w', hr, h2, h3, h4⟩ := run_append_rowsB o.type h hc hb ha hlen hbase
  simp only [wpList]
  rw [if_pos hw]
  refine .inl ?_
  unfold Oper.wp execOp
  simp only [ho, resolve, invoke, builtin, Sem.run_bind, Sem.run_pure, Result.andThen_ok, List.map_toArray, List.map_cons, List.map_nil, hs, hx, hr]
  exact hk v' w' h2 h3 h4

/-- A RELAY at B. -/
def RelAt (w : World) (B T next : Nat) : Prop := w.heap[B]? = some (.cells #[.pointer (some ⟨T, 0, none⟩), .int .u64 (next : Int)] 60)

set_option maxRecDepth 100000 in
set_option maxHeartbeats 1000000 in
theorem relayNew_ok (n s q id first : Nat) (hf : first < 4294967296) (D : List UInt8 → List UInt8) (hP : planErr n s q = 0) (hnm : n ≤ 9223372036854775807) (w : World) :
    Calls Tryz.prog 35 #[.agg #[.int .i64 (n : Int), .int .i64 (s : Int), .int .i64 (q : Int), .int .u32 (id : Int)], .int .u32 (first : Int)] w fun e w' => ∃ B T E, e = .returned (.tuple #[.pointer (some ⟨B, 0, none⟩), .int .i64 0]) ∧ w.heap.size ≤ E ∧ E < T ∧ T < B ∧ RelAt w' B T first ∧ TakS w' (fun b => b = E) T E n s q id [] D 0 ∧ Gr w w' := by
  have HT := Lib.hid fun w => takerNew_S n s q id D hP hnm w
  have hal := (Gr.refl w).alloc (.cells #[.int .i64 (n : Int), .int .i64 (s : Int), .int .i64 (q : Int), .int .u32 (id : Int)] 28)
  have HAL := Lib.hid hal
  obtain ⟨p0, p1, p2, p3⟩ := p_four_cells (heap_alloc_new w (.cells #[.int .i64 (n : Int), .int .i64 (s : Int), .int .i64 (q : Int), .int .u32 (id : Int)] 28))
  clear hP hal
  go_enter Tryz.func35, Tryz.ntmps35
  go_wp2_with fail
  refine (HT.out _).mono ?_
  rintro e w1 ⟨T, E, rfl, h1, h2, h3, hg⟩
  rw [World.size_alloc] at h1
  have HTS := Lib.hid h3
  have HW := Lib.hid (HAL.out.trans hg)
  have hTl : T < w1.heap.size := h3.lt
  clear h3 hg p0 p1 p2 p3
  go_wp2
  first | go_ret | go_ret2
  have hal := (Gr.refl w1).alloc (.cells #[.pointer (some ⟨T, 0, none⟩), .int .u64 (first : Int)] 60)
  exact ⟨w1.heap.size, T, E, rfl, by omega, h2, hTl, heap_alloc_new w1 _, HTS.out.gr hal, HW.out.trans hal⟩

/-- what a relay says: as a sender's explicit packet. -/
theorem goodp_sent {n s q id m len next sd : Nat} {l obj : List UInt8} (hl : l.length = len) (hlm : len ≤ 1000000) (hid : id < 4294967296) (hnx : next < 4294967296) (hsd : sd < 18446744073709551616) (hP : planErr n s q = 0) (hE : rowErr m len q = 0) :
    Goodp n s q id (fun v => combL v (cutL obj s q) s) (sentL n s q id obj next m l sd) (rowVec m l sd q) := by
  obtain ⟨t1, t2⟩ := sent_read (n := n) (s := s) (q := q) (id := id) (next := next) (obj := obj) hl hid hnx hsd hP hE
  have hLP : (combL (rowVec m l sd q) (cutL obj s q) s).length = s := combL_length cut_same
  have hgl := got_le m l
  exact ⟨m, next, gotS m sd, gotB m l, gotS_lt hsd, t1, t2, by rw [hLP]; exact got_fit hl hP hE, by omega, got_vec m l sd q, rowVec_len hl hE⟩

theorem two_last {W : World} {R : Nat} {v0 v1 : Value} {t : TypeId} (h : W.heap[R]? = some (.cells #[v0, v1] t)) (u : Value) :
    GrB W R (W.setCell ⟨R, 1, none⟩ u) ∧ (W.setCell ⟨R, 1, none⟩ u).heap[R]? = some (.cells #[v0, u] t) := by
  refine ⟨(GrB.refl W R).set (.inl rfl) _, ?_⟩
  have h2 := heap_set (i := 1) h u
  simpa only [List.setIfInBounds_toArray, List.set_cons_zero, List.set_cons_succ] using h2

set_option maxRecDepth 100000 in
set_option maxHeartbeats 1500000 in
theorem say_ok (B T E n s q id next mx : Nat) (S : Nat → Prop) (hP : planErr n s q = 0) (hid : id < 4294967296) (hnm : n ≤ 1000000000) (hnx : next < 4294967296) (obj : List UInt8) (V : List (List UInt8)) (hV0 : V ≠ []) (a : Option Addr) (cap : Nat) (dr : List UInt8) (w : World) (htab : Tab w) (hTS : TakS w S T E n s q id V (fun v => combL v (cutL obj s q) s) mx) (hR : RelAt w B T next) (hs : Bs w a V.length cap dr) :
    Calls Tryz.prog 36 #[.pointer (some ⟨B, 0, none⟩), .slice a V.length cap] w fun e w' => ∃ a' k' c', e = .returned (.tuple #[.slice a' k' c', .int .i64 0]) ∧ Bs w' a' k' c' (sentL n s q id obj next 0 (combL dr V q) 0) ∧ (∀ x, a' = some x → w.heap.size ≤ x.block) ∧ RelAt w' B T (next + 1) ∧ GrB w B w' := by
  obtain ⟨hs1, hs2, hq1, hq2⟩ := plan_bounds hP
  have hRED := hTS.red
  have hVq := hRED.ech.rank_k
  have hV1 : 1 ≤ V.length := by cases V with | nil => exact absurd rfl hV0 | cons _ _ => simp
  have HRW := Lib.hid (takerRows_S T E n s q id mx (by omega) (by omega) S V _ w hTS)
  have hVl : ∀ v, v ∈ V → v.length = q := hRED.len
  have hDl : ∀ l, l ∈ V.map (fun v => combL v (cutL obj s q) s) → l.length = s := fun l hl => by
    obtain ⟨v, _, rfl⟩ := List.mem_map.1 hl; exact combL_length cut_same
  have hcc := comb_comb (X := cutL obj s q) (R := V) (t := s) (k := q) cut_same hVl dr
  have hvq : (combL dr V q).length = q := combL_length hVl
  have HCV := Lib.hid fun (av : Option Addr) (cv : Nat) w h1 h2 => comb_ok a cap dr av V.length cv q V w h1 h2 hV1 hVl hq1 (by omega)
  have HCD := Lib.hid fun (ad : Option Addr) (cd : Nat) w h1 h2 => comb_ok a cap dr ad V.length cd s (V.map fun v => combL v (cutL obj s q) s) w h1 h2 hV1 hDl hs1 (by omega)
  rw [hcc] at HCD
  have hE0 : rowErr 0 q q = 0 := by
    have h : widthE 0 (q : Int) = 0 := by unfold widthE; rw [if_neg (by omega), if_neg (by omega)]
    unfold rowErr; rw [if_neg (by rw [h]; simp), if_neg (by simp)]
  have hft : fitErr n s q id 0 id 0 q s = 0 := sendFit hP hE0
  have HW := Lib.hid fun (ae : Option Addr) (ce g : Nat) (lv lp : List UInt8) w ht h1 h2 => packWrite_all n s q id 0 id next 0 q s 0 hid hnx (by omega) (by omega) (by omega) (by omega) ae (some ⟨g, 0, none⟩) ce s lv lp w ht h1 h2 (by omega) (by omega)
  rw [hft] at HW
  have hpl : (combL (combL dr V q) (cutL obj s q) s).length = s := combL_length cut_same
  have hrv : rowVec 0 (combL dr V q) 0 q = combL dr V q := by unfold rowVec; rw [if_pos rfl]
  have hsent : Hid (wText n s q id 0 id next 0 (combL dr V q) 0 (combL (combL dr V q) (cutL obj s q) s) = sentL n s q id obj next 0 (combL dr V q) 0) := by
    show _ = _
    unfold wText sentL
    rw [hvq, hpl, if_pos hft, hrv]
  obtain ⟨VV, eVV⟩ : ∃ x, combL dr V q = x := ⟨_, rfl⟩
  rw [eVV] at HCV HCD hsent ⊢
  obtain ⟨TX, eTX⟩ : ∃ x, sentL n s q id obj next 0 VV 0 = x := ⟨_, rfl⟩
  rw [eTX] at hsent ⊢
  obtain ⟨LP, eLP⟩ : ∃ x, combL VV (cutL obj s q) s = x := ⟨_, rfl⟩
  rw [eLP] at HCD hsent
  have hT := hTS
  obtain ⟨gg, es, _, hTA, _⟩ := hT
  obtain ⟨ST, eST⟩ : ∃ x : Nat, (if V.length = q then 1 else 0) = x := ⟨_, rfl⟩
  rw [eST] at hTA
  have HTA := Lib.hid hTA
  have HT := Lib.hid htab
  have HS := Lib.hid hs
  have HRL := Lib.hid hR
  have hBl := lt_of_block hR
  have hV4 : V.length ≤ 4096 := by omega
  obtain ⟨r0, r1, rf⟩ := two_cells hR
  have hnt : ((next : Int) == 4294967296) = false := by rw [beq_eq_false_iff_ne]; omega
  have hnxi : (next : Int) < 4294967296 := by omega
  have hv0i : ((V.length : Int) == 0) = false := by rw [beq_eq_false_iff_ne]; omega
  have hvvi : ((V.length : Int) != (V.length : Int)) = false := by simp
  clear hP htab hTS hR hs hRED hVl hDl hcc hvq eVV eTX eLP hft hpl hrv hE0 hTA eST
  have hfd : ∀ w : World, (Instr.field 102 (.agg #[.int .i64 (n : Int), .int .i64 (s : Int), .int .i64 (q : Int), .int .u32 (id : Int), .map gg]) 0).run Tryz.prog w = .ok (.agg #[.int .i64 (n : Int), .int .i64 (s : Int), .int .i64 (q : Int), .int .u32 (id : Int)]) w := fun _ => by kernel_rfl
  go_enter Tryz.func36, Tryz.ntmps36
  go_wp2_with fail
  refine HRW.out.mono ?_
  rintro e w1 ⟨rv, rfl, hp, hg1⟩
  obtain ⟨ar, cr, rfl, hcr, hcm⟩ := hp.val
  have HG1 := Lib.hid hg1
  have HPR := Lib.hid hp
  obtain ⟨r0, r1, rf⟩ := two_cells (hg1.heap HRL.out)
  clear hp hg1
  go_wp2
  obtain ⟨D, eD⟩ : ∃ D : List UInt8 → List UInt8, (fun v => combL v (cutL obj s q) s) = D := ⟨_, rfl⟩
  rw [eD] at HPR HCD
  clear eD
  go_loopw [7, 8, 42] (fun o p i wr => ∃ (j : Nat) (v7 v8 : Value), j ≤ V.length ∧ i = .int .i64 j ∧ v7 = o ∧ v8 = p ∧ RowsB w1 wr v7 (V.take j) ∧ RowsB w1 wr v8 ((V.take j).map D) ∧ (∀ k, v7.ownBlock = some k → v8.ownBlock ≠ some k) ∧ Gr w1 wr) (fun _ _ i _ => V.length - (intOf i).toNat)
  case atStart => exact ⟨0, _, _, Nat.zero_le _, rfl, rfl, rfl, RowsB.nil _ _, RowsB.nil _ _, (fun k h => by cases h), Gr.refl _⟩
  case round =>
    obtain ⟨j, v7, v8, hj, rfl, rfl, rfl, hr7, hr8, hne, hgr⟩ := hrel
    have HR7 := Lib.hid hr7
    have HR8 := Lib.hid hr8
    have HNE := Lib.hid hne
    have HGR := Lib.hid hgr
    clear hr7 hr8 hne hgr r0 r1 rf
    by_cases hlt : j < V.length
    · obtain ⟨R, cpp, b1, d1, b2, d2, erv, hRb, hRl, y0, y1, hb1, hb2⟩ := HPR.out.get hlt
      simp at erv
      obtain ⟨rfl, rfl⟩ := erv
      have htk : V.take (j + 1) = V.take j ++ [V[j]] := by rw [List.take_succ_eq_append_getElem hlt]
      have htl : (V.take j).length = j := by rw [List.length_take]; omega
      have htm : ((V.take j).map D).length = j := by rw [List.length_map, htl]
      obtain ⟨ROW, eROW⟩ : ∃ x, V[j] = x := ⟨_, rfl⟩
      rw [eROW] at hb1 hb2 htk
      have HTK := Lib.hid htk
      have HTL := Lib.hid htl
      have HTM := Lib.hid htm
      have HB1 := Lib.hid hb1
      have HB2 := Lib.hid hb2
      have hl1 := hb1.lt_ (by omega)
      have hl2 := hb2.lt_ (by omega)
      have HL1 := Lib.hid hl1
      have HL2 := Lib.hid hl2
      have z0 := HGR.out.cell y0
      have z1 := HGR.out.cell y1
      have hsz := HGR.out.size
      have hal := (Gr.refl wr).alloc (.cells #[.slice b1 q d1, .slice b2 s d2] 113)
      have hRW := heap_alloc_new wr (.cells #[.slice b1 q d1, .slice b2 s d2] 113)
      obtain ⟨x0, x1, xf⟩ := two_cells hRW
      clear hb1 hb2 hl1 hl2 htk htl htm eROW y0 y1
      go_wp2_with (with_reducible refine wpList_hold (o := ⟨some 50, _, _, _, _, _⟩) ?_)
      change wpList _ _ _ _ _ _
      have hal4 := hal.alloc (.cells #[.slice b1 q d1] 22)
      have hcl4 := one_cell (heap_alloc_new (wr.alloc (.cells #[.slice b1 q d1, .slice b2 s d2] 113)) (.cells #[.slice b1 q d1] 22))
      rw [World.size_alloc] at hcl4
      have hRW4 := Gr.heap ((Gr.refl _).alloc (.cells #[.slice b1 q d1] 22)) hRW
      obtain ⟨W4, eW⟩ : ∃ W, (wr.alloc (.cells #[.slice b1 q d1, .slice b2 s d2] 113)).alloc (.cells #[.slice b1 q d1] 22) = W := ⟨_, rfl⟩
      rw [eW] at hal4 hcl4 hRW4 ⊢
      clear eW x0 x1 xf z0 z1 hal hRW
      have h14 := HGR.out.trans hal4
      have h8 := HR8.out.gr hal4
      refine wpList_append_rowsB rfl (.tmp 46) (.tmp 49) rfl rfl (HR7.out.gr hal4) rfl hcl4 HB1.out HL1.out (by rw [HTL.out]; omega) h14.size ?_
      intro v7' w5 hr7 hg7 hn7
      have hl7 : ∀ k, v7.ownBlock = some k → w1.heap.size ≤ k ∧ k < wr.heap.size := HR7.out.lt
      have hl8 : ∀ k, v8.ownBlock = some k → w1.heap.size ≤ k ∧ k < wr.heap.size := HR8.out.lt
      have h15 := h14.grown hg7 fun k hk => (hl7 k hk).1
      have h85 := h8.kept hg7 fun k e e2 => HNE.out k e2 e
      have hne5 : ∀ k, v7'.ownBlock = some k → v8.ownBlock ≠ some k := fun k e e2 => by
        rcases hn7 with h | h
        · exact HNE.out k (h ▸ e) e2
        · rw [e] at h; have h1 := Option.some.inj h; have h2 := (hl8 k e2).2; have h3 := hal4.size; omega
      have hRW5 := hRW4
      rw [← hg7.block wr.heap.size (lt_of_block hRW4) (fun e => by have := (hl7 _ e.symm).2; omega)] at hRW5
      obtain ⟨x0, x1, xf⟩ := two_cells hRW5
      have HR75 := Lib.hid hr7
      have HR85 := Lib.hid h85
      have HNE5 := Lib.hid hne5
      have H15 := Lib.hid h15
      have hwr5 : wr.heap.size < w5.heap.size := lt_of_block hRW5
      clear hr7 hg7 hn7 hl7 hl8 h15 h85 hne5 hRW4 hRW5 hal4 hcl4 h14 h8
      go_wp2_with (with_reducible refine wpList_hold (o := ⟨some 55, _, _, _, _, _⟩) ?_)
      change wpList _ _ _ _ _ _
      have hal6 := (Gr.refl w5).alloc (.cells #[.slice b2 s d2] 22)
      have hcl6 := one_cell (heap_alloc_new w5 (.cells #[.slice b2 s d2] 22))
      obtain ⟨W6, eW⟩ : ∃ W, w5.alloc (.cells #[.slice b2 s d2] 22) = W := ⟨_, rfl⟩
      rw [eW] at hal6 hcl6 ⊢
      clear eW x0 x1 xf
      have h16 := H15.out.trans hal6
      refine wpList_append_rowsB rfl (.tmp 51) (.tmp 54) rfl rfl (HR85.out.gr hal6) rfl hcl6 HB2.out HL2.out (by rw [HTM.out]; omega) h16.size ?_
      intro v8' w7 hr8 hg8 hn8
      have hl7 : ∀ k, v7'.ownBlock = some k → w1.heap.size ≤ k ∧ k < w5.heap.size := HR75.out.lt
      have hl8 : ∀ k, v8.ownBlock = some k → w1.heap.size ≤ k ∧ k < w5.heap.size := HR85.out.lt
      have H17 := Lib.hid (h16.grown hg8 fun k hk => (hl8 k hk).1)
      have H77 := Lib.hid ((HR75.out.gr hal6).kept hg8 fun k e e2 => HNE5.out k e e2)
      have HNE7 : Hid (∀ k, v7'.ownBlock = some k → v8'.ownBlock ≠ some k) := fun k e e2 => by
        rcases hn8 with h | h
        · exact HNE5.out k e (h ▸ e2)
        · rw [e2] at h; have h1 := Option.some.inj h; have h2 := (hl7 k e).2; have h3 := hal6.size; omega
      have H87 := Lib.hid hr8
      have HMP : Hid ((V.take (j + 1)).map D = (V.take j).map D ++ [D ROW]) := by show _ = _; rw [HTK.out]; simp
      clear hr8 hg8 hn8 hl7 hl8 h16 hal6 hcl6
      go_wp2
      go_roundw
      case rel => exact ⟨j + 1, v7', v8', by omega, by go_num, rfl, rfl, by rw [HTK.out]; exact H77.out, by rw [HMP.out]; exact H87.out, HNE7.out, H17.out⟩
      case measure => simp [intOf]; omega
    · have hjl : j = V.length := by omega
      have hge : (V.length : Int) ≤ (j : Int) := by omega
      subst hjl
      have hR7 := HR7.out
      have hR8 := HR8.out
      rw [List.take_length] at hR7 hR8
      obtain ⟨a7, c7, e7, hb7⟩ := hR7.bss HGR.out
      obtain ⟨a8, c8, e8, hb8⟩ := hR8.bss HGR.out
      rw [List.length_map] at e8 hb8
      subst e7 e8
      have HB7 := Lib.hid hb7
      have HB8 := Lib.hid hb8
      have HWR := Lib.hid (HG1.out.trans HGR.out)
      clear hR7 hR8 hb7 hb8 HR7 HR8 HNE
      go_wp2_with fail
      refine (HCV.out a7 c7 wr (HS.out.below HWR.out) HB7.out).mono ?_
      rintro e w2 ⟨g1, hg1l, rfl, hown1, hg2⟩
      have HW2 := Lib.hid (HWR.out.trans hg2)
      have HO1 := Lib.hid hown1.bs
      have HB82 := Lib.hid (HB8.out.below hg2)
      clear hown1 hg2 hg1l HB7 HB8 HWR HCV HPR
      go_wp2_with fail
      refine (HCD.out a8 c8 w2 (HS.out.below HW2.out) HB82.out).mono ?_
      rintro e w3 ⟨g2, hg2l, rfl, hown2, hg3⟩
      have HW3 := Lib.hid (HW2.out.trans hg3)
      have HO13 := Lib.hid (HO1.out.below hg3)
      have HO2 := Lib.hid hown2.bs
      obtain ⟨r0, r1, rf⟩ := two_cells (HW3.out.heap HRL.out)
      clear hown2 hg3 hg2l HW2 HO1 HB82 HCD
      go_wp2_with fail
      refine (takerGate_any T E n s q id ST gg w3 (HTA.out.gr HW3.out)).mono ?_
      rintro e w4 ⟨rfl, hg4⟩
      have hal := (Gr.refl w4).alloc (.cells #[.int .i64 (n : Int), .int .i64 (s : Int), .int .i64 (q : Int), .int .u32 (id : Int)] 28)
      have HPL := Lib.hid (heap_alloc_new w4 (.cells #[.int .i64 (n : Int), .int .i64 (s : Int), .int .i64 (q : Int), .int .u32 (id : Int)] 28))
      have HW4 := Lib.hid ((HW3.out.trans hg4).trans hal)
      have HO14 := Lib.hid (HO13.out.below (hg4.trans hal))
      have HO24 := Lib.hid (HO2.out.below (hg4.trans hal))
      clear hal hg4 HW3 HO13 HO2 r0 r1 rf
      go_wp2
      obtain ⟨PB, ePB⟩ : ∃ x, w4.heap.size = x := ⟨_, rfl⟩
      obtain ⟨W5, eW⟩ : ∃ W, w4.alloc (.cells #[.int .i64 (n : Int), .int .i64 (s : Int), .int .i64 (q : Int), .int .u32 (id : Int)] 28) = W := ⟨_, rfl⟩
      rw [ePB] at HPL ⊢
      rw [eW] at HPL HW4 HO14 HO24 ⊢
      clear eW ePB
      obtain ⟨r0, r1, rf⟩ := two_cells (HW4.out.heap HRL.out)
      obtain ⟨p0, p1, p2, p3⟩ := p_four_cells HPL.out
      have hup : Nonempty (Up Gr W5.drew) := ⟨⟨_, Gr.refl _⟩⟩
      have u0 : ∀ x : Up Gr W5.drew, x.w.cell? ⟨PB, 3, none⟩ = some (.int .u32 (id : Int)) := fun x => gr_st x.rel p3
      have u1 : ∀ x : Up Gr W5.drew, x.w.cell? ⟨B, 1, none⟩ = some (.int .u64 (next : Int)) := fun x => gr_st x.rel r1
      clear r0 r1 rf p0 p1 p2 p3
      refine wp_region_rg [.reck, .reck, .reck, .reck, .reck, .reck, .reck, .reck, .reck, .any (Option Addr × Nat) (none, 0) (fun x => .agg #[.int .u8 0, .slice x.1 q x.2, .int .u64 0]) (fun x W => ∃ b, OwnV W b (.slice x.1 q x.2) VV), .reck, .reck, .any Nat 0 (fun b => .pointer (some ⟨b, 0, none⟩)) (fun b W => W5.heap.size ≤ b ∧ W.heap[b]? = some (.cells #[.int .u8 0, .int .u32 0, .int .u32 0, .int .u8 0, .slice none 0 0, .int .u64 0, .slice none 0 0] 96))] Gr (by kernel_rfl) (by kernel_rfl) Gr.refl (fun _ _ _ => Gr.trans) ?_
      (refine wpRG_reck rfl (fun K hK => ?_); go_big_quiet_op; refine hK _ ?_; clear hK K)
      (refine wpRG_reck rfl (fun K hK => ?_); go_big_quiet_op; refine hK _ ?_; clear hK K)
      (refine wpRG_reck rfl (fun K hK => ?_); go_big_quiet_op; refine hK _ ?_; clear hK K)
      (refine wpRG_reck rfl (fun K hK => ?_); go_big_quiet_op; refine hK _ ?_; clear hK K)
      (refine wpRG_reck rfl (fun K hK => ?_); go_big_quiet_op; refine hK _ ?_; clear hK K)
      (refine wpRG_reck rfl (fun K hK => ?_); go_big_quiet_op; refine hK _ ?_; clear hK K)
      (refine wpRG_reck rfl (fun K hK => ?_); go_big_quiet_op; refine hK _ ?_; clear hK K)
      (refine wpRG_reck rfl (fun K hK => ?_); go_big_quiet_op; refine hK _ ?_; clear hK K)
      (refine wpRG_reck rfl (fun K hK => ?_); go_big_quiet_op; refine hK _ ?_; clear hK K)
      refine wpRG_any rfl (fun _ _ _ hg h => h.elim fun b h => ⟨b, h.gr hg⟩) (fun W hw hF R hR => ?_) ?_
      · (have HF := Lib.hid hF; clear hF; unfold rgAt; go_simp)
        show Calls _ _ _ _ _
        refine (explicit_own _ q q VV W (HO14.out.below ((Gr.refl W5).drew.trans hw)) (by omega)).mono ?_
        rintro e w6 ⟨a6, c6, rfl, hb6, hg6⟩
        exact ⟨_, rfl, hR (a6, c6) _ hg6 ⟨_, hb6⟩⟩
      rintro ⟨ae, ce⟩
      (simp only [Act.put, List.setIfInBounds_toArray, List.set_cons_zero, List.set_cons_succ])
      (refine wpRG_reck rfl (fun K hK => ?_); go_big_quiet_op; refine hK _ ?_; clear hK K)
      (refine wpRG_reck rfl (fun K hK => ?_); go_big_quiet_op; refine hK _ ?_; clear hK K)
      refine wpRG_any rfl (fun x w1 w2 hg h => ⟨h.1, hg.heap h.2⟩) (fun W hw hF R' hR => ?_) ?_
      · (have HF := Lib.hid hF; clear hF; unfold rgAt; go_simp)
        exact hR W.heap.size _ ((Gr.refl _).alloc _) ⟨hw.size, heap_alloc_new _ _⟩
      intro bZ
      (simp only [Act.put, List.setIfInBounds_toArray, List.set_cons_zero, List.set_cons_succ])
      refine wpRG_end fun WZ hwZ hF => ?_
      have fE0 : ∃ b, OwnV WZ b (.slice ae q ce) VV := hF 9
      obtain ⟨bE, fE⟩ := fE0
      have f16 : W5.heap.size ≤ bZ ∧ WZ.heap[bZ]? = some (.cells #[.int .u8 0, .int .u32 0, .int .u32 0, .int .u8 0, .slice none 0 0, .int .u64 0, .slice none 0 0] 96) := hF 12
      obtain ⟨f8, f9⟩ := f16
      have hAZ : Gr W5 WZ := (Gr.refl _).drew.trans hwZ
      clear hF hwZ u0 u1 hup
      obtain ⟨z0, z1, z2, z3, z4, z5, z6, zf⟩ := seven_cells f9
      have hh := seven_set f9 (.int .u8 0) (.int .u32 (id : Int)) (.int .u32 (next : Int)) (.int .u8 0) (.slice ae q ce) (.int .u64 0) (.slice (some ⟨g2, 0, none⟩) s s)
      have hgb := grb_seven WZ bZ (.int .u8 0) (.int .u32 (id : Int)) (.int .u32 (next : Int)) (.int .u8 0) (.slice ae q ce) (.int .u64 0) (.slice (some ⟨g2, 0, none⟩) s s)
      have hW3 := hAZ.grb hgb f8
      have hae := (fE.grb hgb (fE.ne_block f9 (by decide))).bs2.1
      have HH := Lib.hid hh
      have HW3 := Lib.hid hW3
      have HAE := Lib.hid hae
      clear hh hgb hW3 f9 hAZ fE hae
      go_step
      go_step
      obtain ⟨W6, eW⟩ : ∃ W, (((((((WZ.setCell ⟨bZ, 0, none⟩ (.int .u8 0)).setCell ⟨bZ, 1, none⟩ (.int .u32 (id : Int))).setCell ⟨bZ, 2, none⟩ (.int .u32 (next : Int))).setCell ⟨bZ, 3, none⟩ (.int .u8 0)).setCell ⟨bZ, 4, none⟩ (.slice ae q ce)).setCell ⟨bZ, 5, none⟩ (.int .u64 0)).setCell ⟨bZ, 6, none⟩ (.slice (some ⟨g2, 0, none⟩) s s)) = W := ⟨_, rfl⟩
      rw [eW] at HH HW3 HAE ⊢
      clear eW z0 z1 z2 z3 z4 z5 z6 zf
      have HW6 := Lib.hid (HW4.out.trans HW3.out)
      have HO26 := Lib.hid (HO24.out.below HW3.out)
      obtain ⟨y0, y1, y2, y3, y4, y5, y6, _⟩ := seven_cells HH.out
      obtain ⟨p0, p1, p2, p3⟩ := p_four_cells (HW3.out.heap HPL.out)
      obtain ⟨r0, r1, rf⟩ := two_cells (HW6.out.heap HRL.out)
      clear HW4 HW3 HO14 HO24 HPL HH
      go_wp2_with fail
      refine (HW.out ae ce g2 VV LP W6 (HT.out.below HW6.out) HAE.out HO26.out).mono ?_
      rintro e w7 ⟨a9, k9, c9, rfl, ho9, hg9⟩
      rw [hsent.out] at ho9
      obtain ⟨a8, c8, e8, hb8, hf8⟩ := ho9.bs
      injection e8 with e1 e2 e3
      subst e1 e2 e3
      have HF9 : Hid (∀ y, a9 = some y → w.heap.size ≤ y.block) := fun y hy => Nat.le_trans HW6.out.size (hf8 y hy)
      have hW7 := HW6.out.trans hg9
      have hR7 := hW7.heap HRL.out
      obtain ⟨hgb, hh⟩ := two_last hR7 (.int .u64 ((next + 1 : Nat) : Int))
      have HB9 := Lib.hid (hb8.gap hgb hR7 (fun j u => by match j with | 0 => simp | 1 => simp | j + 2 => simp))
      have HRF : Hid (RelAt _ B T (next + 1)) := hh
      have HGF := Lib.hid ((GrB.of_gr (b := B) hW7).trans hgb)
      obtain ⟨r0, r1, rf⟩ := two_cells hR7
      clear hb8 hf8 ho9 hg9 hW7 hR7 hgb hh y0 y1 y2 y3 y4 y5 y6 p0 p1 p2 p3
      go_wp2
      first | go_ret | go_ret2
      exact ⟨_, _, _, rfl, HB9.out, HF9.out, HRF.out, HGF.out⟩
end Go.Proofs.YtddopoojmadpjaaGreatDoor
