/-
  A taker: Take of a packet whatever it knows, New, Rows, Rank, Status, Object; what it has at last.
-/
import Derived.Test.YtddopoojmadpjaaGreatDoorTaker
namespace Go.Proofs.YtddopoojmadpjaaGreatDoor
open Go.RowKit
set_option linter.unusedVariables false

theorem piece_get (obj : List UInt8) (s m r : Nat) (hr : r < s) : (pieceL obj s m)[r]? = some (obj.getD (m * s + r) 0) := by
  unfold pieceL
  by_cases h : m * s + r < obj.length
  · have h1 : r < ((obj.drop (m * s)).take s).length := by simp; omega
    rw [List.getElem?_append_left h1, List.getElem?_take, if_pos hr, List.getElem?_drop, List.getD_eq_getElem?_getD, List.getElem?_eq_getElem h]
    rfl
  · have h1 : ((obj.drop (m * s)).take s).length ≤ r := by simp; omega
    rw [List.getElem?_append_right h1, List.getElem?_replicate, if_pos (by omega), List.getD_eq_getElem?_getD, List.getElem?_eq_none (by omega)]
    rfl
theorem piece_map (obj : List UInt8) (s k : Nat) : pieceL obj s k = (List.range s).map fun r => obj.getD (k * s + r) 0 := by
  apply List.ext_getElem?
  intro r
  by_cases h : r < s
  · rw [piece_get obj s k r h, List.getElem?_map, List.getElem?_range h]; rfl
  · rw [List.getElem?_eq_none (by rw [pieceL_length]; omega), List.getElem?_eq_none (by simp; omega)]
theorem cut_flat (obj : List UInt8) (s : Nat) : ∀ k, (cutL obj s k).flatten = (List.range (k * s)).map fun j => obj.getD j 0
  | 0 => by simp [cutL]
  | k + 1 => by
    have h : cutL obj s (k + 1) = cutL obj s k ++ [pieceL obj s k] := by simp [cutL, List.range_succ]
    rw [h, List.flatten_append, cut_flat obj s k, piece_map, Nat.add_mul, Nat.one_mul, List.range_add, List.map_append]
    simp [Function.comp_def]
theorem cut_flat_length (obj : List UInt8) (s k : Nat) : (cutL obj s k).flatten.length = k * s := by rw [cut_flat]; simp
theorem cut_take_obj (obj : List UInt8) (s q : Nat) (h : obj.length ≤ q * s) : (cutL obj s q).flatten.take obj.length = obj := by
  apply List.ext_getElem?
  intro j
  rw [List.getElem?_take]
  by_cases hj : j < obj.length
  · rw [if_pos hj, cut_flat, List.getElem?_map, List.getElem?_range (by omega)]
    simp [List.getD_eq_getElem?_getD, hj]
  · rw [if_neg hj, List.getElem?_eq_none (by omega)]

/-- of full rank the data are the symbols. -/
theorem full_data {X V : List (List UInt8)} {q s : Nat} (hX : ∀ l, l ∈ X → l.length = s) (hXq : X.length = q) (hV : Red V q) (hVq : V.length = q) : (V.map fun v => combL v X s) = X := by
  apply List.ext_getElem
  · rw [List.length_map, hVq, hXq]
  · intro i h1 h2
    rw [List.getElem_map]
    rw [List.length_map] at h1
    apply fn_ext'
    · rw [combL_length hX, hX _ (List.getElem_mem h2)]
    · rw [fn_combL hX, cf_unit h2 (hV.full_unit hVq i h1) X.length (Nat.le_refl _), if_pos h2]

set_option maxRecDepth 100000 in
set_option maxHeartbeats 4000000 in
theorem take_full (T E n s q id : Nat) (S : Nat → Prop) (hnm : n ≤ 9223372036854775807) (hs1 : 1 ≤ s) (hsm : s ≤ 1000000) (hq1 : 1 ≤ q) (V : List (List UInt8)) (D : List UInt8 → List UInt8) (mx : Nat) (hmx9 : mx ≤ 1000) (a : Option Addr) (len cap : Nat) (l : List UInt8) (w : World) (htab : Tab w) (hs : Bs w a len cap l) (hmx : len ≤ 1000000) (hTS : TakS w S T E n s q id V D mx) (hVq : V.length = q) (hE : packErr n s q id l = 0) :
    Calls Tryz.prog 16 #[.pointer (some ⟨T, 0, none⟩), .slice a len cap] w (TakePost S T E n s q id V D (mx + 1) w) := by
  obtain ⟨g, es, hes0, hT, hG, hEE, hSE, hST, hSlt, hRed⟩ := hTS
  have hes : es.length ≤ 1000 := by omega
  rw [if_pos hVq] at hT
  have hTE : E ≠ T := fun e => hST (e ▸ hSE)
  have HL := Lib.hid fun w ht hb hg => gateLook_any n s q id (by omega) (by omega) (by omega) (by omega) a len cap l g es hes w ht hb (by omega) hg
  obtain ⟨PE, ePE⟩ : ∃ x, packErr n s q id l = x := ⟨_, rfl⟩
  obtain ⟨⟨gm, go, gn, gd, gs, lb, lp⟩, eG⟩ : ∃ x, packGot n s q id l = x := ⟨_, rfl⟩
  rw [ePE] at hE
  subst hE
  rw [ePE, eG] at HL
  have HST := Lib.hid hST
  have HSE := Lib.hid hSE
  have HSLT := Lib.hid hSlt
  have HEE := Lib.hid hEE
  have HRED := Lib.hid hRed
  have HVQ : Hid ((if V.length = q then 1 else 0) = 1) := if_pos hVq
  obtain ⟨t0, t1, t2, t3, t4, t5, t6, tf⟩ := seven_cells hT
  have HT := Lib.hid htab
  have HS := Lib.hid hs
  have HTA := Lib.hid hT
  have HGA := Lib.hid hG
  clear ePE eG htab hs hT hG hST hSE hSlt hEE hRed hVq
  go_enter Tryz.func16, Tryz.ntmps16
  go_wp2_with fail
  refine (HL.out w HT.out HS.out HGA.out).mono ?_
  rintro e w1 ⟨g', a1, k1, c1, a2, k2, c2, rfl, hga, hb1, hb2, hg⟩
  have hal := (hg.alloc (.cells #[.int .i64 (n : Int), .int .i64 (s : Int), .int .i64 (q : Int), .int .u32 (id : Int), .map (some g')] 102)).alloc (.cells #[.int .u8 (gm : Int), .int .u32 (go : Int), .int .u32 (gn : Int), .int .u8 (gd : Int), .slice a1 k1 c1, .int .u64 (gs : Int), .slice a2 k2 c2] 96)
  have hal1 := ((Gr.refl w1).alloc (.cells #[.int .i64 (n : Int), .int .i64 (s : Int), .int .i64 (q : Int), .int .u32 (id : Int), .map (some g')] 102)).alloc (.cells #[.int .u8 (gm : Int), .int .u32 (go : Int), .int .u32 (gn : Int), .int .u8 (gd : Int), .slice a1 k1 c1, .int .u64 (gs : Int), .slice a2 k2 c2] 96)
  have HTA1 := Lib.hid (HTA.out.gr hal)
  have HGA1 := Lib.hid (hga.gr hal1)
  have HW1 := Lib.hid hal
  have hG1 := Gr.heap ((Gr.refl _).alloc (.cells #[.int .u8 (gm : Int), .int .u32 (go : Int), .int .u32 (gn : Int), .int .u8 (gd : Int), .slice a1 k1 c1, .int .u64 (gs : Int), .slice a2 k2 c2] 96)) (heap_alloc_new w1 (.cells #[.int .i64 (n : Int), .int .i64 (s : Int), .int .i64 (q : Int), .int .u32 (id : Int), .map (some g')] 102))
  obtain ⟨x0, x1, x2, x3, x4, xf⟩ := five_cells hG1
  obtain ⟨t0, t1, t2, t3, t4, t5, t6, tf⟩ := seven_cells HTA1.out
  have hTs := lt_of_block HTA1.out
  obtain ⟨hta, hgb⟩ := HTA1.out.gate (some g')
  have HTA2 := Lib.hid hta
  have HGB := Lib.hid ((GrB.of_gr (b := T) HW1.out).trans hgb)
  have HGA2 := Lib.hid (HGA1.out.grb hgb (GateAt.ne HGA1.out HTA1.out))
  have HE2 := Lib.hid ((HEE.out.gr hal).gapT HTA1.out hgb hTE HST.out)
  have HGS : Hid (GrS (fun b => b = T ∨ S b) w _) := (GrS.of_gr HW1.out).grbT HTA1.out hgb (.inl (.inl rfl))
  clear hg hal hal1 hga hb1 hb2 hG1 hta hgb
  go_wp2
  first | go_ret | go_ret2
  exact TakePost.mk g' (0 :: es) 1 rfl HVQ HTA2.out HGA2.out (by simp; omega) HE2.out HSE.out HST.out (fun b hb => .inl hb) HRED.out hs1 hq1 HGS.out HSE.out


/-- TAKE, whatever is known. -/
theorem take_all (T E n s q id : Nat) (S : Nat → Prop) (hP : planErr n s q = 0) (hnm : n ≤ 1000000000) (V : List (List UInt8)) (D : List UInt8 → List UInt8) (hD : Lin D q s) (mx : Nat) (hmx9 : mx ≤ 1000) (a : Option Addr) (len cap : Nat) (l v : List UInt8) (w : World) (htab : Tab w) (hs : Bs w a len cap l) (hmx : len ≤ 1000000) (hTS : TakS w S T E n s q id V D mx) (hgood : Goodp n s q id D l v) :
    Calls Tryz.prog 16 #[.pointer (some ⟨T, 0, none⟩), .slice a len cap] w (TakePost S T E n s q id (putV V v) D (mx + 1) w) := by
  obtain ⟨hs1, hs2, hq1, hq2⟩ := plan_bounds hP
  by_cases hVq : V.length = q
  · obtain ⟨m, nn, sd, lb, hsd, hpe, hpg, hfit, hlb, hrv, hvl⟩ := hgood
    rw [hTS.red.full_put hVq hvl]
    exact take_full T E n s q id S (by omega) hs1 (by omega) hq1 V D mx hmx9 a len cap l w htab hs hmx hTS hVq hpe
  · exact take_new T E n s q id S (by omega) hs1 (by omega) hq1 (by omega) V D hD mx hmx9 a len cap l v w htab hs hmx hTS hVq hgood

theorem takerNew_S (n s q id : Nat) (D : List UInt8 → List UInt8) (hP : planErr n s q = 0) (hnm : n ≤ 9223372036854775807) (w : World) :
    Calls Tryz.prog 15 #[.agg #[.int .i64 (n : Int), .int .i64 (s : Int), .int .i64 (q : Int), .int .u32 (id : Int)]] w fun e w' => ∃ T E, e = .returned (.tuple #[.pointer (some ⟨T, 0, none⟩), .int .i64 0]) ∧ w.heap.size ≤ E ∧ E < T ∧ TakS w' (fun b => b = E) T E n s q id [] D 0 ∧ Gr w w' := by
  obtain ⟨hs1, hs2, hq1, hq2⟩ := plan_bounds hP
  refine (takerNew_ok n s q id hP hnm w).mono ?_
  rintro e w' ⟨T, E, he, h1, h2, h3, h4, h5⟩
  refine ⟨T, E, he, h1, h2, ⟨none, [], Nat.le_refl _, by rw [if_neg (by show ¬ 0 = q; omega)]; exact h3, GateAt.none _, ⟨_, h4, PrV.nil _ _ _ _ _, (fun e => by cases e)⟩, rfl, by omega, fun b hb => by rw [hb]; exact lt_of_block h4, red_nil q⟩, h5⟩

set_option maxHeartbeats 1000000 in
theorem takerRank_S (T E n s q id mx : Nat) (S : Nat → Prop) (V : List (List UInt8)) (D : List UInt8 → List UInt8) (w : World) (h : TakS w S T E n s q id V D mx) :
    Calls Tryz.prog 21 #[.pointer (some ⟨T, 0, none⟩)] w fun e w' => e = .returned (.int .i64 (V.length : Int)) ∧ w = w' := by
  obtain ⟨g, es, _, hT, _, hE, _⟩ := h
  obtain ⟨r, a, c, rfl, hc⟩ := hE.cells
  exact takerRank_any T E n s q id _ g q s V.length c a w hT hc
theorem takerStatus_S (T E n s q id mx : Nat) (S : Nat → Prop) (V : List (List UInt8)) (D : List UInt8 → List UInt8) (w : World) (h : TakS w S T E n s q id V D mx) :
    Calls Tryz.prog 19 #[.pointer (some ⟨T, 0, none⟩)] w fun e w' => e = .returned (.int .i64 ((if V.length = q then 1 else 0 : Nat) : Int)) ∧ w = w' := by
  obtain ⟨g, es, _, hT, _⟩ := h
  exact takerStatus_any T E n s q id _ g w hT

set_option maxHeartbeats 1000000 in
theorem takerRows_S (T E n s q id mx : Nat) (hs : s ≤ 65535) (hq : q ≤ 4096) (S : Nat → Prop) (V : List (List UInt8)) (D : List UInt8 → List UInt8) (w : World) (h : TakS w S T E n s q id V D mx) :
    Calls Tryz.prog 18 #[.pointer (some ⟨T, 0, none⟩)] w fun e w' => ∃ rv, e = .returned rv ∧ PrV w' (fun b => w.heap.size ≤ b) rv V D q s ∧ Gr w w' := by
  obtain ⟨g, es, _, hT, _, hE, _, _, _, hR⟩ := h
  have HR := Lib.hid (elimRows_ok E q s S V D (by have := hR.ech.rank_k; omega) w hE (by omega) (by omega))
  obtain ⟨t0, t1, t2, t3, t4, t5, t6, tf⟩ := seven_cells hT
  clear hT hE hR
  go_enter Tryz.func18, Tryz.ntmps18
  go_wp2_with fail
  refine HR.out.mono ?_
  rintro e w1 ⟨rv, rfl, hp, hg⟩
  have HF := Lib.hid (show _ ∧ _ from ⟨hp, hg⟩)
  clear hp hg
  go_wp2
  first | go_ret | go_ret2
  exact ⟨rv, rfl, HF.out⟩

set_option maxRecDepth 100000 in
set_option maxHeartbeats 2000000 in
theorem takerObject_done (T E n s q id mx : Nat) (hP : planErr n s q = 0) (hnm : n ≤ 9223372036854775807) (S : Nat → Prop) (V : List (List UInt8)) (D : List UInt8 → List UInt8) (hD : ∀ v, (D v).length = s) (hnq : n ≤ q * s) (w : World) (h : TakS w S T E n s q id V D mx) (hVq : V.length = q) :
    Calls Tryz.prog 24 #[.pointer (some ⟨T, 0, none⟩)] w fun e w' => ∃ a c, e = .returned (.tuple #[.slice a n c, .int .i64 0]) ∧ Bs w' a n c ((V.map D).flatten.take n) ∧ Gr w w' := by
  obtain ⟨hs1, hs2, hq1, hq2⟩ := plan_bounds hP
  obtain ⟨g, es, _, hT, _, hE, _⟩ := h
  rw [if_pos hVq] at hT
  have HS := Lib.hid (elimSolve_ok E q s S V D hVq (by omega) (by omega) w hE)
  have HJ := Lib.hid fun S w h => join_ok n s q id hP hnm S 0 q (V.map D) w h (fun l hl => by obtain ⟨v, _, rfl⟩ := List.mem_map.1 hl; exact hD v) (by omega) (by omega) hs1 hq1 hnq
  have HT := Lib.hid hT
  obtain ⟨t0, t1, t2, t3, t4, t5, t6, tf⟩ := seven_cells hT
  clear hP hT hE hD hnq
  go_enter Tryz.func24, Tryz.ntmps24
  go_wp2_with fail
  refine HS.out.mono ?_
  rintro e w1 ⟨S, rfl, hss, hg⟩
  have HG := Lib.hid hg
  have HSS := Lib.hid hss
  obtain ⟨t0, t1, t2, t3, t4, t5, t6, tf⟩ := seven_cells (hg.heap HT.out)
  clear hg hss
  go_wp2_with fail
  refine (HJ.out S w1 HSS.out).mono ?_
  rintro e w2 ⟨a, c, rfl, hb, hg⟩
  have HF := Lib.hid (show _ ∧ _ from ⟨hb, HG.out.trans hg⟩)
  clear hb hg t0 t1 t2 t3 t4 t5 t6 tf
  go_wp2
  first | go_ret | go_ret2
  exact ⟨a, c, rfl, HF.out.1, HF.out.2⟩

set_option maxHeartbeats 1000000 in
theorem takerObject_pend (T E n s q id mx : Nat) (S : Nat → Prop) (V : List (List UInt8)) (D : List UInt8 → List UInt8) (w : World) (h : TakS w S T E n s q id V D mx) (hVq : V.length ≠ q) :
    Calls Tryz.prog 24 #[.pointer (some ⟨T, 0, none⟩)] w fun e w' => e = .returned (.tuple #[.slice none 0 0, .int .i64 12]) ∧ w = w' := by
  obtain ⟨g, es, _, hT, _⟩ := h
  rw [if_neg hVq] at hT
  obtain ⟨t0, t1, t2, t3, t4, t5, t6, tf⟩ := seven_cells hT
  clear hT
  go_enter Tryz.func24, Tryz.ntmps24
  go_wp2
  first | go_ret | go_ret2
  exact ⟨rfl, rfl⟩
end Go.Proofs.YtddopoojmadpjaaGreatDoor
