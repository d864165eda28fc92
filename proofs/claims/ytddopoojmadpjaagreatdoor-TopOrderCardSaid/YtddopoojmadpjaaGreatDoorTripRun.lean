/-
  Packets in whatever order, some of them twice, tell the same.
  What stands while a trip's packets are taken.
  The walk of trip.Run: many packets; acts that move and double.
-/
import Derived.Test.YtddopoojmadpjaaGreatDoorMixed
import Derived.Test.YtddopoojmadpjaaGreatDoorApply
import Derived.Test.YtddopoojmadpjaaGreatDoorTakerMore
import Derived.Test.YtddopoojmadpjaaGreatDoorSummed
import Derived.Test.YtddopoojmadpjaaGreatDoorTopSent
namespace Go.Proofs.YtddopoojmadpjaaGreatDoor
open Go.RowKit
set_option linter.unusedVariables false

/-- the vector of what a packet tells. -/
def vecGot (n s q id : Nat) (l : List UInt8) : List UInt8 := rowVec (packGot n s q id l).m (packGot n s q id l).lb (packGot n s q id l).sd q
theorem Goodp.vec {n s q id : Nat} {D : List UInt8 → List UInt8} {l v : List UInt8} (h : Goodp n s q id D l v) : v = vecGot n s q id l := by
  obtain ⟨m, nn, sd, lb, _, _, hg, _, _, hv, _⟩ := h
  unfold vecGot
  rw [hg]; exact hv.symm
theorem goods_same {n s q id : Nat} {D : List UInt8 → List UInt8} {LA VA LB : List (List UInt8)} (h : Goods n s q id D LA VA) (hm : ∀ l, l ∈ LA ↔ l ∈ LB) : ∃ VB, Goods n s q id D LB VB ∧ ∀ v, v ∈ VA ↔ v ∈ VB := by
  have hone : ∀ (l : List UInt8), l ∈ LA → Goodp n s q id D l (vecGot n s q id l) ∧ l.length ≤ 1000000 ∧ vecGot n s q id l ∈ VA := fun l hl => by
    obtain ⟨i, hi, rfl⟩ := List.getElem_of_mem hl
    have hv : VA[i]? = some (VA[i]'(by rw [h.1]; exact hi)) := List.getElem?_eq_getElem _
    obtain ⟨h1, h2⟩ := h.2 i _ _ (List.getElem?_eq_getElem hi) hv
    have e := h1.vec
    exact ⟨by rw [← e]; exact h1, h2, by rw [← e]; exact List.getElem_mem _⟩
  refine ⟨LB.map (vecGot n s q id), ⟨by simp, fun i l v hl hv => ?_⟩, fun v => ⟨fun hv => ?_, fun hv => ?_⟩⟩
  · rw [List.getElem?_map, hl] at hv
    obtain rfl : vecGot n s q id l = v := by simpa using hv
    obtain ⟨h1, h2, _⟩ := hone l ((hm l).2 (List.mem_of_getElem? hl))
    exact ⟨h1, h2⟩
  · obtain ⟨i, hi, rfl⟩ := List.getElem_of_mem hv
    have hi' : i < LA.length := by rw [← h.1]; exact hi
    obtain ⟨h1, _⟩ := h.2 i _ _ (List.getElem?_eq_getElem hi') (List.getElem?_eq_getElem hi)
    rw [h1.vec]
    exact List.mem_map.2 ⟨LA[i], (hm _).1 (List.getElem_mem _), rfl⟩
  · obtain ⟨l, hl, rfl⟩ := List.mem_map.1 hv
    exact (hone l ((hm l).2 hl)).2.2
theorem put_same {q : Nat} {VA VB : List (List UInt8)} (hq : ∀ v, v ∈ VA → v.length = q) (hm : ∀ v, v ∈ VA ↔ v ∈ VB) : putAll [] VA = putAll [] VB :=
  putAll_one (k := q) hq (fun v hv => hq v ((hm v).2 hv)) (fun x ⟨v, hv, e⟩ => Sp.mem ⟨v, (hm v).1 hv, e⟩) (fun x ⟨v, hv, e⟩ => Sp.mem ⟨v, (hm v).2 hv, e⟩)
end Go.Proofs.YtddopoojmadpjaaGreatDoor

namespace Go.Proofs.YtddopoojmadpjaaGreatDoor
open Go.RowKit
set_option linter.unusedVariables false

theorem ownsRow_keptS {w w' : World} {S : Nat → Prop} {base : Nat} {e : TypeId} {size : Nat} {v : Value} {n : Nat} {xs : List Value} (h : w.ownsRow base e size v n xs) (g : GrS S w w') (hn : ∀ k, v.ownBlock = some k → ¬ S k) : w'.ownsRow base e size v n xs := by
  refine ⟨h.1, ?_⟩
  rcases h.2 with hh | ⟨b, cap, cur, rfl, hb, hg, r⟩
  · exact .inl hh
  · exact .inr ⟨b, cap, cur, rfl, hb, g.heap hg (hn b rfl), r⟩
/-- the report's block RB, its steps' own row, and the taker. -/
def TripSt (w5 w : World) (n s q id : Nat) (D : List UInt8 → List UInt8) (T E RB la : Nat) (V : List (List UInt8)) (m : Nat) (sv : Value) (sn : Nat) : Prop :=
  ∃ (S : Nat → Prop) (xs : List Value), TakS w S T E n s q id V D m ∧ (∀ b, S b → b = E ∨ w5.heap.size ≤ b) ∧ w.heap[RB]? = some (.cells #[.int .i64 (la : Int), sv, .int .i64 0, .int .i64 0, .slice none 0 0] 77) ∧ w.ownsRow w5.heap.size 136 3 sv sn xs ∧ (∀ k, sv.ownBlock = some k → ¬ S k) ∧ GrS (fun b => b = T ∨ b = E ∨ b = RB) w5 w
theorem TripSt.gr {w5 w w' : World} {n s q id : Nat} {D : List UInt8 → List UInt8} {T E RB la : Nat} {V : List (List UInt8)} {m : Nat} {sv : Value} {sn : Nat} (h : TripSt w5 w n s q id D T E RB la V m sv sn) (hg : Gr w w') : TripSt w5 w' n s q id D T E RB la V m sv sn := by
  obtain ⟨S, xs, h1, h2, h3, h4, h5, h6⟩ := h
  exact ⟨S, xs, h1.gr hg, h2, hg.heap h3, ownsRow_keptS h4 (GrS.of_gr (S := fun _ => False) hg) (fun _ _ h => h), h5, h6.gr hg⟩
theorem TripSt.val {w5 w : World} {n s q id : Nat} {D : List UInt8 → List UInt8} {T E RB la : Nat} {V : List (List UInt8)} {m : Nat} {sv : Value} {sn : Nat} (h : TripSt w5 w n s q id D T E RB la V m sv sn) : ∃ sa sc, sv = .slice sa sn sc := by
  obtain ⟨S, xs, h1, h2, h3, h4, h5, h6⟩ := h
  rcases h4.2 with ⟨rfl, hn⟩ | ⟨g, cap, cur, rfl, _⟩
  · exact ⟨none, 0, by rw [hn]⟩
  · exact ⟨_, cap, rfl⟩
theorem TripSt.take {w5 w : World} {n s q id : Nat} {D : List UInt8 → List UInt8} {T E RB la : Nat} {V : List (List UInt8)} {m : Nat} {sv : Value} {sn : Nat} (h : TripSt w5 w n s q id D T E RB la V m sv sn) (hT : T < w5.heap.size) (hRB : RB < w5.heap.size) (hTR : RB ≠ T) (hER : RB ≠ E) (hP : planErr n s q = 0) (hnm : n ≤ 1000000000) (hD : Lin D q s) (hm : m ≤ 1000) (htab : Tab w) (a : Option Addr) (len cap : Nat) (l v : List UInt8) (hs : Bs w a len cap l) (hg : Goodp n s q id D l v) (hl : l.length ≤ 1000000) :
    Calls Tryz.prog 16 #[.pointer (some ⟨T, 0, none⟩), .slice a len cap] w fun e w' => e = .returned (.int .i64 0) ∧ TripSt w5 w' n s q id D T E RB la (putV V v) (m + 1) sv sn := by
  obtain ⟨S, xs, h1, h2, h3, h4, h5, h6⟩ := h
  refine (take_all T E n s q id S hP hnm V D hD m hm a len cap l v w htab hs (by rw [← hs.1]; exact hl) h1 hg).mono ?_
  rintro e w' ⟨he, S', hS', hts, hgs⟩
  have hlt := World.ownsRow.lt h4
  refine ⟨he, S', xs, hts, fun b hb => (hS' b hb).elim (h2 b) (fun h => .inr (Nat.le_trans h6.size h)), hgs.heap h3 (fun hb => hb.elim hTR (fun hb => (h2 RB hb).elim hER (fun h => by omega))), ownsRow_keptS h4 hgs (fun k hk hb => hb.elim (fun e => by have := (hlt k hk).1; omega) (h5 k hk)), fun k hk hb => (hS' k hb).elim (h5 k hk) (fun h => by have := (hlt k hk).2; omega), h6.trans hgs (fun b hb => hb.elim (fun e => .inl (.inl e)) (fun hb => (h2 b hb).elim (fun e => .inl (.inr (.inl e))) .inr))⟩

theorem infoStep : (Tryz.prog.info? 136).map (fun i => (i.zero, i.size, i.bytes)) = some (some (.agg #[.int .i64 0, .int .i64 0, .int .i64 0]), 3, 24) := by kernel_rfl
/-- one more step, appended and stored. -/
theorem TripSt.step {w5 w : World} {n s q id : Nat} {D : List UInt8 → List UInt8} {T E RB la : Nat} {V : List (List UInt8)} {m : Nat} {sv : Value} {sn : Nat} (h : TripSt w5 w n s q id D T E RB la V m sv sn) (hT : T < w5.heap.size) (hRB : RB < w5.heap.size) (hTR : RB ≠ T) (hER : RB ≠ E) (hsn : sn ≤ 1000) (ty : TypeId) {b : Nat} {x0 x1 x2 : Value} (c0 : w.cell? ⟨b, 0, none⟩ = some x0) (c1 : w.cell? ⟨b, 1, none⟩ = some x1) (c2 : w.cell? ⟨b, 2, none⟩ = some x2) (o0 : x0.oneCell' = true) (o1 : x1.oneCell' = true) (o2 : x2.oneCell' = true) :
    ∃ sv' w', (Builtin.append_ #[75, 75] ty #[sv, .slice (some ⟨b, 0, none⟩) 1 1]).run Tryz.prog w = .ok sv' w' ∧ w'.heap[RB]? = w.heap[RB]? ∧ TripSt w5 (w'.setCell ⟨RB, 1, none⟩ sv') n s q id D T E RB la V m sv' (sn + 1) := by
  obtain ⟨i, hi, hz0, hz1, hz2⟩ := info_parts infoStep
  obtain ⟨S, xs, h1, h2, h3, h4, h5, h6⟩ := h
  obtain ⟨sv', w', hr, ho, hgb, _, hb⟩ := run_append_own_at (P := Tryz.prog) w w5.heap.size _ ty _ i _ 3 24 Tryz.underlying75 hi hz0 hz1 hz2 rfl (by decide) sv sn xs h4 ⟨b, 0, none⟩ 1 1 [x0, x1, x2] rfl
    (fun j u hu => by
      match j, hu with
      | 0, hu => simp at hu; subst hu; rw [Addr.add_zero']; exact c0
      | 1, hu => simp at hu; subst hu; exact c1
      | 2, hu => simp at hu; subst hu; exact c2
      | j + 3, hu => simp at hu) (fun u hu => by simp at hu; rcases hu with rfl | rfl | rfl <;> assumption) (by unfold maxLen; omega) (by omega) h6.size
  have hlt := World.ownsRow.lt h4
  have hRw := lt_of_block h3
  have hRk : w'.heap[RB]? = w.heap[RB]? := hgb.block RB hRw (fun e => by have := (hlt RB e.symm).1; omega)
  have hSlt : ∀ b, S b → b < w.heap.size := by obtain ⟨_, _, _, _, _, _, _, _, h, _⟩ := h1; exact h
  have hTlt := h1.lt
  -- the append turns the steps' own block alone
  have hg1 : GrS (fun b => sv.ownBlock = some b) w w' := GrS.of_grown hgb (fun b e => e) fun b o e ho' => by
    rcases h4.2 with ⟨rfl, _⟩ | ⟨g, cap, cur, rfl, _, hg, _⟩
    · cases e
    · cases e
      rw [hg] at ho'; cases ho'
      exact ⟨_, _, _, rfl⟩
  have hRB' := hRk.trans h3
  have hgb2 : GrB w' RB (w'.setCell ⟨RB, 1, none⟩ sv') := (GrB.refl w' RB).set (.inl rfl) sv'
  have hg2 : GrS (fun b => b = RB) w' (w'.setCell ⟨RB, 1, none⟩ sv') := GrS.of_grb hgb2 hRB' rfl
  have hh := heap_set (i := 1) hRB' sv'
  have hown' : ∀ k, sv'.ownBlock = some k → ¬ S k ∧ k ≠ RB := fun k hk => by
    rcases hb with hb | hb
    · rw [hb] at hk
      exact ⟨h5 k hk, fun e => by have := (hlt k hk).1; omega⟩
    · rw [hb] at hk
      cases hk
      exact ⟨fun h => by have := hSlt _ h; omega, by omega⟩
  have t1 := h1.grS hg1 (fun e => by have := (hlt T e).1; omega) (fun b hb e => h5 b e hb)
  have t2 := t1.grS hg2 (fun e => hTR e.symm) (fun b hb e => by
    rcases h2 b hb with h | h
    · exact hER (e.symm.trans h)
    · have e' : b = RB := e
      omega)
  refine ⟨sv', w', hr, hRk, S, xs ++ [x0, x1, x2], t2, h2, ?_, ownsRow_keptS ho hg2 (fun k hk e => (hown' k hk).2 e), fun k hk => (hown' k hk).1, (h6.trans hg1 (fun b e => .inr (hlt b e).1)).trans hg2 (fun b e => .inl (.inr (.inr e)))⟩
  simpa only [List.setIfInBounds_toArray, List.set_cons_zero, List.set_cons_succ] using hh
end Go.Proofs.YtddopoojmadpjaaGreatDoor

namespace Go.Proofs.YtddopoojmadpjaaGreatDoor
open Go.RowKit
set_option linter.unusedVariables false

theorem rep_noB {a b c : Int} {x : Option Addr} {n m : Nat} {sa : Option Addr} {sn sc : Nat} (j : Nat) (u : Int) : (#[.int .i64 a, .slice sa sn sc, .int .i64 b, .int .i64 c, .slice x n m] : Array Value)[j]? ≠ some (.int .u8 u) := by
  match j with | 0 => simp | 1 => simp | 2 => simp | 3 => simp | 4 => simp | j + 5 => simp
/-- what a trip comes to. -/
def TripOut (q : Nat) (obj : List UInt8) (VA : List (List UInt8)) (w : World) (e : Ending) (w' : World) : Prop :=
  ∃ (sn ST : Nat) (sa : Option Addr) (sk sc : Nat) (oa : Option Addr) (ol oc : Nat), e = .returned (.tuple #[.agg #[.int .i64 (sn : Int), .slice sa sk sc, .int .i64 ((putAll [] VA).length : Int), .int .i64 (ST : Int), .slice oa ol oc], .int .i64 0]) ∧ ST = (if (putAll [] VA).length = q then 1 else 0) ∧ Bs w' oa ol oc (if (putAll [] VA).length = q then obj else []) ∧ Gr w w'

set_option maxRecDepth 100000 in
set_option maxHeartbeats 4000000 in
theorem tripRun_ok (n s q id : Nat) (hP : planErr n s q = 0) (hid : id < 4294967296) (hnm : n ≤ 1000000000) (ao : Option Addr) (co : Nat) (obj : List UInt8) (a : Option Addr) (len cap : Nat) (ss : List Src) (aa : Option Addr) (na ca : Nat) (acs : List (Nat × Nat × Nat)) (hna : na ≤ 40) (w : World) (htab : Tab w) (ho : Bs w ao n co obj) (h : Srcs w a len cap ss) (hf : fewOk ss) (hA : ActsV w aa na ca acs) :
    Calls Tryz.prog 27 #[.agg #[.int .i64 (n : Int), .int .i64 (s : Int), .int .i64 (q : Int), .int .u32 (id : Int)], .slice ao n co, .slice a len cap, .slice aa na ca] w (TripOut q obj (vecTo q ss len) w) := by
  obtain ⟨hs1, hs2, hq1, hq2⟩ := plan_bounds hP
  have CN := Lib.hid fun w h => senderNew_ok n s q id hP ao co obj w h (by omega)
  have CT := Lib.hid fun w => takerNew_S n s q id (dat obj s q) hP (by omega) w
  have H := Lib.hid h
  have HT := Lib.hid htab
  have HP := Lib.hid hP
  have HF := Lib.hid hf
  have HACT := Lib.hid hA
  have HLEN : Hid (ss.length = len) := h.1
  have hlen20 : len ≤ 20 := by rw [← h.1]; exact hf.2
  have hal := ((Gr.refl w).alloc (.cells #[.int .i64 (n : Int), .int .i64 (s : Int), .int .i64 (q : Int), .int .u32 (id : Int)] 28)).alloc (.cells #[.int .i64 0, .slice none 0 0, .int .i64 0, .int .i64 0, .slice none 0 0] 77)
  have hPL := Gr.heap ((Gr.refl _).alloc (.cells #[.int .i64 0, .slice none 0 0, .int .i64 0, .int .i64 0, .slice none 0 0] 77)) (heap_alloc_new w (.cells #[.int .i64 (n : Int), .int .i64 (s : Int), .int .i64 (q : Int), .int .u32 (id : Int)] 28))
  have hRE := heap_alloc_new (w.alloc (.cells #[.int .i64 (n : Int), .int .i64 (s : Int), .int .i64 (q : Int), .int .u32 (id : Int)] 28)) (.cells #[.int .i64 0, .slice none 0 0, .int .i64 0, .int .i64 0, .slice none 0 0] 77)
  rw [World.size_alloc] at hRE
  have HPL := Lib.hid hPL
  have HRE := Lib.hid hRE
  have HAL := Lib.hid hal
  have HO := Lib.hid ho
  obtain ⟨p0, p1, p2, p3⟩ := p_four_cells hPL
  clear h htab ho hP hal hf hA hPL hRE
  go_enter Tryz.func27, Tryz.ntmps27
  go_wp2_with fail
  refine (CN.out _ (HO.out.below HAL.out)).mono ?_
  rintro e w1 ⟨B, hB, rfl, ⟨S, hc0, hss, hSB, hSl⟩, hg⟩
  have HC01 : Hid (SendCells w1 B n s q id S 0) := hc0
  have HSS1 := Lib.hid hss
  have HW1 := Lib.hid (HAL.out.trans hg)
  have HPL1 := Lib.hid (hg.heap HPL.out)
  have HRE1 := Lib.hid (hg.heap HRE.out)
  have hBw : w.heap.size + 2 ≤ B := by simp only [World.size_alloc] at hB; omega
  have hB1 : B < w1.heap.size := lt_of_block hc0
  obtain ⟨p0, p1, p2, p3⟩ := p_four_cells HPL1.out
  clear hc0 hss hg hB
  go_wp2_with fail
  refine (CT.out w1).mono ?_
  rintro e w2 ⟨T, E, rfl, hE1, hET, hts, hg⟩
  have HTS2 := Lib.hid hts
  have HC0 : Hid (SendCells w2 B n s q id S 0) := hg.heap HC01.out
  have HSS := Lib.hid (HSS1.out.below hg)
  have HW2 := Lib.hid (HW1.out.trans hg)
  have HRE2 := Lib.hid (hg.heap HRE1.out)
  have hSl2 : S < w2.heap.size := Nat.lt_of_lt_of_le hSl hg.size
  have hT2 : T < w2.heap.size := hts.lt
  have hB2 : B < w2.heap.size := Nat.lt_of_lt_of_le hB1 hg.size
  clear hts hg p0 p1 p2 p3 HC01 HSS1 HW1 HPL1 HRE1 HPL HRE HAL CN CT
  go_wp2
  go_loopw [13, 43] (fun o i wr => ∃ (j : Nat) (v : Value), j ≤ len ∧ i = .int .i64 j ∧ v = o ∧ RowsV wr w2.heap.size v (sentTo n s q id obj ss j) none ∧ SendCells wr B n s q id S (nextTo q ss j) ∧ GrB w2 B wr) (fun _ i _ => len - (intOf i).toNat)
  case atStart => exact ⟨0, _, Nat.zero_le _, rfl, rfl, RowsV.nil _ _ _, HC0.out, GrB.refl _ _⟩
  case round =>
    obtain ⟨j, v, hj, rfl, rfl, hrow, hsc, hgr⟩ := hrel
    have HROW := Lib.hid hrow
    have HSC := Lib.hid hsc
    have HGR := Lib.hid hgr
    have HWR := Lib.hid (HW2.out.grb hgr (by omega))
    clear hrow hsc hgr
    by_cases hlt : j < len
    · obtain ⟨b, off, rfl, _⟩ := H.out.at_ (by omega)
      obtain ⟨x, a', c, hx, c0, c1, c2, hm, hb, hsd⟩ := (H.out.below HWR.out).get hlt
      have hxd : ss.getD j dSrc = x := by rw [List.getD_eq_getElem?_getD, hx]; rfl
      have hk60 : x.l.length ≤ 60 := HF.out.1 x (List.mem_of_getElem? hx)
      have hnx := nextTo_le q ss j
      have hal := (Gr.refl wr).alloc (.cells #[.int .u8 (x.m : Int), .slice a' x.l.length c, .int .u64 (x.sd : Int)] 41)
      have HSA : Hid (SendAt (wr.alloc (.cells #[.int .u8 (x.m : Int), .slice a' x.l.length c, .int .u64 (x.sd : Int)] 41)) B n s q id obj (nextTo q ss j)) := HC0.out.at_ HSS.out hSB hSl2 (HGR.out.gr hal) (hal.heap HSC.out)
      have HSC2 : Hid (SendCells (wr.alloc (.cells #[.int .u8 (x.m : Int), .slice a' x.l.length c, .int .u64 (x.sd : Int)] 41)) B n s q id S (nextTo q ss j)) := hal.heap HSC.out
      have HROW2 := Lib.hid (HROW.out.gr hal)
      have HGR2 := Lib.hid (HGR.out.gr hal)
      have HT2 := Lib.hid (HT.out.below (HWR.out.trans hal))
      have HB2 := Lib.hid (hb.below hal)
      obtain ⟨x0, x1, x2, -⟩ := three_cells (heap_alloc_new wr (.cells #[.int .u8 (x.m : Int), .slice a' x.l.length c, .int .u64 (x.sd : Int)] 41))
      have hown : v.ownBlock ≠ some B := fun e => by have := (HROW.out.lt _ e).1; omega
      have hownlt : ∀ k, v.ownBlock = some k → w2.heap.size ≤ k ∧ k < wr.heap.size := HROW.out.lt
      have HOWN := Lib.hid hown
      have HOLT := Lib.hid hownlt
      by_cases hE : rowErr x.m x.l.length q = 0
      · have CS := Lib.hid fun w ht h1 h2 => send_okS B n s q id HP.out hid (by omega) obj (nextTo q ss j) (by omega) x.m a' x.l.length c x.sd hsd x.l (by omega) hE w ht h1 h2
        have hok : okSrc q (ss.getD j dSrc) = true := by rw [hxd]; exact decide_eq_true hE
        have hst : sentTo n s q id obj ss (j + 1) = sentTo n s q id obj ss j ++ [sentL n s q id obj (nextTo q ss j) x.m x.l x.sd] := by rw [sentTo, if_pos hok, hxd]
        have hnt : nextTo q ss (j + 1) = nextTo q ss j + 1 := by rw [nextTo, if_pos hok]
        have hpos := sentL_pos n s q id obj (nextTo q ss j) x.m x.l x.sd
        have hll : (sentTo n s q id obj ss j).length ≤ 20 := by rw [sentTo_len]; omega
        have HST := Lib.hid hst
        have HNT := Lib.hid hnt
        obtain ⟨TX, eTX⟩ : ∃ T, sentL n s q id obj (nextTo q ss j) x.m x.l x.sd = T := ⟨_, rfl⟩
        rw [eTX] at CS HST hpos
        obtain ⟨LS, eLS⟩ : ∃ T, sentTo n s q id obj ss j = T := ⟨_, rfl⟩
        rw [eLS] at HST HROW HROW2 hll
        obtain ⟨NX, eNX⟩ : ∃ T, nextTo q ss j = T := ⟨_, rfl⟩
        rw [eNX] at CS HNT HSA HSC HSC2 hnx
        obtain ⟨xl, exl⟩ : ∃ k, x.l.length = k := ⟨_, rfl⟩
        obtain ⟨xm, exm⟩ : ∃ k, x.m = k := ⟨_, rfl⟩
        obtain ⟨xd, exd⟩ : ∃ k, x.sd = k := ⟨_, rfl⟩
        rw [exl, exm, exd] at CS HSA HSC2 HROW2 HGR2 HT2 HB2 x0 x1 x2 hal
        rw [exm] at c0
        rw [exl] at c1
        rw [exd] at c2
        clear hok hst hnt eTX eLS eNX hE hxd hx hb exl exm exd hk60 hm hsd hown hownlt HROW HSC
        go_wp2_with fail
        refine (CS.out _ HT2.out HB2.out HSA.out).mono ?_
        rintro e w3 ⟨a7, k7, c7, rfl, hb7, hf7, hsa7, hg7, S', e1, e2⟩
        have hk7 : 0 < k7 := by rw [← hb7.1]; exact hpos
        have hblk := hb7.blk hk7
        have hrow3 := HROW2.out.gap hg7 HSC2.out (fun j u => by match j with | 0 => simp | 1 => simp | 2 => simp | 3 => simp | 4 => simp | 5 => simp | j + 6 => simp) HOWN.out
        have hsc3 := SendCells.next HSC2.out hsa7 e1 e2
        have hgr3 := HGR2.out.trans hg7
        have hal4 := (Gr.refl w3).alloc (.cells #[.slice a7 k7 c7] 22)
        have hcl4 := one_cell (heap_alloc_new w3 (.cells #[.slice a7 k7 c7] 22))
        have hsz3 := hg7.size
        rw [World.size_alloc] at hsz3 hf7
        go_wp2_with (with_reducible refine wpList_hold (o := ⟨some 58, _, _, _, _, _⟩) ?_)
        change wpList _ _ _ _ _ _
        have hsz4 : w3.heap.size + 1 = (w3.alloc (.cells #[.slice a7 k7 c7] 22)).heap.size := by simp
        obtain ⟨W4, eW⟩ : ∃ W, w3.alloc (.cells #[.slice a7 k7 c7] 22) = W := ⟨_, rfl⟩
        rw [eW] at hal4 hcl4 hsz4 ⊢
        clear eW x0 x1 x2 c0 c1 c2
        have hgrw1 := hgr3.size
        refine wpList_append_rows rfl (.tmp 55) (.tmp 57) rfl w2.heap.size rfl (hrow3.gr hal4) rfl hcl4 (hb7.below hal4) (fun y hy => ⟨fun e => by have h1 := (HOLT.out _ e).2; have h2 := hf7 y hy; omega, by have := hblk y hy; omega⟩) (by omega) (by omega) ?_
        intro v4 w4 hr4 hg4 hn4
        have hown4 : ∀ k, v.ownBlock = some k → w2.heap.size ≤ k := fun k hk => (HOLT.out k hk).1
        have HR4 := Lib.hid hr4
        have HS4 : Hid (SendCells w4 B n s q id S (NX + 1)) := by
          show w4.heap[B]? = _
          rw [hg4.block B (by have := lt_of_block hsc3; omega) (fun e => HOWN.out e.symm)]
          exact hal4.heap hsc3
        have HG4 := Lib.hid ((hgr3.gr hal4).grown hg4 hown4)
        clear hr4 hg4 hn4 hown4 hrow3 hsc3 hgr3 hal4 hcl4 hb7 hf7 hsa7 hg7 e1 e2 hblk hsz3 hsz4 hgrw1
        go_wp2
        go_roundw
        case rel => exact ⟨j + 1, v4, by omega, by go_num, rfl, by rw [HST.out]; exact HR4.out, by rw [HNT.out]; exact HS4.out, HG4.out⟩
        case measure => simp [intOf]; omega
      · have CS := Lib.hid fun w h => send_bad B n s q id obj (nextTo q ss j) (by omega) x.m a' x.l.length c x.sd (by omega) hE w h
        have hok : ¬ okSrc q (ss.getD j dSrc) = true := by rw [hxd]; unfold okSrc; simpa using hE
        have HST : Hid (sentTo n s q id obj ss (j + 1) = sentTo n s q id obj ss j) := by show _ = _; rw [sentTo, if_neg hok]
        have HNT : Hid (nextTo q ss (j + 1) = nextTo q ss j) := by show _ = _; rw [nextTo, if_neg hok]
        obtain ⟨PE, ePE⟩ : ∃ T, rowErr x.m x.l.length q = T := ⟨_, rfl⟩
        rw [ePE] at CS hE
        obtain ⟨xl, exl⟩ : ∃ k, x.l.length = k := ⟨_, rfl⟩
        obtain ⟨xm, exm⟩ : ∃ k, x.m = k := ⟨_, rfl⟩
        obtain ⟨xd, exd⟩ : ∃ k, x.sd = k := ⟨_, rfl⟩
        rw [exl, exm, exd] at CS HSA HSC2 HROW2 HGR2 x0 x1 x2 hal
        rw [exm] at c0
        rw [exl] at c1
        rw [exd] at c2
        have hPE : ((PE : Int) == 0) = false := by rw [beq_eq_false_iff_ne]; omega
        clear hok ePE hE hxd hx hb exl exm exd hk60 hm hsd hown hownlt HROW HSC HB2 HT2
        go_wp2_with fail
        refine (CS.out _ HSA.out).mono ?_
        rintro e w3 ⟨rfl, hg7⟩
        have HR4 := Lib.hid (HROW2.out.gr hg7)
        have HS4 : Hid (SendCells w3 B n s q id S (nextTo q ss j)) := hg7.heap HSC2.out
        have HG4 := Lib.hid (HGR2.out.gr hg7)
        clear hg7 x0 x1 x2 c0 c1 c2
        go_wp2
        go_roundw
        case rel => exact ⟨j + 1, v, by omega, by go_num, rfl, by rw [HST.out]; exact HR4.out, by rw [HNT.out]; exact HS4.out, HG4.out⟩
        case measure => simp [intOf]; omega
    · have hjl : j = len := by omega
      have hge : (len : Int) ≤ (j : Int) := by omega
      obtain ⟨al, cl, rfl, hbss, _⟩ := HROW.out.bss
      rw [hjl] at hbss ⊢
      have hgda := goods_fr (n := n) (s := s) (q := q) (id := id) (obj := obj) (k := 0) (ss := ss) HP.out hid (by omega) HF.out H.out.sd len (by rw [HLEN.out]; exact Nat.le_refl _)
      rw [sentFr_zero] at hgda
      have hlal := sentTo_len n s q id obj ss len
      have hlan := nextTo_le q ss len
      have HGA := Lib.hid hgda
      have HBA := Lib.hid hbss
      obtain ⟨la, ela⟩ : ∃ x, (sentTo n s q id obj ss len).length = x := ⟨_, rfl⟩
      have hla : la ≤ 20 := by omega
      rw [ela] at HBA ⊢
      have ELA := Lib.hid ela
      obtain ⟨LA, eLA⟩ : ∃ x, sentTo n s q id obj ss len = x := ⟨_, rfl⟩
      rw [eLA] at HBA HGA ELA
      obtain ⟨VA, eVA⟩ : ∃ x, vecTo q ss len = x := ⟨_, rfl⟩
      rw [eVA] at HGA
      have EVA := Lib.hid eVA
      have hTB : T ≠ B := by omega
      have HTSr := Lib.hid (HTS2.out.grS (S1 := fun x => x = B) (GrS.of_grb HGR.out HC0.out rfl) hTB (fun x hx e => by have hx2 : x = E := hx; omega))
      have HREr := Lib.hid (HGR.out.heap HRE2.out (by omega))
      have hwr := HWR.out.size
      have hszr := HGR.out.size
      have hlm : ∀ l, l ∈ LA → l.length ≤ 1000000 := fun l hl => by
        obtain ⟨i, hi, rfl⟩ := List.getElem_of_mem hl
        exact (HGA.out.2 i LA[i] (VA[i]'(by rw [HGA.out.1]; exact hi)) (List.getElem?_eq_getElem hi) (List.getElem?_eq_getElem _)).2
      have hal := (Gr.refl wr).alloc (.cells #[.int .i64 (la : Int), .slice none 0 0, .int .i64 0, .int .i64 0, .slice none 0 0] 77)
      have hRR := heap_alloc_new wr (.cells #[.int .i64 (la : Int), .slice none 0 0, .int .i64 0, .int .i64 0, .slice none 0 0] 77)
      have HAP := Lib.hid (applyAll_ok al la cl LA aa na ca acs (by omega) (by omega) hlm _ (HBA.out.below hal) (HACT.out.below (HWR.out.trans hal)))
      have HRR := Lib.hid hRR
      have HAL := Lib.hid hal
      clear hbss hgda ela eLA eVA hlal hlan hjl hlm hal hRR HROW HSC HC0 HSS HTS2 HRE2 HBA hj hlt
      go_wp2_with fail
      refine HAP.out.mono ?_
      rintro e w5 ⟨a', n', c', LB, rfl, hbb, hn', hmem, hay, hg5⟩
      obtain ⟨VB, hgb, hvm⟩ := goods_same HGA.out hmem
      have hput : putAll [] VB = putAll [] VA := (put_same HGA.out.vec hvm).symm
      have HPUT := Lib.hid hput
      have HGB := Lib.hid hgb
      have HBB := Lib.hid hbb
      have HAY := Lib.hid hay
      have HG5 := Lib.hid (HAL.out.trans hg5)
      have HTS5 := Lib.hid (HTSr.out.gr HG5.out)
      have HRE5 := Lib.hid (HG5.out.heap HREr.out)
      have HRR5 := Lib.hid (hg5.heap HRR.out)
      have HW5 := Lib.hid (HWR.out.trans HG5.out)
      obtain ⟨RB, eRB⟩ : ∃ x, wr.heap.size = x := ⟨_, rfl⟩
      have ERB := Lib.hid eRB
      have hRB5 : RB < w5.heap.size := by rw [← eRB]; exact lt_of_block HRR5.out
      rw [eRB] at HRR5 hszr ⊢
      have hVBl : VB.length = n' := by rw [HGB.out.1, HBB.out.1]
      have HVBL := Lib.hid hVBl
      clear hbb hmem hay hg5 hgb hvm hput HAP HRR HAL HTSr HREr hVBl eRB
      have hTw5 : T < w5.heap.size := by omega
      have hEw5 : E < w5.heap.size := by omega
      have HST0 : Hid (TripSt w5 w5 n s q id (dat obj s q) T E RB la [] 0 (.slice none 0 0) 0) := ⟨_, [], HTS5.out, fun b hb => .inl hb, HRR5.out, World.ownsRow_nil w5 _ _ 3, (fun k hk => by cases hk), GrS.refl _ _⟩
      have HNB : Hid (∀ b, (b = T ∨ b = E ∨ b = RB) → ∀ (i : Nat) (u : Int), w5.cell? ⟨b, i, none⟩ ≠ some (.int .u8 u)) := by
        show ∀ b, _
        obtain ⟨gg, es, _, hTA, _, hEA, _⟩ := HTS5.out
        obtain ⟨r, ar, cr, er, hEc⟩ := hEA.cells
        rintro b (rfl | rfl | rfl)
        · exact cells_noB hTA tak_noB
        · exact cells_noB hEc fun j u => by match j with | 0 => simp | 1 => simp | 2 => simp | j + 3 => simp
        · exact cells_noB HRR5.out fun j u => by match j with | 0 => simp | 1 => simp | 2 => simp | 3 => simp | 4 => simp | j + 5 => simp
      have HAYN : Hid (∀ y, a' = some y → ¬ (y.block = T ∨ y.block = E ∨ y.block = RB)) := fun y hy h => by
        have := HAY.out y hy
        rw [World.size_alloc, ERB.out] at this
        rcases h with h | h | h <;> omega
      clear HTS5 HAY HRR5
      go_wp2
      go_loopw [67] (fun i wr => ∃ (j : Nat) (sv : Value), j ≤ n' ∧ i = .int .i64 j ∧ TripSt w5 wr n s q id (dat obj s q) T E RB la (putAll [] (VB.take j)) j sv j) (fun i _ => n' - (intOf i).toNat)
      case atStart => exact ⟨0, _, Nat.zero_le _, rfl, HST0.out⟩
      case round =>
        obtain ⟨j2, sv, hj2, rfl, hst⟩ := hrel
        have HST := Lib.hid hst
        obtain ⟨_, _, _, _, hrb, _, _, hgs⟩ := hst
        have HGS := Lib.hid hgs
        have HGW := Lib.hid (GrS.to_gr HW5.out hgs fun b hb => by rcases hb with rfl | rfl | rfl <;> omega)
        have HRB := Lib.hid hrb
        clear hrb hgs HST0
        by_cases hlt2 : j2 < n'
        · have hbbr := HBB.out.noB HGS.out HNB.out HAYN.out
          obtain ⟨bl, off, rfl, _⟩ := hbbr.at_ (by omega)
          obtain ⟨l, al', nl', cl', hlj, hcl, hbl⟩ := hbbr.get hlt2
          obtain ⟨v, hvj⟩ : ∃ v, VB[j2]? = some v := ⟨_, List.getElem?_eq_getElem (by rw [HVBL.out]; exact hlt2)⟩
          obtain ⟨hgd, hlm⟩ := HGB.out.2 j2 l v hlj hvj
          have htk : VB.take (j2 + 1) = VB.take j2 ++ [v] := by rw [List.take_add_one, hvj]; rfl
          have hpa : putAll [] (VB.take (j2 + 1)) = putV (putAll [] (VB.take j2)) v := by rw [htk, putAll_snoc]
          have HPA := Lib.hid hpa
          have HTK := Lib.hid (HST.out.take hTw5 hRB5 (by omega) (by omega) HP.out hnm (lin_dat obj s q) (by omega) (HT.out.below HGW.out) al' nl' cl' l v hbl hgd hlm)
          clear hlj hbl hvj hgd hlm htk hpa hbbr
          go_wp2_with fail
          refine HTK.out.mono ?_
          rintro e w7 ⟨rfl, hst7⟩
          rw [← HPA.out] at hst7
          have HST7 := Lib.hid hst7
          clear hst7
          go_wp2
          have hHR := HST7.out
          obtain ⟨S7, _, hts7, _, hrb7, _, _, _⟩ := hHR
          have HRK := Lib.hid fun W h => takerRank_S T E n s q id (j2 + 1) S7 (putAll [] (VB.take (j2 + 1))) (dat obj s q) W h
          have HSS7 := Lib.hid fun W h => takerStatus_S T E n s q id (j2 + 1) S7 (putAll [] (VB.take (j2 + 1))) (dat obj s q) W h
          have HTS7 := Lib.hid hts7
          obtain ⟨RK, eRK⟩ : ∃ x, (putAll [] (VB.take (j2 + 1))).length = x := ⟨_, rfl⟩
          rw [eRK] at HRK HSS7
          obtain ⟨STA, eSTA⟩ : ∃ x, (if RK = q then 1 else 0 : Nat) = x := ⟨_, rfl⟩
          rw [eSTA] at HSS7
          obtain ⟨c0, c1, c2, c3, c4, -⟩ := five_cells hrb7
          have hup : Nonempty (Up Gr w7.drew) := ⟨⟨_, Gr.refl _⟩⟩
          have u1 : ∀ x : Up Gr w7.drew, x.w.cell? ⟨RB, 1, none⟩ = some sv := fun x => gr_st x.rel c1
          clear c0 c1 c2 c3 c4 hts7 hrb7
          refine wp_region_rgF [.reck, .reck, .reck, .reck, spV (.int .i64 (RK : Int)), .reck, spV (.int .i64 (STA : Int)), .reck, .any Nat 0 (fun b => .slice (some ⟨b, 0, none⟩) 1 1) (fun b W => W.heap[b]? = some (.cells #[.int .i64 0, .int .i64 (RK : Int), .int .i64 (STA : Int)] 136))] Gr (by kernel_rfl) (by kernel_rfl) Gr.refl (fun _ _ _ => Gr.trans) ?_
          (refine wpRG_reck rfl (fun K hK => ?_); go_big_quiet_op; refine hK _ ?_; clear hK K)
          (refine wpRG_reck rfl (fun K hK => ?_); go_big_quiet_op; refine hK _ ?_; clear hK K)
          (refine wpRG_reck rfl (fun K hK => ?_); go_big_quiet_op; refine hK _ ?_; clear hK K)
          (refine wpRG_reck rfl (fun K hK => ?_); go_big_quiet_op; refine hK _ ?_; clear hK K)
          refine wpRG_any rfl (fun _ _ _ _ h => h) (fun W hw hF R hR => ?_) ?_
          · (have HF := Lib.hid hF; clear hF; unfold rgAt; go_simp)
            show Calls _ _ _ _ _
            refine (HRK.out W (HTS7.out.gr ((Gr.refl w7).drew.trans hw))).mono ?_
            rintro e w6 ⟨rfl, rfl⟩
            exact ⟨_, rfl, hR () _ (Gr.refl _) trivial⟩
          rintro ⟨⟩
          (simp only [Act.put, List.setIfInBounds_toArray, List.set_cons_zero, List.set_cons_succ])
          (refine wpRG_reck rfl (fun K hK => ?_); go_big_quiet_op; refine hK _ ?_; clear hK K)
          refine wpRG_any rfl (fun _ _ _ _ h => h) (fun W hw hF R hR => ?_) ?_
          · (have HF := Lib.hid hF; clear hF; unfold rgAt; go_simp)
            show Calls _ _ _ _ _
            refine (HSS7.out W (HTS7.out.gr ((Gr.refl w7).drew.trans hw))).mono ?_
            rintro e w6 ⟨rfl, rfl⟩
            exact ⟨_, rfl, hR () _ (Gr.refl _) trivial⟩
          rintro ⟨⟩
          (simp only [Act.put, List.setIfInBounds_toArray, List.set_cons_zero, List.set_cons_succ])
          (refine wpRG_reck rfl (fun K hK => ?_); go_big_quiet_op; refine hK _ ?_; clear hK K)
          refine wpRG_any rfl (fun x w w' hg h => hg.heap h) (fun W hw hF R hR => ?_) ?_
          · (have HF := Lib.hid hF; clear hF; unfold rgAt; go_simp)
            exact hR W.heap.size _ ((Gr.refl W).alloc _) (heap_alloc_new _ _)
          intro b8
          (simp only [Act.put, List.setIfInBounds_toArray, List.set_cons_zero, List.set_cons_succ])
          refine wpRG_end fun W hw hF => ?_
          have h8 : W.heap[b8]? = some (.cells #[.int .i64 0, .int .i64 (RK : Int), .int .i64 (STA : Int)] 136) := hF 8
          have hgW := (Gr.refl w7).drew.trans hw
          have hstW := HST7.out.gr hgW
          obtain ⟨z0, z1, z2, zf⟩ := three_all h8
          obtain ⟨sv', w9, hr9, hrb9, hst9⟩ := hstW.step hTw5 hRB5 (by omega) (by omega) (by omega) 75 z0 z1 z2 rfl rfl rfl
          obtain ⟨_, _, _, _, hrbW, _, _, _⟩ := hstW
          rw [hrbW] at hrb9
          obtain ⟨y0, y1, y2, y3, y4, yf⟩ := five_cells hrb9
          obtain ⟨sa, sc, rfl⟩ := hst9.val
          have HST9 := Lib.hid hst9
          clear hst9 hgW hrbW z0 z1 z2 zf h8 u1 hup hF hw
          refine wpTl_cons rfl (fun KK hKK => ?_)
          refine rgAt_append (.tmp 75) (.tmp 82) 75 rfl rfl rfl hr9 (hKK _ _ ?_)
          clear hr9 hKK
          (simp only [Act.put, List.setIfInBounds_toArray, List.set_cons_zero, List.set_cons_succ])
          refine wpTl_cons rfl (fun KK hKK => ?_)
          unfold rgAt
          go_simp
          refine hKK _ _ ?_
          clear hKK
          (simp only [Act.put, List.setIfInBounds_toArray, List.set_cons_zero, List.set_cons_succ])
          refine wpTl_cons rfl (fun KK hKK => ?_)
          unfold rgAt
          go_simp
          refine hKK _ _ ?_
          clear hKK y0 y1 y2 y3 y4 yf hrb9
          (simp only [Act.put])
          refine wpTl_nil ?_
          go_wp2
          go_roundw
          case rel => exact ⟨j2 + 1, _, by omega, by go_num, HST9.out⟩
          case measure => first | (simp [intOf]; done) | (simp [intOf]; omega)
        · have hjn : j2 = n' := by omega
          have hge2 : (n' : Int) ≤ (j2 : Int) := by omega
          have hfst := HST.out
          rw [hjn, List.take_of_length_le (by rw [HVBL.out]; exact Nat.le_refl _), HPUT.out] at hfst
          have HFS := Lib.hid hfst
          clear hjn
          obtain ⟨S7, _, hts7, hS7, hrb7, _, _, _⟩ := hfst
          have HTS7 := Lib.hid hts7
          obtain ⟨sa, sc, rfl⟩ := HST.out.val
          have HREr := Lib.hid (HGS.out.heap HRE5.out (fun hb => by rcases hb with h | h | h <;> omega))
          have hrank := hts7.red.ech.rank_k
          have HRED := Lib.hid hts7.red
          clear HST hts7
          obtain ⟨RK, eRK⟩ : ∃ x, (putAll [] VA).length = x := ⟨_, rfl⟩
          have HRKE := Lib.hid eRK
          obtain ⟨STA, eSTA⟩ : ∃ x, (if RK = q then 1 else 0 : Nat) = x := ⟨_, rfl⟩
          have HSTE := Lib.hid eSTA
          have HRK := Lib.hid (takerRank_S T E n s q id n' S7 (putAll [] VA) (dat obj s q) wr HTS7.out)
          have HSS7 := Lib.hid (takerStatus_S T E n s q id n' S7 (putAll [] VA) (dat obj s q) wr HTS7.out)
          rw [eRK] at HRK HSS7
          rw [eSTA] at HSS7
          obtain ⟨c0, c1, c2, c3, c4, cf⟩ := five_cells hrb7
          go_wp2_with fail
          refine HRK.out.mono ?_
          rintro e w10 ⟨rfl, hw⟩
          subst hw
          go_wp2_with fail
          refine HSS7.out.mono ?_
          rintro e w10 ⟨rfl, hw⟩
          subst hw
          have hh3 := heap_set (i := 3) (heap_set (i := 2) hrb7 (.int .i64 (RK : Int))) (.int .i64 (STA : Int))
          simp only [List.setIfInBounds_toArray, List.set_cons_zero, List.set_cons_succ] at hh3
          have hgb3 : GrB wr RB ((wr.setCell ⟨RB, 2, none⟩ (.int .i64 (RK : Int))).setCell ⟨RB, 3, none⟩ (.int .i64 (STA : Int))) := ((GrB.refl wr RB).set (.inl rfl) _).set (.inl rfl) _
          have hts3 := HTS7.out.grS (S1 := fun b => b = RB) (GrS.of_grb hgb3 hrb7 rfl) (fun e => by omega) (fun b hb e => by
            rcases hS7 b hb with h | h
            · have e' : b = RB := e
              omega
            · have e' : b = RB := e
              omega)
          have hre3 := hgb3.heap HREr.out (by omega)
          have HTS3 := Lib.hid hts3
          have HRE3 := Lib.hid hre3
          have HH3 := Lib.hid hh3
          have HG3 := Lib.hid (HGW.out.grb hgb3 (by omega))
          clear hts3 hre3 hgb3
          have hBR : w.heap.size + 1 < RB := by omega
          have hRBw : w.heap.size ≤ RB := by omega
          by_cases hfull : RK = q
          · have hST1 : ((STA : Int) == 1) = true := by rw [← eSTA, if_pos hfull]; rfl
            have HVF : Hid ((putAll [] VA).length = q) := eRK.trans hfull
            obtain ⟨d0, d1, d2, d3, d4, df⟩ := five_cells HH3.out
            clear hfull eSTA eRK
            go_wp2_with fail
            obtain ⟨W3, eW⟩ : ∃ x, (wr.setCell ⟨RB, 2, none⟩ (.int .i64 (RK : Int))).setCell ⟨RB, 3, none⟩ (.int .i64 (STA : Int)) = x := ⟨_, rfl⟩
            rw [eW] at HTS3 HRE3 HH3 HG3 ⊢
            clear eW d0 d1 d2 d3 d4 df c0 c1 c2 c3 c4 cf
            have HOB := Lib.hid (takerObject_done T E n s q id n' HP.out (by omega) S7 (putAll [] VA) (dat obj s q) (fun v => combL_length cut_same) (plan_room2 HP.out) W3 HTS3.out HVF.out)
            have hdat : ((putAll [] VA).map (dat obj s q)).flatten.take n = obj := by
              rw [full_data (s := s) (X := cutL obj s q) cut_same (cutL_length obj s q) HRED.out HVF.out]
              have := cut_take_obj obj s q (by rw [HO.out.1]; exact plan_room2 HP.out)
              rw [HO.out.1] at this; exact this
            rw [hdat] at HOB
            clear hdat
            refine HOB.out.mono ?_
            rintro e w21 ⟨ax, cx, rfl, hbx, hgx⟩
            have hH21 := hgx.heap HH3.out
            have hgb4 : GrB w21 RB (w21.setCell ⟨RB, 4, none⟩ (.slice ax n cx)) := (GrB.refl w21 RB).set (.inl rfl) _
            have hh4 := heap_set (i := 4) hH21 (.slice ax n cx)
            simp only [List.setIfInBounds_toArray, List.set_cons_zero, List.set_cons_succ] at hh4
            have hre4 := hgb4.heap (hgx.heap HRE3.out) (by omega)
            obtain ⟨hgb5, hh5⟩ := five_set hre4 (.int .i64 (la : Int)) (.slice sa j2 sc) (.int .i64 (RK : Int)) (.int .i64 (STA : Int)) (.slice ax n cx)
            obtain ⟨d0, d1, d2, d3, d4, df⟩ := five_cells hH21
            obtain ⟨f0, f1, f2, f3, f4, ff⟩ := five_cells hh4
            obtain ⟨e0, e1, e2, e3, e4, ef⟩ := five_cells hre4
            obtain ⟨y0, y1, y2, y3, y4, yf⟩ := five_cells hh5
            have hb4 := hbx.gap hgb4 hH21 rep_noB
            have HBX := Lib.hid (hb4.gap hgb5 hre4 rep_noB)
            have HGF := Lib.hid (((HG3.out.trans hgx).grb hgb4 hRBw).grb hgb5 (by omega))
            clear hH21 hgb4 hh4 hre4 hgb5 hh5 hb4 hbx hgx HOB
            go_wp2
            refine bodyPost_ret (v := .tuple #[.agg #[.int .i64 (la : Int), .slice sa j2 sc, .int .i64 (RK : Int), .int .i64 (STA : Int), .slice ax n cx], .int .i64 0]) ?_ rfl ?_
            case refine_2 =>
              rw [EVA.out]
              exact ⟨la, STA, sa, j2, sc, ax, n, cx, by rw [HRKE.out], by rw [HRKE.out]; exact HSTE.out.symm, by rw [if_pos HVF.out]; exact HBX.out, HGF.out⟩
            simp [results, Tryz.results27, go_sem, y0, y1, y2, y3, y4]
          · have hST1 : ((STA : Int) == 1) = false := by rw [← eSTA, if_neg hfull]; rfl
            have HVF : Hid (¬ (putAll [] VA).length = q) := fun h => hfull (eRK.symm.trans h)
            obtain ⟨hgb5, hh5⟩ := five_set HRE3.out (.int .i64 (la : Int)) (.slice sa j2 sc) (.int .i64 (RK : Int)) (.int .i64 (STA : Int)) (.slice none 0 0)
            obtain ⟨d0, d1, d2, d3, d4, df⟩ := five_cells HH3.out
            obtain ⟨e0, e1, e2, e3, e4, ef⟩ := five_cells HRE3.out
            obtain ⟨y0, y1, y2, y3, y4, yf⟩ := five_cells hh5
            have HGF := Lib.hid (HG3.out.grb hgb5 (by omega))
            clear hfull eSTA eRK hgb5 hh5
            go_wp2
            refine bodyPost_ret (v := .tuple #[.agg #[.int .i64 (la : Int), .slice sa j2 sc, .int .i64 (RK : Int), .int .i64 (STA : Int), .slice none 0 0], .int .i64 0]) ?_ rfl ?_
            case refine_2 =>
              rw [EVA.out]
              exact ⟨la, STA, sa, j2, sc, none, 0, 0, by rw [HRKE.out], by rw [HRKE.out]; exact HSTE.out.symm, by rw [if_neg HVF.out]; exact Bs.nil _, HGF.out⟩
            simp [results, Tryz.results27, go_sem, y0, y1, y2, y3, y4]
end Go.Proofs.YtddopoojmadpjaaGreatDoor
