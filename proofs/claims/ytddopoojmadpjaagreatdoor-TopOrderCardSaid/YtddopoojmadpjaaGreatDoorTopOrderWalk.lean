/-
  Acts of one's own, appended one by one; a taker's object, whatever is known.
  The walk of law TopOrder.
-/
import Derived.Test.YtddopoojmadpjaaGreatDoorTripRun
import Derived.Test.YtddopoojmadpjaaGreatDoorOpenMore
namespace Go.Proofs.YtddopoojmadpjaaGreatDoor
open Go.RowKit
set_option linter.unusedVariables false

/-- acts, one behind the other. -/
def flatA (acs : List (Nat × Nat × Nat)) : List Value := acs.flatMap fun x => [.int .i64 (x.1 : Int), .int .i64 (x.2.1 : Int), .int .i64 (x.2.2 : Int), .int .u32 0, .slice none 0 0]
theorem flatA_length (acs : List (Nat × Nat × Nat)) : (flatA acs).length = acs.length * 5 := by
  induction acs with
  | nil => rfl
  | cons t r ih => simp only [flatA, List.flatMap_cons, List.length_append, List.length_cons, List.length_nil] at ih ⊢; rw [ih]; omega
theorem flatA_append (a b : List (Nat × Nat × Nat)) : flatA (a ++ b) = flatA a ++ flatA b := by simp [flatA]
theorem flatA_get : ∀ {acs : List (Nat × Nat × Nat)} {i d I J : Nat}, acs[i]? = some (d, I, J) → (flatA acs)[i * 5]? = some (.int .i64 (d : Int)) ∧ (flatA acs)[i * 5 + 1]? = some (.int .i64 (I : Int)) ∧ (flatA acs)[i * 5 + 2]? = some (.int .i64 (J : Int)) ∧ (flatA acs)[i * 5 + 3]? = some (.int .u32 0) ∧ (flatA acs)[i * 5 + 4]? = some (.slice none 0 0) := by
  intro acs
  induction acs with
  | nil => intro i d I J h; simp at h
  | cons t r ih =>
    intro i d I J h
    cases i with
    | zero =>
      simp at h
      subst h
      exact ⟨rfl, rfl, rfl, rfl, rfl⟩
    | succ i =>
      simp at h
      obtain ⟨h0, h1, h2, h3, h4⟩ := ih h
      have hs : ∀ k, (flatA (t :: r))[(i + 1) * 5 + k]? = (flatA r)[i * 5 + k]? := fun k => by
        show ([.int .i64 (t.1 : Int), .int .i64 (t.2.1 : Int), .int .i64 (t.2.2 : Int), .int .u32 0, .slice none 0 0] ++ flatA r)[(i + 1) * 5 + k]? = _
        rw [List.getElem?_append_right (by simp; omega)]
        congr 1
        simp; omega
      exact ⟨(hs 0).trans h0, (hs 1).trans h1, (hs 2).trans h2, (hs 3).trans h3, (hs 4).trans h4⟩

/-- acts that move, or double, in a row of one's own. -/
def ActsB (w : World) (base : Nat) (v : Value) (acs : List (Nat × Nat × Nat)) : Prop :=
  w.ownsRow base 73 5 v acs.length (flatA acs) ∧ ∀ x, x ∈ acs → (x.1 = 1 ∨ x.1 = 2) ∧ x.2.1 ≤ 100 ∧ x.2.2 ≤ 100
theorem ActsB.nil (w : World) (base : Nat) : ActsB w base (.slice none 0 0) [] := ⟨World.ownsRow_nil w _ _ 5, fun x h => (by cases h)⟩
theorem ActsB.gr {w w' : World} {base : Nat} {v : Value} {acs : List (Nat × Nat × Nat)} (h : ActsB w base v acs) (hg : Gr w w') : ActsB w' base v acs :=
  ⟨ownsRow_keptS h.1 (GrS.of_gr (S := fun _ => False) hg) (fun _ _ h => h), h.2⟩
theorem ActsB.acts {w : World} {base : Nat} {v : Value} {acs : List (Nat × Nat × Nat)} (h : ActsB w base v acs) : ∃ a c, v = .slice a acs.length c ∧ ActsV w a acs.length c acs := by
  obtain ⟨⟨_, h1⟩, h2⟩ := h
  rcases h1 with ⟨rfl, hn⟩ | ⟨g, cap, cur, rfl, hb, hh, hn, hm, hsz, ht⟩
  · refine ⟨none, 0, by rw [hn], rfl, by omega, Nat.zero_le _, fun _ => hn, fun x h => by cases h⟩
  · refine ⟨some ⟨g, 0, none⟩, cap, rfl, rfl, hn, hm, fun h => (by cases h), fun x hx i d I J hs => ?_⟩
    cases hx
    obtain ⟨h0, h1, h3, h4, h5⟩ := flatA_get hs
    have hc : ∀ k u, (flatA acs)[i * 5 + k]? = some u → w.cell? ⟨g, 0 + i * 5 + k, none⟩ = some u := fun k u hu => by
      rw [← ht, List.getElem?_take] at hu
      split at hu
      · simp only [World.cell?, hh]; rw [Nat.zero_add]; simpa using hu
      · cases hu
    rw [Addr.add_lit, Addr.add_lit, Addr.add_lit, Addr.add_lit, Addr.add_lit]
    exact ⟨hc 0 _ h0, hc 1 _ h1, hc 2 _ h3, hc 3 _ h4, hc 4 _ h5, h2 _ (List.mem_of_getElem? hs)⟩

theorem infoAct : (Tryz.prog.info? 73).map (fun i => (i.zero, i.size, i.bytes)) = some (some (.agg #[.int .i64 0, .int .i64 0, .int .i64 0, .int .u32 0, .slice none 0 0]), 5, 56) := by kernel_rfl
/-- one more act, behind all. -/
theorem run_append_act {w0 w : World} (ty : TypeId) {v : Value} {acs : List (Nat × Nat × Nat)} (h : ActsB w w0.heap.size v acs) (hg0 : Gr w0 w) {b d I J : Nat} (hc : w.heap[b]? = some (.cells #[.int .i64 (d : Int), .int .i64 (I : Int), .int .i64 (J : Int), .int .u32 0, .slice none 0 0] 73)) (hd : d = 1 ∨ d = 2) (hI : I ≤ 100) (hJ : J ≤ 100) (hlen : acs.length ≤ 1000) :
    ∃ v' w', (Builtin.append_ #[69, 69] ty #[v, .slice (some ⟨b, 0, none⟩) 1 1]).run Tryz.prog w = .ok v' w' ∧ ActsB w' w0.heap.size v' (acs ++ [(d, I, J)]) ∧ Gr w0 w' ∧ w.grownBy w' v.ownBlock := by
  obtain ⟨i, hi, hz0, hz1, hz2⟩ := info_parts infoAct
  obtain ⟨c0, c1, c2, c3, c4, -⟩ := five_cells hc
  obtain ⟨v', w', hr, ho, hgb, _, hb⟩ := run_append_own_at (P := Tryz.prog) w w0.heap.size _ ty _ i _ 5 56 Tryz.underlying69 hi hz0 hz1 hz2 rfl (by decide) v acs.length (flatA acs) h.1 ⟨b, 0, none⟩ 1 1 [.int .i64 (d : Int), .int .i64 (I : Int), .int .i64 (J : Int), .int .u32 0, .slice none 0 0] rfl
    (fun j u hu => by
      match j, hu with
      | 0, hu => simp at hu; subst hu; rw [Addr.add_zero']; exact c0
      | 1, hu => simp at hu; subst hu; exact c1
      | 2, hu => simp at hu; subst hu; exact c2
      | 3, hu => simp at hu; subst hu; exact c3
      | 4, hu => simp at hu; subst hu; exact c4
      | j + 5, hu => simp at hu) (fun u hu => by simp at hu; rcases hu with rfl | rfl | rfl | rfl | rfl <;> rfl) (by unfold maxLen; omega) (by omega) hg0.size
  refine ⟨v', w', hr, ⟨?_, fun x hx => ?_⟩, Gr.grown_ hg0 hgb (fun k hk => (World.ownsRow.lt h.1 k hk).1), hgb⟩
  · rw [flatA_append, List.length_append]; exact ho
  · rcases List.mem_append.1 hx with hx | hx
    · exact h.2 x hx
    · rw [List.mem_singleton.1 hx]; exact ⟨hd, hI, hJ⟩

/-- the object, as far as it is known. -/
theorem takerObject_S (T E n s q id mx : Nat) (hP : planErr n s q = 0) (hnm : n ≤ 9223372036854775807) (S : Nat → Prop) (V : List (List UInt8)) (obj : List UInt8) (ho : obj.length = n) (w : World) (h : TakS w S T E n s q id V (dat obj s q) mx) :
    Calls Tryz.prog 24 #[.pointer (some ⟨T, 0, none⟩)] w fun e w' => ∃ a l c, e = .returned (.tuple #[.slice a l c, .int .i64 ((if V.length = q then 0 else 12 : Nat) : Int)]) ∧ Bs w' a l c (if V.length = q then obj else []) ∧ Gr w w' := by
  by_cases hV : V.length = q
  · have hdat : (V.map (dat obj s q)).flatten.take n = obj := by
      have e := full_data (s := s) (X := cutL obj s q) cut_same (cutL_length obj s q) h.red hV
      have e2 := cut_take_obj obj s q (by rw [ho]; exact plan_room2 hP)
      rw [ho] at e2
      rw [show (V.map (dat obj s q)) = cutL obj s q from e]; exact e2
    have HO := takerObject_done T E n s q id mx hP hnm S V (dat obj s q) (fun v => combL_length cut_same) (plan_room2 hP) w h hV
    rw [hdat] at HO
    refine HO.mono ?_
    rintro e w' ⟨a, c, he, hb, hg⟩
    exact ⟨a, n, c, by rw [if_pos hV]; exact he, by rw [if_pos hV]; exact hb, hg⟩
  · refine (takerObject_pend T E n s q id mx S V (dat obj s q) w h hV).mono ?_
    rintro e w' ⟨he, rfl⟩
    exact ⟨none, 0, 0, by rw [if_neg hV]; exact he, by rw [if_neg hV]; exact Bs.nil _, Gr.refl _⟩
end Go.Proofs.YtddopoojmadpjaaGreatDoor

namespace Go.Proofs.YtddopoojmadpjaaGreatDoor
open Go.RowKit
set_option linter.unusedVariables false

/-- which act a byte asks for. -/
def actOf (m : Nat) : Nat := if m % 3 = 2 then 1 else 2
theorem act_cell {W : World} {b : Nat} (h : W.heap[b]? = some (.cells #[.int .i64 2, .int .i64 2, .int .i64 1] 3)) (m : Nat) : W.cell? ⟨b, m % 3, none⟩ = some (.int .i64 (actOf m : Int)) := by
  obtain ⟨x0, x1, x2, -⟩ := three_all h
  unfold actOf
  have : m % 3 = 0 ∨ m % 3 = 1 ∨ m % 3 = 2 := by omega
  rcases this with e | e | e <;> rw [e]
  · exact x0
  · exact x1
  · exact x2
theorem actOf_or (m : Nat) : actOf m = 1 ∨ actOf m = 2 := by unfold actOf; split <;> simp

set_option maxRecDepth 100000 in
set_option maxHeartbeats 4000000 in
theorem topOrder_ok (n s q : Nat) (id : Nat) (hP : planErr n s q = 0) (hid : id < 4294967296) (hnm : n ≤ 1000000000) (ao : Option Addr) (co : Nat) (obj : List UInt8) (a3 : Option Addr) (l3 c3 : Nat) (ss : List Src) (a4 : Option Addr) (l4 c4 : Nat) (ms : List (Nat × Nat)) (w : World) (htab : Tab w) (ho : Bs w ao n co obj) (hs3 : Srcs w a3 l3 c3 ss) (hm4 : Mvs w a4 l4 c4 ms)
    (CO : ∀ w, Calls Tryz.prog 28 #[.int .i64 (n : Int), .int .i64 (s : Int), .int .u32 (id : Int)] w fun e w' => e = .returned (.tuple #[.agg #[.int .i64 (n : Int), .int .i64 (s : Int), .int .i64 (q : Int), .int .u32 (id : Int)], .int .i64 0]) ∧ Gr w w') :
    Calls Tryz.prog 5 #[.slice ao n co, .int .i64 (s : Int), .int .u32 (id : Int), .slice a3 l3 c3, .slice a4 l4 c4] w fun e w' => e = .returned (.bool true) ∧ Gr w w' := by
  obtain ⟨hs1, hs2, hq1, hq2⟩ := plan_bounds hP
  have CS := Lib.hid fun w => small_ok n s q id hP (by omega) ao co w CO
  have HP := Lib.hid hP
  have HT := Lib.hid htab
  have HO := Lib.hid ho
  have HS3 := Lib.hid hs3
  have HM4 := Lib.hid hm4
  have HML : Hid (ms.length = l4) := hm4.1
  have HSL : Hid (ss.length = l3) := hs3.1
  clear hP htab ho hs3 hm4 CO
  go_enter Tryz.func5, Tryz.ntmps5
  go_wp2_with fail
  refine (topAwake _ HT.out).mono ?_
  rintro e w1 ⟨rfl, hg1⟩
  go_wp2_with fail
  refine (CS.out w1).mono ?_
  rintro e w2 ⟨rfl, hg⟩
  have hal := (Gr.refl w2).alloc (.cells #[.int .i64 (n : Int), .int .i64 (s : Int), .int .i64 (q : Int), .int .u32 (id : Int)] 28)
  have HPL := Lib.hid (heap_alloc_new w2 (.cells #[.int .i64 (n : Int), .int .i64 (s : Int), .int .i64 (q : Int), .int .u32 (id : Int)] 28))
  have HW2 := Lib.hid ((hg1.trans hg).trans hal)
  clear hg1 hg hal CS
  cases hsb : smallB s q with
  | false =>
    go_wp2
    first | go_ret | go_ret2
    exact ⟨rfl, HW2.out⟩
  | true =>
  obtain ⟨hq12, hs20⟩ : q ≤ 12 ∧ s ≤ 20 := of_decide_eq_true hsb
  clear hsb
  go_wp2_with fail
  refine (few_any a3 l3 c3 ss _ (HS3.out.below HW2.out)).mono ?_
  rintro e w3 ⟨b, rfl, hf, hg⟩
  have HF := Lib.hid hf
  have HW3 := Lib.hid (HW2.out.trans hg)
  have HP3 := Lib.hid (hg.heap HPL.out)
  clear hf hg HPL HW2
  cases b with
  | false =>
    go_wp2
    first | go_ret | go_ret2
    exact ⟨rfl, HW3.out⟩
  | true =>
  have HFEW := Lib.hid (HF.out rfl)
  have hl3 : l3 ≤ 20 := by rw [← HSL.out]; exact HFEW.out.2
  clear HF
  by_cases h40 : l4 ≤ 40
  · have h40i : ¬ (40 : Int) < (l4 : Int) := by omega
    go_wp2
    go_loopw [13, 54] (fun o i wr => ∃ (j : Nat) (v : Value) (acs : List (Nat × Nat × Nat)), j ≤ l4 ∧ i = .int .i64 j ∧ v = o ∧ acs.length = j ∧ ActsB wr w3.heap.size v acs ∧ Gr w3 wr) (fun _ i _ => l4 - (intOf i).toNat)
    case atStart => exact ⟨0, _, [], Nat.zero_le _, rfl, rfl, rfl, ActsB.nil _ _, Gr.refl _⟩
    case round =>
      obtain ⟨j, v, acs, hj, rfl, rfl, hjl, hab, hgr⟩ := hrel
      have HAB := Lib.hid hab
      have HGR := Lib.hid hgr
      have HJL := Lib.hid hjl
      clear hab hgr hjl
      by_cases hlt : j < l4
      · obtain ⟨b, off, rfl, _⟩ := HM4.out.at_ (by omega)
        obtain ⟨m1, m2, hmj, c0, c1, hm1, hm2⟩ := (HM4.out.below (HW3.out.trans HGR.out)).get hlt
        clear hmj
        go_wp2
        have hal := HGR.out.alloc (.cells #[.int .u8 (m1 : Int), .int .u8 (m2 : Int)] 70)
        obtain ⟨x0, x1, -⟩ := two_cells (heap_alloc_new wr (.cells #[.int .u8 (m1 : Int), .int .u8 (m2 : Int)] 70))
        obtain ⟨W0, eW⟩ : ∃ W, wr.alloc (.cells #[.int .u8 (m1 : Int), .int .u8 (m2 : Int)] 70) = W := ⟨_, rfl⟩
        rw [eW] at hal x0 x1 ⊢
        have HAB0 : Hid (ActsB W0 w3.heap.size v acs) := by
          show ActsB _ _ _ _
          rw [← eW]; exact HAB.out.gr ((Gr.refl _).alloc _)
        have HAL := Lib.hid hal
        have hHeld : (fun W : World => W.cell? ⟨wr.heap.size, 0, none⟩ = some (.int .u8 (m1 : Int)) ∧ W.cell? ⟨wr.heap.size, 1, none⟩ = some (.int .u8 (m2 : Int))) W0.drew := ⟨x0, x1⟩
        have HX := Lib.hid hHeld
        have hW0s : wr.heap.size < W0.heap.size := by rw [← eW]; simp
        clear eW hal x0 x1 c0 c1
        refine wp_region_held_drew (S := fun W : World => W.cell? ⟨wr.heap.size, 0, none⟩ = some (.int .u8 (m1 : Int)) ∧ W.cell? ⟨wr.heap.size, 1, none⟩ = some (.int .u8 (m2 : Int))) (by kernel_rfl) hHeld (fun _ => ?_)
        refine wpAnyH_takeL 0 rfl (by kernel_rfl) (by kernel_rfl) (by kernel_rfl) (fun _ _ _ h => h) rfl (by assumption) (by (intro w hSw; (try dsimp only at hSw); go_simp; try with_reducible rfl)) ?_
        simp only [Act.put, List.setIfInBounds_toArray, List.set_cons_zero, List.set_cons_succ]
        refine wpAnyH_takeL 2 rfl (by kernel_rfl) (by kernel_rfl) (by kernel_rfl) (fun _ _ _ h => h) rfl (by assumption) (by (intro w hSw; (try dsimp only at hSw); go_simp; try with_reducible rfl)) ?_
        simp only [Act.put, List.setIfInBounds_toArray, List.set_cons_zero, List.set_cons_succ]
        refine wpAnyH_takeL 3 rfl (by kernel_rfl) (by kernel_rfl) (by kernel_rfl) (fun _ _ _ h => h) rfl (by assumption) (by (intro w hSw; (try dsimp only at hSw); go_simp; try with_reducible rfl)) ?_
        simp only [Act.put, List.setIfInBounds_toArray, List.set_cons_zero, List.set_cons_succ]
        refine wpAnyH_takeL 4 rfl (by kernel_rfl) (by kernel_rfl) (by kernel_rfl) (fun _ _ _ h => h) rfl (by assumption) (by (intro w hSw; (try dsimp only at hSw); go_simp; try with_reducible rfl)) ?_
        simp only [Act.put, List.setIfInBounds_toArray, List.set_cons_zero, List.set_cons_succ]
        refine wpAnyH_takeL 5 rfl (by kernel_rfl) (by kernel_rfl) (by kernel_rfl) (fun _ _ _ h => h) rfl (by assumption) (by (intro w hSw; (try dsimp only at hSw); go_simp; try with_reducible rfl)) ?_
        simp only [Act.put, List.setIfInBounds_toArray, List.set_cons_zero, List.set_cons_succ]
        refine wpAnyH_takeL 8 rfl (by kernel_rfl) (by kernel_rfl) (by kernel_rfl) (fun _ _ _ h => h) rfl (by assumption) (by (intro w hSw; (try dsimp only at hSw); go_simp; try with_reducible rfl)) ?_
        simp only [Act.put, List.setIfInBounds_toArray, List.set_cons_zero, List.set_cons_succ]
        refine wpAnyH_takeL 9 rfl (by kernel_rfl) (by kernel_rfl) (by kernel_rfl) (fun _ _ _ h => h) rfl (by assumption) (by (intro w hSw; (try dsimp only at hSw); go_simp; try with_reducible rfl)) ?_
        simp only [Act.put, List.setIfInBounds_toArray, List.set_cons_zero, List.set_cons_succ]
        refine wpAnyH_takeL 10 rfl (by kernel_rfl) (by kernel_rfl) (by kernel_rfl) (fun _ _ _ h => h) rfl (by assumption) (by (intro w hSw; (try dsimp only at hSw); go_simp; try with_reducible rfl)) ?_
        simp only [Act.put, List.setIfInBounds_toArray, List.set_cons_zero, List.set_cons_succ]
        refine wpAnyH_takeL 11 rfl (by kernel_rfl) (by kernel_rfl) (by kernel_rfl) (fun _ _ _ h => h) rfl (by assumption) (by (intro w hSw; (try dsimp only at hSw); go_simp; try with_reducible rfl)) ?_
        simp only [Act.put, List.setIfInBounds_toArray, List.set_cons_zero, List.set_cons_succ]
        refine wpAnyH_takeL 12 rfl (by kernel_rfl) (by kernel_rfl) (by kernel_rfl) (fun _ _ _ h => h) rfl (by assumption) (by (intro w hSw; (try dsimp only at hSw); go_simp; try with_reducible rfl)) ?_
        simp only [Act.put, List.setIfInBounds_toArray, List.set_cons_zero, List.set_cons_succ]
        refine wpAnyH_takeL 13 rfl (by kernel_rfl) (by kernel_rfl) (by kernel_rfl) (fun _ _ _ h => h) rfl (by assumption) (by (intro w hSw; (try dsimp only at hSw); go_simp; try with_reducible rfl)) ?_
        simp only [Act.put, List.setIfInBounds_toArray, List.set_cons_zero, List.set_cons_succ]
        refine wpAnyH_takeL 14 rfl (by kernel_rfl) (by kernel_rfl) (by kernel_rfl) (fun _ _ _ h => h) rfl (by assumption) (by (intro w hSw; (try dsimp only at hSw); go_simp; try with_reducible rfl)) ?_
        simp only [Act.put, List.setIfInBounds_toArray, List.set_cons_zero, List.set_cons_succ]
        refine wpAnyH_takeL 15 rfl (by kernel_rfl) (by kernel_rfl) (by kernel_rfl) (fun _ _ _ h => h) rfl (by assumption) (by (intro w hSw; (try dsimp only at hSw); go_simp; try with_reducible rfl)) ?_
        simp only [Act.put, List.setIfInBounds_toArray, List.set_cons_zero, List.set_cons_succ]
        have hw1 : IntKind.i64.wrap (m1 : Int) = (m1 : Int) := (by rw [IntKind.wrap_i64]; omega)
        have hw2 : IntKind.i64.wrap (m2 : Int) = (m2 : Int) := (by rw [IntKind.wrap_i64]; omega)
        have ht1 : (m1 : Int).tmod 3 = ((m1 % 3 : Nat) : Int) := rfl
        have ht2 : (m1 : Int).tmod 20 = ((m1 % 20 : Nat) : Int) := rfl
        have ht3 : (m2 : Int).tmod 20 = ((m2 % 20 : Nat) : Int) := rfl
        simp only [hw1, hw2, ht1, ht2, ht3]
        have hact : Hid (∀ (W : World) (b : Nat), W.heap[b]? = some (.cells #[.int .i64 2, .int .i64 2, .int .i64 1] 3) → W.cell? ⟨b, m1 % 3, none⟩ = some (.int .i64 (actOf m1 : Int))) := fun W b h => act_cell h m1
        have hdd := actOf_or m1
        obtain ⟨K3, eK3⟩ : ∃ x, m1 % 3 = x := ⟨_, rfl⟩
        obtain ⟨DD, eDD⟩ : ∃ x, actOf m1 = x := ⟨_, rfl⟩
        obtain ⟨II, eII⟩ : ∃ x, m1 % 20 = x := ⟨_, rfl⟩
        obtain ⟨JJ, eJJ⟩ : ∃ x, m2 % 20 = x := ⟨_, rfl⟩
        have hK3 : (K3 : Int) < 3 := by omega
        have hII : II ≤ 100 := by omega
        have hJJ : JJ ≤ 100 := by omega
        rw [eK3, eDD] at hact
        rw [eDD] at hdd
        rw [eK3, eII, eJJ]
        have HDD := Lib.hid hdd
        clear hw1 hw2 ht1 ht2 ht3 eK3 eDD eII eJJ hdd
        refine wpAnyH_oneL 1 rfl (by kernel_rfl) rfl (fun K hK => ?_)
        go_simp
        have hga := (((Gr.refl W0).alloc (.cells #[.int .i64 2, .int .i64 2, .int .i64 1] 3)).drew)
        have hc3 := hact.out (W0.alloc (.cells #[.int .i64 2, .int .i64 2, .int .i64 1] 3)).drew W0.heap.size (heap_alloc_new W0 (.cells #[.int .i64 2, .int .i64 2, .int .i64 1] 3))
        obtain ⟨W1, eW⟩ : ∃ x, (W0.alloc (.cells #[.int .i64 2, .int .i64 2, .int .i64 1] 3)).drew = x := ⟨_, rfl⟩
        rw [eW] at hga hc3 ⊢
        clear eW
        have hHeld : (fun W : World => W.cell? ⟨wr.heap.size, 0, none⟩ = some (.int .u8 (m1 : Int)) ∧ W.cell? ⟨wr.heap.size, 1, none⟩ = some (.int .u8 (m2 : Int))) W1 := ⟨hga.cell HX.out.1, hga.cell HX.out.2⟩
        refine hK.out _ _ hHeld ?_
        clear hK K
        refine wpAnyH_takeL 6 rfl (by kernel_rfl) (by kernel_rfl) (by kernel_rfl) (fun _ _ _ h => h) rfl (by assumption) (by (intro w hSw; (try dsimp only at hSw); go_simp; try with_reducible rfl)) ?_
        simp only [Act.put, List.setIfInBounds_toArray, List.set_cons_zero, List.set_cons_succ]
        refine wpAnyH_oneL 7 rfl (by kernel_rfl) rfl (fun K hK => ?_)
        go_simp
        refine hK.out _ _ hHeld ?_
        clear hK K hc3
        refine wpAnyH_takeL 16 rfl (by kernel_rfl) (by kernel_rfl) (by kernel_rfl) (fun _ _ _ h => h) rfl (by assumption) (by (intro w hSw; (try dsimp only at hSw); go_simp; try with_reducible rfl)) ?_
        simp only [Act.put, List.setIfInBounds_toArray, List.set_cons_zero, List.set_cons_succ]
        refine wpAnyH_oneL 17 rfl (by kernel_rfl) rfl (fun K hK => ?_)
        go_simp
        have hgb := hga.alloc (.cells #[.int .i64 (DD : Int), .int .i64 (II : Int), .int .i64 (JJ : Int), .int .u32 0, .slice none 0 0] 73)
        have hnew := heap_alloc_new W1 (.cells #[.int .i64 (DD : Int), .int .i64 (II : Int), .int .i64 (JJ : Int), .int .u32 0, .slice none 0 0] 73)
        obtain ⟨W2, eW⟩ : ∃ x, W1.alloc (.cells #[.int .i64 (DD : Int), .int .i64 (II : Int), .int .i64 (JJ : Int), .int .u32 0, .slice none 0 0] 73) = x := ⟨_, rfl⟩
        rw [eW] at hgb hnew ⊢
        clear eW hHeld
        have hHeld : (fun W : World => W.cell? ⟨wr.heap.size, 0, none⟩ = some (.int .u8 (m1 : Int)) ∧ W.cell? ⟨wr.heap.size, 1, none⟩ = some (.int .u8 (m2 : Int))) W2 := ⟨hgb.cell HX.out.1, hgb.cell HX.out.2⟩
        refine hK.out _ _ hHeld ?_
        clear hK K
        obtain ⟨v', w9, hr, ha9, hg9, hgw⟩ := run_append_act 69 (HAB0.out.gr hgb) (HAL.out.trans hgb) hnew HDD.out hII hJJ (by rw [HJL.out]; omega)
        have hl9 : (acs ++ [(DD, II, JJ)]).length = j + 1 := by rw [List.length_append, HJL.out]; rfl
        have HA9 := Lib.hid ha9
        have HG9 := Lib.hid hg9
        have HL9 := Lib.hid hl9
        refine wpAnyH_oneL 18 rfl (by kernel_rfl) rfl (fun K hK => ?_)
        refine Lib.wp_append_run W2 (.tmp 58) (.tmp 75) 69 69 rfl _ _ rfl rfl v' w9 hr ?_
        have hblk : w9.heap[wr.heap.size]? = W2.heap[wr.heap.size]? := hgw.block wr.heap.size (Nat.lt_of_lt_of_le hW0s hgb.size) (fun e => by have := (World.ownsRow.lt HAB.out.1 _ e.symm).2; omega)
        have hHeld : (fun W : World => W.cell? ⟨wr.heap.size, 0, none⟩ = some (.int .u8 (m1 : Int)) ∧ W.cell? ⟨wr.heap.size, 1, none⟩ = some (.int .u8 (m2 : Int))) w9 := by
          obtain ⟨y0, y1⟩ := hHeld
          simp only [World.cell?] at y0 y1 ⊢
          rw [hblk]; exact ⟨y0, y1⟩
        refine hK.out _ _ hHeld ?_
        clear hK K hr ha9 hg9 hl9 hgw hblk hgb hga hnew
        simp only [Act.put, List.setIfInBounds_toArray, List.set_cons_zero, List.set_cons_succ]
        refine wpAnyH_oneL 19 rfl (by kernel_rfl) rfl (fun K hK => ?_)
        go_simp
        refine hK.out _ _ hHeld ?_
        clear hK K
        refine wpAnyH_done (by kernel_rfl) ?_ _
        clear hHeld hact HX
        go_wp2
        go_roundw
        case rel => exact ⟨j + 1, v', _, by omega, by go_num, rfl, HL9.out, HA9.out, HG9.out⟩
        case measure => first | (simp [intOf]; done) | (simp [intOf]; omega)
      · have hge : (l4 : Int) ≤ (j : Int) := by omega
        obtain ⟨aa, ca, rfl, hacts⟩ := HAB.out.acts
        rw [HJL.out] at hacts ⊢
        have HACT := Lib.hid hacts
        have HW4 := Lib.hid (HW3.out.trans HGR.out)
        have HP4 := Lib.hid (HGR.out.heap HP3.out)
        have hna : j ≤ 40 := by omega
        obtain ⟨p0, p1, p2, p3⟩ := p_four_cells HP4.out
        clear hacts HAB HJL HGR HP3 HW3
        go_wp2_with fail
        refine (sent_ok n s q id HP.out hid hnm ao co obj a3 l3 c3 ss _ (HT.out.below HW4.out) (HO.out.below HW4.out) (HS3.out.below HW4.out) HFEW.out).mono ?_
        rintro e w5 ⟨v, rfl, hrow, hg⟩
        obtain ⟨al, cl, rfl, hbss, _⟩ := hrow.bss
        have HLA := Lib.hid hbss
        have HW5 := Lib.hid (HW4.out.trans hg)
        have HP5 := Lib.hid (hg.heap HP4.out)
        have HAC5 := Lib.hid (HACT.out.below hg)
        clear hbss hrow hg HP4 HW4 HACT p0 p1 p2 p3 hge hlt hj
        have hlal := sentTo_len n s q id obj ss l3
        have hlan := nextTo_le q ss l3
        have hgda := goods_fr (n := n) (s := s) (q := q) (id := id) (obj := obj) (k := 0) (ss := ss) HP.out hid (by omega) HFEW.out HS3.out.sd l3 (by rw [HSL.out]; exact Nat.le_refl _)
        rw [sentFr_zero] at hgda
        have HGA := Lib.hid hgda
        obtain ⟨la, ela⟩ : ∃ x, (sentTo n s q id obj ss l3).length = x := ⟨_, rfl⟩
        have hla : la ≤ 20 := by omega
        rw [ela] at HLA ⊢
        obtain ⟨LA, eLA⟩ : ∃ x, sentTo n s q id obj ss l3 = x := ⟨_, rfl⟩
        rw [eLA] at HLA HGA
        obtain ⟨VA, eVA⟩ : ∃ x, vecTo q ss l3 = x := ⟨_, rfl⟩
        rw [eVA] at HGA
        have EVA := Lib.hid eVA
        have HVL : Hid (VA.length = la) := by show _ = _; rw [HGA.out.1, HLA.out.1]
        clear hgda ela eLA eVA hlal hlan HSL
        obtain ⟨p0, p1, p2, p3⟩ := p_four_cells HP5.out
        go_wp2_with fail
        refine (takerNew_S n s q id (dat obj s q) HP.out (by omega) w5).mono ?_
        rintro e w6 ⟨Ta, Ea, rfl, hEa, hETa, hts, hg⟩
        have HTA := Lib.hid hts
        have HG6 := Lib.hid hg
        have hTa6 := hts.lt
        obtain ⟨p0, p1, p2, p3⟩ := p_four_cells (hg.heap HP5.out)
        clear hts hg
        go_wp2_with fail
        refine (takerNew_S n s q id (dat obj s q) HP.out (by omega) w6).mono ?_
        rintro e w7 ⟨Tb, Eb, rfl, hEb, hETb, hts, hg⟩
        have HTB := Lib.hid hts
        have HTA7 := Lib.hid (HTA.out.gr hg)
        have HG7 := Lib.hid (HG6.out.trans hg)
        have hTb7 := hts.lt
        have hw65 := HG6.out.size
        clear hts hg HTA HG6 p0 p1 p2 p3
        go_wp2
        go_loopw [107] (fun i wr => ∃ (j : Nat) (Sa : Nat → Prop), j ≤ la ∧ i = .int .i64 j ∧ TakS wr Sa Ta Ea n s q id (putAll [] (VA.take j)) (dat obj s q) j ∧ (∀ b, Sa b → b = Ea ∨ w7.heap.size ≤ b) ∧ GrS (fun b => b = Ta ∨ b = Ea) w7 wr) (fun i _ => la - (intOf i).toNat)
        case atStart => exact ⟨0, _, Nat.zero_le _, rfl, HTA7.out, fun b hb => .inl hb, GrS.refl _ _⟩
        case round =>
          obtain ⟨j2, Sa, hj2, rfl, hta, hSa, hgs⟩ := hrel
          have HTAr := Lib.hid hta
          have HSA := Lib.hid hSa
          have HGS := Lib.hid hgs
          have HGW := Lib.hid (GrS.to_gr HG7.out hgs fun b hb => by rcases hb with rfl | rfl <;> omega)
          clear hta hSa hgs
          by_cases hlt : j2 < la
          · have hbbr := HLA.out.below HGW.out
            obtain ⟨bl, off, rfl, _⟩ := hbbr.at_ (by omega)
            obtain ⟨l, al', nl', cl', hlj, hcl, hbl⟩ := hbbr.get hlt
            obtain ⟨v, hvj⟩ : ∃ v, VA[j2]? = some v := ⟨_, List.getElem?_eq_getElem (by rw [HVL.out]; exact hlt)⟩
            obtain ⟨hgd, hlm⟩ := HGA.out.2 j2 l v hlj hvj
            have htk : VA.take (j2 + 1) = VA.take j2 ++ [v] := by rw [List.take_add_one, hvj]; rfl
            have hpa : putAll [] (VA.take (j2 + 1)) = putV (putAll [] (VA.take j2)) v := by rw [htk, putAll_snoc]
            have HPA := Lib.hid hpa
            rw [hbl.1] at hlm
            have HTK := Lib.hid (take_all Ta Ea n s q id Sa HP.out hnm (putAll [] (VA.take j2)) (dat obj s q) (lin_dat obj s q) j2 (by omega) al' nl' cl' l v wr (HT.out.below (HW5.out.trans HGW.out)) hbl hlm HTAr.out hgd)
            clear hlj hbl hvj hgd hlm htk hpa hbbr
            go_wp2_with fail
            refine HTK.out.mono ?_
            rintro e w9 ⟨rfl, S', hS', hts', hgs⟩
            have hgr7 := HGS.out.size
            have HG9 := Lib.hid (HGS.out.trans hgs (fun b hb => hb.elim (fun e => .inl (.inl e)) (fun h => (HSA.out b h).elim (fun e => .inl (.inr e)) .inr)))
            have HS9 : Hid (∀ b, S' b → b = Ea ∨ w7.heap.size ≤ b) := fun b hb => (hS' b hb).elim (HSA.out b) fun h => .inr (by omega)
            have HT9 := Lib.hid hts'
            clear hts' hgs hS'
            go_wp2
            go_roundw
            case rel => exact ⟨j2 + 1, S', by omega, by go_num, by rw [HPA.out]; exact HT9.out, HS9.out, HG9.out⟩
            case measure => first | (simp [intOf]; done) | (simp [intOf]; omega)
          · have hge : (la : Int) ≤ (j2 : Int) := by omega
            have hfa := HTAr.out
            rw [List.take_of_length_le (by rw [HVL.out]; omega)] at hfa
            have HTAF := Lib.hid hfa
            have HWR := Lib.hid (HW5.out.trans HGW.out)
            have HTBr := Lib.hid (HTB.out.grS HGS.out (fun h => by rcases h with h | h <;> omega) (fun b hb h => by
              have hb' : b = Eb := hb
              rcases h with h | h <;> omega))
            have hlm : ∀ l, l ∈ LA → l.length ≤ 1000000 := fun l hl => by
              obtain ⟨i, hi, rfl⟩ := List.getElem_of_mem hl
              exact (HGA.out.2 i LA[i] (VA[i]'(by rw [HGA.out.1]; exact hi)) (List.getElem?_eq_getElem hi) (List.getElem?_eq_getElem _)).2
            have HAP := Lib.hid (applyAll_ok al la cl LA aa j ca acs (by omega) (by omega) hlm wr (HLA.out.below HGW.out) (HAC5.out.below HGW.out))
            have hwr7 := HGS.out.size
            clear hfa hlm HTAr HTB HVL hlt hj2
            go_wp2_with fail
            refine HAP.out.mono ?_
            rintro e w9 ⟨a', n', c', LB, rfl, hbb, hn', hmem, hay, hg9⟩
            obtain ⟨VB, hgb, hvm⟩ := goods_same HGA.out hmem
            have hput : putAll [] VB = putAll [] VA := (put_same HGA.out.vec hvm).symm
            have HPUT := Lib.hid hput
            have HGB := Lib.hid hgb
            have HBB := Lib.hid hbb
            have hVBl : VB.length = n' := by rw [HGB.out.1, HBB.out.1]
            have HVBL := Lib.hid hVBl
            have HW9 := Lib.hid (HWR.out.trans hg9)
            have HG59 := Lib.hid (HGW.out.trans hg9)
            have HTA9 := Lib.hid (HTAF.out.gr hg9)
            have HTB9 := Lib.hid (HTBr.out.gr hg9)
            have hw97 : w7.heap.size ≤ w9.heap.size := Nat.le_trans hwr7 hg9.size
            have HNB : Hid (∀ b, (b = Tb ∨ b = Eb) → ∀ (i : Nat) (u : Int), w9.cell? ⟨b, i, none⟩ ≠ some (.int .u8 u)) := by
              show ∀ b, _
              obtain ⟨gg, es, _, hTA, _, hEA, _⟩ := HTB9.out
              obtain ⟨r, ar, cr, er, hEc⟩ := hEA.cells
              rintro b (rfl | rfl)
              · exact cells_noB hTA tak_noB
              · exact cells_noB hEc fun j u => by match j with | 0 => simp | 1 => simp | 2 => simp | j + 3 => simp
            have HAYN : Hid (∀ y, a' = some y → ¬ (y.block = Tb ∨ y.block = Eb)) := fun y hy h => by
              have := hay y hy
              rcases h with h | h <;> omega
            clear hbb hmem hay hg9 hgb hvm hput HAP HTAF HTBr hVBl HWR HGW HGS HLA
            go_wp2
            go_loopw [120] (fun i wr => ∃ (j : Nat) (Sb : Nat → Prop), j ≤ n' ∧ i = .int .i64 j ∧ TakS wr Sb Tb Eb n s q id (putAll [] (VB.take j)) (dat obj s q) j ∧ (∀ b, Sb b → b = Eb ∨ w9.heap.size ≤ b) ∧ GrS (fun b => b = Tb ∨ b = Eb) w9 wr) (fun i _ => n' - (intOf i).toNat)
            case atStart => exact ⟨0, _, Nat.zero_le _, rfl, HTB9.out, fun b hb => .inl hb, GrS.refl _ _⟩
            case round =>
              obtain ⟨j3, Sb, hj3, rfl, htb, hSb, hgs⟩ := hrel
              have HTBr := Lib.hid htb
              have HSB := Lib.hid hSb
              have HGS := Lib.hid hgs
              have HGW := Lib.hid (GrS.to_gr HW9.out hgs fun b hb => by have := HW5.out.size; rcases hb with rfl | rfl <;> omega)
              clear htb hSb hgs
              by_cases hlt : j3 < n'
              · have hbbr := HBB.out.noB HGS.out HNB.out HAYN.out
                obtain ⟨bl, off, rfl, _⟩ := hbbr.at_ (by omega)
                obtain ⟨l, al', nl', cl', hlj, hcl, hbl⟩ := hbbr.get hlt
                obtain ⟨v, hvj⟩ : ∃ v, VB[j3]? = some v := ⟨_, List.getElem?_eq_getElem (by rw [HVBL.out]; exact hlt)⟩
                obtain ⟨hgd, hlm⟩ := HGB.out.2 j3 l v hlj hvj
                have htk : VB.take (j3 + 1) = VB.take j3 ++ [v] := by rw [List.take_add_one, hvj]; rfl
                have hpa : putAll [] (VB.take (j3 + 1)) = putV (putAll [] (VB.take j3)) v := by rw [htk, putAll_snoc]
                have HPA := Lib.hid hpa
                rw [hbl.1] at hlm
                have HTK := Lib.hid (take_all Tb Eb n s q id Sb HP.out hnm (putAll [] (VB.take j3)) (dat obj s q) (lin_dat obj s q) j3 (by omega) al' nl' cl' l v wr (HT.out.below HGW.out) hbl hlm HTBr.out hgd)
                clear hlj hbl hvj hgd hlm htk hpa hbbr
                go_wp2_with fail
                refine HTK.out.mono ?_
                rintro e w11 ⟨rfl, S', hS', hts', hgs⟩
                have hgr7 := HGS.out.size
                have HG11 := Lib.hid (HGS.out.trans hgs (fun b hb => hb.elim (fun e => .inl (.inl e)) (fun h => (HSB.out b h).elim (fun e => .inl (.inr e)) .inr)))
                have HS11 : Hid (∀ b, S' b → b = Eb ∨ w9.heap.size ≤ b) := fun b hb => (hS' b hb).elim (HSB.out b) fun h => .inr (by omega)
                have HT11 := Lib.hid hts'
                clear hts' hgs hS'
                go_wp2
                go_roundw
                case rel => exact ⟨j3 + 1, S', by omega, by go_num, by rw [HPA.out]; exact HT11.out, HS11.out, HG11.out⟩
                case measure => first | (simp [intOf]; done) | (simp [intOf]; omega)
              · have hge3 : (n' : Int) ≤ (j3 : Int) := by omega
                have hfb := HTBr.out
                rw [List.take_of_length_le (by rw [HVBL.out]; omega), HPUT.out] at hfb
                have HTBF := Lib.hid hfb
                have HTAF := Lib.hid (HTA9.out.grS HGS.out (fun h => by rcases h with h | h <;> omega) (fun b hb h => by
                  have hb' := HSA.out b hb
                  rcases h with h | h <;> omega))
                have hg5r := GrS.to_gr HG59.out HGS.out (fun b hb => by rcases hb with rfl | rfl <;> omega)
                have HPR := Lib.hid (hg5r.heap HP5.out)
                have HACR := Lib.hid (HAC5.out.below hg5r)
                obtain ⟨V, eV⟩ : ∃ x, putAll [] VA = x := ⟨_, rfl⟩
                rw [eV] at HTAF HTBF
                have HVV : Hid (putAll [] (vecTo q ss l3) = V) := by show _ = _; rw [EVA.out]; exact eV
                have hRed := HTAF.out.red
                have hV4 : V.length ≤ 4096 := by have := hRed.ech.rank_k; omega
                have HOA := Lib.hid (takerObject_S Ta Ea n s q id j2 HP.out (by omega) Sa V obj HO.out.1 wr HTAF.out)
                have HOBc := Lib.hid fun W hg => takerObject_S Tb Eb n s q id j3 HP.out (by omega) Sb V obj HO.out.1 W (HTBF.out.gr hg)
                obtain ⟨RK, eRK⟩ : ∃ x, V.length = x := ⟨_, rfl⟩
                have HRKE := Lib.hid eRK
                rw [eRK] at HOA HOBc
                obtain ⟨GE, eGE⟩ : ∃ x, (if RK = q then 0 else 12 : Nat) = x := ⟨_, rfl⟩
                rw [eGE] at HOA HOBc
                obtain ⟨OB, eOB⟩ : ∃ x, (if RK = q then obj else []) = x := ⟨_, rfl⟩
                have HOBE := Lib.hid eOB
                rw [eOB] at HOA HOBc
                clear hfb hg5r eV hRed eRK eGE eOB HPUT HGB HBB HVBL HNB HAYN HGS HTBr HTA9 HG59 hj3 hlt hge HSB HTB9 HTA7 HG7 HW9 HAC5 HP5 HGA
                go_wp2_with fail
                refine HOA.out.mono ?_
                rintro e w12 ⟨b1, k1, d1, rfl, hb1, hg1⟩
                have HB1 := Lib.hid hb1
                have HG1 := Lib.hid hg1
                have HOB := Lib.hid (HOBc.out w12 hg1)
                clear hb1 hg1 HOA HOBc hge3
                go_wp2_with fail
                refine HOB.out.mono ?_
                rintro e w13 ⟨b2, k2, d2, rfl, hb2, hg2⟩
                have HB2 := Lib.hid hb2
                have HB1' := Lib.hid (HB1.out.below hg2)
                have HG13 := Lib.hid (HG1.out.trans hg2)
                have HW13 := Lib.hid (HGW.out.trans HG13.out)
                have HP13 := Lib.hid (HG13.out.heap HPR.out)
                have HTR := Lib.hid (tripRun_ok n s q id HP.out hid hnm ao co obj a3 l3 c3 ss aa j ca acs hna w13 (HT.out.below HW13.out) (HO.out.below HW13.out) (HS3.out.below HW13.out) HFEW.out (HACR.out.below HG13.out))
                obtain ⟨p0, p1, p2, p3⟩ := p_four_cells HP13.out
                clear hb2 hg2 HOB HB1 HG1 HPR HACR
                go_wp2_with fail
                refine HTR.out.mono ?_
                rintro e w14 ⟨sn, STA, s1, s2, s3, oa, ol, oc, rfl, hST, hbO, hg14⟩
                rw [HVV.out, HRKE.out] at hST hbO ⊢
                rw [HOBE.out] at hbO
                have hal := (Gr.refl w14).alloc (.cells #[.int .i64 (sn : Int), .slice s1 s2 s3, .int .i64 (RK : Int), .int .i64 (STA : Int), .slice oa ol oc] 77)
                have hnew := heap_alloc_new w14 (.cells #[.int .i64 (sn : Int), .slice s1 s2 s3, .int .i64 (RK : Int), .int .i64 (STA : Int), .slice oa ol oc] 77)
                have HN := Lib.hid hnew
                have HST := Lib.hid hST
                have HBO := Lib.hid (hbO.below hal)
                have HG14 := Lib.hid (hg14.trans hal)
                clear hST hbO hg14 hal hnew HTR p0 p1 p2 p3 HP13
                go_wp2
                obtain ⟨W0, eW⟩ : ∃ x, w14.alloc (.cells #[.int .i64 (sn : Int), .slice s1 s2 s3, .int .i64 (RK : Int), .int .i64 (STA : Int), .slice oa ol oc] 77) = x := ⟨_, rfl⟩
                rw [eW] at HN HBO HG14 ⊢
                obtain ⟨X, eX⟩ : ∃ x, w14.heap.size = x := ⟨_, rfl⟩
                rw [eX] at HN ⊢
                have HTAW := Lib.hid (HTAF.out.gr (HG13.out.trans HG14.out))
                have HTBW := Lib.hid (HTBF.out.gr (HG13.out.trans HG14.out))
                have HB1W := Lib.hid (HB1'.out.below HG14.out)
                have HB2W := Lib.hid (HB2.out.below HG14.out)
                have HWW := Lib.hid (HW13.out.trans HG14.out)
                have HXC := Lib.hid hq1
                obtain ⟨c0, c1, c2, c3, c4, -⟩ := five_cells HN.out
                have hHeld : (fun W : World => W.cell? ⟨X, 2, none⟩ = some (.int .i64 (RK : Int)) ∧ W.cell? ⟨X, 3, none⟩ = some (.int .i64 (STA : Int)) ∧ W.cell? ⟨X, 4, none⟩ = some (.slice oa ol oc)) W0.drew := ⟨c2, c3, c4⟩
                have HX : Hid ((fun W : World => W.cell? ⟨X, 2, none⟩ = some (.int .i64 (RK : Int)) ∧ W.cell? ⟨X, 3, none⟩ = some (.int .i64 (STA : Int)) ∧ W.cell? ⟨X, 4, none⟩ = some (.slice oa ol oc)) W0) := ⟨c2, c3, c4⟩
                have hup : Hid (∀ W, Gr W0 W → (fun W : World => W.cell? ⟨X, 2, none⟩ = some (.int .i64 (RK : Int)) ∧ W.cell? ⟨X, 3, none⟩ = some (.int .i64 (STA : Int)) ∧ W.cell? ⟨X, 4, none⟩ = some (.slice oa ol oc)) W) := fun W g => ⟨g.cell HX.out.1, g.cell HX.out.2.1, g.cell HX.out.2.2⟩
                have HSA1 : Hid (∀ W, Gr W0 W → Calls Tryz.prog 19 #[.pointer (some ⟨Ta, 0, none⟩)] W fun e w' => e = .returned (.int .i64 (STA : Int)) ∧ W = w') := fun W g => by
                  have h := takerStatus_S Ta Ea n s q id j2 Sa V (dat obj s q) W (HTAW.out.gr g)
                  rw [HRKE.out, ← HST.out] at h; exact h
                have HSB1 : Hid (∀ W, Gr W0 W → Calls Tryz.prog 19 #[.pointer (some ⟨Tb, 0, none⟩)] W fun e w' => e = .returned (.int .i64 (STA : Int)) ∧ W = w') := fun W g => by
                  have h := takerStatus_S Tb Eb n s q id j3 Sb V (dat obj s q) W (HTBW.out.gr g)
                  rw [HRKE.out, ← HST.out] at h; exact h
                have HRA1 : Hid (∀ W, Gr W0 W → Calls Tryz.prog 21 #[.pointer (some ⟨Ta, 0, none⟩)] W fun e w' => e = .returned (.int .i64 (RK : Int)) ∧ W = w') := fun W g => by
                  have h := takerRank_S Ta Ea n s q id j2 Sa V (dat obj s q) W (HTAW.out.gr g)
                  rw [HRKE.out] at h; exact h
                have HSM1 : Hid (∀ W, Gr W0 W → Calls Tryz.prog 25 #[.slice b1 k1 d1, .slice b2 k2 d2] W fun e w' => e = .returned (.bool true) ∧ Gr W w') := fun W g => by
                  have h := same_any b1 b2 k1 d1 k2 d2 OB OB W (HB1W.out.below g) (HB2W.out.below g)
                  rw [sameB_self] at h; exact h
                have HSM2 : Hid (∀ W, Gr W0 W → Calls Tryz.prog 25 #[.slice oa ol oc, .slice b1 k1 d1] W fun e w' => e = .returned (.bool true) ∧ Gr W w') := fun W g => by
                  have h := same_any oa b1 ol oc k1 d1 OB OB W (HBO.out.below g) (HB1W.out.below g)
                  rw [sameB_self] at h; exact h
                clear c0 c1 c2 c3 c4 eW eX HTAF HTBF HB1' HB2 HW13 HG13 HG14 HGW HN HX HXC
                refine wp_region_held_drew (S := (fun W : World => W.cell? ⟨X, 2, none⟩ = some (.int .i64 (RK : Int)) ∧ W.cell? ⟨X, 3, none⟩ = some (.int .i64 (STA : Int)) ∧ W.cell? ⟨X, 4, none⟩ = some (.slice oa ol oc))) (by kernel_rfl) hHeld (fun _ => ?_)
                refine wpAnyH_takeL 0 rfl (by kernel_rfl) (by kernel_rfl) (by kernel_rfl) (fun _ _ _ h => h) rfl (by assumption) (by (intro w hSw; (try dsimp only at hSw); go_simp; try with_reducible rfl)) ?_
                simp only [Act.put, List.setIfInBounds_toArray, List.set_cons_zero, List.set_cons_succ]
                refine wpAnyH_takeL 2 rfl (by kernel_rfl) (by kernel_rfl) (by kernel_rfl) (fun _ _ _ h => h) rfl (by assumption) (by (intro w hSw; (try dsimp only at hSw); go_simp; try with_reducible rfl)) ?_
                simp only [Act.put, List.setIfInBounds_toArray, List.set_cons_zero, List.set_cons_succ]
                refine wpAnyH_oneL 1 rfl (by kernel_rfl) rfl (fun K hK => ?_)
                go_simp
                go_at_call 18
                refine (takerRows_S Ta Ea n s q id j2 hs2 hq2 Sa V (dat obj s q) W0.drew (HTAW.out.gr (Gr.refl W0).drew)).mono ?_
                rintro e w15 ⟨rv1, rfl, hr1, hg1⟩
                have HG15 := Lib.hid ((Gr.refl W0).drew.trans hg1)
                have HR1 := Lib.hid hr1
                clear hHeld hr1 hg1
                have hHeld := hup.out w15 HG15.out
                go_simp
                refine hK.out _ _ hHeld ?_
                clear hK K
                refine wpAnyH_oneL 3 rfl (by kernel_rfl) rfl (fun K hK => ?_)
                go_simp
                go_at_call 18
                refine (takerRows_S Tb Eb n s q id j3 hs2 hq2 Sb V (dat obj s q) w15 (HTBW.out.gr HG15.out)).mono ?_
                rintro e w16 ⟨rv2, rfl, hr2, hg2⟩
                have HG16 := Lib.hid (HG15.out.trans hg2)
                have HR1' := Lib.hid (HR1.out.gr hg2)
                have HR2 := Lib.hid hr2
                clear hHeld hr2 hg2 HR1 HG15
                have hHeld := hup.out w16 HG16.out
                go_simp
                refine hK.out _ _ hHeld ?_
                clear hK K
                refine wpAnyH_oneL 4 rfl (by kernel_rfl) rfl (fun K hK => ?_)
                go_simp
                go_at_call 17
                refine (sameRows_eq q s _ _ rv1 rv2 V (dat obj s q) hV4 w16 HR1'.out HR2.out).mono ?_
                rintro e w17 ⟨rfl, hg3⟩
                have HG17 := Lib.hid (HG16.out.trans hg3)
                clear hHeld hg3 HR1' HR2 HG16
                have hHeld := hup.out w17 HG17.out
                go_simp
                refine hK.out _ _ hHeld ?_
                clear hK K
                refine wpAnyH_takeL 5 rfl (by kernel_rfl) (by kernel_rfl) (by kernel_rfl) (fun _ _ _ h => h) rfl (by assumption) (by (intro w hSw; (try dsimp only at hSw); go_simp; try with_reducible rfl)) ?_
                simp only [Act.put, List.setIfInBounds_toArray, List.set_cons_zero, List.set_cons_succ]
                refine wpAnyH_takeL 6 rfl (by kernel_rfl) (by kernel_rfl) (by kernel_rfl) (fun _ _ _ h => h) rfl (by assumption) (by (intro w hSw; (try dsimp only at hSw); go_simp; try with_reducible rfl)) ?_
                simp only [Act.put, List.setIfInBounds_toArray, List.set_cons_zero, List.set_cons_succ]
                refine wpAnyH_takeL 8 rfl (by kernel_rfl) (by kernel_rfl) (by kernel_rfl) (fun _ _ _ h => h) rfl (by assumption) (by (intro w hSw; (try dsimp only at hSw); go_simp; try with_reducible rfl)) ?_
                simp only [Act.put, List.setIfInBounds_toArray, List.set_cons_zero, List.set_cons_succ]
                refine wpAnyH_oneL 7 rfl (by kernel_rfl) rfl (fun K hK => ?_)
                go_simp
                go_at_call 19
                refine (HSA1.out w17 HG17.out).mono ?_
                rintro e w18 ⟨rfl, hw⟩
                subst hw
                go_simp
                refine hK.out _ _ hHeld ?_
                clear hK K
                refine wpAnyH_oneL 9 rfl (by kernel_rfl) rfl (fun K hK => ?_)
                go_simp
                go_at_call 19
                refine (HSB1.out w17 HG17.out).mono ?_
                rintro e w18 ⟨rfl, hw⟩
                subst hw
                go_simp
                refine hK.out _ _ hHeld ?_
                clear hK K
                refine wpAnyH_takeL 10 rfl (by kernel_rfl) (by kernel_rfl) (by kernel_rfl) (fun _ _ _ h => h) rfl (by assumption) (by (intro w hSw; (try dsimp only at hSw); go_simp; try with_reducible rfl)) ?_
                simp only [Act.put, List.setIfInBounds_toArray, List.set_cons_zero, List.set_cons_succ]
                refine wpAnyH_takeL 11 rfl (by kernel_rfl) (by kernel_rfl) (by kernel_rfl) (fun _ _ _ h => h) rfl (by assumption) (by (intro w hSw; (try dsimp only at hSw); go_simp; try with_reducible rfl)) ?_
                simp only [Act.put, List.setIfInBounds_toArray, List.set_cons_zero, List.set_cons_succ]
                refine wpAnyH_takeL 12 rfl (by kernel_rfl) (by kernel_rfl) (by kernel_rfl) (fun _ _ _ h => h) rfl (by assumption) (by (intro w hSw; (try dsimp only at hSw); go_simp; try with_reducible rfl)) ?_
                simp only [Act.put, List.setIfInBounds_toArray, List.set_cons_zero, List.set_cons_succ]
                refine wpAnyH_takeL 13 rfl (by kernel_rfl) (by kernel_rfl) (by kernel_rfl) (fun _ _ _ h => h) rfl (by assumption) (by (intro w hSw; (try dsimp only at hSw); go_simp; try with_reducible rfl)) ?_
                simp only [Act.put, List.setIfInBounds_toArray, List.set_cons_zero, List.set_cons_succ]
                refine wpAnyH_takeL 14 rfl (by kernel_rfl) (by kernel_rfl) (by kernel_rfl) (fun _ _ _ h => h) rfl (by assumption) (by (intro w hSw; (try dsimp only at hSw); go_simp; try with_reducible rfl)) ?_
                simp only [Act.put, List.setIfInBounds_toArray, List.set_cons_zero, List.set_cons_succ]
                refine wpAnyH_takeL 15 rfl (by kernel_rfl) (by kernel_rfl) (by kernel_rfl) (fun _ _ _ h => h) rfl (by assumption) (by (intro w hSw; (try dsimp only at hSw); go_simp; try with_reducible rfl)) ?_
                simp only [Act.put, List.setIfInBounds_toArray, List.set_cons_zero, List.set_cons_succ]
                refine wpAnyH_takeL 16 rfl (by kernel_rfl) (by kernel_rfl) (by kernel_rfl) (fun _ _ _ h => h) rfl (by assumption) (by (intro w hSw; (try dsimp only at hSw); go_simp; try with_reducible rfl)) ?_
                simp only [Act.put, List.setIfInBounds_toArray, List.set_cons_zero, List.set_cons_succ]
                refine wpAnyH_takeL 17 rfl (by kernel_rfl) (by kernel_rfl) (by kernel_rfl) (fun _ _ _ h => h) rfl (by assumption) (by (intro w hSw; (try dsimp only at hSw); go_simp; try with_reducible rfl)) ?_
                simp only [Act.put, List.setIfInBounds_toArray, List.set_cons_zero, List.set_cons_succ]
                refine wpAnyH_takeL 18 rfl (by kernel_rfl) (by kernel_rfl) (by kernel_rfl) (fun _ _ _ h => h) rfl (by assumption) (by (intro w hSw; (try dsimp only at hSw); go_simp; try with_reducible rfl)) ?_
                simp only [Act.put, List.setIfInBounds_toArray, List.set_cons_zero, List.set_cons_succ]
                refine wpAnyH_takeL 19 rfl (by kernel_rfl) (by kernel_rfl) (by kernel_rfl) (fun _ _ _ h => h) rfl (by assumption) (by (intro w hSw; (try dsimp only at hSw); go_simp; try with_reducible rfl)) ?_
                simp only [Act.put, List.setIfInBounds_toArray, List.set_cons_zero, List.set_cons_succ]
                refine wpAnyH_oneL 20 rfl (by kernel_rfl) rfl (fun K hK => ?_)
                go_simp
                go_at_call 25
                refine (HSM1.out w17 HG17.out).mono ?_
                rintro e w18 ⟨rfl, hg⟩
                have HG18 := Lib.hid (HG17.out.trans hg)
                clear hHeld hg HG17
                have hHeld := hup.out w18 HG18.out
                go_simp
                refine hK.out _ _ hHeld ?_
                clear hK K
                refine wpAnyH_takeL 21 rfl (by kernel_rfl) (by kernel_rfl) (by kernel_rfl) (fun _ _ _ h => h) rfl (by assumption) (by (intro w hSw; (try dsimp only at hSw); go_simp; try with_reducible rfl)) ?_
                simp only [Act.put, List.setIfInBounds_toArray, List.set_cons_zero, List.set_cons_succ]
                refine wpAnyH_takeL 22 rfl (by kernel_rfl) (by kernel_rfl) (by kernel_rfl) (fun _ _ _ h => h) rfl (by assumption) (by (intro w hSw; (try dsimp only at hSw); go_simp; try with_reducible rfl)) ?_
                simp only [Act.put, List.setIfInBounds_toArray, List.set_cons_zero, List.set_cons_succ]
                refine wpAnyH_takeL 23 rfl (by kernel_rfl) (by kernel_rfl) (by kernel_rfl) (fun _ _ _ h => h) rfl (by assumption) (by (intro w hSw; (try dsimp only at hSw); go_simp; try with_reducible rfl)) ?_
                simp only [Act.put, List.setIfInBounds_toArray, List.set_cons_zero, List.set_cons_succ]
                refine wpAnyH_takeL 24 rfl (by kernel_rfl) (by kernel_rfl) (by kernel_rfl) (fun _ _ _ h => h) rfl (by assumption) (by (intro w hSw; (try dsimp only at hSw); go_simp; try with_reducible rfl)) ?_
                simp only [Act.put, List.setIfInBounds_toArray, List.set_cons_zero, List.set_cons_succ]
                refine wpAnyH_takeL 25 rfl (by kernel_rfl) (by kernel_rfl) (by kernel_rfl) (fun _ _ _ h => h) rfl (by assumption) (by (intro w hSw; (try dsimp only at hSw); go_simp; try with_reducible rfl)) ?_
                simp only [Act.put, List.setIfInBounds_toArray, List.set_cons_zero, List.set_cons_succ]
                refine wpAnyH_takeL 26 rfl (by kernel_rfl) (by kernel_rfl) (by kernel_rfl) (fun _ _ _ h => h) rfl (by assumption) (by (intro w hSw; (try dsimp only at hSw); go_simp; try with_reducible rfl)) ?_
                simp only [Act.put, List.setIfInBounds_toArray, List.set_cons_zero, List.set_cons_succ]
                refine wpAnyH_takeL 27 rfl (by kernel_rfl) (by kernel_rfl) (by kernel_rfl) (fun _ _ _ h => h) rfl (by assumption) (by (intro w hSw; (try dsimp only at hSw); go_simp; try with_reducible rfl)) ?_
                simp only [Act.put, List.setIfInBounds_toArray, List.set_cons_zero, List.set_cons_succ]
                refine wpAnyH_takeL 28 rfl (by kernel_rfl) (by kernel_rfl) (by kernel_rfl) (fun _ _ _ h => h) rfl (by assumption) (by (intro w hSw; (try dsimp only at hSw); go_simp; try with_reducible rfl)) ?_
                simp only [Act.put, List.setIfInBounds_toArray, List.set_cons_zero, List.set_cons_succ]
                refine wpAnyH_takeL 29 rfl (by kernel_rfl) (by kernel_rfl) (by kernel_rfl) (fun _ _ _ h => h) rfl (by assumption) (by (intro w hSw; (try dsimp only at hSw); go_simp; try with_reducible rfl)) ?_
                simp only [Act.put, List.setIfInBounds_toArray, List.set_cons_zero, List.set_cons_succ]
                refine wpAnyH_oneL 30 rfl (by kernel_rfl) rfl (fun K hK => ?_)
                go_simp
                go_at_call 21
                refine (HRA1.out w18 HG18.out).mono ?_
                rintro e w19 ⟨rfl, hw⟩
                subst hw
                go_simp
                refine hK.out _ _ hHeld ?_
                clear hK K
                refine wpAnyH_takeL 31 rfl (by kernel_rfl) (by kernel_rfl) (by kernel_rfl) (fun _ _ _ h => h) rfl (by assumption) (by (intro w hSw; (try dsimp only at hSw); go_simp; try with_reducible rfl)) ?_
                simp only [Act.put, List.setIfInBounds_toArray, List.set_cons_zero, List.set_cons_succ]
                refine wpAnyH_takeL 32 rfl (by kernel_rfl) (by kernel_rfl) (by kernel_rfl) (fun _ _ _ h => h) rfl (by assumption) (by (intro w hSw; (try dsimp only at hSw); go_simp; try with_reducible rfl)) ?_
                simp only [Act.put, List.setIfInBounds_toArray, List.set_cons_zero, List.set_cons_succ]
                refine wpAnyH_takeL 33 rfl (by kernel_rfl) (by kernel_rfl) (by kernel_rfl) (fun _ _ _ h => h) rfl (by assumption) (by (intro w hSw; (try dsimp only at hSw); go_simp; try with_reducible rfl)) ?_
                simp only [Act.put, List.setIfInBounds_toArray, List.set_cons_zero, List.set_cons_succ]
                refine wpAnyH_takeL 34 rfl (by kernel_rfl) (by kernel_rfl) (by kernel_rfl) (fun _ _ _ h => h) rfl (by assumption) (by (intro w hSw; (try dsimp only at hSw); go_simp; try with_reducible rfl)) ?_
                simp only [Act.put, List.setIfInBounds_toArray, List.set_cons_zero, List.set_cons_succ]
                refine wpAnyH_takeL 35 rfl (by kernel_rfl) (by kernel_rfl) (by kernel_rfl) (fun _ _ _ h => h) rfl (by assumption) (by (intro w hSw; (try dsimp only at hSw); go_simp; try with_reducible rfl)) ?_
                simp only [Act.put, List.setIfInBounds_toArray, List.set_cons_zero, List.set_cons_succ]
                refine wpAnyH_takeL 36 rfl (by kernel_rfl) (by kernel_rfl) (by kernel_rfl) (fun _ _ _ h => h) rfl (by assumption) (by (intro w hSw; (try dsimp only at hSw); go_simp; try with_reducible rfl)) ?_
                simp only [Act.put, List.setIfInBounds_toArray, List.set_cons_zero, List.set_cons_succ]
                refine wpAnyH_oneL 37 rfl (by kernel_rfl) rfl (fun K hK => ?_)
                go_simp
                go_at_call 19
                refine (HSA1.out w18 HG18.out).mono ?_
                rintro e w19 ⟨rfl, hw⟩
                subst hw
                go_simp
                refine hK.out _ _ hHeld ?_
                clear hK K
                refine wpAnyH_takeL 38 rfl (by kernel_rfl) (by kernel_rfl) (by kernel_rfl) (fun _ _ _ h => h) rfl (by assumption) (by (intro w hSw; (try dsimp only at hSw); go_simp; try with_reducible rfl)) ?_
                simp only [Act.put, List.setIfInBounds_toArray, List.set_cons_zero, List.set_cons_succ]
                refine wpAnyH_takeL 39 rfl (by kernel_rfl) (by kernel_rfl) (by kernel_rfl) (fun _ _ _ h => h) rfl (by assumption) (by (intro w hSw; (try dsimp only at hSw); go_simp; try with_reducible rfl)) ?_
                simp only [Act.put, List.setIfInBounds_toArray, List.set_cons_zero, List.set_cons_succ]
                refine wpAnyH_takeL 40 rfl (by kernel_rfl) (by kernel_rfl) (by kernel_rfl) (fun _ _ _ h => h) rfl (by assumption) (by (intro w hSw; (try dsimp only at hSw); go_simp; try with_reducible rfl)) ?_
                simp only [Act.put, List.setIfInBounds_toArray, List.set_cons_zero, List.set_cons_succ]
                refine wpAnyH_takeL 41 rfl (by kernel_rfl) (by kernel_rfl) (by kernel_rfl) (fun _ _ _ h => h) rfl (by assumption) (by (intro w hSw; (try dsimp only at hSw); go_simp; try with_reducible rfl)) ?_
                simp only [Act.put, List.setIfInBounds_toArray, List.set_cons_zero, List.set_cons_succ]
                refine wpAnyH_takeL 42 rfl (by kernel_rfl) (by kernel_rfl) (by kernel_rfl) (fun _ _ _ h => h) rfl (by assumption) (by (intro w hSw; (try dsimp only at hSw); go_simp; try with_reducible rfl)) ?_
                simp only [Act.put, List.setIfInBounds_toArray, List.set_cons_zero, List.set_cons_succ]
                refine wpAnyH_takeL 43 rfl (by kernel_rfl) (by kernel_rfl) (by kernel_rfl) (fun _ _ _ h => h) rfl (by assumption) (by (intro w hSw; (try dsimp only at hSw); go_simp; try with_reducible rfl)) ?_
                simp only [Act.put, List.setIfInBounds_toArray, List.set_cons_zero, List.set_cons_succ]
                refine wpAnyH_oneL 44 rfl (by kernel_rfl) rfl (fun K hK => ?_)
                go_simp
                go_at_call 25
                refine (HSM2.out w18 HG18.out).mono ?_
                rintro e w19 ⟨rfl, hg⟩
                have HG19 := Lib.hid (HG18.out.trans hg)
                clear hHeld hg HG18
                have hHeld := hup.out w19 HG19.out
                go_simp
                refine hK.out _ _ hHeld ?_
                clear hK K
                refine wpAnyH_takeL 45 rfl (by kernel_rfl) (by kernel_rfl) (by kernel_rfl) (fun _ _ _ h => h) rfl (by assumption) (by (intro w hSw; (try dsimp only at hSw); go_simp; try with_reducible rfl)) ?_
                simp only [Act.put, List.setIfInBounds_toArray, List.set_cons_zero, List.set_cons_succ]
                refine wpAnyH_takeL 46 rfl (by kernel_rfl) (by kernel_rfl) (by kernel_rfl) (fun _ _ _ h => h) rfl (by assumption) (by (intro w hSw; (try dsimp only at hSw); go_simp; try with_reducible rfl)) ?_
                simp only [Act.put, List.setIfInBounds_toArray, List.set_cons_zero, List.set_cons_succ]
                refine wpAnyH_done (by kernel_rfl) ?_ _
                have HFIN := Lib.hid (HWW.out.trans HG19.out)
                clear hHeld hup
                go_wp2
                first | go_ret | go_ret2
                exact ⟨rfl, HFIN.out⟩
  · have h40i : (40 : Int) < (l4 : Int) := by omega
    go_wp2
    first | go_ret | go_ret2
    exact ⟨rfl, HW3.out⟩
set_option maxRecDepth 100000 in
set_option maxHeartbeats 4000000 in
theorem topOrder_bad (ko : Nat) (s : Int) (hsl : -9223372036854775808 ≤ s) (hsm : s ≤ 9223372036854775807) (id : Nat) (hE : planFit ko s ≠ 0) (hkm : ko ≤ 9223372036854775807) (ao : Option Addr) (co : Nat) (a3 : Option Addr) (l3 c3 : Nat) (a4 : Option Addr) (l4 c4 : Nat) (w : World) (htab : Tab w) :
    Calls Tryz.prog 5 #[.slice ao ko co, .int .i64 s, .int .u32 (id : Int), .slice a3 l3 c3, .slice a4 l4 c4] w fun e w' => e = .returned (.bool true) ∧ Gr w w' := by
  have CO := Lib.hid fun w => small_bad ko s hsl hsm id hE hkm ao co w
  have HT := Lib.hid htab
  clear hE htab
  go_enter Tryz.func5, Tryz.ntmps5
  go_wp2_with fail
  refine (topAwake _ HT.out).mono ?_
  rintro e w1 ⟨rfl, hg1⟩
  go_wp2_with fail
  refine (CO.out w1).mono ?_
  rintro e w2 ⟨rfl, hg2⟩
  have hG := (hg1.trans hg2).alloc (.cells #[.int .i64 0, .int .i64 0, .int .i64 0, .int .u32 0] 28)
  clear hg1 hg2
  go_wp2
  first | go_ret | go_ret2
  exact ⟨rfl, hG⟩

theorem topOrder_walk (w : World) (htab : Tab w) (ao : Option Addr) (ko co : Nat) (obj : List UInt8) (ho : Bs w ao ko co obj) (s : Int) (hsl : -9223372036854775808 ≤ s) (hsm : s ≤ 9223372036854775807) (id : Nat) (hid : id < 4294967296)
    (a3 : Option Addr) (l3 c3 : Nat) (ss : List Src) (h3 : Srcs w a3 l3 c3 ss) (a4 : Option Addr) (l4 c4 : Nat) (ms : List (Nat × Nat)) (h4 : Mvs w a4 l4 c4 ms) :
    Calls Tryz.prog 5 #[.slice ao ko co, .int .i64 s, .int .u32 (id : Int), .slice a3 l3 c3, .slice a4 l4 c4] w fun e w' => e = .returned (.bool true) ∧ Gr w w' := by
  have hkm : ko ≤ 9223372036854775807 := by have h1 := ho.2.1; have h2 := ho.2.2.1; unfold maxLen at h2; omega
  by_cases hE : planFit ko s = 0
  · obtain ⟨s', q', rfl, hP, hk, CO⟩ := plan_of_fit hE
    exact topOrder_ok ko s' q' id hP hid hk ao co obj a3 l3 c3 ss a4 l4 c4 ms w htab ho h3 h4 (CO id)
  · exact topOrder_bad ko s hsl hsm id hE hkm ao co a3 l3 c3 a4 l4 c4 w htab
end Go.Proofs.YtddopoojmadpjaaGreatDoor
