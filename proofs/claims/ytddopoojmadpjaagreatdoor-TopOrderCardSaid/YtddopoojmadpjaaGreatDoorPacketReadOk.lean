/-
  The walk of packet.Read where nothing is wrong.
-/
import Derived.Test.YtddopoojmadpjaaGreatDoorSum
namespace Go.Proofs.YtddopoojmadpjaaGreatDoor
open Go.RowKit
set_option linter.unusedVariables false

theorem packErr_zero {n s q : Int} {id : Nat} {l : List UInt8} (h : packErr n s q id l = 0) :
    planErr n s q = 0 ∧ headErr l = 0 ∧ (l.length : Int) = 14 + widthN (headM l) q + s ∧ get4 (l.drop (l.length - 4)) = crc (l.take (l.length - 4)) ∧ headO l = id := by
  unfold packErr at h
  by_cases h1 : planErr n s q ≠ 0
  · rw [if_pos h1] at h; exact absurd h h1
  rw [if_neg h1] at h
  by_cases h2 : headErr l ≠ 0
  · rw [if_pos h2] at h; exact absurd h h2
  rw [if_neg h2] at h
  by_cases h3 : (l.length : Int) ≠ 14 + widthN (headM l) q + s
  · rw [if_pos h3] at h; cases h
  rw [if_neg h3] at h
  by_cases h4 : get4 (l.drop (l.length - 4)) ≠ crc (l.take (l.length - 4))
  · rw [if_pos h4] at h; cases h
  rw [if_neg h4] at h
  by_cases h5 : headO l ≠ id
  · rw [if_pos h5] at h; cases h
  exact ⟨by omega, by omega, by omega, by omega, by omega⟩

theorem grb_seven (W : World) (R : Nat) (v0 v1 v2 v3 v4 v5 v6 : Value) :
    GrB W R (((((((W.setCell ⟨R, 0, none⟩ v0).setCell ⟨R, 1, none⟩ v1).setCell ⟨R, 2, none⟩ v2).setCell ⟨R, 3, none⟩ v3).setCell ⟨R, 4, none⟩ v4).setCell ⟨R, 5, none⟩ v5).setCell ⟨R, 6, none⟩ v6) :=
  (((((((GrB.refl W R).set (.inl rfl) _).set (.inl rfl) _).set (.inl rfl) _).set (.inl rfl) _).set (.inl rfl) _).set (.inl rfl) _).set (.inl rfl) _
set_option maxRecDepth 100000 in
set_option maxHeartbeats 4000000 in
theorem packRead_okO (n : Int) (sz W : Nat) (q : Int) (id : Nat) (hlo : -9223372036854775808 ≤ n) (hm : n ≤ 9223372036854775807) (hsm : (sz : Int) ≤ 9223372036854775807) (a : Option Addr) (cap : Nat) (l : List UInt8) (w : World) (htab : Tab w) (hs : Bs w a (10 + W + sz + 4) cap l) (hmx : 10 + W + sz + 4 ≤ 140737488355328) (hW : widthN (headM l) q = (W : Int)) (h0 : packErr n sz q id l = 0) :
    Calls Tryz.prog 45 #[.agg #[.int .i64 n, .int .i64 (sz : Int), .int .i64 q, .int .u32 (id : Int)], .slice a (10 + W + sz + 4) cap] w fun e w' => ∃ a1 k1 c1 a2 c2, e = .returned (.tuple #[.agg #[.int .u8 (headM l : Int), .int .u32 (headO l : Int), .int .u32 (headN l : Int), .int .u8 (headM l : Int), .slice a1 k1 c1, .int .u64 (readSeed (headM l) ((l.take (10 + W)).drop 10) : Nat), .slice a2 sz c2], .int .i64 0]) ∧ OwnV w' w.heap.size (.slice a1 k1 c1) (readBytes (headM l) ((l.take (10 + W)).drop 10)) ∧ OwnV w' w.heap.size (.slice a2 sz c2) ((l.take (10 + W + sz)).drop (10 + W)) ∧ Gr w w' := by
  obtain ⟨hP, hH, _, hC, hO⟩ := packErr_zero h0
  have hcap : 10 + W + sz + 4 ≤ cap ∧ (cap : Int) ≤ 9223372036854775807 := ⟨hs.2.1, by have h2 := hs.2.2.1; unfold maxLen at h2; omega⟩
  obtain ⟨hcap1, hcap2⟩ := hcap
  obtain ⟨L1, L2, L3, L4, L5, L6, L7⟩ := pack_len hP hH
  have hll := hs.1
  rw [hll, Nat.add_sub_cancel] at hC
  have CC := planCheck_any n sz q id hlo hm (by omega) hsm
  rw [hP] at CC
  have HC := Lib.hid CC
  have HS := Lib.hid hs
  have HT := Lib.hid htab
  have HR := Lib.hid fun w hs => headRead_ok a _ cap l w hs hH hmx
  have CN := packLength_any n sz q id (headM l) hlo hm (by omega) hsm
  rw [L1, L2] at CN
  rw [hW] at CN L3
  have hrE : readErr (headM l) W q = 0 := by
    have hw : widthE (headM l) q = 0 := by
      obtain ⟨h1, h2⟩ := planErr_zero hP
      exact widthE_ok (headErr_zero hH).2.2 (by omega) (by omega)
    rw [readErr, if_neg (by simpa using hw), if_neg (by rw [hW]; simp)]
  have HRr := Lib.hid fun a cap l0 w hs => rowRead_own (headM l) q a W cap l0 w hs (by omega) hrE
  obtain ⟨M, eM⟩ : ∃ M, headM l = M := ⟨_, rfl⟩
  obtain ⟨O, eO⟩ : ∃ O, headO l = O := ⟨_, rfl⟩
  obtain ⟨Nn, eN⟩ : ∃ O, headN l = O := ⟨_, rfl⟩
  rw [eM] at CN HR HRr ⊢
  rw [eO] at HR ⊢
  rw [eN] at HR ⊢
  have HN := Lib.hid CN
  obtain rfl : O = id := by omega
  obtain ⟨b, off, rfl, hb, _⟩ := HS.out.at_ (by omega)
  have hs1 := HS.out.drop (k := 10 + W + sz) (by omega)
  have hs2 := HS.out.take (k := 10 + W + sz) (by omega)
  have hs3 := (HS.out.take (k := 10 + W) (by omega)).drop (k := 10) (by omega)
  have hs4 := hs2.drop (k := 10 + W) (by omega)
  rw [Nat.add_sub_cancel_left] at hs1 hs3 hs4
  obtain ⟨ld, eld⟩ : ∃ x, l.drop (10 + W + sz) = x := ⟨_, rfl⟩
  obtain ⟨lt, elt⟩ : ∃ x, l.take (10 + W + sz) = x := ⟨_, rfl⟩
  obtain ⟨lw, elw⟩ : ∃ x, (l.take (10 + W)).drop 10 = x := ⟨_, rfl⟩
  rw [eld] at hs1 hC
  rw [elt] at hs2 hs4 hC ⊢
  rw [elw] at hs3 ⊢
  obtain ⟨lp, elp⟩ : ∃ x, lt.drop (10 + W) = x := ⟨_, rfl⟩
  rw [elp] at hs4 ⊢
  have H1 := Lib.hid hs1
  have H2 := Lib.hid hs2
  have H3 := Lib.hid hs3
  have H4 := Lib.hid hs4
  obtain ⟨m, hm0⟩ : ∃ m, 10 + W + sz = m := ⟨_, rfl⟩
  rw [hm0] at HS H1 H2 HR hmx hcap1 ⊢
  have HN2 : Hid (∀ w, Calls Tryz.prog 84 #[.agg #[.int .i64 n, .int .i64 (sz : Int), .int .i64 q, .int .u32 (O : Int)], .int .u8 (M : Int)] w fun e w' => e = .returned (.tuple #[.int .i64 ((m + 4 : Nat) : Int), .int .i64 0]) ∧ Gr w w') := by
    intro w
    refine (HN.out w).mono ?_
    rintro e w' ⟨rfl, hg⟩
    exact ⟨by rw [show (14 : Int) + (W : Int) + (sz : Int) = ((m + 4 : Nat) : Int) by omega]; rfl, hg⟩
  have hat : (m : Int) - (sz : Int) = ((10 + W : Nat) : Int) := by omega
  have hcm : ¬ cap = m := by omega
  have hm4 : ¬ ((m : Int) + 4 < 4) := by omega
  have hmc : m ≤ cap := by omega
  have hmc' : (m : Int) ≤ (cap : Int) := by omega
  have hcw : ¬ cap = 10 := by omega
  have hcw2 : ¬ cap = 10 + W := by omega
  obtain ⟨G, eG⟩ : ∃ G, get4 ld = G := ⟨_, rfl⟩
  rw [eG] at hC
  have EG := Lib.hid eG
  have EC := Lib.hid hC.symm
  clear hs1 hs2 hs3 hs4 eld elt elw elp eG hC HN CN CC hs htab L1 L2 hP hH h0 eM eO eN hrE hW hO
  go_enter Tryz.func45, Tryz.ntmps45
  go_wp2_with fail
  refine (HC.out _).mono ?_
  rintro e w1 ⟨rfl, hg⟩
  have hgw := (((Gr.refl w).alloc _).alloc _).trans hg
  have hA := hg.heap (Gr.heap (Gr.alloc (Gr.refl _) _) (heap_alloc_new _ _))
  have hB := hg.heap (heap_alloc_new _ _)
  simp only [World.alloc, Array.size_push] at hB
  have HA := Lib.hid hA
  have HB := Lib.hid hB
  clear hg hB hA
  go_wp2_with fail
  refine (HR.out _ (HS.out.below hgw)).mono ?_
  rintro e w2 ⟨a2, cap2, rfl, hb2, hg2⟩
  have hA2 := hg2.heap HA.out
  have hB2 := hg2.heap HB.out
  have hz := lt_of_block hB2
  have hgw2 := hgw.trans hg2
  have hA3 := Gr.heap (Gr.alloc (Gr.refl _) (.cells #[.int .u8 (M : Int), .int .u32 (O : Int), .int .u32 (Nn : Int)] 94)) hA2
  obtain ⟨p0, p1, p2, p3⟩ := p_four_cells hA3
  have HA3 := Lib.hid hA3
  have HB2 := Lib.hid hB2
  clear hg2 hA2 hB2 hgw HB HA hb2 hA3
  go_wp2_with fail
  refine (HN2.out _).mono ?_
  rintro e w3 ⟨rfl, hg3⟩
  have hB3 := hg3.heap (Gr.heap (Gr.alloc (Gr.refl _) _) HB2.out)
  have hgw3 := (hgw2.alloc _).trans hg3
  have hA4 := hg3.heap HA3.out
  have hT4 := hg3.heap (heap_alloc_new _ _)
  have HA4 := Lib.hid hA4
  have HB4 := Lib.hid hB3
  have HT4 := Lib.hid hT4
  clear hg3 hB3 hgw2 HB2 HA3 hA4 hT4 p0 p1 p2 p3
  go_wp2_with fail
  refine (sumGet_four _ (cap - m) ld _ (H1.out.below hgw3)).mono ?_
  rintro e w5 ⟨rfl, hg5⟩
  rw [EG.out]
  have hgw5 := hgw3.trans hg5
  have HA5 := Lib.hid (hg5.heap HA4.out)
  have HB5 := Lib.hid (hg5.heap HB4.out)
  have HT5 := Lib.hid (hg5.heap HT4.out)
  clear hg5 HA4 HB4 HT4 hgw3
  go_wp2_with fail
  refine (of_any (some ⟨w5.heap.size, 0, none⟩) 1 1 [lt] _ (HT.out.below (hgw5.alloc _)) (Bss.of_alloc1 (H2.out.below hgw5) rfl)).mono ?_
  rintro e w6 ⟨rfl, hg6⟩
  rw [show ([lt] : List (List UInt8)).flatten = lt by simp, EC.out]
  have hgw6 := (hgw5.alloc _).trans hg6
  have hA6 := hg6.heap (Gr.heap (Gr.alloc (Gr.refl _) _) HA5.out)
  have hB6 := hg6.heap (Gr.heap (Gr.alloc (Gr.refl _) _) HB5.out)
  have hT6 := hg6.heap (Gr.heap (Gr.alloc (Gr.refl _) _) HT5.out)
  obtain ⟨p0, p1, p2, p3⟩ := p_four_cells hA6
  obtain ⟨q0, q1, q2, _⟩ := three_cells hT6
  have HA6 := Lib.hid hA6
  have HB6 := Lib.hid hB6
  have HT6 := Lib.hid hT6
  have HP := Lib.hid hgw6
  have P0 := Lib.hid p2
  have Q0 := Lib.hid q0
  clear hg6 hgw5 HA5 HB5 HT5 hA6 hB6 hT6
  go_wp2_with fail
  have hup : Nonempty (Up Gr w6.drew) := ⟨⟨_, Gr.refl _⟩⟩
  have u0 : ∀ x : Up Gr w6.drew, x.w.cell? ⟨w2.heap.size, 0, none⟩ = some (.int .u8 (M : Int)) := fun x => Gr.cell x.rel Q0.out
  have u2 : ∀ x : Up Gr w6.drew, x.w.cell? ⟨w.heap.size, 2, none⟩ = some (.int .i64 q) := fun x => Gr.cell x.rel P0.out
  refine wp_region_rgF [.reck, .reck, .reck, .reck, .reck, .reck, .reck,
    .any (Option Addr × Nat × Nat) (none, 0, 0) (fun x => .tuple #[.agg #[.int .u8 (M : Int), .slice x.1 x.2.1 x.2.2, .int .u64 (readSeed M lw : Nat)], .int .i64 0]) (fun x w => OwnV w w6.heap.size (.slice x.1 x.2.1 x.2.2) (readBytes M lw)),
    .reck, .reck, .flt, .any Nat 0 (fun b => .pointer (some ⟨b, 0, none⟩)) (fun b w' => w6.heap.size ≤ b ∧ w'.heap[b]? = some (.cells #[.int .u8 0, .slice none 0 0, .int .u64 0] 41))] Gr (by kernel_rfl) (by kernel_rfl) Gr.refl (fun _ _ _ => Gr.trans) ?_
  (refine wpRG_reck rfl (fun K hK => ?_); go_big_quiet_op; refine hK _ ?_; clear hK K)
  (refine wpRG_reck rfl (fun K hK => ?_); go_big_quiet_op; refine hK _ ?_; clear hK K)
  (refine wpRG_reck rfl (fun K hK => ?_); go_big_quiet_op; refine hK _ ?_; clear hK K)
  (refine wpRG_reck rfl (fun K hK => ?_); go_big_quiet_op; refine hK _ ?_; clear hK K)
  (refine wpRG_reck rfl (fun K hK => ?_); go_big_quiet_op; refine hK _ ?_; clear hK K)
  (refine wpRG_reck rfl (fun K hK => ?_); go_big_quiet_op; refine hK _ ?_; clear hK K)
  (refine wpRG_reck rfl (fun K hK => ?_); go_big_quiet_op; refine hK _ ?_; clear hK K)
  refine wpRG_any rfl (fun x w w' hg h => OwnV.gr h hg) (fun W' hw hF R hR => ?_) ?_
  · (have HF := Lib.hid hF; clear hF; unfold rgAt; go_simp)
    show Calls _ _ _ _ _
    refine (HRr.out _ _ lw W' (H3.out.below (HP.out.drew.trans hw))).mono ?_
    rintro e w7 ⟨a7, k7, c7, rfl, hb7, hg7⟩
    exact ⟨_, rfl, hR (a7, k7, c7) _ hg7 (hb7.mono hw.size)⟩
  rintro ⟨a7, k7, c7⟩
  (simp only [Act.put, List.setIfInBounds_toArray, List.set_cons_zero, List.set_cons_succ])
  (refine wpRG_reck rfl (fun K hK => ?_); go_big_quiet_op; refine hK _ ?_; clear hK K)
  (refine wpRG_reck rfl (fun K hK => ?_); go_big_quiet_op; refine hK _ ?_; clear hK K)
  refine wpRG_flt rfl (fun _ => by go_simp; rfl) ?_
  (simp only [Act.put])
  refine wpRG_any rfl (fun x w w' hg h => ⟨h.1, hg.heap h.2⟩) (fun W' hw hF R hR => ?_) ?_
  · (have HF := Lib.hid hF; clear hF; unfold rgAt; go_simp)
    exact hR W'.heap.size _ ((Gr.refl _).alloc _) ⟨hw.size, heap_alloc_new _ _⟩
  intro b7
  (simp only [Act.put, List.setIfInBounds_toArray, List.set_cons_zero, List.set_cons_succ])
  refine wpRG_end fun W' hw hF => ?_
  have hb7 : OwnV W' w6.heap.size (.slice a7 k7 c7) (readBytes M lw) := hF 7
  have hx7 : w6.heap.size ≤ b7 ∧ W'.heap[b7]? = some (.cells #[.int .u8 0, .slice none 0 0, .int .u64 0] 41) := hF 11
  have hgW : Gr w6 W' := (Gr.refl _).drew.trans hw
  clear hw hF
  obtain ⟨hx8, hx9⟩ := hx7
  obtain ⟨r0, r1, r2, rf⟩ := three_cells hx9
  obtain ⟨hgb, hh⟩ := three_set hx9 (.int .u8 (M : Int)) (.slice a7 k7 c7) (.int .u64 (readSeed M lw : Nat))
  refine wpTl_cons rfl (fun R hR => ?_)
  unfold rgAt
  go_simp
  refine hR _ _ ?_
  have hg2 : Gr w6 _ := hgW.grb hgb hx8
  have hA7 := hb7.bs2.2
  have hb8 : OwnV _ w6.heap.size (.slice a7 k7 c7) (readBytes M lw) := hb7.grb hgb (hb7.ne_block hx9 (by decide))
  have hne2 : w2.heap.size ≠ b7 := by have := lt_of_block HT6.out; omega
  obtain ⟨W2, hW2⟩ : ∃ W2, ((W'.setCell ⟨b7, 0, none⟩ (.int .u8 (M : Int))).setCell ⟨b7, 1, none⟩ (.slice a7 k7 c7)).setCell ⟨b7, 2, none⟩ (.int .u64 (readSeed M lw : Nat)) = W2 := ⟨_, rfl⟩
  rw [hW2] at hg2 hb8 hh ⊢
  clear hgb hb7 r0 r1 r2 rf hx8 hx9 hgW hW2 hR HA6 p0 p1 p2 p3 q0 q1 q2 P0 Q0 u0 u2 hup
  (simp only [Act.put])
  refine wpTl_cons rfl (fun R hR => ?_)
  unfold rgAt
  go_simp
  refine hR _ _ ?_
  (simp only [Act.put, List.setIfInBounds_toArray, List.set_cons_zero, List.set_cons_succ])
  refine wpTl_nil ?_
  clear hR
  have hB2 := hg2.heap HB6.out
  have hT2 := hg2.heap HT6.out
  have hgw7 := HP.out.trans hg2
  have HB2 := Lib.hid hB2
  have HT2 := Lib.hid hT2
  have HS2 := Lib.hid hh
  have HBS := Lib.hid hb8
  have HG2 := Lib.hid hgw7
  have HZ := Lib.hid hg2.size
  have hz6 := lt_of_block HB6.out
  clear hB2 hT2 hh hb8 hgw7 hg2 hgw6 HB6 HT6
  go_wp2
  have hup : Nonempty (Up Gr W2.drew) := ⟨⟨_, Gr.refl _⟩⟩
  obtain ⟨t0, t1, t2, _⟩ := three_cells HT2.out
  obtain ⟨s0, s1, s2, _⟩ := three_cells HS2.out
  have u0 : ∀ x : Up Gr W2.drew, x.w.cell? ⟨w2.heap.size, 0, none⟩ = some (.int .u8 (M : Int)) := fun x => Gr.cell x.rel t0
  have u1 : ∀ x : Up Gr W2.drew, x.w.cell? ⟨w2.heap.size, 1, none⟩ = some (.int .u32 (O : Int)) := fun x => Gr.cell x.rel t1
  have u2 : ∀ x : Up Gr W2.drew, x.w.cell? ⟨w2.heap.size, 2, none⟩ = some (.int .u32 (Nn : Int)) := fun x => Gr.cell x.rel t2
  have u3 : ∀ x : Up Gr W2.drew, x.w.cell? ⟨b7, 0, none⟩ = some (.int .u8 (M : Int)) := fun x => Gr.cell x.rel s0
  have u4 : ∀ x : Up Gr W2.drew, x.w.cell? ⟨b7, 1, none⟩ = some (.slice a7 k7 c7) := fun x => Gr.cell x.rel s1
  have u5 : ∀ x : Up Gr W2.drew, x.w.cell? ⟨b7, 2, none⟩ = some (.int .u64 (readSeed M lw : Nat)) := fun x => Gr.cell x.rel s2
  refine wp_region_rg [.reck, .reck, .reck, .reck, .reck, .reck,
    .any (Option Addr × Nat) (none, 0) (fun x => .slice x.1 sz x.2) (fun x w => OwnV w w6.heap.size (.slice x.1 sz x.2) lp), .reck] Gr (by kernel_rfl) (by kernel_rfl) Gr.refl (fun _ _ _ => Gr.trans) ?_
  (refine wpRG_reck rfl (fun K hK => ?_); go_big_quiet_op; refine hK _ ?_; clear hK K)
  (refine wpRG_reck rfl (fun K hK => ?_); go_big_quiet_op; refine hK _ ?_; clear hK K)
  (refine wpRG_reck rfl (fun K hK => ?_); go_big_quiet_op; refine hK _ ?_; clear hK K)
  (refine wpRG_reck rfl (fun K hK => ?_); go_big_quiet_op; refine hK _ ?_; clear hK K)
  (refine wpRG_reck rfl (fun K hK => ?_); go_big_quiet_op; refine hK _ ?_; clear hK K)
  (refine wpRG_reck rfl (fun K hK => ?_); go_big_quiet_op; refine hK _ ?_; clear hK K)
  refine wpRG_any rfl (fun x w w' hg h => OwnV.gr h hg) (fun W' hw hF R hR => ?_) ?_
  · (have HF := Lib.hid hF; clear hF; unfold rgAt; go_simp)
    show Calls _ _ _ _ _
    rw [show m - (10 + W) = sz by omega]
    refine (byteClone_own _ sz _ lp W' (H4.out.below (HG2.out.drew.trans hw)) (by omega)).mono ?_
    rintro e w8 ⟨v, rfl, ho8, hg8⟩
    obtain ⟨a8, c8, rfl, _⟩ := ho8.slice
    rw [H4.out.1] at ho8 ⊢
    exact ⟨_, rfl, hR (a8, c8) _ hg8 (ho8.mono (Nat.le_trans HZ.out hw.size))⟩
  rintro ⟨a8, c8⟩
  (simp only [Act.put, List.setIfInBounds_toArray, List.set_cons_zero, List.set_cons_succ])
  (refine wpRG_reck rfl (fun K hK => ?_); go_big_quiet_op; refine hK _ ?_; clear hK K)
  refine wpRG_end fun W' hw hF => ?_
  have ho8 : OwnV W' w6.heap.size (.slice a8 sz c8) lp := hF 6
  have hb8 := ho8
  have hA8 := ho8.bs2.2
  have hg2W : Gr W2 W' := (Gr.refl _).drew.trans hw
  clear hw hF u0 u1 u2 u3 u4 u5 hup t0 t1 t2 s0 s1 s2
  have hgw8 := HG2.out.trans hg2W
  have hBs := HBS.out.gr hg2W
  have hB8 := hg2W.heap HB2.out
  obtain ⟨cc0, cc1, cc2, cc3, cc4, cc5, cc6, ff⟩ := seven_cells hB8
  have h7 := seven_set hB8 (.int .u8 (M : Int)) (.int .u32 (O : Int)) (.int .u32 (Nn : Int)) (.int .u8 (M : Int)) (.slice a7 k7 c7) (.int .u64 (readSeed M lw : Nat)) (.slice a8 sz c8)
  have D := Lib.hid (seven_cells h7)
  have HGB := Lib.hid (grb_seven W' (w.heap.size + 1) (.int .u8 (M : Int)) (.int .u32 (O : Int)) (.int .u32 (Nn : Int)) (.int .u8 (M : Int)) (.slice a7 k7 c7) (.int .u64 (readSeed M lw : Nat)) (.slice a8 sz c8))
  have HG := Lib.hid (gr_seven hgw8 (R := w.heap.size + 1) (Nat.le_succ _) (.int .u8 (M : Int)) (.int .u32 (O : Int)) (.int .u32 (Nn : Int)) (.int .u8 (M : Int)) (.slice a7 k7 c7) (.int .u64 (readSeed M lw : Nat)) (.slice a8 sz c8))
  clear h7 hB8
  go_wp2
  obtain ⟨dd0, dd1, dd2, dd3, dd4, dd5, dd6, _⟩ := D.out
  refine bodyPost_ret (v := .tuple #[.agg #[.int .u8 (M : Int), .int .u32 (O : Int), .int .u32 (Nn : Int), .int .u8 (M : Int), .slice a7 k7 c7, .int .u64 (readSeed M lw : Nat), .slice a8 sz c8], .int .i64 0]) ?_ rfl ⟨a7, k7, c7, a8, c8, rfl, ?_, ?_, HG.out⟩
  · simp [results, Tryz.results45, go_sem, dd0, dd1, dd2, dd3, dd4, dd5, dd6]
  · exact OwnV.mono (hBs.grb HGB.out fun x hx => by have := hA7 x hx; omega) (by omega)
  · exact OwnV.mono (hb8.grb HGB.out fun x hx => by have := hA8 x hx; omega) (by omega)
theorem packRead_okF (n : Int) (sz W : Nat) (q : Int) (id : Nat) (hlo : -9223372036854775808 ≤ n) (hm : n ≤ 9223372036854775807) (hsm : (sz : Int) ≤ 9223372036854775807) (a : Option Addr) (cap : Nat) (l : List UInt8) (w : World) (htab : Tab w) (hs : Bs w a (10 + W + sz + 4) cap l) (hmx : 10 + W + sz + 4 ≤ 140737488355328) (hW : widthN (headM l) q = (W : Int)) (h0 : packErr n sz q id l = 0) :
    Calls Tryz.prog 45 #[.agg #[.int .i64 n, .int .i64 (sz : Int), .int .i64 q, .int .u32 (id : Int)], .slice a (10 + W + sz + 4) cap] w fun e w' => ∃ a1 k1 c1 a2 c2, e = .returned (.tuple #[.agg #[.int .u8 (headM l : Int), .int .u32 (headO l : Int), .int .u32 (headN l : Int), .int .u8 (headM l : Int), .slice a1 k1 c1, .int .u64 (readSeed (headM l) ((l.take (10 + W)).drop 10) : Nat), .slice a2 sz c2], .int .i64 0]) ∧ Bs w' a1 k1 c1 (readBytes (headM l) ((l.take (10 + W)).drop 10)) ∧ Bs w' a2 sz c2 ((l.take (10 + W + sz)).drop (10 + W)) ∧ Gr w w' ∧ (∀ x, a1 = some x → w.heap.size ≤ x.block) ∧ (∀ x, a2 = some x → w.heap.size ≤ x.block) :=
  (packRead_okO n sz W q id hlo hm hsm a cap l w htab hs hmx hW h0).mono fun e w' ⟨a1, k1, c1, a2, c2, he, h1, h2, hg⟩ => ⟨a1, k1, c1, a2, c2, he, h1.bs2.1, h2.bs2.1, hg, h1.bs2.2, h2.bs2.2⟩
theorem packRead_ok (n : Int) (sz W : Nat) (q : Int) (id : Nat) (hlo : -9223372036854775808 ≤ n) (hm : n ≤ 9223372036854775807) (hsm : (sz : Int) ≤ 9223372036854775807) (a : Option Addr) (cap : Nat) (l : List UInt8) (w : World) (htab : Tab w) (hs : Bs w a (10 + W + sz + 4) cap l) (hmx : 10 + W + sz + 4 ≤ 140737488355328) (hW : widthN (headM l) q = (W : Int)) (h0 : packErr n sz q id l = 0) :
    Calls Tryz.prog 45 #[.agg #[.int .i64 n, .int .i64 (sz : Int), .int .i64 q, .int .u32 (id : Int)], .slice a (10 + W + sz + 4) cap] w fun e w' => ∃ a1 k1 c1 a2 c2, e = .returned (.tuple #[.agg #[.int .u8 (headM l : Int), .int .u32 (headO l : Int), .int .u32 (headN l : Int), .int .u8 (headM l : Int), .slice a1 k1 c1, .int .u64 (readSeed (headM l) ((l.take (10 + W)).drop 10) : Nat), .slice a2 sz c2], .int .i64 0]) ∧ Bs w' a1 k1 c1 (readBytes (headM l) ((l.take (10 + W)).drop 10)) ∧ Bs w' a2 sz c2 ((l.take (10 + W + sz)).drop (10 + W)) ∧ Gr w w' :=
  (packRead_okF n sz W q id hlo hm hsm a cap l w htab hs hmx hW h0).mono fun e w' ⟨a1, k1, c1, a2, c2, he, h1, h2, hg, _⟩ => ⟨a1, k1, c1, a2, c2, he, h1, h2, hg⟩
end Go.Proofs.YtddopoojmadpjaaGreatDoor
