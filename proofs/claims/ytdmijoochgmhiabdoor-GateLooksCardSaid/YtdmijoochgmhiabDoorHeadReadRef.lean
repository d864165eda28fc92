/-
  The walk of the document's Read of a head.
-/
import Derived.Test.YtdmijoochgmhiabDoorHeadRead
import Derived.Test.YtdmijoochgmhiabDoorHeadFour
namespace Go.Proofs.YtdmijoochgmhiabDoor
open Go.RowKit

set_option maxRecDepth 100000 in
set_option maxHeartbeats 2000000 in
theorem refHeadRead_bad (a : Option Addr) (len cap : Nat) (l : List UInt8) (w : World) (hs : Bs w a len cap l) (h0 : headErr l ≠ 0) :
    Calls Tryd.prog 35 #[.slice a len cap] w fun e w' => e = .returned (.tuple #[.agg #[.int .u8 0, .int .u32 0, .int .u32 0], .slice none 0 0, .int .i64 (headErr l : Nat)]) ∧ Gr w w' := by
  have hm : len ≤ 9223372036854775807 := by have h1 := hs.2.1; have h2 := hs.2.2.1; unfold maxLen at h2; omega
  have HL := Lib.hid hs.1
  have HE : Hid (headErr l = if len < 10 then 6 else if (l.getD 0 0).toNat ≠ 1 then 7 else if 1 < (l.getD 1 0).toNat then 8 else 0) := by show _ = _; rw [headErr, HL.out]
  by_cases hlen : len < 10
  · have he : Hid (headErr l = 6) := by show _ = _; rw [HE.out, if_pos hlen]
    clear h0
    go_enter Tryd.func35, Tryd.ntmps35
    go_wp2
    refine bodyPost_ret (v := .tuple #[.agg #[.int .u8 0, .int .u32 0, .int .u32 0], .slice none 0 0, .int .i64 6]) ?_ rfl ⟨?_, ?_⟩
    · simp [results, Tryd.results35, go_sem]
    · rw [he.out]; rfl
    · exact (Gr.refl w).alloc _
  obtain ⟨b, off, rfl, hb, c0, c1⟩ := head_two hs hlen
  have hx0 := (l.getD 0 0).toNat_lt
  have hx1 := (l.getD 1 0).toNat_lt
  obtain ⟨x0, e0⟩ : ∃ x, (l.getD 0 0).toNat = x := ⟨_, rfl⟩
  obtain ⟨x1, e1⟩ : ∃ x, (l.getD 1 0).toNat = x := ⟨_, rfl⟩
  rw [e0] at c0 hx0
  rw [e1] at c1 hx1
  have E0 := Lib.hid e0
  have E1 := Lib.hid e1
  have hge : ¬ (len : Int) < 10 := by omega
  have hge1 : (1 : Int) < (len : Int) := by omega
  have hge0 : (0 : Int) < (len : Int) := by omega
  by_cases h7 : x0 ≠ 1
  · have he : Hid (headErr l = 7) := by show _ = _; rw [HE.out, if_neg hlen, if_pos (by rw [E0.out]; exact h7)]
    have ht : ((x0 : Int) != 1) = true := by rw [bne_iff_ne]; omega
    clear h0 e0 e1 h7 hlen
    go_enter Tryd.func35, Tryd.ntmps35
    go_wp2
    refine bodyPost_ret (v := .tuple #[.agg #[.int .u8 0, .int .u32 0, .int .u32 0], .slice none 0 0, .int .i64 7]) ?_ rfl ⟨?_, ?_⟩
    · simp [results, Tryd.results35, go_sem]
    · rw [he.out]; rfl
    · exact (Gr.refl w).alloc _
  · have h7' : x0 = 1 := by omega
    subst h7'
    have h8 : ¬ x1 ≤ 1 := fun h => h0 (by rw [HE.out, if_neg hlen, if_neg (by rw [E0.out]; omega), if_neg (by rw [E1.out]; omega)])
    have he : Hid (headErr l = 8) := by show _ = _; rw [HE.out, if_neg hlen, if_neg (by rw [E0.out]; omega), if_pos (by rw [E1.out]; omega)]
    have h8' : (1 : Int) < (x1 : Int) := by omega
    clear h0 e0 e1 h7 hlen h8
    go_enter Tryd.func35, Tryd.ntmps35
    go_wp2
    refine bodyPost_ret (v := .tuple #[.agg #[.int .u8 0, .int .u32 0, .int .u32 0], .slice none 0 0, .int .i64 8]) ?_ rfl ⟨?_, ?_⟩
    · simp [results, Tryd.results35, go_sem]
    · rw [he.out]; rfl
    · exact (Gr.refl w).alloc _

set_option maxRecDepth 100000 in
set_option maxHeartbeats 4000000 in
theorem refHeadRead_ok (a : Option Addr) (len cap : Nat) (l : List UInt8) (w : World) (hs : Bs w a len cap l) (h0 : headErr l = 0) :
    Calls Tryd.prog 35 #[.slice a len cap] w fun e w' => ∃ a' cap', e = .returned (.tuple #[.agg #[.int .u8 (headM l : Int), .int .u32 (headO l : Int), .int .u32 (headN l : Int)], .slice a' (len - 10) cap', .int .i64 0]) ∧ Bs w' a' (len - 10) cap' (l.drop 10) ∧ Gr w w' := by
  have hm : len ≤ 9223372036854775807 := by have h1 := hs.2.1; have h2 := hs.2.2.1; unfold maxLen at h2; omega
  have hcap : len ≤ cap ∧ (cap : Int) ≤ 9223372036854775807 := ⟨hs.2.1, by have h2 := hs.2.2.1; unfold maxLen at h2; omega⟩
  obtain ⟨hcap1, hcap2⟩ := hcap
  have hz0 := headErr_zero h0
  rw [hs.1] at hz0
  obtain ⟨hlen, h1, h2⟩ := hz0
  obtain ⟨b, off, rfl, hb, c0, c1⟩ := head_two hs (by omega)
  have HM : Hid (headM l = (l.getD 1 0).toNat) := rfl
  have hs1 := (hs.take (k := 6) (by omega)).drop (k := 2) (by omega)
  have hs2 := (hs.take (k := 10) (by omega)).drop (k := 6) (by omega)
  have hs3 := hs.dropIf (k := 10) (by omega)
  obtain ⟨A3, hA3⟩ : ∃ A, (if cap = 10 then some (⟨b, off, none⟩ : Addr) else some ⟨b, off + 10, none⟩) = A := ⟨_, rfl⟩
  rw [hA3] at hs3
  have HA3 := Lib.hid hA3
  clear hA3
  have HO : Hid (headO l = get4 ((l.take 6).drop 2)) := rfl
  have HN : Hid (headN l = get4 ((l.take 10).drop 6)) := rfl
  obtain ⟨l1, e1⟩ : ∃ x, (l.take 6).drop 2 = x := ⟨_, rfl⟩
  obtain ⟨l2, e2⟩ : ∃ x, (l.take 10).drop 6 = x := ⟨_, rfl⟩
  obtain ⟨l3, e3⟩ : ∃ x, l.drop 10 = x := ⟨_, rfl⟩
  rw [e1] at hs1 HO
  rw [e2] at hs2 HN
  rw [e3] at hs3 ⊢
  clear e1 e2 e3
  rw [h1] at c0
  obtain ⟨x1, e1⟩ : ∃ x, (l.getD 1 0).toNat = x := ⟨_, rfl⟩
  rw [e1] at c1 HM h2
  have hge : ¬ (len : Int) < 10 := by omega
  have hge1 : (1 : Int) < (len : Int) := by omega
  have hge0 : (0 : Int) < (len : Int) := by omega
  have g6 : (6 : Int) ≤ (cap : Int) := by omega
  have g10 : (10 : Int) ≤ (cap : Int) := by omega
  have h2' : ¬ (1 : Int) < (x1 : Int) := by omega
  obtain ⟨o1, ho1⟩ : ∃ x, headO l = x := ⟨_, rfl⟩
  obtain ⟨n1, hn1⟩ : ∃ x, headN l = x := ⟨_, rfl⟩
  obtain ⟨m1, hm1⟩ : ∃ x, headM l = x := ⟨_, rfl⟩
  rw [ho1] at HO ⊢
  rw [hn1] at HN ⊢
  rw [hm1] at HM ⊢
  clear ho1 hn1 hm1 h0 h1 e1
  obtain rfl := HM.out
  clear h2 hlen
  go_enter Tryd.func35, Tryd.ntmps35
  go_wp2
  have hA := heap_alloc_new w (.cells #[.int .u8 0, .int .u32 0, .int .u32 0] 38)
  have hgw : Gr w (w.alloc (.cells #[.int .u8 0, .int .u32 0, .int .u32 0] 38)) := (Gr.refl w).alloc _
  obtain ⟨w1, hw1⟩ : ∃ x, x = w.alloc (.cells #[.int .u8 0, .int .u32 0, .int .u32 0] 38) := ⟨_, rfl⟩
  rw [← hw1] at hA hgw ⊢
  have HA := Lib.hid hA
  obtain ⟨R, hR⟩ : ∃ R, w.heap.size = R := ⟨_, rfl⟩
  have hgR : GrB w1 R w1.drew := GrB.of_gr (Gr.refl w1).drew
  have hup : Nonempty (Up (StR R (.cells #[.int .u8 0, .int .u32 0, .int .u32 0] 38) (.cells #[.int .u8 (m1 : Int), .int .u32 (o1 : Int), .int .u32 (n1 : Int)] 38)) w1.drew) := ⟨⟨_, StR.refl _ _ _ _⟩⟩
  have hbR : b ≠ R := by omega
  have u1 : ∀ x : Up (StR R (.cells #[.int .u8 0, .int .u32 0, .int .u32 0] 38) (.cells #[.int .u8 (m1 : Int), .int .u32 (o1 : Int), .int .u32 (n1 : Int)] 38)) w1.drew, x.w.cell? ⟨b, off + 1, none⟩ = some (.int .u8 (m1 : Int)) := fun x => GrB.cell x.rel.1 (Gr.cell (hgw.drew) c1) hbR
  have HR := Lib.hid hR
  clear hA hw1
  rw [hR]
  clear hR
  refine wp_region_rg [.reck, .reck, .reck, .reck, .reck, spV (.int .u32 (o1 : Int)), .reck, .reck, spV (.int .u32 (n1 : Int)), .reck, .reck, .reck, .any Unit () (fun _ => undef) (fun _ w => w.heap[R]? = some (.cells #[.int .u8 (m1 : Int), .int .u32 (o1 : Int), .int .u32 (n1 : Int)] 38)), .reck, .reck] (StR R (.cells #[.int .u8 0, .int .u32 0, .int .u32 0] 38) (.cells #[.int .u8 (m1 : Int), .int .u32 (o1 : Int), .int .u32 (n1 : Int)] 38)) (by kernel_rfl) (by kernel_rfl) (StR.refl _ _ _) StR.trans ?_
  (refine wpRG_reck rfl (fun K hK => ?_); go_big_quiet_op; refine hK _ ?_; clear hK K)
  (refine wpRG_reck rfl (fun K hK => ?_); go_big_quiet_op; refine hK _ ?_; clear hK K)
  (refine wpRG_reck rfl (fun K hK => ?_); go_big_quiet_op; refine hK _ ?_; clear hK K)
  (refine wpRG_reck rfl (fun K hK => ?_); go_big_quiet_op; refine hK _ ?_; clear hK K)
  (refine wpRG_reck rfl (fun K hK => ?_); go_big_quiet_op; refine hK _ ?_; clear hK K)
  refine wpRG_any rfl (fun x w w' hg h => h) (fun W hw hF R hR => ?_) ?_
  · (have HF := Lib.hid hF; clear hF; unfold rgAt; go_simp)
    show Calls _ _ _ _ _
    refine (four_any _ (cap - 2) l1 W ((hs1.below hgw.drew).grb hw.1 (fun y hy => by cases hy; exact hbR))).mono ?_
    rintro e w6 ⟨rfl, rfl⟩
    rw [← HO.out]
    exact ⟨_, rfl, hR () _ (StR.refl _ _ _ _) trivial⟩
  rintro ⟨⟩
  (simp only [Act.put, List.setIfInBounds_toArray, List.set_cons_zero, List.set_cons_succ])
  (refine wpRG_reck rfl (fun K hK => ?_); go_big_quiet_op; refine hK _ ?_; clear hK K)
  (refine wpRG_reck rfl (fun K hK => ?_); go_big_quiet_op; refine hK _ ?_; clear hK K)
  refine wpRG_any rfl (fun x w w' hg h => h) (fun W hw hF R hR => ?_) ?_
  · (have HF := Lib.hid hF; clear hF; unfold rgAt; go_simp)
    show Calls _ _ _ _ _
    refine (four_any _ (cap - 6) l2 W ((hs2.below hgw.drew).grb hw.1 (fun y hy => by cases hy; exact hbR))).mono ?_
    rintro e w6 ⟨rfl, rfl⟩
    rw [← HN.out]
    exact ⟨_, rfl, hR () _ (StR.refl _ _ _ _) trivial⟩
  rintro ⟨⟩
  (simp only [Act.put, List.setIfInBounds_toArray, List.set_cons_zero, List.set_cons_succ])
  (refine wpRG_reck rfl (fun K hK => ?_); go_big_quiet_op; refine hK _ ?_; clear hK K)
  (refine wpRG_reck rfl (fun K hK => ?_); go_big_quiet_op; refine hK _ ?_; clear hK K)
  (refine wpRG_reck rfl (fun K hK => ?_); go_big_quiet_op; refine hK _ ?_; clear hK K)
  rw [HA3.out]
  refine wpRG_any rfl (fun x w w' hg h => hg.2.2 h) (fun W hw hF Rr hR => ?_) ?_
  · have hA := HA.out
    rw [HR.out] at hA
    rcases hw.2.1 hA with h | h
    · obtain ⟨cc0, cc1, cc2, ff0⟩ := three_cells h
      have H3 := Lib.hid (three_set h (.int .u8 (m1 : Int)) (.int .u32 (o1 : Int)) (.int .u32 (n1 : Int)))
      clear h hA hw
      (have HF := Lib.hid hF; clear hF; unfold rgAt; go_simp)
      exact hR () _ (StR.written H3.out.1 H3.out.2) H3.out.2
    · obtain ⟨cc0, cc1, cc2, ff0⟩ := three_cells h
      have H3 := Lib.hid (three_set h (.int .u8 (m1 : Int)) (.int .u32 (o1 : Int)) (.int .u32 (n1 : Int)))
      clear h hA hw
      (have HF := Lib.hid hF; clear hF; unfold rgAt; go_simp)
      exact hR () _ (StR.written H3.out.1 H3.out.2) H3.out.2
  rintro ⟨⟩
  (simp only [Act.put])
  (refine wpRG_reck rfl (fun K hK => ?_); go_big_quiet_op; refine hK _ ?_; clear hK K)
  (refine wpRG_reck rfl (fun K hK => ?_); go_big_quiet_op; refine hK _ ?_; clear hK K)
  refine wpRG_end fun W hw hF => ?_
  have hfin : W.heap[R]? = some (.cells #[.int .u8 (m1 : Int), .int .u32 (o1 : Int), .int .u32 (n1 : Int)] 38) := hF 12
  obtain ⟨cc0, cc1, cc2, ff0⟩ := three_cells hfin
  have hgW : Gr w W := Gr.grb hgw.drew hw.1 (by have := HR.out; omega)
  have hb3 : Bs W A3 (len - 10) (cap - 10) l3 := (hs3.below hgw.drew).grb hw.1 (fun y hy => by
    have h3 := HA3.out
    rw [hy] at h3
    split at h3 <;> cases h3 <;> exact hbR)
  clear hF hw hfin
  go_wp2
  refine bodyPost_ret (v := .tuple #[.agg #[.int .u8 (m1 : Int), .int .u32 (o1 : Int), .int .u32 (n1 : Int)], .slice A3 (len - 10) (cap - 10), .int .i64 0]) ?_ rfl ⟨A3, cap - 10, rfl, hb3, hgW⟩
  simp [results, Tryd.results35, go_sem, cc0, cc1, cc2]
end Go.Proofs.YtdmijoochgmhiabDoor
