/-
  The walks of head.Read and of the document's.
-/
import Derived.Test.YtdmijoochgmhiaaGreatDoorHeadBytes
import Derived.Test.YtdmijoochgmhiaaGreatDoorHead
namespace Go.Proofs.YtdmijoochgmhiaaGreatDoor
open Go.RowKit

/-- the two bytes that are looked at. -/
theorem head_two {w : World} {a : Option Addr} {len cap : Nat} {l : List UInt8} (hs : Bs w a len cap l) (h : ¬ len < 10) : ∃ b off, a = some ⟨b, off, none⟩ ∧ b < w.heap.size ∧ w.cell? ⟨b, off, none⟩ = some (.int .u8 ((l.getD 0 0).toNat : Int)) ∧ w.cell? ⟨b, off + 1, none⟩ = some (.int .u8 ((l.getD 1 0).toNat : Int)) := by
  obtain ⟨b, off, rfl, hb, _⟩ := hs.at_ (by omega)
  obtain ⟨x0, e0, c0⟩ := hs.get (i := 0) (by omega)
  obtain ⟨x1, e1, c1⟩ := hs.get (i := 1) (by omega)
  exact ⟨b, off, rfl, hb, by simpa [List.getD_eq_getElem?_getD, e0] using c0, by simpa [List.getD_eq_getElem?_getD, e1] using c1⟩

set_option maxRecDepth 100000 in
set_option maxHeartbeats 2000000 in
theorem headRead_bad (a : Option Addr) (len cap : Nat) (l : List UInt8) (w : World) (hs : Bs w a len cap l) (h0 : headErr l ≠ 0) :
    Calls Tryz.prog 48 #[.slice a len cap] w fun e w' => e = .returned (.tuple #[.agg #[.int .u8 0, .int .u32 0, .int .u32 0], .slice none 0 0, .int .i64 (headErr l : Nat)]) ∧ Gr w w' := by
  have hm : len ≤ 9223372036854775807 := by have h1 := hs.2.1; have h2 := hs.2.2.1; unfold maxLen at h2; omega
  have HL := Lib.hid hs.1
  have HE : Hid (headErr l = if len < 10 then 6 else if (l.getD 0 0).toNat ≠ 1 then 7 else if 1 < (l.getD 1 0).toNat then 8 else 0) := by show _ = _; rw [headErr, HL.out]
  by_cases hlen : len < 10
  · have he : Hid (headErr l = 6) := by show _ = _; rw [HE.out, if_pos hlen]
    clear h0
    go_enter Tryz.func48, Tryz.ntmps48
    go_wp2
    refine bodyPost_ret (v := .tuple #[.agg #[.int .u8 0, .int .u32 0, .int .u32 0], .slice none 0 0, .int .i64 6]) ?_ rfl ⟨?_, ?_⟩
    · simp [results, Tryz.results48, go_sem]
    · rw [he.out]; rfl
    · exact (Gr.refl w).alloc _
  obtain ⟨b, off, rfl, hb, c0, c1⟩ := head_two hs hlen
  have hx0 := (l.getD 0 0).toNat_lt
  have hx1 := (l.getD 1 0).toNat_lt
  obtain ⟨x0, e0⟩ : ∃ x, (l.getD 0 0).toNat = x := ⟨_, rfl⟩
  obtain ⟨x1, e1⟩ : ∃ x, (l.getD 1 0).toNat = x := ⟨_, rfl⟩
  rw [e0] at c0 hx0
  rw [e1] at c1 hx1
  have E0 := Lib.hid e0
  have E1 := Lib.hid e1
  have hge : ¬ (len : Int) < 10 := by omega
  have hge1 : (1 : Int) < (len : Int) := by omega
  have hge0 : (0 : Int) < (len : Int) := by omega
  by_cases h7 : x0 ≠ 1
  · have he : Hid (headErr l = 7) := by show _ = _; rw [HE.out, if_neg hlen, if_pos (by rw [E0.out]; exact h7)]
    have ht : ((x0 : Int) != 1) = true := by rw [bne_iff_ne]; omega
    clear h0 e0 e1 h7 hlen
    go_enter Tryz.func48, Tryz.ntmps48
    go_wp2
    refine bodyPost_ret (v := .tuple #[.agg #[.int .u8 0, .int .u32 0, .int .u32 0], .slice none 0 0, .int .i64 7]) ?_ rfl ⟨?_, ?_⟩
    · simp [results, Tryz.results48, go_sem]
    · rw [he.out]; rfl
    · exact (Gr.refl w).alloc _
  · have h7' : x0 = 1 := by omega
    subst h7'
    have h8 : ¬ x1 ≤ 1 := fun h => h0 (by rw [HE.out, if_neg hlen, if_neg (by rw [E0.out]; omega), if_neg (by rw [E1.out]; omega)])
    have he : Hid (headErr l = 8) := by show _ = _; rw [HE.out, if_neg hlen, if_neg (by rw [E0.out]; omega), if_pos (by rw [E1.out]; omega)]
    have H8 := Lib.hid h8
    clear h0 e0 e1 h7 hlen h8
    go_enter Tryz.func48, Tryz.ntmps48
    go_wp2_with fail
    refine (headCheck_not x1 0 0 H8.out _).mono ?_
    rintro e w1 ⟨rfl, hg1⟩
    have hB := hg1.heap ((Gr.alloc (Gr.refl _) _).heap (heap_alloc_new w _))
    have hz := lt_of_block hB
    have hgw : Gr w w1 := (((Gr.refl w).alloc _).alloc _).trans hg1
    have cc0 : w1.cell? ⟨w.heap.size, 0, none⟩ = some (.int .u8 0) := by simp [World.cell?, hB]
    have cc1 : w1.cell? ⟨w.heap.size, 1, none⟩ = some (.int .u32 0) := by simp [World.cell?, hB]
    have cc2 : w1.cell? ⟨w.heap.size, 2, none⟩ = some (.int .u32 0) := by simp [World.cell?, hB]
    have ff0 : ∀ i, w1.frozen? ⟨w.heap.size, i, none⟩ = false := fun i => by simp [World.frozen?, hB]
    have HB := Lib.hid hB
    clear hg1 hB
    go_wp2
    refine bodyPost_ret (v := .tuple #[.agg #[.int .u8 0, .int .u32 0, .int .u32 0], .slice none 0 0, .int .i64 8]) ?_ rfl ⟨?_, ?_⟩
    · simp [results, Tryz.results48, go_sem, cc0, cc1, cc2]
    · rw [he.out]; rfl
    · exact ((hgw.setCell (Nat.le_refl _) _).setCell (Nat.le_refl _) _).setCell (Nat.le_refl _) _

theorem headErr_zero {l : List UInt8} (h : headErr l = 0) : 10 ≤ l.length ∧ (l.getD 0 0).toNat = 1 ∧ (l.getD 1 0).toNat ≤ 1 := by
  unfold headErr at h
  by_cases h1 : l.length < 10
  · rw [if_pos h1] at h; cases h
  rw [if_neg h1] at h
  by_cases h2 : (l.getD 0 0).toNat ≠ 1
  · rw [if_pos h2] at h; cases h
  rw [if_neg h2] at h
  by_cases h3 : 1 < (l.getD 1 0).toNat
  · rw [if_pos h3] at h; cases h
  exact ⟨by omega, by omega, by omega⟩

set_option maxRecDepth 100000 in
set_option maxHeartbeats 4000000 in
theorem headRead_ok (a : Option Addr) (len cap : Nat) (l : List UInt8) (w : World) (hs : Bs w a len cap l) (h0 : headErr l = 0) (hmx : len ≤ 140737488355328) :
    Calls Tryz.prog 48 #[.slice a len cap] w fun e w' => ∃ a' cap', e = .returned (.tuple #[.agg #[.int .u8 (headM l : Int), .int .u32 (headO l : Int), .int .u32 (headN l : Int)], .slice a' (len - 10) cap', .int .i64 0]) ∧ Bs w' a' (len - 10) cap' (l.drop 10) ∧ Gr w w' := by
  have hm : len ≤ 9223372036854775807 := by have h1 := hs.2.1; have h2 := hs.2.2.1; unfold maxLen at h2; omega
  have hcap : len ≤ cap ∧ (cap : Int) ≤ 9223372036854775807 := ⟨hs.2.1, by have h2 := hs.2.2.1; unfold maxLen at h2; omega⟩
  obtain ⟨hcap1, hcap2⟩ := hcap
  have hz0 := headErr_zero h0
  rw [hs.1] at hz0
  obtain ⟨hlen, h1, h2⟩ := hz0
  obtain ⟨b, off, rfl, hb, c0, c1⟩ := head_two hs (by omega)
  have HM : Hid (headM l = (l.getD 1 0).toNat) := rfl
  have hs1 := (hs.take (k := 6) (by omega)).drop (k := 2) (by omega)
  have hs2 := (hs.take (k := 10) (by omega)).drop (k := 6) (by omega)
  have hs3 := hs.dropIf (k := 10) (by omega)
  obtain ⟨A3, hA3⟩ : ∃ A, (if cap = 10 then some (⟨b, off, none⟩ : Addr) else some ⟨b, off + 10, none⟩) = A := ⟨_, rfl⟩
  rw [hA3] at hs3
  have HA3 := Lib.hid hA3
  clear hA3
  have HO : Hid (headO l = get4 ((l.take 6).drop 2)) := rfl
  have HN : Hid (headN l = get4 ((l.take 10).drop 6)) := rfl
  obtain ⟨l1, e1⟩ : ∃ x, (l.take 6).drop 2 = x := ⟨_, rfl⟩
  obtain ⟨l2, e2⟩ : ∃ x, (l.take 10).drop 6 = x := ⟨_, rfl⟩
  obtain ⟨l3, e3⟩ : ∃ x, l.drop 10 = x := ⟨_, rfl⟩
  rw [e1] at hs1 HO
  rw [e2] at hs2 HN
  rw [e3] at hs3 ⊢
  clear e1 e2 e3
  rw [h1] at c0
  obtain ⟨x1, e1⟩ : ∃ x, (l.getD 1 0).toNat = x := ⟨_, rfl⟩
  rw [e1] at c1 HM h2
  have hge : ¬ (len : Int) < 10 := by omega
  have hge1 : (1 : Int) < (len : Int) := by omega
  have hge0 : (0 : Int) < (len : Int) := by omega
  have g6 : (6 : Int) ≤ (cap : Int) := by omega
  have g10 : (10 : Int) ≤ (cap : Int) := by omega
  have H2 := Lib.hid h2
  obtain ⟨o1, ho1⟩ : ∃ x, headO l = x := ⟨_, rfl⟩
  obtain ⟨n1, hn1⟩ : ∃ x, headN l = x := ⟨_, rfl⟩
  obtain ⟨m1, hm1⟩ : ∃ x, headM l = x := ⟨_, rfl⟩
  rw [ho1] at HO ⊢
  rw [hn1] at HN ⊢
  rw [hm1] at HM ⊢
  clear ho1 hn1 hm1 h0 h1 e1
  obtain rfl := HM.out
  clear h2 hlen
  go_enter Tryz.func48, Tryz.ntmps48
  go_wp2_with fail
  refine (headCheck_ok m1 0 0 H2.out _).mono ?_
  rintro e w1 ⟨rfl, hg1⟩
  have hA := hg1.heap ((Gr.alloc (Gr.refl _) _).heap (heap_alloc_new w _))
  have hB : w1.heap[w.heap.size + 1]? = some (.cells #[.int .u8 (m1 : Int), .int .u32 0, .int .u32 0] 68) := by
    have := hg1.heap (heap_alloc_new (w.alloc (.cells #[.int .u8 0, .int .u32 0, .int .u32 0] 68)) (.cells #[.int .u8 (m1 : Int), .int .u32 0, .int .u32 0] 68))
    simpa using this
  have hgw : Gr w w1 := (((Gr.refl w).alloc _).alloc _).trans hg1
  clear hg1
  go_wp2_with fail
  refine (sumGet_four _ (cap - 2) l1 _ (hs1.below hgw)).mono ?_
  rintro e w2 ⟨rfl, hg2⟩
  have hA2 := hg2.heap hA
  have hB2 := hg2.heap hB
  have hgw2 := hgw.trans hg2
  rw [← HO.out]
  have cb : w2.cell? ⟨w.heap.size + 1, 1, none⟩ = some (.int .u32 0) := by simp [World.cell?, hB2]
  have fb : w2.frozen? ⟨w.heap.size + 1, 1, none⟩ = false := by simp [World.frozen?, hB2]
  have HA2 := Lib.hid hA2
  have HB2 := Lib.hid hB2
  clear hA hB hg2 hgw hA2 hB2 hs1
  go_wp2_with fail
  have hB3 := heap_set (i := 1) HB2.out (.int .u32 (o1 : Int))
  have hA3 : (w2.setCell ⟨w.heap.size + 1, 1, none⟩ (.int .u32 (o1 : Int))).heap[w.heap.size]? = _ := (Below.heap_setCell _ _ _ _ (by show w.heap.size ≠ w.heap.size + 1; omega)).trans HA2.out
  have hgw3 := hgw2.setCell (p := ⟨w.heap.size + 1, 1, none⟩) (by show w.heap.size ≤ w.heap.size + 1; omega) (.int .u32 (o1 : Int))
  refine (sumGet_four _ (cap - 6) l2 _ (hs2.below hgw3)).mono ?_
  rintro e w4 ⟨rfl, hg4⟩
  have hA4 := hg4.heap hA3
  have hB4 := hg4.heap hB3
  have hgw4 := hgw3.trans hg4
  rw [← HN.out]
  simp only [List.setIfInBounds_toArray, List.set_cons_zero, List.set_cons_succ] at hB4
  have cb4 : w4.cell? ⟨w.heap.size + 1, 2, none⟩ = some (.int .u32 0) := by simp [World.cell?, hB4]
  have fb4 : w4.frozen? ⟨w.heap.size + 1, 2, none⟩ = false := by simp [World.frozen?, hB4]
  have HA4 := Lib.hid hA4
  have HB4 := Lib.hid hB4
  clear hA3 hB3 hg4 hgw2 hA4 hB4 hs2 hgw3 cb fb HA2 HB2
  go_wp2_with fail
  have hB5 := heap_set (i := 2) HB4.out (.int .u32 (n1 : Int))
  have hA5 : (w4.setCell ⟨w.heap.size + 1, 2, none⟩ (.int .u32 (n1 : Int))).heap[w.heap.size]? = _ := (Below.heap_setCell _ _ _ _ (by show w.heap.size ≠ w.heap.size + 1; omega)).trans HA4.out
  have hgw5 := hgw4.setCell (p := ⟨w.heap.size + 1, 2, none⟩) (by show w.heap.size ≤ w.heap.size + 1; omega) (.int .u32 (n1 : Int))
  simp only [List.setIfInBounds_toArray, List.set_cons_zero, List.set_cons_succ] at hB5
  obtain ⟨w5, hw5⟩ : ∃ x, x = w4.setCell ⟨w.heap.size + 1, 2, none⟩ (.int .u32 (n1 : Int)) := ⟨_, rfl⟩
  rw [← hw5] at hB5 hA5 hgw5 ⊢
  have hup : Nonempty (Up Gr w5.drew) := ⟨⟨_, Gr.refl _⟩⟩
  have HB5 := Lib.hid hB5
  have u0 : ∀ x : Up Gr w5.drew, x.w.cell? ⟨w.heap.size + 1, 0, none⟩ = some (.int .u8 (m1 : Int)) := fun x => Gr.cell x.rel (by simp [World.cell?, heap_drew, HB5.out])
  have u1 : ∀ x : Up Gr w5.drew, x.w.cell? ⟨w.heap.size + 1, 1, none⟩ = some (.int .u32 (o1 : Int)) := fun x => Gr.cell x.rel (by simp [World.cell?, heap_drew, HB5.out])
  have u2 : ∀ x : Up Gr w5.drew, x.w.cell? ⟨w.heap.size + 1, 2, none⟩ = some (.int .u32 (n1 : Int)) := fun x => Gr.cell x.rel (by simp [World.cell?, heap_drew, HB5.out])
  have HA5 := Lib.hid hA5
  clear hw5 hB5 hA5 cb4 fb4 HA4 HB4 hgw4
  refine wp_region_rg [.reck, .reck, .reck, spF (w.heap.size + 1) (len - 10) l3] Gr (by kernel_rfl) (by kernel_rfl) Gr.refl (fun _ _ _ => Gr.trans) ?_
  (refine wpRG_reck rfl (fun K hK => ?_); go_big_quiet_op; refine hK _ ?_; clear hK K)
  (refine wpRG_reck rfl (fun K hK => ?_); go_big_quiet_op; refine hK _ ?_; clear hK K)
  (refine wpRG_reck rfl (fun K hK => ?_); go_big_quiet_op; refine hK _ ?_; clear hK K)
  rw [HA3.out]
  refine wpRG_any rfl (fun x w w' hg h => ⟨h.1.below hg, h.2⟩) (fun W hw hF R hR => ?_) ?_
  · (have HF := Lib.hid hF; clear hF; unfold rgAt; go_simp)
    show Calls _ _ _ _ _
    refine (sliceClone_any _ _ _ l3 W (hs3.below (hgw5.drew.trans hw)) (by omega)).mono ?_
    rintro e w6 ⟨v, rfl, a6, cap6, rfl, hb6, ha6, hg6⟩
    rw [hs3.1] at hb6 ⊢
    have hsz : w.heap.size + 1 ≤ W.heap.size := by
      have h1 := lt_of_block HA5.out
      have h2 : w5.heap.size ≤ W.heap.size := hw.size
      omega
    exact ⟨_, rfl, hR (a6, cap6) _ hg6 ⟨hb6, fun y hy => Nat.le_trans hsz (ha6 y hy)⟩⟩
  rintro ⟨a3, cap3⟩
  (simp only [Act.put, List.setIfInBounds_toArray, List.set_cons_zero, List.set_cons_succ])
  refine wpRG_end fun W hw hF => ?_
  have hb3 : Bs W a3 (len - 10) cap3 l3 ∧ ∀ y, a3 = some y → w.heap.size + 1 ≤ y.block := hF 3
  obtain ⟨hb3, ha3⟩ := hb3
  have HA := Lib.hid ha3
  clear ha3
  have hgW : Gr w W := hgw5.drew.trans hw
  have hA6 : W.heap[w.heap.size]? = _ := Gr.heap hw (show w5.drew.heap[w.heap.size]? = _ from HA5.out)
  have cc0 : W.cell? ⟨w.heap.size, 0, none⟩ = some (.int .u8 0) := by simp [World.cell?, hA6]
  have cc1 : W.cell? ⟨w.heap.size, 1, none⟩ = some (.int .u32 0) := by simp [World.cell?, hA6]
  have cc2 : W.cell? ⟨w.heap.size, 2, none⟩ = some (.int .u32 0) := by simp [World.cell?, hA6]
  have ff0 : ∀ i, W.frozen? ⟨w.heap.size, i, none⟩ = false := fun i => by simp [World.frozen?, hA6]
  have hg7 : Gr w (((W.setCell ⟨w.heap.size, 0, none⟩ (.int .u8 (m1 : Int))).setCell ⟨w.heap.size, 1, none⟩ (.int .u32 (o1 : Int))).setCell ⟨w.heap.size, 2, none⟩ (.int .u32 (n1 : Int))) :=
    ((hgW.setCell (Nat.le_refl _) _).setCell (Nat.le_refl _) _).setCell (Nat.le_refl _) _
  have hgb : GrB W w.heap.size (((W.setCell ⟨w.heap.size, 0, none⟩ (.int .u8 (m1 : Int))).setCell ⟨w.heap.size, 1, none⟩ (.int .u32 (o1 : Int))).setCell ⟨w.heap.size, 2, none⟩ (.int .u32 (n1 : Int))) := by
    refine GrB.set (GrB.set (GrB.set (GrB.refl _ _) ?_ _) ?_ _) ?_ _
    · exact .inl rfl
    · exact .inl rfl
    · exact .inl rfl
  have hb7 := hb3.grb hgb (fun y hy => by have := HA.out y hy; omega)
  clear hF hw hA6 hgb
  go_wp2
  refine bodyPost_ret (v := .tuple #[.agg #[.int .u8 (m1 : Int), .int .u32 (o1 : Int), .int .u32 (n1 : Int)], .slice a3 (len - 10) cap3, .int .i64 0]) ?_ rfl ⟨a3, cap3, rfl, ?_, hg7⟩
  · simp [results, Tryz.results48, go_sem, cc0, cc1, cc2]
  · exact hb7

end Go.Proofs.YtdmijoochgmhiaaGreatDoor
