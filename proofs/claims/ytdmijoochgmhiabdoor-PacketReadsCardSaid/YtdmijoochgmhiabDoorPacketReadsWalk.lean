/-
  The walk of law PacketReads.
-/
import Derived.Test.YtdmijoochgmhiabDoorPacketBoth
namespace Go.Proofs.YtdmijoochgmhiabDoor
open Go.RowKit
set_option linter.unusedVariables false

set_option maxRecDepth 100000 in
set_option maxHeartbeats 4000000 in
theorem packetReads_walk (w : World) (htab : Tab w) (n : Int) (hlo : -9223372036854775808 ≤ n) (hm : n ≤ 9223372036854775807) (s : Int) (hsl : -9223372036854775808 ≤ s) (hsm : s ≤ 9223372036854775807) (q : Int) (hq1 : -9223372036854775808 ≤ q) (hq2 : q ≤ 9223372036854775807) (id : Nat) (hid : id < 4294967296)
    (a : Option Addr) (len cap : Nat) (l : List UInt8) (hb : Bs w a len cap l) :
    Calls Tryd.prog 3 #[.agg #[.int .i64 n, .int .i64 s, .int .i64 q, .int .u32 (id : Int)], .slice a len cap] w fun e w' => e = .returned (.bool true) ∧ Gr w w' := by
  have hmx : len ≤ 9223372036854775807 := by have h1 := hb.2.1; have h2 := hb.2.2.1; unfold maxLen at h2; omega
  by_cases hbig : 1000 < len
  · have hbig' : (1000 : Int) < (len : Int) := by omega
    go_enter Tryd.func3, Tryd.ntmps3
    go_wp2_with fail
    refine (packAwake _).mono ?_
    rintro e w1 ⟨rfl, hg1⟩
    have hgw := ((Gr.refl w).alloc _).trans hg1
    clear hg1
    go_wp2
    go_ret
    exact ⟨rfl, hgw⟩
  have hbig' : ¬ (1000 : Int) < (len : Int) := by omega
  have CS := packSmall_any n s q id hlo hm hsl hsm
  by_cases hS : pSmall n s q = true
  · rw [hS] at CS
    have HCS := Lib.hid CS
    have HT := Lib.hid htab
    have HB := Lib.hid hb
    clear CS hS
    have CR := Lib.hid fun w ht hs => packRead_all n s q id hlo hm hsl hsm a len cap l w ht hs (by omega)
    have CF := Lib.hid fun w ht hs => refPack_all n s q id hlo hm hsl hsm a len cap l w ht hs (by omega)
    obtain ⟨E, eE⟩ : ∃ E, packErr n s q id l = E := ⟨_, rfl⟩
    obtain ⟨⟨gm, go, gn, gd, gs, lb, lp⟩, eG⟩ : ∃ G, packGot n s q id l = G := ⟨_, rfl⟩
    rw [eE, eG] at CR CF
    have ht : ((E : Int) == (E : Int)) = true := by simp
    clear eE eG hbig hb htab hmx
    go_enter Tryd.func3, Tryd.ntmps3
    go_wp2_with fail
    refine (packAwake _).mono ?_
    rintro e w1 ⟨rfl, hg1⟩
    obtain ⟨p0, p1, p2, p3⟩ := p_four_cells (hg1.heap (heap_alloc_new w _))
    have HA1 := Lib.hid (hg1.heap (heap_alloc_new w _))
    have hgw := ((Gr.refl w).alloc _).trans hg1
    clear hg1
    go_wp2_with fail
    refine (HCS.out _).mono ?_
    rintro e w2 ⟨rfl, hg2⟩
    obtain ⟨p0, p1, p2, p3⟩ := p_four_cells (hg2.heap HA1.out)
    have HA2 := Lib.hid (hg2.heap HA1.out)
    have hgw2 := hgw.trans hg2
    clear hg2 hgw HA1
    go_wp2_with fail
    refine (CR.out _ (HT.out.below hgw2) (HB.out.below hgw2)).mono ?_
    rintro e w3 ⟨a1, k1, c1, a2, k2, c2, rfl, hb1, hb2, hg3⟩
    have hA3 := hg3.heap HA2.out
    have hA4 := ((Gr.refl _).alloc (.cells #[.int .u8 (gm : Int), .int .u32 (go : Int), .int .u32 (gn : Int), .int .u8 (gd : Int), .slice a1 k1 c1, .int .u64 (gs : Int), .slice a2 k2 c2] 34)).heap hA3
    obtain ⟨p0, p1, p2, p3⟩ := p_four_cells hA4
    have hgw3 := hgw2.trans hg3
    have hgw3' := hgw3.alloc (.cells #[.int .u8 (gm : Int), .int .u32 (go : Int), .int .u32 (gn : Int), .int .u8 (gd : Int), .slice a1 k1 c1, .int .u64 (gs : Int), .slice a2 k2 c2] 34)
    have HB1 := Lib.hid hb1
    have HB2 := Lib.hid hb2
    clear hg3 hgw2 HA2 hA3 hA4 hb1 hb2
    go_wp2_with fail
    refine (CF.out _ (HT.out.below hgw3') (HB.out.below hgw3')).mono ?_
    rintro e w4 ⟨a3, k3, c3, a4, k4, c4, rfl, hb3, hb4, hg4⟩
    have hP4 := hg4.heap (heap_alloc_new _ _)
    have hgw4 := hgw3'.trans hg4
    have HB1' := Lib.hid ((HB1.out.below ((Gr.refl _).alloc _)).below hg4)
    have HB2' := Lib.hid ((HB2.out.below ((Gr.refl _).alloc _)).below hg4)
    have HB3 := Lib.hid hb3
    have HB4 := Lib.hid hb4
    have HP4 := Lib.hid hP4
    clear hg4 hgw3 hgw3' HB1 HB2 hb3 hb4 hP4 p0 p1 p2 p3
    go_wp2
    obtain ⟨W0, hW0⟩ : ∃ W0, w4.alloc (.cells #[.int .u8 (gm : Int), .int .u32 (go : Int), .int .u32 (gn : Int), .int .u8 (gd : Int), .slice a3 k3 c3, .int .u64 (gs : Int), .slice a4 k4 c4] 40) = W0 := ⟨_, rfl⟩
    have hQ0 := heap_alloc_new w4 (.cells #[.int .u8 (gm : Int), .int .u32 (go : Int), .int .u32 (gn : Int), .int .u8 (gd : Int), .slice a3 k3 c3, .int .u64 (gs : Int), .slice a4 k4 c4] 40)
    have h40 := (Gr.refl w4).alloc (.cells #[.int .u8 (gm : Int), .int .u32 (go : Int), .int .u32 (gn : Int), .int .u8 (gd : Int), .slice a3 k3 c3, .int .u64 (gs : Int), .slice a4 k4 c4] 40)
    rw [hW0] at hQ0 h40 ⊢
    clear hW0
    have HG0 := Lib.hid (hgw4.trans h40)
    have B1 := Lib.hid (HB1'.out.below h40)
    have B2 := Lib.hid (HB2'.out.below h40)
    have B3 := Lib.hid (HB3.out.below h40)
    have B4 := Lib.hid (HB4.out.below h40)
    have hP0 := h40.heap HP4.out
    obtain ⟨x0, x1, x2, x3, x4, x5, x6, _⟩ := seven_cells hP0
    obtain ⟨y0, y1, y2, y3, y4, y5, y6, _⟩ := seven_cells hQ0
    have hup : Nonempty (Up Gr W0.drew) := ⟨⟨_, Gr.refl _⟩⟩
    have u0 : ∀ x : Up Gr W0.drew, x.w.cell? ⟨w3.heap.size, 0, none⟩ = some (.int .u8 (gm : Int)) := fun x => Gr.cell x.rel x0
    have u1 : ∀ x : Up Gr W0.drew, x.w.cell? ⟨w3.heap.size, 1, none⟩ = some (.int .u32 (go : Int)) := fun x => Gr.cell x.rel x1
    have u2 : ∀ x : Up Gr W0.drew, x.w.cell? ⟨w3.heap.size, 2, none⟩ = some (.int .u32 (gn : Int)) := fun x => Gr.cell x.rel x2
    have u3 : ∀ x : Up Gr W0.drew, x.w.cell? ⟨w3.heap.size, 3, none⟩ = some (.int .u8 (gd : Int)) := fun x => Gr.cell x.rel x3
    have u4 : ∀ x : Up Gr W0.drew, x.w.cell? ⟨w3.heap.size, 4, none⟩ = some (.slice a1 k1 c1) := fun x => Gr.cell x.rel x4
    have u5 : ∀ x : Up Gr W0.drew, x.w.cell? ⟨w3.heap.size, 5, none⟩ = some (.int .u64 (gs : Int)) := fun x => Gr.cell x.rel x5
    have u6 : ∀ x : Up Gr W0.drew, x.w.cell? ⟨w3.heap.size, 6, none⟩ = some (.slice a2 k2 c2) := fun x => Gr.cell x.rel x6
    have v0 : ∀ x : Up Gr W0.drew, x.w.cell? ⟨w4.heap.size, 0, none⟩ = some (.int .u8 (gm : Int)) := fun x => Gr.cell x.rel y0
    have v1 : ∀ x : Up Gr W0.drew, x.w.cell? ⟨w4.heap.size, 1, none⟩ = some (.int .u32 (go : Int)) := fun x => Gr.cell x.rel y1
    have v2 : ∀ x : Up Gr W0.drew, x.w.cell? ⟨w4.heap.size, 2, none⟩ = some (.int .u32 (gn : Int)) := fun x => Gr.cell x.rel y2
    have v3 : ∀ x : Up Gr W0.drew, x.w.cell? ⟨w4.heap.size, 3, none⟩ = some (.int .u8 (gd : Int)) := fun x => Gr.cell x.rel y3
    have v4 : ∀ x : Up Gr W0.drew, x.w.cell? ⟨w4.heap.size, 4, none⟩ = some (.slice a3 k3 c3) := fun x => Gr.cell x.rel y4
    have v5 : ∀ x : Up Gr W0.drew, x.w.cell? ⟨w4.heap.size, 5, none⟩ = some (.int .u64 (gs : Int)) := fun x => Gr.cell x.rel y5
    have v6 : ∀ x : Up Gr W0.drew, x.w.cell? ⟨w4.heap.size, 6, none⟩ = some (.slice a4 k4 c4) := fun x => Gr.cell x.rel y6
    clear x0 x1 x2 x3 x4 x5 x6 y0 y1 y2 y3 y4 y5 y6 hP0 hQ0 h40 hgw4 HB1' HB2' HB3 HB4 HP4
    refine wp_region_rg [.reck, spV (.agg #[.int .u8 (gm : Int), .int .u32 (go : Int), .int .u32 (gn : Int), .int .u8 (gd : Int), .slice a1 k1 c1, .int .u64 (gs : Int), .slice a2 k2 c2]), .reck, spV (.bool true), .reck, .reck, .reck, .reck, .reck, .reck] Gr (by kernel_rfl) (by kernel_rfl) Gr.refl (fun _ _ _ => Gr.trans) ?_
    (refine wpRG_reck rfl (fun K hK => ?_); go_big_quiet_op; refine hK _ ?_; clear hK K)
    refine wpRG_any rfl (fun _ _ _ _ h => h) (fun W' hw hF R hR => ?_) ?_
    · (have HF := Lib.hid hF; clear hF; unfold rgAt; go_simp)
      show Calls _ _ _ _ _
      refine (packRef_any gm go gn gd gs a1 a2 k1 c1 k2 c2 W').mono ?_
      rintro e w8 ⟨rfl, hg8⟩
      exact ⟨_, rfl, hR () _ hg8 trivial⟩
    rintro ⟨⟩
    (simp only [Act.put, List.setIfInBounds_toArray, List.set_cons_zero, List.set_cons_succ])
    (refine wpRG_reck rfl (fun K hK => ?_); go_big_quiet_op; refine hK _ ?_; clear hK K)
    refine wpRG_any rfl (fun _ _ _ _ h => h) (fun W' hw hF R hR => ?_) ?_
    · (have HF := Lib.hid hF; clear hF; unfold rgAt; go_simp)
      show Calls _ _ _ _ _
      have hw0 := (Gr.refl W0).drew.trans hw
      refine (packSame_eq gm go gn gd gs a1 a2 a3 a4 k1 c1 k2 c2 k3 c3 k4 c4 lb lp W' (B1.out.below hw0) (B2.out.below hw0) (B3.out.below hw0) (B4.out.below hw0)).mono ?_
      rintro e w8 ⟨rfl, hg8⟩
      exact ⟨_, rfl, hR () _ hg8 trivial⟩
    rintro ⟨⟩
    (simp only [Act.put, List.setIfInBounds_toArray, List.set_cons_zero, List.set_cons_succ])
    (refine wpRG_reck rfl (fun K hK => ?_); go_big_quiet_op; refine hK _ ?_; clear hK K)
    (refine wpRG_reck rfl (fun K hK => ?_); go_big_quiet_op; refine hK _ ?_; clear hK K)
    (refine wpRG_reck rfl (fun K hK => ?_); go_big_quiet_op; refine hK _ ?_; clear hK K)
    (refine wpRG_reck rfl (fun K hK => ?_); go_big_quiet_op; refine hK _ ?_; clear hK K)
    (refine wpRG_reck rfl (fun K hK => ?_); go_big_quiet_op; refine hK _ ?_; clear hK K)
    (refine wpRG_reck rfl (fun K hK => ?_); go_big_quiet_op; refine hK _ ?_; clear hK K)
    refine wpRG_end fun W' hw hF => ?_
    have hgW := HG0.out.trans ((Gr.refl W0).drew.trans hw)
    clear hF hw
    refine wpList_nil ?_
    go_wp2
    go_ret
    exact ⟨rfl, hgW⟩
  · have hS' : pSmall n s q = false := by simpa using hS
    rw [hS'] at CS
    have HCS := Lib.hid CS
    clear CS hS hS'
    go_enter Tryd.func3, Tryd.ntmps3
    go_wp2_with fail
    refine (packAwake _).mono ?_
    rintro e w1 ⟨rfl, hg1⟩
    obtain ⟨p0, p1, p2, p3⟩ := p_four_cells (hg1.heap (heap_alloc_new w _))
    have hgw := ((Gr.refl w).alloc _).trans hg1
    clear hg1
    go_wp2_with fail
    refine (HCS.out _).mono ?_
    rintro e w2 ⟨rfl, hg2⟩
    have hgw2 := hgw.trans hg2
    clear hg2 hgw
    go_wp2
    go_ret
    exact ⟨rfl, hgw2⟩
end Go.Proofs.YtdmijoochgmhiabDoor
