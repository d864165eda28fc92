/-
  The walk of law GateLooks.
-/
import Derived.Test.YtdmijoochgmhiabDoorGateAwake
import Derived.Test.YtdmijoochgmhiabDoorGateCnts
import Derived.Test.YtdmijoochgmhiabDoorPacketBoth
import Derived.Test.YtdmijoochgmhiabDoorPacketLawRef
import Derived.Test.YtdmijoochgmhiabDoorPlanRef
namespace Go.Proofs.YtdmijoochgmhiabDoor
open Go.RowKit Go.Maps
set_option linter.unusedVariables false

theorem up_five {Rel : World → World → Prop} {W0 : World} (hst : ∀ {w : World}, Rel W0.drew w → ∀ {p : Addr} {v : Value}, W0.cell? p = some v → w.cell? p = some v) {R : Nat} {v0 v1 v2 v3 v4 : Value} {t : TypeId} (h : W0.heap[R]? = some (.cells #[v0, v1, v2, v3, v4] t)) :
    (∀ x : Up Rel W0.drew, x.w.cell? ⟨R, 0, none⟩ = some v0) ∧ (∀ x : Up Rel W0.drew, x.w.cell? ⟨R, 1, none⟩ = some v1) ∧ (∀ x : Up Rel W0.drew, x.w.cell? ⟨R, 2, none⟩ = some v2) ∧ (∀ x : Up Rel W0.drew, x.w.cell? ⟨R, 3, none⟩ = some v3) ∧ (∀ x : Up Rel W0.drew, x.w.cell? ⟨R, 4, none⟩ = some v4) := by
  obtain ⟨h0, h1, h2, h3, h4, _⟩ := five_cells h
  exact ⟨fun x => hst x.rel h0, fun x => hst x.rel h1, fun x => hst x.rel h2, fun x => hst x.rel h3, fun x => hst x.rel h4⟩

set_option maxRecDepth 100000 in
set_option maxHeartbeats 4000000 in
theorem gateLooks_walk (w : World) (htab : Tab w) (n : Int) (hlo : -9223372036854775808 ≤ n) (hm : n ≤ 9223372036854775807) (s : Int) (hsl : -9223372036854775808 ≤ s) (hsm : s ≤ 9223372036854775807) (q : Int) (hq1 : -9223372036854775808 ≤ q) (hq2 : q ≤ 9223372036854775807) (id : Nat) (hid : id < 4294967296)
    (a : Option Addr) (len cap : Nat) (ls : List (List UInt8)) (hb : Bss w a len cap ls) :
    Calls Tryd.prog 4 #[.agg #[.int .i64 n, .int .i64 s, .int .i64 q, .int .u32 (id : Int)], .slice a len cap] w fun e w' => e = .returned (.bool true) ∧ Gr w w' := by
  have hmx : len ≤ 9223372036854775807 := by have h1 := hb.2.1; have h2 := hb.2.2.1; unfold maxLen at h2; omega
  have HT := Lib.hid htab
  have HB := Lib.hid hb
  have hL := hb.1
  have CF := Lib.hid fun (w : World) (h : Bss w a len cap ls) => gateFew_any a len cap ls w h
  have CS := packSmall_any n s q id hlo hm hsl hsm
  by_cases hf : fewG ls = true
  case neg =>
    have hf' : fewG ls = false := by simpa using hf
    rw [hf'] at CF
    clear hf hf' hb htab CS
    go_enter Tryd.func4, Tryd.ntmps4
    go_wp2_with fail
    refine (gateAwake _ (HT.out.below ((Gr.refl w).alloc _))).mono ?_
    rintro e w1 ⟨rfl, hg1⟩
    have hgw := ((Gr.refl w).alloc _).trans hg1
    clear hg1
    go_wp2_with fail
    refine (CF.out _ (HB.out.below hgw)).mono ?_
    rintro e w2 ⟨rfl, rfl⟩
    go_wp2
    go_ret
    exact ⟨rfl, hgw⟩
  rw [hf] at CF
  have hfew := fewG_of hf
  have HALL := Lib.hid hfew.1
  have hl30 : len ≤ 30 := by rw [← hL]; exact hfew.2
  have HL := Lib.hid hL
  clear hfew hf hb htab hL hmx
  by_cases hS : pSmall n s q = true
  case neg =>
    have hS' : pSmall n s q = false := by simpa using hS
    rw [hS'] at CS
    have HCS := Lib.hid CS
    clear CS hS hS'
    go_enter Tryd.func4, Tryd.ntmps4
    go_wp2_with fail
    refine (gateAwake _ (HT.out.below ((Gr.refl w).alloc _))).mono ?_
    rintro e w1 ⟨rfl, hg1⟩
    obtain ⟨p0, p1, p2, p3⟩ := p_four_cells (hg1.heap (heap_alloc_new w _))
    have hgw := ((Gr.refl w).alloc _).trans hg1
    clear hg1
    go_wp2_with fail
    refine (CF.out _ (HB.out.below hgw)).mono ?_
    rintro e w2 ⟨rfl, rfl⟩
    go_wp2_with fail
    refine (HCS.out _).mono ?_
    rintro e w2 ⟨rfl, hg2⟩
    have hgw2 := hgw.trans hg2
    clear hg2 hgw
    go_wp2
    go_ret
    exact ⟨rfl, hgw2⟩
  rw [hS] at CS
  have HCS := Lib.hid CS
  clear CS hS
  have CN := Lib.hid (gateNew_any n s q id hlo hm hsl hsm)
  have CK := Lib.hid (refCheck_any n s q id hm hsm)
  have CL := Lib.hid (gateLook_any n s q id hlo hm hsl hsm)
  have CR := Lib.hid (refPack_all n s q id hlo hm hsl hsm)
  obtain ⟨E0, eE0⟩ : ∃ E, planErr n s q = E := ⟨_, rfl⟩
  rw [eE0] at CN CK
  clear eE0 hlo hm hsl hsm hq1 hq2 hid
  by_cases hP : E0 = 0
  case neg =>
    rw [if_neg hP] at CN
    have ht : ((E0 : Int) != 0) = true := by rw [bne_iff_ne]; omega
    have ht2 : ((E0 : Int) == (E0 : Int)) = true := by simp
    clear hP
    go_enter Tryd.func4, Tryd.ntmps4
    go_wp2_with fail
    refine (gateAwake _ (HT.out.below ((Gr.refl w).alloc _))).mono ?_
    rintro e w1 ⟨rfl, hg1⟩
    have HA1 := Lib.hid (hg1.heap (heap_alloc_new w _))
    have hgw := ((Gr.refl w).alloc _).trans hg1
    clear hg1
    obtain ⟨p0, p1, p2, p3⟩ := p_four_cells HA1.out
    go_wp2_with fail
    refine (CF.out _ (HB.out.below hgw)).mono ?_
    rintro e w2 ⟨rfl, rfl⟩
    go_wp2_with fail
    refine (HCS.out _).mono ?_
    rintro e w2 ⟨rfl, hg2⟩
    have HA2 := Lib.hid (hg2.heap HA1.out)
    have hgw2 := hgw.trans hg2
    clear hg2 hgw HA1 p0 p1 p2 p3
    obtain ⟨p0, p1, p2, p3⟩ := p_four_cells HA2.out
    have hal := (Gr.refl w2).alloc (.cells #[.int .i64 n, .int .i64 s, .int .i64 q, .int .u32 (id : Int)] 43)
    obtain ⟨q0, q1, q2, q3⟩ := p_four_cells (hal.heap HA2.out)
    go_wp2_with fail
    refine (CN.out _).mono ?_
    rintro e w3 ⟨rfl, hg3⟩
    have HA3 := Lib.hid ((hal.trans hg3).heap HA2.out)
    have HR3 := Lib.hid (hg3.heap (heap_alloc_new w2 (.cells #[.int .i64 n, .int .i64 s, .int .i64 q, .int .u32 (id : Int)] 43)))
    have hgw3 := hgw2.trans (hal.trans hg3)
    have hs3 := lt_of_block HR3.out
    have hs2 := hgw2.size
    clear hal hg3 hgw2 HA2 p0 p1 p2 p3 q0 q1 q2 q3

    have hal := (Gr.refl w3).alloc (.cells #[.int .i64 0, .int .i64 0, .int .i64 0, .int .u32 0, .map none] 51)
    obtain ⟨p0, p1, p2, p3⟩ := p_four_cells (hal.heap HR3.out)
    go_wp2_with fail
    refine (CK.out _).mono ?_
    rintro e w4 ⟨rfl, hg4⟩
    have HG4 := Lib.hid (hg4.heap (heap_alloc_new w3 (.cells #[.int .i64 0, .int .i64 0, .int .i64 0, .int .u32 0, .map none] 51)))
    have hgw4 := hgw3.trans (hal.trans hg4)
    clear hal hg4 hgw3 p0 p1 p2 p3
    obtain ⟨x0, x1, x2, x3, x4, _⟩ := five_cells HG4.out
    go_wp2_with fail
    refine (gateSeen_nil 0 0 0 0 _).mono ?_
    rintro e w5 ⟨rfl, hg5⟩
    have hgw5 := hgw4.trans hg5
    have HG5 := Lib.hid (hg5.heap HG4.out)
    clear hg5 hgw4 x0 x1 x2 x3 x4
    obtain ⟨x0, x1, x2, x3, x4, _⟩ := five_cells HG5.out
    go_wp2
    go_ret
    exact ⟨rfl, hgw5⟩
  subst hP
  rw [if_pos rfl] at CN
  have hqq : ((q : Int) != q) = false := by simp
  · skip
    go_enter Tryd.func4, Tryd.ntmps4
    go_wp2_with fail
    refine (gateAwake _ (HT.out.below ((Gr.refl w).alloc _))).mono ?_
    rintro e w1 ⟨rfl, hg1⟩
    have HA1 := Lib.hid (hg1.heap (heap_alloc_new w _))
    have hgw := ((Gr.refl w).alloc _).trans hg1
    clear hg1
    obtain ⟨p0, p1, p2, p3⟩ := p_four_cells HA1.out
    go_wp2_with fail
    refine (CF.out _ (HB.out.below hgw)).mono ?_
    rintro e w2 ⟨rfl, rfl⟩
    go_wp2_with fail
    refine (HCS.out _).mono ?_
    rintro e w2 ⟨rfl, hg2⟩
    have HA2 := Lib.hid (hg2.heap HA1.out)
    have hgw2 := hgw.trans hg2
    clear hg2 hgw HA1 p0 p1 p2 p3
    obtain ⟨p0, p1, p2, p3⟩ := p_four_cells HA2.out
    have hal := (Gr.refl w2).alloc (.cells #[.int .i64 n, .int .i64 s, .int .i64 q, .int .u32 (id : Int)] 43)
    obtain ⟨q0, q1, q2, q3⟩ := p_four_cells (hal.heap HA2.out)
    go_wp2_with fail
    refine (CN.out _).mono ?_
    rintro e w3 ⟨rfl, hg3⟩
    have HA3 := Lib.hid ((hal.trans hg3).heap HA2.out)
    have HR3 := Lib.hid (hg3.heap (heap_alloc_new w2 (.cells #[.int .i64 n, .int .i64 s, .int .i64 q, .int .u32 (id : Int)] 43)))
    have hgw3 := hgw2.trans (hal.trans hg3)
    have hs3 := lt_of_block HR3.out
    have hs2 := hgw2.size
    clear hal hg3 hgw2 HA2 p0 p1 p2 p3 q0 q1 q2 q3

    have hal := (Gr.refl w3).alloc (.cells #[.int .i64 n, .int .i64 s, .int .i64 q, .int .u32 (id : Int), .map none] 51)
    obtain ⟨p0, p1, p2, p3⟩ := p_four_cells (hal.heap HR3.out)
    go_wp2_with fail
    refine (CK.out _).mono ?_
    rintro e w4 ⟨rfl, hg4⟩
    have hG4 := hg4.heap (heap_alloc_new w3 (.cells #[.int .i64 n, .int .i64 s, .int .i64 q, .int .u32 (id : Int), .map none] 51))
    have hA4 := (hal.trans hg4).heap HA3.out
    have hR4 := (hal.trans hg4).heap HR3.out
    have hgw4 := hgw3.trans (hal.trans hg4)
    have hs4 := lt_of_block hG4
    have hs3w := hgw3.size
    clear hal hg4 hgw3 p0 p1 p2 p3 HA3 HR3
    obtain ⟨p0, p1, p2, p3⟩ := p_four_cells hA4
    obtain ⟨x0, x1, x2, x3, x4, _⟩ := five_cells hG4
    go_wp2
    have hal := (Gr.refl w4).alloc (.cells #[.int .i64 0, .int .i64 0, .int .i64 0, .int .i64 0, .int .i64 0, .int .i64 0, .int .i64 0, .int .i64 0, .int .i64 0, .int .i64 0, .int .i64 0, .int .i64 0, .int .i64 0, .int .i64 0, .int .i64 0, .int .i64 0, .int .i64 0, .int .i64 0, .int .i64 0, .int .i64 0] 56)
    have hC0 : (w4.alloc (.cells #[.int .i64 0, .int .i64 0, .int .i64 0, .int .i64 0, .int .i64 0, .int .i64 0, .int .i64 0, .int .i64 0, .int .i64 0, .int .i64 0, .int .i64 0, .int .i64 0, .int .i64 0, .int .i64 0, .int .i64 0, .int .i64 0, .int .i64 0, .int .i64 0, .int .i64 0, .int .i64 0] 56)).heap[w4.heap.size]? = some (.cells (cnts []) 56) := heap_alloc_new w4 (.cells #[.int .i64 0, .int .i64 0, .int .i64 0, .int .i64 0, .int .i64 0, .int .i64 0, .int .i64 0, .int .i64 0, .int .i64 0, .int .i64 0, .int .i64 0, .int .i64 0, .int .i64 0, .int .i64 0, .int .i64 0, .int .i64 0, .int .i64 0, .int .i64 0, .int .i64 0, .int .i64 0] 56)
    obtain ⟨W0, eW⟩ : ∃ W, w4.alloc (.cells #[.int .i64 0, .int .i64 0, .int .i64 0, .int .i64 0, .int .i64 0, .int .i64 0, .int .i64 0, .int .i64 0, .int .i64 0, .int .i64 0, .int .i64 0, .int .i64 0, .int .i64 0, .int .i64 0, .int .i64 0, .int .i64 0, .int .i64 0, .int .i64 0, .int .i64 0, .int .i64 0] 56) = W := ⟨_, rfl⟩
    rw [eW] at hal hC0 ⊢
    have HG0 := Lib.hid (hgw4.trans hal)
    have HG0g := Lib.hid (hal.heap hG4)
    have HG0a := Lib.hid (hal.heap hA4)
    have HG0r := Lib.hid (hal.heap hR4)
    have HC0 := Lib.hid hC0
    have hs0 := lt_of_block hC0
    obtain ⟨b6, eb6⟩ : ∃ b, w3.heap.size = b := ⟨_, rfl⟩
    obtain ⟨b5, eb5⟩ : ∃ b, w2.heap.size = b := ⟨_, rfl⟩
    obtain ⟨b9, eb9⟩ : ∃ b, w4.heap.size = b := ⟨_, rfl⟩
    rw [eb6] at HG0g
    rw [eb5] at HG0r
    rw [eb9] at HC0
    rw [eb6, eb5, eb9]
    have h56 : b5 < b6 := by omega
    have h69 : b6 < b9 := by omega
    have hw5 : w.heap.size < b5 + 1 := by omega
    have h9W : b9 < W0.heap.size := by omega
    have hw6 : w.heap.size ≤ b6 := by omega
    have hw9 : w.heap.size ≤ b9 := by omega
    have hwne : w.heap.size ≠ b6 ∧ w.heap.size ≠ b9 := by
      have := lt_of_block HG0a.out
      omega
    clear eW hal hC0 hG4 hA4 hR4 hgw4 hs0 hs2 hs3 hs4 hs3w eb6 eb5 eb9 p0 p1 p2 p3 x0 x1 x2 x3 x4
    go_loopw [66] (fun i wr => ∃ (k : Nat) (g : Option Nat) (es : List Nat), k ≤ len ∧ i = .int .i64 k ∧ es.length = k ∧ (wr.heap[b6]? = some (.cells #[.int .i64 n, .int .i64 s, .int .i64 q, .int .u32 (id : Int), .map g] 51)) ∧ (wr.heap[b9]? = some (.cells (cnts es) 56)) ∧ GateAt wr g es ∧ GrC W0 b6 b9 wr) (fun i _ => len - (intOf i).toNat)
    case atStart => exact ⟨0, none, [], Nat.zero_le _, rfl, rfl, HG0g.out, HC0.out, GateAt.none _, GrC.refl _ _ _⟩
    case round =>
      obtain ⟨k, g, es, hk, rfl, hes, hgt, hct, hga, hgc⟩ := hrel
      have hgw : Gr w wr := GrC.gr HG0.out hgc hw6 hw9
      by_cases hlt : k < len
      · have hbw := HB.out.below hgw
        obtain ⟨b, off, ha, _⟩ := hbw.at_ (by omega)
        rw [ha] at hbw ⊢
        obtain ⟨l, a', n', c', hl, hc, hbs⟩ := hbw.get hlt
        have hn8 : n' ≤ 800 := by rw [← hbs.1]; exact HALL.out l (List.mem_of_getElem? hl)
        have hal := (Gr.refl wr).alloc (.cells #[.int .i64 n, .int .i64 s, .int .i64 q, .int .u32 (id : Int), .map g] 51)
        have CL2 := CL.out a' n' c' l g es (by omega) (wr.alloc (.cells #[.int .i64 n, .int .i64 s, .int .i64 q, .int .u32 (id : Int), .map g] 51)) (HT.out.below (hgw.trans hal)) (hbs.below hal) (by omega) (hga.gr hal)
        have CR2 := fun W h1 h2 => CR.out a' n' c' l W h1 h2 (by omega)
        have hE := packErr_le n s q id l
        obtain ⟨E, eE⟩ : ∃ E, packErr n s q id l = E := ⟨_, rfl⟩
        obtain ⟨⟨gm, go, gn, gd, gs, lb, lp⟩, eG⟩ : ∃ G, packGot n s q id l = G := ⟨_, rfl⟩
        rw [eE, eG] at CL2 CR2
        rw [eE] at hE
        have CL3 := Lib.hid CL2
        have CR3 := Lib.hid CR2
        have HGC := Lib.hid hgc
        have HGA := Lib.hid hga
        have HGT := Lib.hid hgt
        have HCT := Lib.hid hct
        have HBS := Lib.hid hbs
        have HES := Lib.hid hes
        have HHA := Lib.hid ha
        clear CL2 CR2 eE eG hl hgc hga hct hbw hes ha
        obtain ⟨x0, x1, x2, x3, x4, _⟩ := five_cells hgt
        obtain ⟨y0, y1, y2, y3, y4, _⟩ := five_cells (hal.heap hgt)
        have hsr := lt_of_block HCT.out
        clear hgt
        go_wp2_with fail
        refine CL3.out.mono ?_
        rintro e w6 ⟨g', a1, k1, c1, a2, k2, c2, rfl, hga6, hb1, hb2, hg6⟩
        have hr6 := hal.trans hg6
        have H12 := Lib.hid (hg6.heap (heap_alloc_new wr (.cells #[.int .i64 n, .int .i64 s, .int .i64 q, .int .u32 (id : Int), .map g] 51)))
        have hl6 := (((Gr.refl w6).alloc (.cells #[.int .i64 n, .int .i64 s, .int .i64 q, .int .u32 (id : Int), .map (some g')] 51)).alloc (.cells #[.int .u8 (gm : Int), .int .u32 (go : Int), .int .u32 (gn : Int), .int .u8 (gd : Int), .slice a1 k1 c1, .int .u64 (gs : Int), .slice a2 k2 c2] 34))
        have h6a := (hgw.trans hr6).trans hl6
        obtain ⟨q0, q1, q2, q3⟩ := p_four_cells (hl6.heap (hr6.heap (HGC.out.heap HG0r.out (by omega) (by omega))))
        have HGA6 := Lib.hid (hga6.gr hl6)
        have HB1 := Lib.hid (hb1.below hl6)
        have HB2 := Lib.hid (hb2.below hl6)
        have HR6 := Lib.hid (hr6.trans hl6)
        have H12b := Lib.hid (hl6.heap H12.out)
        have H13 := Lib.hid (Gr.heap ((Gr.refl _).alloc (.cells #[.int .u8 (gm : Int), .int .u32 (go : Int), .int .u32 (gn : Int), .int .u8 (gd : Int), .slice a1 k1 c1, .int .u64 (gs : Int), .slice a2 k2 c2] 34)) (heap_alloc_new w6 (.cells #[.int .i64 n, .int .i64 s, .int .i64 q, .int .u32 (id : Int), .map (some g')] 51)))
        have H14 := Lib.hid (heap_alloc_new (w6.alloc (.cells #[.int .i64 n, .int .i64 s, .int .i64 q, .int .u32 (id : Int), .map (some g')] 51)) (.cells #[.int .u8 (gm : Int), .int .u32 (go : Int), .int .u32 (gn : Int), .int .u8 (gd : Int), .slice a1 k1 c1, .int .u64 (gs : Int), .slice a2 k2 c2] 34))
        have hsz : wr.heap.size < w6.heap.size := lt_of_block H12.out
        clear hb1 hb2 hga6 hg6 x0 x1 x2 x3 x4 y0 y1 y2 y3 y4 H12 hc hbs
        have h6t : Tab ((w6.alloc (.cells #[.int .i64 n, .int .i64 s, .int .i64 q, .int .u32 (id : Int), .map (some g')] 51)).alloc (.cells #[.int .u8 (gm : Int), .int .u32 (go : Int), .int .u32 (gn : Int), .int .u8 (gd : Int), .slice a1 k1 c1, .int .u64 (gs : Int), .slice a2 k2 c2] 34)) := HT.out.below h6a
        have h6b := HBS.out.below HR6.out
        go_wp2_with fail
        refine (CR3.out _ h6t h6b).mono ?_
        rintro e w7 ⟨a3, k3, c3, a4, k4, c4, rfl, hb3, hb4, hg7⟩
        have hE0 : ¬ (E : Int) < 0 := by omega
        have hE1 : ¬ (19 : Int) < (E : Int) := by omega
        go_wp2_with (with_reducible refine wpList_hold (o := ⟨none, .store 40 _ _, _, _, _, _⟩) ?_)
        change wpList _ _ _ _ _ _
        go_step
        go_step
        go_step
        have hl7 := (Gr.refl w7).alloc (.cells #[.int .u8 (gm : Int), .int .u32 (go : Int), .int .u32 (gn : Int), .int .u8 (gd : Int), .slice a3 k3 c3, .int .u64 (gs : Int), .slice a4 k4 c4] 40)
        have h67 := hg7.trans hl7
        have hr7 := HR6.out.trans h67
        have hgt7 := hr7.heap HGT.out
        have hct7 := hr7.heap HCT.out
        have h12 := h67.heap H12b.out
        have h13 := h67.heap H13.out
        have h14 := h67.heap H14.out
        have h16 := heap_alloc_new w7 (.cells #[.int .u8 (gm : Int), .int .u32 (go : Int), .int .u32 (gn : Int), .int .u8 (gd : Int), .slice a3 k3 c3, .int .u64 (gs : Int), .slice a4 k4 c4] 40)
        have hs7 : w6.heap.size + 1 < w7.heap.size := by
          have := lt_of_block (hg7.heap H14.out)
          simpa using this
        rw [World.size_alloc] at h14
        obtain ⟨W7, eW⟩ : ∃ W, w7.alloc (.cells #[.int .u8 (gm : Int), .int .u32 (go : Int), .int .u32 (gn : Int), .int .u8 (gd : Int), .slice a3 k3 c3, .int .u64 (gs : Int), .slice a4 k4 c4] 40) = W := ⟨_, rfl⟩
        rw [eW] at hl7 h67 hr7 hgt7 hct7 h12 h13 h14 h16 ⊢
        clear eW
        have hga7 := HGA6.out.gr h67
        have hb17 := HB1.out.below h67
        have hb27 := HB2.out.below h67
        have hb37 := hb3.below hl7
        have hb47 := hb4.below hl7
        have hgw7 := hgw.trans hr7
        have hga17 := HGA.out.gr hr7
        have hgc7 := HGC.out.trans (GrC.of_gr hr7)
        clear hb3 hb4 hg7 hl7 h67 hr7 HGA6 HB1 HB2 H12b H13 H14 HGT HCT h6t h6b hl6 h6a hr6 hal hgw q0 q1 q2 q3 HR6
        obtain ⟨cc, cf⟩ := cnts_cell hct7 E (by omega)
        have HST := Lib.hid (cnts_store hct7 E (by omega))
        have hcl : es.count E ≤ es.length := List.count_le_length
        obtain ⟨cE, ecE⟩ : ∃ c, es.count E = c := ⟨_, rfl⟩
        rw [ecE] at cc HST hcl
        rw [HES.out] at hcl
        have hcE : (cE : Int) ≤ 1000 := by omega
        have hEi : (E : Int) < 20 := by omega
        have HE := Lib.hid hE
        have HGT := Lib.hid hgt7
        have HCT := Lib.hid hct7
        have H12 := Lib.hid h12
        have H13 := Lib.hid h13
        have H14 := Lib.hid h14
        have H16 := Lib.hid h16
        have HGA7 := Lib.hid hga7
        have HGA17 := Lib.hid hga17
        have HB17 := Lib.hid hb17
        have HB27 := Lib.hid hb27
        have HB37 := Lib.hid hb37
        have HB47 := Lib.hid hb47
        have HGW7 := Lib.hid hgw7
        have HGC7 := Lib.hid hgc7
        clear hgt7 hct7 h12 h13 h14 h16 hga7 hga17 hb17 hb27 hb37 hb47 hgw7 hgc7 ecE hE HGA HGC
        go_wp2
        obtain ⟨W8, eW⟩ : ∃ W, W7.setCell ⟨b9, E, none⟩ (.int .i64 ((cE : Int) + 1)) = W := ⟨_, rfl⟩
        have hst := HST.out
        rw [eW] at hst ⊢
        obtain ⟨hst1, hst2⟩ := hst
        have hgt8 := hst1.heap HGT.out (by omega)
        have h12 := hst1.heap H12.out (by omega)
        have h13 := hst1.heap H13.out (by omega)
        have h14 := hst1.heap H14.out (by omega)
        have h16 := hst1.heap H16.out (by omega)
        have hb18 := HB17.out.off hst1 HCT.out (cnts_no es)
        have hb28 := HB27.out.off hst1 HCT.out (cnts_no es)
        have hb38 := HB37.out.off hst1 HCT.out (cnts_no es)
        have hb48 := HB47.out.off hst1 HCT.out (cnts_no es)
        have hga8 := HGA7.out.grb hst1 (HGA7.out.ne HCT.out)
        have hga18 := HGA17.out.grb hst1 (HGA17.out.ne HCT.out)
        have hgw8 := HGW7.out.grb hst1 hw9
        have hgc8 := HGC7.out.trans (GrC.of_grb' hst1)
        obtain ⟨u0, u1, u2, u3, u4, u5, u6⟩ := up_seven gr_st h14
        obtain ⟨v0, v1, v2, v3, v4, v5, v6⟩ := up_seven gr_st h16
        obtain ⟨r0, r1, r2, r3, r4⟩ := up_five gr_st h12
        obtain ⟨s0, s1, s2, s3, s4⟩ := up_five gr_st h13
        have hup : Nonempty (Up Gr W8.drew) := ⟨⟨_, Gr.refl _⟩⟩
        have hne0 : ((E : Int) != (E : Int)) = false := by simp
        have hne1 : ((k : Int) != (k : Int)) = false := by simp
        have hne2 : (((k : Int) + 1) != ((k : Int) + 1)) = false := by simp
        have hk1 : (k : Int) + 1 ≤ 1000 := by omega
        have CS1 := Lib.hid fun w h => gateSeen_any n s q id g es w h (by have := HES.out; omega)
        have CS2 := Lib.hid fun w h => gateSeen_any n s q id (some g') (E :: es) w h (by have := HES.out; simp; omega)
        rw [List.length_cons] at CS2
        rw [HES.out] at CS1 CS2
        have e1 : ((k + 1 : Nat) : Int) = (k : Int) + 1 := by omega
        rw [e1] at CS2
        have HGT8 := Lib.hid hgt8
        have H13b := Lib.hid h13
        have HCT8 := Lib.hid hst2
        have HGA8 := Lib.hid hga8
        have HGA18 := Lib.hid hga18
        have HB18 := Lib.hid hb18
        have HB28 := Lib.hid hb28
        have HB38 := Lib.hid hb38
        have HB48 := Lib.hid hb48
        have HGW8 := Lib.hid hgw8
        have HGC8 := Lib.hid hgc8
        clear e1 eW hst1 hst2 hgt8 h12 h13 h14 h16 hga8 hga18 hb18 hb28 hb38 hb48 hgw8 hgc8 HGA7 HGA17 HB17 HB27 HB37 HB47 HGW7 HGC7 HGT HCT H12 H13 H14 H16 HST cc cf hcE
        refine wp_region_rg [.reck, .reck, .reck, .reck, .reck, spV (.agg #[.int .u8 (gm : Int), .int .u32 (go : Int), .int .u32 (gn : Int), .int .u8 (gd : Int), .slice a1 k1 c1, .int .u64 (gs : Int), .slice a2 k2 c2]), .reck, spV (.bool true), .reck, .reck, .reck, .reck, spV (.int .i64 (k : Int)), .reck, .reck, .reck, .reck, .reck, spV (.int .i64 ((k : Int) + 1)), .reck, .reck, .reck, .reck] Gr (by kernel_rfl) (by kernel_rfl) Gr.refl (fun _ _ _ => Gr.trans) ?_
        (refine wpRG_reck rfl (fun K hK => ?_); go_big_quiet_op; refine hK _ ?_; clear hK K)
        (refine wpRG_reck rfl (fun K hK => ?_); go_big_quiet_op; refine hK _ ?_; clear hK K)
        (refine wpRG_reck rfl (fun K hK => ?_); go_big_quiet_op; refine hK _ ?_; clear hK K)
        (refine wpRG_reck rfl (fun K hK => ?_); go_big_quiet_op; refine hK _ ?_; clear hK K)
        (refine wpRG_reck rfl (fun K hK => ?_); go_big_quiet_op; refine hK _ ?_; clear hK K)
        refine wpRG_any rfl (fun _ _ _ _ h => h) (fun W' hw hF R hR => ?_) ?_
        · (have HF := Lib.hid hF; clear hF; unfold rgAt; go_simp)
          show Calls _ _ _ _ _
          have h8 := (Gr.refl W8).drew.trans hw
          refine (packRef_any gm go gn gd gs a1 a2 k1 c1 k2 c2 W').mono ?_
          rintro e w9 ⟨rfl, hg9⟩
          exact ⟨_, rfl, hR () _ hg9 trivial⟩
        rintro ⟨⟩
        (simp only [Act.put, List.setIfInBounds_toArray, List.set_cons_zero, List.set_cons_succ])
        (refine wpRG_reck rfl (fun K hK => ?_); go_big_quiet_op; refine hK _ ?_; clear hK K)
        refine wpRG_any rfl (fun _ _ _ _ h => h) (fun W' hw hF R hR => ?_) ?_
        · (have HF := Lib.hid hF; clear hF; unfold rgAt; go_simp)
          show Calls _ _ _ _ _
          have h8 := (Gr.refl W8).drew.trans hw
          refine (packSame_eq gm go gn gd gs a1 a2 a3 a4 k1 c1 k2 c2 k3 c3 k4 c4 lb lp W' (HB18.out.below h8) (HB28.out.below h8) (HB38.out.below h8) (HB48.out.below h8)).mono ?_
          rintro e w9 ⟨rfl, hg9⟩
          exact ⟨_, rfl, hR () _ hg9 trivial⟩
        rintro ⟨⟩
        (simp only [Act.put, List.setIfInBounds_toArray, List.set_cons_zero, List.set_cons_succ])
        (refine wpRG_reck rfl (fun K hK => ?_); go_big_quiet_op; refine hK _ ?_; clear hK K)
        (refine wpRG_reck rfl (fun K hK => ?_); go_big_quiet_op; refine hK _ ?_; clear hK K)
        (refine wpRG_reck rfl (fun K hK => ?_); go_big_quiet_op; refine hK _ ?_; clear hK K)
        (refine wpRG_reck rfl (fun K hK => ?_); go_big_quiet_op; refine hK _ ?_; clear hK K)
        refine wpRG_any rfl (fun _ _ _ _ h => h) (fun W' hw hF R hR => ?_) ?_
        · (have HF := Lib.hid hF; clear hF; unfold rgAt; go_simp)
          show Calls _ _ _ _ _
          have h8 := (Gr.refl W8).drew.trans hw
          refine (CS1.out W' (HGA18.out.gr h8)).mono ?_
          rintro e w9 ⟨rfl, hg9⟩
          exact ⟨_, rfl, hR () _ hg9 trivial⟩
        rintro ⟨⟩
        (simp only [Act.put, List.setIfInBounds_toArray, List.set_cons_zero, List.set_cons_succ])
        (refine wpRG_reck rfl (fun K hK => ?_); go_big_quiet_op; refine hK _ ?_; clear hK K)
        (refine wpRG_reck rfl (fun K hK => ?_); go_big_quiet_op; refine hK _ ?_; clear hK K)
        (refine wpRG_reck rfl (fun K hK => ?_); go_big_quiet_op; refine hK _ ?_; clear hK K)
        (refine wpRG_reck rfl (fun K hK => ?_); go_big_quiet_op; refine hK _ ?_; clear hK K)
        (refine wpRG_reck rfl (fun K hK => ?_); go_big_quiet_op; refine hK _ ?_; clear hK K)
        refine wpRG_any rfl (fun _ _ _ _ h => h) (fun W' hw hF R hR => ?_) ?_
        · (have HF := Lib.hid hF; clear hF; unfold rgAt; go_simp)
          show Calls _ _ _ _ _
          have h8 := (Gr.refl W8).drew.trans hw
          refine (CS2.out W' (HGA8.out.gr h8)).mono ?_
          rintro e w9 ⟨rfl, hg9⟩
          exact ⟨_, rfl, hR () _ hg9 trivial⟩
        rintro ⟨⟩
        (simp only [Act.put, List.setIfInBounds_toArray, List.set_cons_zero, List.set_cons_succ])
        (refine wpRG_reck rfl (fun K hK => ?_); go_big_quiet_op; refine hK _ ?_; clear hK K)
        (refine wpRG_reck rfl (fun K hK => ?_); go_big_quiet_op; refine hK _ ?_; clear hK K)
        (refine wpRG_reck rfl (fun K hK => ?_); go_big_quiet_op; refine hK _ ?_; clear hK K)
        (refine wpRG_reck rfl (fun K hK => ?_); go_big_quiet_op; refine hK _ ?_; clear hK K)
        refine wpRG_end fun W9 hw hF => ?_
        have h89 := (Gr.refl W8).drew.trans hw
        clear hF hw u0 u1 u2 u3 u4 u5 u6 v0 v1 v2 v3 v4 v5 v6 r0 r1 r2 r3 r4 s0 s1 s2 s3 s4 hup
        have hgt9 := h89.heap HGT8.out
        have h13 := h89.heap H13b.out
        have hct9 := h89.heap HCT8.out
        have hga9 := HGA8.out.gr h89
        have hgc9 := HGC8.out.trans (GrC.of_gr h89)
        obtain ⟨x0, x1, x2, x3, x4, xf⟩ := five_cells hgt9
        obtain ⟨y0, y1, y2, y3, y4, _⟩ := five_cells h13
        obtain ⟨hgb, hh⟩ := five_set hgt9 (.int .i64 n) (.int .i64 s) (.int .i64 q) (.int .u32 (id : Int)) (.map (some g'))
        have hfin := Lib.hid (show _ ∧ _ ∧ _ ∧ _ from ⟨hh, hgb.heap hct9 (by omega), hga9.grb hgb (hga9.ne hgt9), hgc9.trans (GrC.of_grb hgb)⟩)
        clear hgb hh hct9 hga9 hgc9 hgt9 h13 HGT8 H13b HCT8 HGA8 HGA18 HB18 HB28 HB38 HB48 HGW8 HGC8 h89
        refine wpList_nil ?_
        go_wp2
        go_roundw
        case rel => exact ⟨k + 1, some g', E :: es, by omega, by go_num, by rw [List.length_cons, HES.out], hfin.out.1, hfin.out.2.1, hfin.out.2.2.1, hfin.out.2.2.2⟩
        case measure => simp [intOf]; omega
      · have hnl : (len : Int) ≤ (k : Int) := by omega
        obtain ⟨f, hf⟩ : ∃ f : Nat → Nat, ∀ j, es.count j = f j := ⟨fun j => es.count j, fun _ => rfl⟩
        have hix : ∀ (j : Nat), j < 20 → ∀ w, (Instr.index 56 (.agg (cnts es)) (.int .i64 (j : Int))).run Tryd.prog w = .ok (.int .i64 (f j : Nat)) w := fun j hj w => by
          rw [← hf j]; exact run_index_cnts es j hj w
        have HF := Lib.hid hf
        have HGA := Lib.hid hga
        have HGT := Lib.hid hgt
        have HGW := Lib.hid hgw
        have HIX := Lib.hid hix
        have HCT := Lib.hid hct
        have HES := Lib.hid hes
        clear hf hga hgt hgw hix hes hct hgc hlt
        go_wp2_with (with_reducible refine wpList_hold (o := ⟨some _, .load 56 _, _, _, _, _⟩) ?_)
        change wpList _ _ _ _ _ _
        refine wpList_load_row rfl 56 (.tmp 9) rfl b9 rfl 56 (cnts es) (0, 0) _ HCT.out Tryd.underlying56 rfl (by kernel_rfl) ?_
        obtain ⟨AR, eAR⟩ : ∃ AR, cnts es = AR := ⟨_, rfl⟩
        rw [eAR] at HIX ⊢
        clear eAR HCT
        go_wp2
        obtain ⟨wa, ewa⟩ : ∃ wa, wr = wa := ⟨_, rfl⟩
        rw [ewa] at HGA HGT HGW ⊢
        clear ewa
        go_loopw [122] (fun i wr => ∃ j : Nat, j ≤ 20 ∧ i = .int .i64 j ∧ Gr wa wr) (fun i _ => 20 - (intOf i).toNat)
        case atStart => exact ⟨0, by omega, rfl, Gr.refl _⟩
        case round =>
          obtain ⟨j, hj, rfl, hgj⟩ := hrel
          by_cases hlt : j < 20
          · have hixj := HIX.out j hlt
            obtain ⟨x0, x1, x2, x3, x4, _⟩ := five_cells (hgj.heap HGT.out)
            have CC := gateCount_any n s q id g es j (by omega) wr (HGA.out.gr hgj)
            rw [HF.out j] at CC
            have HCC := Lib.hid CC
            have HGJ := Lib.hid hgj
            clear CC hgj
            obtain ⟨fj, efj⟩ : ∃ c, f j = c := ⟨_, rfl⟩
            rw [efj] at hixj HCC
            clear efj
            have hne : ((fj : Int) != (fj : Int)) = false := by simp
            have hjt : (j : Int) < 20 := by omega
            go_wp2_with fail
            refine HCC.out.mono ?_
            rintro e w9 ⟨rfl, hg9⟩
            have hgf := HGJ.out.trans hg9
            clear hg9 HGJ
            go_wp2
            go_roundw
            case rel => exact ⟨j + 1, by omega, by go_num, hgf⟩
            case measure => simp [intOf]; omega
          · have hj20 : (20 : Int) ≤ (j : Int) := by omega
            have hgf := HGW.out.trans hgj
            clear hgj hlt
            go_wp2
            go_ret
            exact ⟨rfl, hgf⟩
end Go.Proofs.YtdmijoochgmhiabDoor
