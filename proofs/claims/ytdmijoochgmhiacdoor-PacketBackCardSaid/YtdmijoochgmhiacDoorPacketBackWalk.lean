/-
  The walk of law PacketBack.
-/
import Derived.Test.YtdmijoochgmhiacDoorPacketPlain
import Derived.Test.YtdmijoochgmhiacDoorPacketSame
import Derived.Test.YtdmijoochgmhiacDoorPacketAll
import Derived.Test.YtdmijoochgmhiacDoorPacketLaw
import Derived.Test.YtdmijoochgmhiacDoorOne
import Derived.Test.YtdmijoochgmhiacDoorUp
import Derived.Test.YtdmijoochgmhiacDoorSame
import Derived.Test.YtdmijoochgmhiacDoorBits
namespace Go.Proofs.YtdmijoochgmhiacDoor
open Go.RowKit
set_option linter.unusedVariables false

theorem OwnV.lit' {w : World} {base : Nat} (hb : base ≤ w.heap.size) : OwnV (w.alloc (.cells #[] 5)) base (.slice (some ⟨w.heap.size, 0, none⟩) 0 0) [] := OwnV.made hb rfl rfl (Nat.zero_le _)

set_option maxRecDepth 100000 in
set_option maxHeartbeats 8000000 in
theorem packetBack_walk (w : World) (htab : Tab w) (n : Int) (hlo : -9223372036854775808 ≤ n) (hm : n ≤ 9223372036854775807) (s : Int) (hsl : -9223372036854775808 ≤ s) (hsm : s ≤ 9223372036854775807) (q : Int) (hq1 : -9223372036854775808 ≤ q) (hq2 : q ≤ 9223372036854775807) (id : Nat) (hid : id < 4294967296)
    (m : Nat) (hmb : m < 256) (o : Nat) (hob : o < 4294967296) (nn : Nat) (hnb : nn < 4294967296) (md : Nat) (hmdb : md < 256) (a : Option Addr) (k c : Nat) (l : List UInt8) (hs : Bs w a k c l) (sd : Nat) (hsd : sd < 18446744073709551616) (a' : Option Addr) (k' c' : Nat) (lp : List UInt8) (hs' : Bs w a' k' c' lp)
    (at' : Nat) (hat : at' < 65536) (pat : Nat) (hpat : pat < 4294967296) (aL : Option Addr) (kL cL : Nat) (lL : List UInt8) (hL : Bs w aL kL cL lL) :
    Calls Tryd.prog 4 #[.agg #[.int .i64 n, .int .i64 s, .int .i64 q, .int .u32 (id : Int)], .agg #[.int .u8 (m : Int), .int .u32 (o : Int), .int .u32 (nn : Int), .int .u8 (md : Int), .slice a k c, .int .u64 (sd : Int), .slice a' k' c'], .int .u16 (at' : Int), .int .u32 (pat : Int), .slice aL kL cL] w fun e w' => e = .returned (.bool true) ∧ Gr w w' := by
  have hkx : k ≤ 9223372036854775807 := by have h1 := hs.2.1; have h2 := hs.2.2.1; unfold maxLen at h2; omega
  have hkx' : k' ≤ 9223372036854775807 := by have h1 := hs'.2.1; have h2 := hs'.2.2.1; unfold maxLen at h2; omega
  have hkxL : kL ≤ 9223372036854775807 := by have h1 := hL.2.1; have h2 := hL.2.2.1; unfold maxLen at h2; omega
  have CFew := oneFew_any m o nn md sd a a' k c k' c' hkx hkx'
  have CS := packSmall_any n s q id hlo hm hsl hsm
  by_cases hF : fewOne k k' = true
  · rw [hF] at CFew
    have HFew := Lib.hid CFew
    by_cases hS : pSmall n s q = true
    · rw [hS] at CS
      have HCS := Lib.hid CS
      by_cases hbig : 1000 < kL
      · have hbig' : (1000 : Int) < (kL : Int) := by omega
        clear CS CFew hS hF hbig
        go_enter Tryd.func4, Tryd.ntmps4
        go_wp2_with fail
        refine (packAwake _).mono ?_
        rintro e w1 ⟨rfl, hg1⟩
        have hO1 := hg1.heap (heap_alloc_new _ _)
        simp only [World.alloc, Array.size_push] at hO1
        have hP1 := hg1.heap (Gr.heap (Gr.alloc (Gr.refl _) _) (heap_alloc_new w _))
        obtain ⟨c0, c1, c2, c3, c4, c5, c6, _⟩ := seven_cells hO1
        have HO1 := Lib.hid hO1
        have HP1 := Lib.hid hP1
        have hgw1 := (((Gr.refl w).alloc _).alloc _).trans hg1
        clear hg1 hO1 hP1
        go_wp2_with fail
        refine (HFew.out _).mono ?_
        rintro e w2 ⟨rfl, hg2⟩
        obtain ⟨p0, p1, p2, p3⟩ := p_four_cells (hg2.heap HP1.out)
        have HO2 := Lib.hid (hg2.heap HO1.out)
        have HP2 := Lib.hid (hg2.heap HP1.out)
        have hgw2 := hgw1.trans hg2
        clear hg2 HO1 HP1 hgw1 c0 c1 c2 c3 c4 c5 c6
        go_wp2_with fail
        refine (HCS.out _).mono ?_
        rintro e w3 ⟨rfl, hg3⟩
        obtain ⟨p0, p1, p2, p3⟩ := p_four_cells (hg3.heap HP2.out)
        have HO3 := Lib.hid (hg3.heap HO2.out)
        have HP3 := Lib.hid (hg3.heap HP2.out)
        have hgw3 := hgw2.trans hg3
        clear hg3 HO2 HP2 hgw2
        go_wp2
        go_ret
        exact ⟨rfl, hgw3⟩
      · have hbig' : ¬ (1000 : Int) < (kL : Int) := by omega
        have hkk : k ≤ 300 ∧ k' ≤ 300 := by simpa [fewOne] using hF
        obtain ⟨hk3, hk3'⟩ := hkk
        have HT := Lib.hid htab
        have HB := Lib.hid hs
        have HB' := Lib.hid hs'
        have HL := Lib.hid hL
        have CMk := Lib.hid (oneMake_any m o nn md sd a a' k c k' c')
        have CW := Lib.hid fun w ht h1 h2 => packWrite_all n s q id m o nn md k k' sd hid hnb hlo hm hsl hsm a a' c c' l lp w ht h1 h2 (by omega) (by omega)
        have hrd : fitErr n s q id m o md k k' = 0 → packErr n s q id (wText n s q id m o nn md l sd lp) = 0 ∧ packGot n s q id (wText n s q id m o nn md l sd lp) = ⟨m, o, nn, md, if m = 0 then 0 else sd, if m = 0 then l else [], lp⟩ ∧ 14 < (wText n s q id m o nn md l sd lp).length ∧ rowSame md md (if m = 0 then l else []) l (if m = 0 then 0 else sd) sd = true ∧ 0 < k' := fun h => by
          obtain ⟨q', hqq, hq'⟩ := fitErr_q h
          obtain ⟨hP, hm1, h3, h4, h5, h6⟩ := fitErr_zero h
          have hsp := (planFit_zero (planErr_zero hP).1).2.1
          subst h3 h4 hqq
          have h' := h
          rw [← hs.1, ← hs'.1] at h'
          have hw : wText n s q' o md o nn md l sd lp = packText md o nn l sd lp := by unfold wText; rw [if_pos h']
          obtain ⟨t1, t2⟩ := text_read (nn := nn) (seed := sd) hid hnb hsd h'
          rw [hw]
          refine ⟨t1, t2, ?_, ?_, by omega⟩
          · rw [packText_length, hs'.1]; omega
          · unfold rowSame
            rw [if_neg (by simp)]
            by_cases h1 : md = 1
            · rw [if_pos h1, if_neg (by omega)]; simp
            · rw [if_neg h1, if_pos (by omega)]; exact sameB_self l
        have hrn : fitErr n s q id m o md k k' ≠ 0 → wText n s q id m o nn md l sd lp = [] := fun h => by
          unfold wText; rw [hs.1, hs'.1, if_neg h]
        have htl : (wText n s q id m o nn md l sd lp).length ≤ 100000 := by
          unfold wText
          split
          · rw [packText_length, hs'.1, rowText]
            split
            · rw [hs.1]; omega
            · rw [show (put8 sd).length = 8 from rfl]; omega
          · simp
        have CRL := Lib.hid fun w ht h => packRead_all n s q id hlo hm hsl hsm aL kL cL lL w ht h (by omega)
        have CRX := Lib.hid fun (l : List UInt8) w a len cap ht h hlen => packRead_all n s q id hlo hm hsl hsm a len cap l w ht h hlen
        have CRB := Lib.hid fun (l : List UInt8) w a len cap ht h hlen h0 => packRead_bad n s q id hlo hm hsl hsm a len cap l w ht h hlen h0
        have HRT := Lib.hid fun (h : packErr n s q id lL = 0) => read_text h
        obtain ⟨TX, eTX⟩ : ∃ x, wText n s q id m o nn md l sd lp = x := ⟨_, rfl⟩
        obtain ⟨E, eE⟩ : ∃ x, fitErr n s q id m o md k k' = x := ⟨_, rfl⟩
        rw [eTX, eE] at CW hrd hrn
        rw [eTX] at htl
        have HRD := Lib.hid hrd
        have HRN := Lib.hid hrn
        have hdec : ((E : Int) != 0) = true ∨ ((E : Int) != 0) = false := by cases ((E : Int) != 0) <;> simp
        have HDEC := Lib.hid hdec
        have CWL := Lib.hid fun (m o nn md sd : Nat) (l lp : List UInt8) w ht a k c a' k' c' h1 h2 hk hk' hn => packWrite_all n s q id m o nn md k k' sd hid hn hlo hm hsl hsm a a' c c' l lp w ht h1 h2 hk hk'
        clear htab hs hs' hL hrd hrn hdec eTX eE CS CFew hS hF hbig
        by_cases hEL : packErr n s q id lL = 0
        · obtain ⟨hft, htx⟩ := HRT.out hEL
          obtain ⟨hle1, hle2, hle3⟩ := packGot_le n s q id lL
          rw [HL.out.1] at hle1 hle2
          have CRL2 := CRL.out
          obtain ⟨⟨xm, xo, xn, xd, xs, xb, xp⟩, eG⟩ : ∃ x, packGot n s q id lL = x := ⟨_, rfl⟩
          rw [eG] at hft htx hle1 hle2 hle3 CRL2
          rw [hEL] at CRL2
          have HCRL := Lib.hid CRL2
          simp only at hft htx hle1 hle2 hle3
          have hwt : wText n s q id xm xo xn xd xb xs xp = lL := by unfold wText; rw [if_pos hft]; exact htx
          have HWT := Lib.hid hwt
          have HFT := Lib.hid hft
          clear eG hEL CRL CRL2 HRT hft htx hwt
          go_enter Tryd.func4, Tryd.ntmps4
          go_wp2_with fail
          refine (packAwake _).mono ?_
          rintro e w1 ⟨rfl, hg1⟩
          have hO1 := hg1.heap (heap_alloc_new _ _)
          simp only [World.alloc, Array.size_push] at hO1
          have hP1 := hg1.heap (Gr.heap (Gr.alloc (Gr.refl _) _) (heap_alloc_new w _))
          obtain ⟨c0, c1, c2, c3, c4, c5, c6, _⟩ := seven_cells hO1
          have HO1 := Lib.hid hO1
          have HP1 := Lib.hid hP1
          have hgw1 := (((Gr.refl w).alloc _).alloc _).trans hg1
          clear hg1 hO1 hP1
          go_wp2_with fail
          refine (HFew.out _).mono ?_
          rintro e w2 ⟨rfl, hg2⟩
          obtain ⟨p0, p1, p2, p3⟩ := p_four_cells (hg2.heap HP1.out)
          have HO2 := Lib.hid (hg2.heap HO1.out)
          have HP2 := Lib.hid (hg2.heap HP1.out)
          have hgw2 := hgw1.trans hg2
          clear hg2 HO1 HP1 hgw1 c0 c1 c2 c3 c4 c5 c6
          go_wp2_with fail
          refine (HCS.out _).mono ?_
          rintro e w3 ⟨rfl, hg3⟩
          obtain ⟨p0, p1, p2, p3⟩ := p_four_cells (hg3.heap HP2.out)
          have HO3 := Lib.hid (hg3.heap HO2.out)
          have HP3 := Lib.hid (hg3.heap HP2.out)
          have hgw3 := hgw2.trans hg3
          clear hg3 HO2 HP2 hgw2
          go_wp2_with fail
          refine (HCRL.out w3 (HT.out.below hgw3) (HL.out.below hgw3)).mono ?_
          rintro e w4 ⟨a1, k1, c1, a2, k2, c2, rfl, hb1, hb2, hg4⟩
          have h44 := (Gr.refl w4).alloc (.cells #[.int .u8 (xm : Int), .int .u32 (xo : Int), .int .u32 (xn : Int), .int .u8 (xd : Int), .slice a1 k1 c1, .int .u64 (xs : Int), .slice a2 k2 c2] 42)
          have hK4 := heap_alloc_new w4 (.cells #[.int .u8 (xm : Int), .int .u32 (xo : Int), .int .u32 (xn : Int), .int .u8 (xd : Int), .slice a1 k1 c1, .int .u64 (xs : Int), .slice a2 k2 c2] 42)
          obtain ⟨x0, x1, x2, x3, x4, x5, x6, _⟩ := seven_cells hK4
          have h34 := hg4.trans h44
          obtain ⟨p0, p1, p2, p3⟩ := p_four_cells (h34.heap HP3.out)
          have HO4 := Lib.hid (h34.heap HO3.out)
          have HP4 := Lib.hid (h34.heap HP3.out)
          have hgw4 := hgw3.trans h34
          have HB1 := Lib.hid (hb1.below h44)
          have HB2 := Lib.hid (hb2.below h44)
          have HK1 := Lib.hid hb1.1
          have HK2 := Lib.hid hb2.1
          clear hg4 hb1 hb2 h44 hK4 h34 hgw3 HO3 HP3
          go_wp2_with fail
          refine (CWL.out xm xo xn xd xs xb xp _ (HT.out.below hgw4) a1 k1 c1 a2 k2 c2 HB1.out HB2.out (by have := HK1.out; omega) (by have := HK2.out; omega) hle3).mono ?_
          rintro e w5 ⟨a3, k3, c3, rfl, ho3, hg5⟩
          rw [HWT.out] at ho3
          rw [show fitErr n s q id xm xo xd k1 k2 = 0 by rw [← HK1.out, ← HK2.out]; exact HFT.out]
          have hgw5 := hgw4.trans hg5
          have HO5 := Lib.hid (hg5.heap HO4.out)
          have HP5 := Lib.hid (hg5.heap HP4.out)
          clear hg5 hgw4 HO4 HP4 HB1 HB2 p0 p1 p2 p3 x0 x1 x2 x3 x4 x5 x6
          go_wp2_with fail
          refine (same_any a3 aL k3 c3 kL cL lL lL w5 ho3.bs2.1 (HL.out.below hgw5)).mono ?_
          rintro e WC ⟨rfl, hg6⟩
          rw [sameB_self lL]
          have HOC := Lib.hid (hg6.heap HO5.out)
          have HPC := Lib.hid (hg6.heap HP5.out)
          have HGC := Lib.hid (hgw5.trans hg6)
          clear hg6 hgw5 HO5 HP5 ho3
          go_wp2
          obtain ⟨u0, u1, u2, u3, u4, u5, u6⟩ := up_seven gr_st HOC.out
          obtain ⟨v0, v1, v2, v3⟩ := up_four gr_st HPC.out
          have hup : Nonempty (Up Gr WC.drew) := ⟨⟨_, Gr.refl _⟩⟩
          refine wp_region_rg [.reck, spV (.agg #[.int .u8 (m : Int), .int .u32 (o : Int), .int .u32 (nn : Int), .int .u8 (md : Int), .slice a k c, .int .u64 (sd : Int), .slice a' k' c']), .reck, .any (Option Addr × Nat × Nat) (none, 0, 0) (fun x => .tuple #[.slice x.1 x.2.1 x.2.2, .int .i64 (E : Int)]) (fun x w => Bs w x.1 x.2.1 x.2.2 TX), .reck, .reck, .reck, .reck, .reck] Gr (by kernel_rfl) (by kernel_rfl) Gr.refl (fun _ _ _ => Gr.trans) ?_
          (refine wpRG_reck rfl (fun K hK => ?_); go_big_quiet_op; refine hK _ ?_; clear hK K)
          refine wpRG_any rfl (fun _ _ _ _ h => h) (fun W' hw hF R hR => ?_) ?_
          · (have HF := Lib.hid hF; clear hF; unfold rgAt; go_simp)
            show Calls _ _ _ _ _
            refine (CMk.out W').mono ?_
            rintro e w8 ⟨rfl, hg8⟩
            exact ⟨_, rfl, hR () _ hg8 trivial⟩
          rintro ⟨⟩
          (simp only [Act.put, List.setIfInBounds_toArray, List.set_cons_zero, List.set_cons_succ])
          (refine wpRG_reck rfl (fun K hK => ?_); go_big_quiet_op; refine hK _ ?_; clear hK K)
          refine wpRG_any rfl (fun _ _ _ hg h => h.below hg) (fun W' hw hF R hR => ?_) ?_
          · (have HF := Lib.hid hF; clear hF; unfold rgAt; go_simp)
            show Calls _ _ _ _ _
            have hw0 := HGC.out.drew.trans hw
            refine (CW.out W' (HT.out.below hw0) (HB.out.below hw0) (HB'.out.below hw0)).mono ?_
            rintro e w8 ⟨a1, k1, c1, rfl, ho8, hg8⟩
            exact ⟨_, rfl, hR (a1, k1, c1) _ hg8 ho8.bs2.1⟩
          rintro ⟨a5, k5, c5⟩
          (simp only [Act.put, List.setIfInBounds_toArray, List.set_cons_zero, List.set_cons_succ])
          (refine wpRG_reck rfl (fun K hK => ?_); go_big_quiet_op; refine hK _ ?_; clear hK K)
          (refine wpRG_reck rfl (fun K hK => ?_); go_big_quiet_op; refine hK _ ?_; clear hK K)
          (refine wpRG_reck rfl (fun K hK => ?_); go_big_quiet_op; refine hK _ ?_; clear hK K)
          (refine wpRG_reck rfl (fun K hK => ?_); go_big_quiet_op; refine hK _ ?_; clear hK K)
          (refine wpRG_reck rfl (fun K hK => ?_); go_big_quiet_op; refine hK _ ?_; clear hK K)
          refine wpRG_end fun W5 hw5 hF => ?_
          have hX5 : Bs W5 a5 k5 c5 TX := hF 3
          clear hF u0 u1 u2 u3 u4 u5 u6 v0 v1 v2 v3 hup
          have hC5 : Gr WC W5 := (Gr.refl _).drew.trans hw5
          have HO5 := Lib.hid (hC5.heap HOC.out)
          have HP5 := Lib.hid (hC5.heap HPC.out)
          have HG5 := Lib.hid (HGC.out.trans hC5)
          have HX5 := Lib.hid hX5
          have hk5 : k5 ≤ 100000 := by rw [← hX5.1]; exact htl
          have hc5 : k5 ≤ c5 ∧ (c5 : Int) ≤ 9223372036854775807 := ⟨hX5.2.1, by have h2 := hX5.2.2.1; unfold maxLen at h2; omega⟩
          obtain ⟨hc5, hc5'⟩ := hc5
          clear hC5 hw5 hX5 HOC HPC HGC
          refine wpList_nil ?_
          rcases HDEC.out with hd | hd
          · have hE0 : E ≠ 0 := by rw [bne_iff_ne] at hd; omega
            have hk0 : ((k5 : Int) == 0) = true := by
              have := HX5.out.1
              rw [HRN.out hE0] at this
              rw [beq_iff_eq, ← this]; rfl
            clear hE0 hk5 hc5
            go_wp2
            go_ret
            exact ⟨rfl, HG5.out⟩
          · have hE0 : E = 0 := by rw [bne_eq_false_iff_eq] at hd; omega
            obtain ⟨hr1, hr2, hr3, hr4, hr5⟩ := HRD.out hE0
            have CRXT := CRX.out TX
            rw [hr1, hr2] at CRXT
            have HCX := Lib.hid CRXT
            have HR1 := Lib.hid hr1
            have HR4 := Lib.hid hr4
            have h14 : 14 < k5 := by rw [← HX5.out.1]; exact hr3
            obtain ⟨sdx, esd⟩ : ∃ x, (if m = 0 then 0 else sd) = x := ⟨_, rfl⟩
            obtain ⟨lx, elx⟩ : ∃ x, (if m = 0 then l else []) = x := ⟨_, rfl⟩
            rw [esd, elx] at HCX
            obtain ⟨ssd, essd⟩ : ∃ x, (if m = 0 then 0 else sd) = x := ⟨_, rfl⟩
            obtain ⟨p0, p1, p2, p3⟩ := p_four_cells HP5.out
            clear hr1 hr2 hr3 hE0 CRXT
            go_wp2_with fail
            refine (HCX.out W5 a5 k5 c5 (HT.out.below HG5.out) HX5.out (by omega)).mono ?_
            rintro e w6 ⟨a6, k6, c6, a7, k7, c7, rfl, hb6, hb7, hg6⟩
            have h67 := (Gr.refl w6).alloc (.cells #[.int .u8 (m : Int), .int .u32 (o : Int), .int .u32 (nn : Int), .int .u8 (md : Int), .slice a6 k6 c6, .int .u64 (sdx : Int), .slice a7 k7 c7] 42)
            have hK7 := heap_alloc_new w6 (.cells #[.int .u8 (m : Int), .int .u32 (o : Int), .int .u32 (nn : Int), .int .u8 (md : Int), .slice a6 k6 c6, .int .u64 (sdx : Int), .slice a7 k7 c7] 42)
            have h57 := hg6.trans h67
            have HO7 := Lib.hid (h57.heap HO5.out)
            have HP7 := Lib.hid (h57.heap HP5.out)
            have HG7 := Lib.hid (HG5.out.trans h57)
            have HX7 := Lib.hid (HX5.out.below h57)
            have HB6 := Lib.hid (hb6.below h67)
            have HB7 := Lib.hid (hb7.below h67)
            have HK7 := Lib.hid hK7
            rw [esd, elx] at HR4
            clear hg6 h67 hK7 h57 hb6 hb7 HO5 HP5 HG5 HX5 p0 p1 p2 p3 esd elx hr4 essd
            go_wp2
            obtain ⟨W7, eW7⟩ : ∃ W7, w6.alloc (.cells #[.int .u8 (m : Int), .int .u32 (o : Int), .int .u32 (nn : Int), .int .u8 (md : Int), .slice a6 k6 c6, .int .u64 (sdx : Int), .slice a7 k7 c7] 42) = W7 := ⟨_, rfl⟩
            rw [eW7] at HO7 HP7 HG7 HX7 HB6 HB7 HK7 ⊢
            clear eW7
            obtain ⟨u0, u1, u2, u3, u4, u5, u6⟩ := up_seven gr_st HO7.out
            obtain ⟨v0, v1, v2, v3, v4, v5, v6⟩ := up_seven gr_st HK7.out
            have hup : Nonempty (Up Gr W7.drew) := ⟨⟨_, Gr.refl _⟩⟩
            refine wp_region_rg [.reck, .reck, .reck, .reck, .reck, spV (.agg #[.int .u8 (m : Int), .int .u32 (o : Int), .int .u32 (nn : Int), .int .u8 (md : Int), .slice a k c, .int .u64 (sd : Int), .slice a' k' c']), spV (.bool true), .reck, .reck] Gr (by kernel_rfl) (by kernel_rfl) Gr.refl (fun _ _ _ => Gr.trans) ?_
            (refine wpRG_reck rfl (fun K hK => ?_); go_big_quiet_op; refine hK _ ?_; clear hK K)
            (refine wpRG_reck rfl (fun K hK => ?_); go_big_quiet_op; refine hK _ ?_; clear hK K)
            (refine wpRG_reck rfl (fun K hK => ?_); go_big_quiet_op; refine hK _ ?_; clear hK K)
            (refine wpRG_reck rfl (fun K hK => ?_); go_big_quiet_op; refine hK _ ?_; clear hK K)
            (refine wpRG_reck rfl (fun K hK => ?_); go_big_quiet_op; refine hK _ ?_; clear hK K)
            refine wpRG_any rfl (fun _ _ _ _ h => h) (fun W' hw hF R hR => ?_) ?_
            · (have HF := Lib.hid hF; clear hF; unfold rgAt; go_simp)
              show Calls _ _ _ _ _
              refine (CMk.out W').mono ?_
              rintro e w8 ⟨rfl, hg8⟩
              exact ⟨_, rfl, hR () _ hg8 trivial⟩
            rintro ⟨⟩
            (simp only [Act.put, List.setIfInBounds_toArray, List.set_cons_zero, List.set_cons_succ])
            refine wpRG_any rfl (fun _ _ _ _ h => h) (fun W' hw hF R hR => ?_) ?_
            · (have HF := Lib.hid hF; clear hF; unfold rgAt; go_simp)
              show Calls _ _ _ _ _
              have h7 := (Gr.refl W7).drew.trans hw
              have h0 := HG7.out.drew.trans hw
              refine (packetSame_two m o nn md sdx sd a6 a7 a a' k6 c6 k c k7 c7 k' c' lx l lp W' (HB6.out.below h7) (HB7.out.below h7) (HB.out.below h0) (HB'.out.below h0) hr5 HR4.out).mono ?_
              rintro e w8 ⟨rfl, hg8⟩
              exact ⟨_, rfl, hR () _ hg8 trivial⟩
            rintro ⟨⟩
            (simp only [Act.put, List.setIfInBounds_toArray, List.set_cons_zero, List.set_cons_succ])
            (refine wpRG_reck rfl (fun K hK => ?_); go_big_quiet_op; refine hK _ ?_; clear hK K)
            (refine wpRG_reck rfl (fun K hK => ?_); go_big_quiet_op; refine hK _ ?_; clear hK K)
            refine wpRG_end fun W8 hw8 hF => ?_
            have h78 : Gr W7 W8 := (Gr.refl _).drew.trans hw8
            clear hF u0 u1 u2 u3 u4 u5 u6 v0 v1 v2 v3 v4 v5 v6 hup hw8
            have HP8 := Lib.hid (h78.heap HP7.out)
            have hgw8 := HG7.out.trans h78
            have hx8 := HX7.out.below h78
            clear h78 HO7 HP7 HG7 HX7 HB6 HB7 HK7 HR4
            refine wpList_nil ?_
            have hown := OwnV.lit' (base := W8.heap.size) (Nat.le_refl _)
            have hsrc := hx8.below ((Gr.refl W8).alloc (.cells #[] 5))
            have hq : ([] : List UInt8).length + k5 ≤ 140737488355328 := by simp; omega
            have hbase : W8.heap.size ≤ (W8.alloc (.cells #[] 5)).heap.size := ((Gr.refl W8).alloc _).size
            have HX8 := Lib.hid hx8
            go_wp2_with (with_reducible refine wpList_hold (o := ⟨some 116, _, _, _, _, _⟩) ?_)
            change wpList _ _ _ _ _ _
            refine wpList_append_bytes rfl (.tmp 114) (.tmp 115) rfl W8.heap.size (.slice (some ⟨W8.heap.size, 0, none⟩) 0 0) [] rfl hown a5 k5 c5 TX rfl hsrc hq hbase ?_
            intro v9 w9 ho9 hg9 hn9
            have h89 : Gr W8 w9 := ((Gr.refl W8).alloc _).grown hg9 (fun q hq => by cases hq; exact Nat.le_refl _)
            have hgw9 := hgw8.trans h89
            rw [List.nil_append] at ho9
            have ho9' : w9.ownsRow W8.heap.size 5 1 v9 k5 (u8s TX) := by have := ho9; unfold OwnV at this; rw [HX8.out.1] at this; exact this
            obtain ⟨g, cap', rfl, hobk⟩ := OwnB.of_owns ho9' (by omega)
            have HP9 := Lib.hid (h89.heap HP8.out)
            have HX9 := Lib.hid (HX8.out.below h89)
            have HTL := Lib.hid HX8.out.1
            obtain ⟨b5, off5, hab5, hb5, _⟩ := HX8.out.at_ (by omega)
            have hgb := hobk.base_le
            have hne1 : g ≠ w.heap.size := by have := lt_of_block HP8.out; omega
            have hne2 : ∀ x, a5 = some x → x.block ≠ g := fun x hx => by rw [hab5] at hx; cases hx; show b5 ≠ g; omega
            have HNE1 := Lib.hid hne1
            have HNE2 := Lib.hid hne2
            have HWG : Hid (w.heap.size ≤ g) := by show _ ≤ _; have := hgw8.size; omega
            clear h89 ho9 ho9' hg9 hn9 hown hsrc hq hbase hgw8 hx8 HP8 HX8 hab5 hb5 hgb hne1 hne2
            obtain ⟨first, hfi⟩ : ∃ first : Nat, first = at' % (8 * k5) := ⟨_, rfl⟩
            have hfl : first < 8 * k5 := by rw [hfi]; exact Nat.mod_lt _ (by omega)
            have Hfi := Lib.hid hfi
            clear hfi
            have hfr : (at' : Int) % (8 * (k5 : Int)) = (first : Int) := by rw [Hfi.out]; simp
            have h14i : (14 : Int) < (k5 : Int) := by omega
            have h0k : ((k5 : Int) == 0) = false := by rw [beq_eq_false_iff_ne]; omega
            go_wp2
            rw [hfr]
            go_loopw [21, 123] (fun t i wr => ∃ j : Nat, j ≤ 32 ∧ i = .int .i64 j ∧ t = .bool (turned (8 * k5) first pat j) ∧ OwnB wr W8.heap.size g k5 cap' (burst TX first pat j) ∧ GrB w9 g wr) (fun _ i _ => 32 - (intOf i).toNat)
            case atStart => exact ⟨0, by omega, rfl, rfl, hobk, GrB.refl _ _⟩
            case round =>
              obtain ⟨j, hj, rfl, rfl, hob1, hb4⟩ := hrel
              by_cases hlt : j < 32
              · obtain ⟨J, hJ⟩ : ∃ J : Nat, J = first + j := ⟨_, rfl⟩
                have hJ' : (first : Int) + (j : Int) = (J : Int) := by omega
                have HJ : Hid _ := hJ
                clear hJ
                have hbd := u32_bit pat j hpat
                by_cases hbit : pat / 2 ^ j % 2 = 1
                · have hb15 : bits .and .u32 ((pat : Int) / 2 ^ j) 1 = 1 := by rw [hbd, hbit]; rfl
                  clear hbd
                  by_cases hin : J < 8 * k5
                  · obtain ⟨x, hx⟩ : ∃ x, (burst TX first pat j)[J / 8]? = some x := by
                      have := hob1.len
                      exact ⟨_, List.getElem?_eq_getElem (by omega)⟩
                    have hcx := hob1.cell hx
                    have hfx := hob1.free (J / 8)
                    have h8 : J / 8 < k5 := by omega
                    have ht := u8_turn x J
                    have HT2 : Hid (turned (8 * k5) first pat (j + 1) = true) := by show turned (8 * k5) first pat (j + 1) = true; rw [turned, if_pos ⟨hbit, by have := HJ.out; omega⟩]
                    have HB2 : Hid (burst TX first pat (j + 1) = (burst TX first pat j).set (J / 8) (x ^^^ UInt8.ofNat (2 ^ (J % 8)))) := by
                      show burst TX first pat (j + 1) = _
                      rw [burst, if_pos ⟨hbit, by rw [HTL.out, ← HJ.out]; exact hin⟩, flip, ← HJ.out, List.getD_eq_getElem?_getD, hx]; rfl
                    clear hbit hx
                    go_wp2
                    go_region
                    go_wp2
                    go_roundw
                    case rel =>
                      refine ⟨j + 1, by omega, by go_num, by rw [HT2.out], ?_, (hb4.set (.inl rfl) _).gr ((Gr.refl _).drew)⟩
                      rw [HB2.out]
                      exact (hob1.set (J / 8) (x ^^^ UInt8.ofNat (2 ^ (J % 8)))).gr ((Gr.refl _).drew)
                    case measure => simp [intOf]; omega
                  · have HT2 : Hid (turned (8 * k5) first pat (j + 1) = turned (8 * k5) first pat j) := by show turned (8 * k5) first pat (j + 1) = _; rw [turned, if_neg (by have := HJ.out; omega)]
                    have HB2 : Hid (burst TX first pat (j + 1) = burst TX first pat j) := by
                      show burst TX first pat (j + 1) = _
                      rw [burst, if_neg (by rw [HTL.out]; have := HJ.out; omega)]
                    clear hbit
                    go_wp2
                    go_roundw
                    case rel => exact ⟨j + 1, by omega, by go_num, by rw [HT2.out], by rw [HB2.out]; exact hob1, hb4⟩
                    case measure => simp [intOf]; omega
                · have hb15 : (bits .and .u32 ((pat : Int) / 2 ^ j) 1 == 1) = false := by rw [hbd, beq_eq_false_iff_ne]; omega
                  have HT2 : Hid (turned (8 * k5) first pat (j + 1) = turned (8 * k5) first pat j) := by show turned (8 * k5) first pat (j + 1) = _; rw [turned, if_neg (by omega)]
                  have HB2 : Hid (burst TX first pat (j + 1) = burst TX first pat j) := by
                    show burst TX first pat (j + 1) = _
                    rw [burst, if_neg (by omega)]
                  clear hbit hbd
                  go_wp2
                  go_roundw
                  case rel => exact ⟨j + 1, by omega, by go_num, by rw [HT2.out], by rw [HB2.out]; exact hob1, hb4⟩
                  case measure => simp [intOf]; omega
              · obtain rfl : j = 32 := by omega
                have hlaw := packErr_burst HR1.out first pat (by rw [HTL.out]; exact hfl)
                rw [HTL.out] at hlaw
                have hobs := hob1.bs
                have HCB := Lib.hid (CRX.out (burst TX first pat 32))
                have HPw := Lib.hid (hb4.heap HP9.out HNE1.out.symm)
                have HXw := Lib.hid (HX9.out.grb hb4 HNE2.out)
                have hgww := hgw9.grb hb4 HWG.out
                obtain ⟨tt, ett⟩ : ∃ x, turned (8 * k5) first pat 32 = x := ⟨_, rfl⟩
                obtain ⟨ob, eob⟩ : ∃ x, burst TX first pat 32 = x := ⟨_, rfl⟩
                rw [eob] at hobs hlaw HCB
                rw [ett] at hlaw ⊢
                obtain ⟨EB, eEB⟩ : ∃ x, packErr n s q id ob = x := ⟨_, rfl⟩
                obtain ⟨⟨gm, go, gn, gd, gs, lb, lpp⟩, eGB⟩ : ∃ x, packGot n s q id ob = x := ⟨_, rfl⟩
                rw [eEB, eGB] at HCB
                rw [eEB] at hlaw
                have hbb : ((EB : Int) == 0) = !tt := by
                  cases tt
                  · have := hlaw.2 rfl; simp; omega
                  · have : ¬ EB = 0 := fun h => by have := hlaw.1 h; cases this
                    simp; omega
                obtain ⟨JC, hJC⟩ : ∃ JC : Nat, JC = at' % k5 := ⟨_, rfl⟩
                have hJCl : JC < k5 := by rw [hJC]; exact Nat.mod_lt _ (by omega)
                have hcut := packErr_cut HR1.out JC (by rw [HTL.out]; exact hJCl)
                have HCB2 := Lib.hid (CRB.out (TX.take JC))
                obtain ⟨EC, eEC⟩ : ∃ x, packErr n s q id (TX.take JC) = x := ⟨_, rfl⟩
                rw [eEC] at HCB2 hcut
                have hcc : ((EC : Int) != 0) = true := by rw [bne_iff_ne]; omega
                have HCC := Lib.hid hcut
                have HJC := Lib.hid hJC
                have HBS := Lib.hid hobs
                have HGW := Lib.hid hgww
                have HBB := Lib.hid hbb
                clear hlaw hobs hgww ett eob eEB eGB eEC hcut hJC hob1 hb4 hbb hlt hj hcc
                obtain ⟨p0, p1, p2, p3⟩ := p_four_cells HPw.out
                go_wp2_with fail
                refine (HCB.out wr _ k5 cap' (HT.out.below HGW.out) HBS.out (by omega)).mono ?_
                rintro e w10 ⟨a1, k1, c1, a2, k2, c2, rfl, _, _, hg10⟩
                have hwA := hg10.alloc (.cells #[.int .u8 (gm : Int), .int .u32 (go : Int), .int .u32 (gn : Int), .int .u8 (gd : Int), .slice a1 k1 c1, .int .u64 (gs : Int), .slice a2 k2 c2] 42)
                have HPA := Lib.hid (hwA.heap HPw.out)
                have HXA := Lib.hid (HXw.out.below hwA)
                have HGA := Lib.hid (HGW.out.trans hwA)
                clear hg10 hwA HPw HXw HGW HBS p0 p1 p2 p3
                go_wp2
                obtain ⟨WA, eWA⟩ : ∃ WA, w10.alloc (.cells #[.int .u8 (gm : Int), .int .u32 (go : Int), .int .u32 (gn : Int), .int .u8 (gd : Int), .slice a1 k1 c1, .int .u64 (gs : Int), .slice a2 k2 c2] 42) = WA := ⟨_, rfl⟩
                rw [eWA] at HPA HXA HGA ⊢
                clear eWA
                obtain ⟨v0, v1, v2, v3⟩ := up_four gr_st HPA.out
                have hup : Nonempty (Up Gr WA.drew) := ⟨⟨_, Gr.refl _⟩⟩
                have hrm : (at' : Int).tmod (k5 : Int) = (JC : Int) := by rw [HJC.out, Int.tmod_eq_emod_of_nonneg (by omega)]; simp
                have hJc5 : (JC : Int) ≤ (c5 : Int) := by omega
                have hk5n : ((k5 : Int)) ≠ 0 := by omega
                refine wp_region_rgF [.reck, .reck, .reck, .reck, .reck, .reck, .reck, .reck, spV (.tuple #[packZ, .int .i64 (EC : Int)]), .reck, .reck, .flt,
                  .any Nat 0 (fun b => .pointer (some ⟨b, 0, none⟩)) (fun b w' => WA.heap.size ≤ b ∧ w'.heap[b]? = some (.cells #[.int .u8 0, .int .u32 0, .int .u32 0, .int .u8 0, .slice none 0 0, .int .u64 0, .slice none 0 0] 42))] Gr (by kernel_rfl) (by kernel_rfl) Gr.refl (fun _ _ _ => Gr.trans) ?_
                (refine wpRG_reck rfl (fun K hK => ?_); go_big_quiet_op; refine hK _ ?_; clear hK K)
                (refine wpRG_reck rfl (fun K hK => ?_); go_big_quiet_op; refine hK _ ?_; clear hK K)
                (refine wpRG_reck rfl (fun K hK => ?_); go_big_quiet_op; refine hK _ ?_; clear hK K)
                (refine wpRG_reck rfl (fun K hK => ?_); go_big_quiet_op; refine hK _ ?_; clear hK K)
                (refine wpRG_reck rfl (fun K hK => ?_); go_big_quiet_op; refine hK _ ?_; clear hK K)
                (refine wpRG_reck rfl (fun K hK => ?_); go_big_quiet_op; refine hK _ ?_; clear hK K)
                (refine wpRG_reck rfl (fun K hK => ?_); go_big_quiet_op; refine hK _ ?_; clear hK K)
                (refine wpRG_reck rfl (fun K hK => ?_); go_big_quiet_op; refine hK _ ?_; clear hK K)
                refine wpRG_any rfl (fun _ _ _ _ h => h) (fun W' hw hF R hR => ?_) ?_
                · (have HF := Lib.hid hF; clear hF; unfold rgAt; go_simp)
                  show Calls _ _ _ _ _
                  have h7 := (Gr.refl WA).drew.trans hw
                  have hxx := (HXA.out.below h7).take (k := JC) (by omega)
                  refine (HCB2.out W' a5 JC c5 (HT.out.below (HGA.out.trans h7)) hxx (by omega) HCC.out).mono ?_
                  rintro e w8 ⟨rfl, hg8⟩
                  exact ⟨_, rfl, hR () _ hg8 trivial⟩
                rintro ⟨⟩
                (simp only [Act.put, List.setIfInBounds_toArray, List.set_cons_zero, List.set_cons_succ])
                (refine wpRG_reck rfl (fun K hK => ?_); go_big_quiet_op; refine hK _ ?_; clear hK K)
                (refine wpRG_reck rfl (fun K hK => ?_); go_big_quiet_op; refine hK _ ?_; clear hK K)
                refine wpRG_flt rfl (fun _ => by go_simp; rfl) ?_
                (simp only [Act.put])
                refine wpRG_any rfl (fun x w w' hg h => ⟨h.1, hg.heap h.2⟩) (fun W' hw hF R hR => ?_) ?_
                · (have HF := Lib.hid hF; clear hF; unfold rgAt; go_simp)
                  exact hR W'.heap.size _ ((Gr.refl _).alloc _) ⟨hw.size, heap_alloc_new _ _⟩
                intro bZ
                (simp only [Act.put, List.setIfInBounds_toArray, List.set_cons_zero, List.set_cons_succ])
                refine wpRG_end fun WZ hwZ hF => ?_
                have hyZ : WA.heap.size ≤ bZ ∧ WZ.heap[bZ]? = some (.cells #[.int .u8 0, .int .u32 0, .int .u32 0, .int .u8 0, .slice none 0 0, .int .u64 0, .slice none 0 0] 42) := hF 12
                have hAZ : Gr WA WZ := (Gr.refl _).drew.trans hwZ
                clear hF v0 v1 v2 v3 hup hwZ
                obtain ⟨hyZ, hyZ2⟩ := hyZ
                obtain ⟨r0, r1, r2, r3, r4, r5, r6, rf⟩ := seven_cells hyZ2
                have hfin := hAZ.grb (grb_seven WZ bZ (.int .u8 0) (.int .u32 0) (.int .u32 0) (.int .u8 0) (.slice none 0 0) (.int .u64 0) (.slice none 0 0)) hyZ
                refine wpTl_cons rfl (fun R hR => ?_)
                unfold rgAt
                go_simp
                refine hR _ _ ?_
                obtain ⟨WY, hWY⟩ : ∃ WY, ((((((WZ.setCell ⟨bZ, 0, none⟩ (.int .u8 0)).setCell ⟨bZ, 1, none⟩ (.int .u32 0)).setCell ⟨bZ, 2, none⟩ (.int .u32 0)).setCell ⟨bZ, 3, none⟩ (.int .u8 0)).setCell ⟨bZ, 4, none⟩ (.slice none 0 0)).setCell ⟨bZ, 5, none⟩ (.int .u64 0)).setCell ⟨bZ, 6, none⟩ (.slice none 0 0) = WY := ⟨_, rfl⟩
                rw [hWY] at hfin ⊢
                clear r0 r1 r2 r3 r4 r5 r6 rf hyZ2 hAZ hWY hR
                (simp only [Act.put])
                refine wpTl_cons rfl (fun R hR => ?_)
                unfold rgAt
                go_simp
                refine hR _ _ ?_
                (simp only [Act.put, List.setIfInBounds_toArray, List.set_cons_zero, List.set_cons_succ])
                refine wpTl_nil ?_
                clear hR
                have hgend := HGA.out.trans hfin
                have hcc : ((EC : Int) != 0) = true := by rw [bne_iff_ne]; have := HCC.out; omega
                have hbb := HBB.out
                clear hfin hyZ
                go_wp2
                go_ret
                exact ⟨rfl, hgend⟩
        · have hG0 : packGot n s q id lL = ⟨0, 0, 0, 0, 0, [], []⟩ := by unfold packGot; rw [if_neg hEL]
          obtain ⟨EL, eEL⟩ : ∃ x, packErr n s q id lL = x := ⟨_, rfl⟩
          have CRL2 := CRL.out
          rw [hG0, eEL] at CRL2
          rw [eEL] at hEL
          have htE : ((EL : Int) == 0) = false := by rw [beq_eq_false_iff_ne]; omega
          have HCRL := Lib.hid CRL2
          clear hG0 eEL CRL CRL2 hEL HRT
          go_enter Tryd.func4, Tryd.ntmps4
          go_wp2_with fail
          refine (packAwake _).mono ?_
          rintro e w1 ⟨rfl, hg1⟩
          have hO1 := hg1.heap (heap_alloc_new _ _)
          simp only [World.alloc, Array.size_push] at hO1
          have hP1 := hg1.heap (Gr.heap (Gr.alloc (Gr.refl _) _) (heap_alloc_new w _))
          obtain ⟨c0, c1, c2, c3, c4, c5, c6, _⟩ := seven_cells hO1
          have HO1 := Lib.hid hO1
          have HP1 := Lib.hid hP1
          have hgw1 := (((Gr.refl w).alloc _).alloc _).trans hg1
          clear hg1 hO1 hP1
          go_wp2_with fail
          refine (HFew.out _).mono ?_
          rintro e w2 ⟨rfl, hg2⟩
          obtain ⟨p0, p1, p2, p3⟩ := p_four_cells (hg2.heap HP1.out)
          have HO2 := Lib.hid (hg2.heap HO1.out)
          have HP2 := Lib.hid (hg2.heap HP1.out)
          have hgw2 := hgw1.trans hg2
          clear hg2 HO1 HP1 hgw1 c0 c1 c2 c3 c4 c5 c6
          go_wp2_with fail
          refine (HCS.out _).mono ?_
          rintro e w3 ⟨rfl, hg3⟩
          obtain ⟨p0, p1, p2, p3⟩ := p_four_cells (hg3.heap HP2.out)
          have HO3 := Lib.hid (hg3.heap HO2.out)
          have HP3 := Lib.hid (hg3.heap HP2.out)
          have hgw3 := hgw2.trans hg3
          clear hg3 HO2 HP2 hgw2
          go_wp2_with fail
          refine (HCRL.out w3 (HT.out.below hgw3) (HL.out.below hgw3)).mono ?_
          rintro e w4 ⟨a1, k1, c1, a2, k2, c2, rfl, hb1, hb2, hg4⟩
          have hk2 : k2 = 0 := by have := hb2.1; exact this.symm
          subst hk2
          have h34 := hg4.alloc (.cells #[.int .u8 0, .int .u32 0, .int .u32 0, .int .u8 0, .slice a1 k1 c1, .int .u64 0, .slice a2 0 c2] 42)
          have HOC := Lib.hid (h34.heap HO3.out)
          have HPC := Lib.hid (h34.heap HP3.out)
          have HGC := Lib.hid (hgw3.trans h34)
          clear hg4 hb1 hb2 h34 hgw3 HO3 HP3 p0 p1 p2 p3
          go_wp2
          obtain ⟨WC, eWC⟩ : ∃ WC, w4.alloc (.cells #[.int .u8 0, .int .u32 0, .int .u32 0, .int .u8 0, .slice a1 k1 c1, .int .u64 0, .slice a2 0 c2] 42) = WC := ⟨_, rfl⟩
          rw [eWC] at HOC HPC HGC ⊢
          clear eWC
          obtain ⟨u0, u1, u2, u3, u4, u5, u6⟩ := up_seven gr_st HOC.out
          obtain ⟨v0, v1, v2, v3⟩ := up_four gr_st HPC.out
          have hup : Nonempty (Up Gr WC.drew) := ⟨⟨_, Gr.refl _⟩⟩
          refine wp_region_rg [.reck, spV (.agg #[.int .u8 (m : Int), .int .u32 (o : Int), .int .u32 (nn : Int), .int .u8 (md : Int), .slice a k c, .int .u64 (sd : Int), .slice a' k' c']), .reck, .any (Option Addr × Nat × Nat) (none, 0, 0) (fun x => .tuple #[.slice x.1 x.2.1 x.2.2, .int .i64 (E : Int)]) (fun x w => Bs w x.1 x.2.1 x.2.2 TX), .reck, .reck, .reck, .reck, .reck] Gr (by kernel_rfl) (by kernel_rfl) Gr.refl (fun _ _ _ => Gr.trans) ?_
          (refine wpRG_reck rfl (fun K hK => ?_); go_big_quiet_op; refine hK _ ?_; clear hK K)
          refine wpRG_any rfl (fun _ _ _ _ h => h) (fun W' hw hF R hR => ?_) ?_
          · (have HF := Lib.hid hF; clear hF; unfold rgAt; go_simp)
            show Calls _ _ _ _ _
            refine (CMk.out W').mono ?_
            rintro e w8 ⟨rfl, hg8⟩
            exact ⟨_, rfl, hR () _ hg8 trivial⟩
          rintro ⟨⟩
          (simp only [Act.put, List.setIfInBounds_toArray, List.set_cons_zero, List.set_cons_succ])
          (refine wpRG_reck rfl (fun K hK => ?_); go_big_quiet_op; refine hK _ ?_; clear hK K)
          refine wpRG_any rfl (fun _ _ _ hg h => h.below hg) (fun W' hw hF R hR => ?_) ?_
          · (have HF := Lib.hid hF; clear hF; unfold rgAt; go_simp)
            show Calls _ _ _ _ _
            have hw0 := HGC.out.drew.trans hw
            refine (CW.out W' (HT.out.below hw0) (HB.out.below hw0) (HB'.out.below hw0)).mono ?_
            rintro e w8 ⟨a1, k1, c1, rfl, ho8, hg8⟩
            exact ⟨_, rfl, hR (a1, k1, c1) _ hg8 ho8.bs2.1⟩
          rintro ⟨a5, k5, c5⟩
          (simp only [Act.put, List.setIfInBounds_toArray, List.set_cons_zero, List.set_cons_succ])
          (refine wpRG_reck rfl (fun K hK => ?_); go_big_quiet_op; refine hK _ ?_; clear hK K)
          (refine wpRG_reck rfl (fun K hK => ?_); go_big_quiet_op; refine hK _ ?_; clear hK K)
          (refine wpRG_reck rfl (fun K hK => ?_); go_big_quiet_op; refine hK _ ?_; clear hK K)
          (refine wpRG_reck rfl (fun K hK => ?_); go_big_quiet_op; refine hK _ ?_; clear hK K)
          (refine wpRG_reck rfl (fun K hK => ?_); go_big_quiet_op; refine hK _ ?_; clear hK K)
          refine wpRG_end fun W5 hw5 hF => ?_
          have hX5 : Bs W5 a5 k5 c5 TX := hF 3
          clear hF u0 u1 u2 u3 u4 u5 u6 v0 v1 v2 v3 hup
          have hC5 : Gr WC W5 := (Gr.refl _).drew.trans hw5
          have HO5 := Lib.hid (hC5.heap HOC.out)
          have HP5 := Lib.hid (hC5.heap HPC.out)
          have HG5 := Lib.hid (HGC.out.trans hC5)
          have HX5 := Lib.hid hX5
          have hk5 : k5 ≤ 100000 := by rw [← hX5.1]; exact htl
          have hc5 : k5 ≤ c5 ∧ (c5 : Int) ≤ 9223372036854775807 := ⟨hX5.2.1, by have h2 := hX5.2.2.1; unfold maxLen at h2; omega⟩
          obtain ⟨hc5, hc5'⟩ := hc5
          clear hC5 hw5 hX5 HOC HPC HGC
          refine wpList_nil ?_
          rcases HDEC.out with hd | hd
          · have hE0 : E ≠ 0 := by rw [bne_iff_ne] at hd; omega
            have hk0 : ((k5 : Int) == 0) = true := by
              have := HX5.out.1
              rw [HRN.out hE0] at this
              rw [beq_iff_eq, ← this]; rfl
            clear hE0 hk5 hc5
            go_wp2
            go_ret
            exact ⟨rfl, HG5.out⟩
          · have hE0 : E = 0 := by rw [bne_eq_false_iff_eq] at hd; omega
            obtain ⟨hr1, hr2, hr3, hr4, hr5⟩ := HRD.out hE0
            have CRXT := CRX.out TX
            rw [hr1, hr2] at CRXT
            have HCX := Lib.hid CRXT
            have HR1 := Lib.hid hr1
            have HR4 := Lib.hid hr4
            have h14 : 14 < k5 := by rw [← HX5.out.1]; exact hr3
            obtain ⟨sdx, esd⟩ : ∃ x, (if m = 0 then 0 else sd) = x := ⟨_, rfl⟩
            obtain ⟨lx, elx⟩ : ∃ x, (if m = 0 then l else []) = x := ⟨_, rfl⟩
            rw [esd, elx] at HCX
            obtain ⟨ssd, essd⟩ : ∃ x, (if m = 0 then 0 else sd) = x := ⟨_, rfl⟩
            obtain ⟨p0, p1, p2, p3⟩ := p_four_cells HP5.out
            clear hr1 hr2 hr3 hE0 CRXT
            go_wp2_with fail
            refine (HCX.out W5 a5 k5 c5 (HT.out.below HG5.out) HX5.out (by omega)).mono ?_
            rintro e w6 ⟨a6, k6, c6, a7, k7, c7, rfl, hb6, hb7, hg6⟩
            have h67 := (Gr.refl w6).alloc (.cells #[.int .u8 (m : Int), .int .u32 (o : Int), .int .u32 (nn : Int), .int .u8 (md : Int), .slice a6 k6 c6, .int .u64 (sdx : Int), .slice a7 k7 c7] 42)
            have hK7 := heap_alloc_new w6 (.cells #[.int .u8 (m : Int), .int .u32 (o : Int), .int .u32 (nn : Int), .int .u8 (md : Int), .slice a6 k6 c6, .int .u64 (sdx : Int), .slice a7 k7 c7] 42)
            have h57 := hg6.trans h67
            have HO7 := Lib.hid (h57.heap HO5.out)
            have HP7 := Lib.hid (h57.heap HP5.out)
            have HG7 := Lib.hid (HG5.out.trans h57)
            have HX7 := Lib.hid (HX5.out.below h57)
            have HB6 := Lib.hid (hb6.below h67)
            have HB7 := Lib.hid (hb7.below h67)
            have HK7 := Lib.hid hK7
            rw [esd, elx] at HR4
            clear hg6 h67 hK7 h57 hb6 hb7 HO5 HP5 HG5 HX5 p0 p1 p2 p3 esd elx hr4 essd
            go_wp2
            obtain ⟨W7, eW7⟩ : ∃ W7, w6.alloc (.cells #[.int .u8 (m : Int), .int .u32 (o : Int), .int .u32 (nn : Int), .int .u8 (md : Int), .slice a6 k6 c6, .int .u64 (sdx : Int), .slice a7 k7 c7] 42) = W7 := ⟨_, rfl⟩
            rw [eW7] at HO7 HP7 HG7 HX7 HB6 HB7 HK7 ⊢
            clear eW7
            obtain ⟨u0, u1, u2, u3, u4, u5, u6⟩ := up_seven gr_st HO7.out
            obtain ⟨v0, v1, v2, v3, v4, v5, v6⟩ := up_seven gr_st HK7.out
            have hup : Nonempty (Up Gr W7.drew) := ⟨⟨_, Gr.refl _⟩⟩
            refine wp_region_rg [.reck, .reck, .reck, .reck, .reck, spV (.agg #[.int .u8 (m : Int), .int .u32 (o : Int), .int .u32 (nn : Int), .int .u8 (md : Int), .slice a k c, .int .u64 (sd : Int), .slice a' k' c']), spV (.bool true), .reck, .reck] Gr (by kernel_rfl) (by kernel_rfl) Gr.refl (fun _ _ _ => Gr.trans) ?_
            (refine wpRG_reck rfl (fun K hK => ?_); go_big_quiet_op; refine hK _ ?_; clear hK K)
            (refine wpRG_reck rfl (fun K hK => ?_); go_big_quiet_op; refine hK _ ?_; clear hK K)
            (refine wpRG_reck rfl (fun K hK => ?_); go_big_quiet_op; refine hK _ ?_; clear hK K)
            (refine wpRG_reck rfl (fun K hK => ?_); go_big_quiet_op; refine hK _ ?_; clear hK K)
            (refine wpRG_reck rfl (fun K hK => ?_); go_big_quiet_op; refine hK _ ?_; clear hK K)
            refine wpRG_any rfl (fun _ _ _ _ h => h) (fun W' hw hF R hR => ?_) ?_
            · (have HF := Lib.hid hF; clear hF; unfold rgAt; go_simp)
              show Calls _ _ _ _ _
              refine (CMk.out W').mono ?_
              rintro e w8 ⟨rfl, hg8⟩
              exact ⟨_, rfl, hR () _ hg8 trivial⟩
            rintro ⟨⟩
            (simp only [Act.put, List.setIfInBounds_toArray, List.set_cons_zero, List.set_cons_succ])
            refine wpRG_any rfl (fun _ _ _ _ h => h) (fun W' hw hF R hR => ?_) ?_
            · (have HF := Lib.hid hF; clear hF; unfold rgAt; go_simp)
              show Calls _ _ _ _ _
              have h7 := (Gr.refl W7).drew.trans hw
              have h0 := HG7.out.drew.trans hw
              refine (packetSame_two m o nn md sdx sd a6 a7 a a' k6 c6 k c k7 c7 k' c' lx l lp W' (HB6.out.below h7) (HB7.out.below h7) (HB.out.below h0) (HB'.out.below h0) hr5 HR4.out).mono ?_
              rintro e w8 ⟨rfl, hg8⟩
              exact ⟨_, rfl, hR () _ hg8 trivial⟩
            rintro ⟨⟩
            (simp only [Act.put, List.setIfInBounds_toArray, List.set_cons_zero, List.set_cons_succ])
            (refine wpRG_reck rfl (fun K hK => ?_); go_big_quiet_op; refine hK _ ?_; clear hK K)
            (refine wpRG_reck rfl (fun K hK => ?_); go_big_quiet_op; refine hK _ ?_; clear hK K)
            refine wpRG_end fun W8 hw8 hF => ?_
            have h78 : Gr W7 W8 := (Gr.refl _).drew.trans hw8
            clear hF u0 u1 u2 u3 u4 u5 u6 v0 v1 v2 v3 v4 v5 v6 hup hw8
            have HP8 := Lib.hid (h78.heap HP7.out)
            have hgw8 := HG7.out.trans h78
            have hx8 := HX7.out.below h78
            clear h78 HO7 HP7 HG7 HX7 HB6 HB7 HK7 HR4
            refine wpList_nil ?_
            have hown := OwnV.lit' (base := W8.heap.size) (Nat.le_refl _)
            have hsrc := hx8.below ((Gr.refl W8).alloc (.cells #[] 5))
            have hq : ([] : List UInt8).length + k5 ≤ 140737488355328 := by simp; omega
            have hbase : W8.heap.size ≤ (W8.alloc (.cells #[] 5)).heap.size := ((Gr.refl W8).alloc _).size
            have HX8 := Lib.hid hx8
            go_wp2_with (with_reducible refine wpList_hold (o := ⟨some 116, _, _, _, _, _⟩) ?_)
            change wpList _ _ _ _ _ _
            refine wpList_append_bytes rfl (.tmp 114) (.tmp 115) rfl W8.heap.size (.slice (some ⟨W8.heap.size, 0, none⟩) 0 0) [] rfl hown a5 k5 c5 TX rfl hsrc hq hbase ?_
            intro v9 w9 ho9 hg9 hn9
            have h89 : Gr W8 w9 := ((Gr.refl W8).alloc _).grown hg9 (fun q hq => by cases hq; exact Nat.le_refl _)
            have hgw9 := hgw8.trans h89
            rw [List.nil_append] at ho9
            have ho9' : w9.ownsRow W8.heap.size 5 1 v9 k5 (u8s TX) := by have := ho9; unfold OwnV at this; rw [HX8.out.1] at this; exact this
            obtain ⟨g, cap', rfl, hobk⟩ := OwnB.of_owns ho9' (by omega)
            have HP9 := Lib.hid (h89.heap HP8.out)
            have HX9 := Lib.hid (HX8.out.below h89)
            have HTL := Lib.hid HX8.out.1
            obtain ⟨b5, off5, hab5, hb5, _⟩ := HX8.out.at_ (by omega)
            have hgb := hobk.base_le
            have hne1 : g ≠ w.heap.size := by have := lt_of_block HP8.out; omega
            have hne2 : ∀ x, a5 = some x → x.block ≠ g := fun x hx => by rw [hab5] at hx; cases hx; show b5 ≠ g; omega
            have HNE1 := Lib.hid hne1
            have HNE2 := Lib.hid hne2
            have HWG : Hid (w.heap.size ≤ g) := by show _ ≤ _; have := hgw8.size; omega
            clear h89 ho9 ho9' hg9 hn9 hown hsrc hq hbase hgw8 hx8 HP8 HX8 hab5 hb5 hgb hne1 hne2
            obtain ⟨first, hfi⟩ : ∃ first : Nat, first = at' % (8 * k5) := ⟨_, rfl⟩
            have hfl : first < 8 * k5 := by rw [hfi]; exact Nat.mod_lt _ (by omega)
            have Hfi := Lib.hid hfi
            clear hfi
            have hfr : (at' : Int) % (8 * (k5 : Int)) = (first : Int) := by rw [Hfi.out]; simp
            have h14i : (14 : Int) < (k5 : Int) := by omega
            have h0k : ((k5 : Int) == 0) = false := by rw [beq_eq_false_iff_ne]; omega
            go_wp2
            rw [hfr]
            go_loopw [21, 123] (fun t i wr => ∃ j : Nat, j ≤ 32 ∧ i = .int .i64 j ∧ t = .bool (turned (8 * k5) first pat j) ∧ OwnB wr W8.heap.size g k5 cap' (burst TX first pat j) ∧ GrB w9 g wr) (fun _ i _ => 32 - (intOf i).toNat)
            case atStart => exact ⟨0, by omega, rfl, rfl, hobk, GrB.refl _ _⟩
            case round =>
              obtain ⟨j, hj, rfl, rfl, hob1, hb4⟩ := hrel
              by_cases hlt : j < 32
              · obtain ⟨J, hJ⟩ : ∃ J : Nat, J = first + j := ⟨_, rfl⟩
                have hJ' : (first : Int) + (j : Int) = (J : Int) := by omega
                have HJ : Hid _ := hJ
                clear hJ
                have hbd := u32_bit pat j hpat
                by_cases hbit : pat / 2 ^ j % 2 = 1
                · have hb15 : bits .and .u32 ((pat : Int) / 2 ^ j) 1 = 1 := by rw [hbd, hbit]; rfl
                  clear hbd
                  by_cases hin : J < 8 * k5
                  · obtain ⟨x, hx⟩ : ∃ x, (burst TX first pat j)[J / 8]? = some x := by
                      have := hob1.len
                      exact ⟨_, List.getElem?_eq_getElem (by omega)⟩
                    have hcx := hob1.cell hx
                    have hfx := hob1.free (J / 8)
                    have h8 : J / 8 < k5 := by omega
                    have ht := u8_turn x J
                    have HT2 : Hid (turned (8 * k5) first pat (j + 1) = true) := by show turned (8 * k5) first pat (j + 1) = true; rw [turned, if_pos ⟨hbit, by have := HJ.out; omega⟩]
                    have HB2 : Hid (burst TX first pat (j + 1) = (burst TX first pat j).set (J / 8) (x ^^^ UInt8.ofNat (2 ^ (J % 8)))) := by
                      show burst TX first pat (j + 1) = _
                      rw [burst, if_pos ⟨hbit, by rw [HTL.out, ← HJ.out]; exact hin⟩, flip, ← HJ.out, List.getD_eq_getElem?_getD, hx]; rfl
                    clear hbit hx
                    go_wp2
                    go_region
                    go_wp2
                    go_roundw
                    case rel =>
                      refine ⟨j + 1, by omega, by go_num, by rw [HT2.out], ?_, (hb4.set (.inl rfl) _).gr ((Gr.refl _).drew)⟩
                      rw [HB2.out]
                      exact (hob1.set (J / 8) (x ^^^ UInt8.ofNat (2 ^ (J % 8)))).gr ((Gr.refl _).drew)
                    case measure => simp [intOf]; omega
                  · have HT2 : Hid (turned (8 * k5) first pat (j + 1) = turned (8 * k5) first pat j) := by show turned (8 * k5) first pat (j + 1) = _; rw [turned, if_neg (by have := HJ.out; omega)]
                    have HB2 : Hid (burst TX first pat (j + 1) = burst TX first pat j) := by
                      show burst TX first pat (j + 1) = _
                      rw [burst, if_neg (by rw [HTL.out]; have := HJ.out; omega)]
                    clear hbit
                    go_wp2
                    go_roundw
                    case rel => exact ⟨j + 1, by omega, by go_num, by rw [HT2.out], by rw [HB2.out]; exact hob1, hb4⟩
                    case measure => simp [intOf]; omega
                · have hb15 : (bits .and .u32 ((pat : Int) / 2 ^ j) 1 == 1) = false := by rw [hbd, beq_eq_false_iff_ne]; omega
                  have HT2 : Hid (turned (8 * k5) first pat (j + 1) = turned (8 * k5) first pat j) := by show turned (8 * k5) first pat (j + 1) = _; rw [turned, if_neg (by omega)]
                  have HB2 : Hid (burst TX first pat (j + 1) = burst TX first pat j) := by
                    show burst TX first pat (j + 1) = _
                    rw [burst, if_neg (by omega)]
                  clear hbit hbd
                  go_wp2
                  go_roundw
                  case rel => exact ⟨j + 1, by omega, by go_num, by rw [HT2.out], by rw [HB2.out]; exact hob1, hb4⟩
                  case measure => simp [intOf]; omega
              · obtain rfl : j = 32 := by omega
                have hlaw := packErr_burst HR1.out first pat (by rw [HTL.out]; exact hfl)
                rw [HTL.out] at hlaw
                have hobs := hob1.bs
                have HCB := Lib.hid (CRX.out (burst TX first pat 32))
                have HPw := Lib.hid (hb4.heap HP9.out HNE1.out.symm)
                have HXw := Lib.hid (HX9.out.grb hb4 HNE2.out)
                have hgww := hgw9.grb hb4 HWG.out
                obtain ⟨tt, ett⟩ : ∃ x, turned (8 * k5) first pat 32 = x := ⟨_, rfl⟩
                obtain ⟨ob, eob⟩ : ∃ x, burst TX first pat 32 = x := ⟨_, rfl⟩
                rw [eob] at hobs hlaw HCB
                rw [ett] at hlaw ⊢
                obtain ⟨EB, eEB⟩ : ∃ x, packErr n s q id ob = x := ⟨_, rfl⟩
                obtain ⟨⟨gm, go, gn, gd, gs, lb, lpp⟩, eGB⟩ : ∃ x, packGot n s q id ob = x := ⟨_, rfl⟩
                rw [eEB, eGB] at HCB
                rw [eEB] at hlaw
                have hbb : ((EB : Int) == 0) = !tt := by
                  cases tt
                  · have := hlaw.2 rfl; simp; omega
                  · have : ¬ EB = 0 := fun h => by have := hlaw.1 h; cases this
                    simp; omega
                obtain ⟨JC, hJC⟩ : ∃ JC : Nat, JC = at' % k5 := ⟨_, rfl⟩
                have hJCl : JC < k5 := by rw [hJC]; exact Nat.mod_lt _ (by omega)
                have hcut := packErr_cut HR1.out JC (by rw [HTL.out]; exact hJCl)
                have HCB2 := Lib.hid (CRB.out (TX.take JC))
                obtain ⟨EC, eEC⟩ : ∃ x, packErr n s q id (TX.take JC) = x := ⟨_, rfl⟩
                rw [eEC] at HCB2 hcut
                have hcc : ((EC : Int) != 0) = true := by rw [bne_iff_ne]; omega
                have HCC := Lib.hid hcut
                have HJC := Lib.hid hJC
                have HBS := Lib.hid hobs
                have HGW := Lib.hid hgww
                have HBB := Lib.hid hbb
                clear hlaw hobs hgww ett eob eEB eGB eEC hcut hJC hob1 hb4 hbb hlt hj hcc
                obtain ⟨p0, p1, p2, p3⟩ := p_four_cells HPw.out
                go_wp2_with fail
                refine (HCB.out wr _ k5 cap' (HT.out.below HGW.out) HBS.out (by omega)).mono ?_
                rintro e w10 ⟨a1, k1, c1, a2, k2, c2, rfl, _, _, hg10⟩
                have hwA := hg10.alloc (.cells #[.int .u8 (gm : Int), .int .u32 (go : Int), .int .u32 (gn : Int), .int .u8 (gd : Int), .slice a1 k1 c1, .int .u64 (gs : Int), .slice a2 k2 c2] 42)
                have HPA := Lib.hid (hwA.heap HPw.out)
                have HXA := Lib.hid (HXw.out.below hwA)
                have HGA := Lib.hid (HGW.out.trans hwA)
                clear hg10 hwA HPw HXw HGW HBS p0 p1 p2 p3
                go_wp2
                obtain ⟨WA, eWA⟩ : ∃ WA, w10.alloc (.cells #[.int .u8 (gm : Int), .int .u32 (go : Int), .int .u32 (gn : Int), .int .u8 (gd : Int), .slice a1 k1 c1, .int .u64 (gs : Int), .slice a2 k2 c2] 42) = WA := ⟨_, rfl⟩
                rw [eWA] at HPA HXA HGA ⊢
                clear eWA
                obtain ⟨v0, v1, v2, v3⟩ := up_four gr_st HPA.out
                have hup : Nonempty (Up Gr WA.drew) := ⟨⟨_, Gr.refl _⟩⟩
                have hrm : (at' : Int).tmod (k5 : Int) = (JC : Int) := by rw [HJC.out, Int.tmod_eq_emod_of_nonneg (by omega)]; simp
                have hJc5 : (JC : Int) ≤ (c5 : Int) := by omega
                have hk5n : ((k5 : Int)) ≠ 0 := by omega
                refine wp_region_rgF [.reck, .reck, .reck, .reck, .reck, .reck, .reck, .reck, spV (.tuple #[packZ, .int .i64 (EC : Int)]), .reck, .reck, .flt,
                  .any Nat 0 (fun b => .pointer (some ⟨b, 0, none⟩)) (fun b w' => WA.heap.size ≤ b ∧ w'.heap[b]? = some (.cells #[.int .u8 0, .int .u32 0, .int .u32 0, .int .u8 0, .slice none 0 0, .int .u64 0, .slice none 0 0] 42))] Gr (by kernel_rfl) (by kernel_rfl) Gr.refl (fun _ _ _ => Gr.trans) ?_
                (refine wpRG_reck rfl (fun K hK => ?_); go_big_quiet_op; refine hK _ ?_; clear hK K)
                (refine wpRG_reck rfl (fun K hK => ?_); go_big_quiet_op; refine hK _ ?_; clear hK K)
                (refine wpRG_reck rfl (fun K hK => ?_); go_big_quiet_op; refine hK _ ?_; clear hK K)
                (refine wpRG_reck rfl (fun K hK => ?_); go_big_quiet_op; refine hK _ ?_; clear hK K)
                (refine wpRG_reck rfl (fun K hK => ?_); go_big_quiet_op; refine hK _ ?_; clear hK K)
                (refine wpRG_reck rfl (fun K hK => ?_); go_big_quiet_op; refine hK _ ?_; clear hK K)
                (refine wpRG_reck rfl (fun K hK => ?_); go_big_quiet_op; refine hK _ ?_; clear hK K)
                (refine wpRG_reck rfl (fun K hK => ?_); go_big_quiet_op; refine hK _ ?_; clear hK K)
                refine wpRG_any rfl (fun _ _ _ _ h => h) (fun W' hw hF R hR => ?_) ?_
                · (have HF := Lib.hid hF; clear hF; unfold rgAt; go_simp)
                  show Calls _ _ _ _ _
                  have h7 := (Gr.refl WA).drew.trans hw
                  have hxx := (HXA.out.below h7).take (k := JC) (by omega)
                  refine (HCB2.out W' a5 JC c5 (HT.out.below (HGA.out.trans h7)) hxx (by omega) HCC.out).mono ?_
                  rintro e w8 ⟨rfl, hg8⟩
                  exact ⟨_, rfl, hR () _ hg8 trivial⟩
                rintro ⟨⟩
                (simp only [Act.put, List.setIfInBounds_toArray, List.set_cons_zero, List.set_cons_succ])
                (refine wpRG_reck rfl (fun K hK => ?_); go_big_quiet_op; refine hK _ ?_; clear hK K)
                (refine wpRG_reck rfl (fun K hK => ?_); go_big_quiet_op; refine hK _ ?_; clear hK K)
                refine wpRG_flt rfl (fun _ => by go_simp; rfl) ?_
                (simp only [Act.put])
                refine wpRG_any rfl (fun x w w' hg h => ⟨h.1, hg.heap h.2⟩) (fun W' hw hF R hR => ?_) ?_
                · (have HF := Lib.hid hF; clear hF; unfold rgAt; go_simp)
                  exact hR W'.heap.size _ ((Gr.refl _).alloc _) ⟨hw.size, heap_alloc_new _ _⟩
                intro bZ
                (simp only [Act.put, List.setIfInBounds_toArray, List.set_cons_zero, List.set_cons_succ])
                refine wpRG_end fun WZ hwZ hF => ?_
                have hyZ : WA.heap.size ≤ bZ ∧ WZ.heap[bZ]? = some (.cells #[.int .u8 0, .int .u32 0, .int .u32 0, .int .u8 0, .slice none 0 0, .int .u64 0, .slice none 0 0] 42) := hF 12
                have hAZ : Gr WA WZ := (Gr.refl _).drew.trans hwZ
                clear hF v0 v1 v2 v3 hup hwZ
                obtain ⟨hyZ, hyZ2⟩ := hyZ
                obtain ⟨r0, r1, r2, r3, r4, r5, r6, rf⟩ := seven_cells hyZ2
                have hfin := hAZ.grb (grb_seven WZ bZ (.int .u8 0) (.int .u32 0) (.int .u32 0) (.int .u8 0) (.slice none 0 0) (.int .u64 0) (.slice none 0 0)) hyZ
                refine wpTl_cons rfl (fun R hR => ?_)
                unfold rgAt
                go_simp
                refine hR _ _ ?_
                obtain ⟨WY, hWY⟩ : ∃ WY, ((((((WZ.setCell ⟨bZ, 0, none⟩ (.int .u8 0)).setCell ⟨bZ, 1, none⟩ (.int .u32 0)).setCell ⟨bZ, 2, none⟩ (.int .u32 0)).setCell ⟨bZ, 3, none⟩ (.int .u8 0)).setCell ⟨bZ, 4, none⟩ (.slice none 0 0)).setCell ⟨bZ, 5, none⟩ (.int .u64 0)).setCell ⟨bZ, 6, none⟩ (.slice none 0 0) = WY := ⟨_, rfl⟩
                rw [hWY] at hfin ⊢
                clear r0 r1 r2 r3 r4 r5 r6 rf hyZ2 hAZ hWY hR
                (simp only [Act.put])
                refine wpTl_cons rfl (fun R hR => ?_)
                unfold rgAt
                go_simp
                refine hR _ _ ?_
                (simp only [Act.put, List.setIfInBounds_toArray, List.set_cons_zero, List.set_cons_succ])
                refine wpTl_nil ?_
                clear hR
                have hgend := HGA.out.trans hfin
                have hcc : ((EC : Int) != 0) = true := by rw [bne_iff_ne]; have := HCC.out; omega
                have hbb := HBB.out
                clear hfin hyZ
                go_wp2
                go_ret
                exact ⟨rfl, hgend⟩
    · have hS' : pSmall n s q = false := by simpa using hS
      rw [hS'] at CS
      have HCS := Lib.hid CS
      clear CS CFew hS hS' hF
      go_enter Tryd.func4, Tryd.ntmps4
      go_wp2_with fail
      refine (packAwake _).mono ?_
      rintro e w1 ⟨rfl, hg1⟩
      have hO1 := hg1.heap (heap_alloc_new _ _)
      simp only [World.alloc, Array.size_push] at hO1
      have hP1 := hg1.heap (Gr.heap (Gr.alloc (Gr.refl _) _) (heap_alloc_new w _))
      obtain ⟨c0, c1, c2, c3, c4, c5, c6, _⟩ := seven_cells hO1
      have HO1 := Lib.hid hO1
      have HP1 := Lib.hid hP1
      have hgw1 := (((Gr.refl w).alloc _).alloc _).trans hg1
      clear hg1 hO1 hP1
      go_wp2_with fail
      refine (HFew.out _).mono ?_
      rintro e w2 ⟨rfl, hg2⟩
      obtain ⟨p0, p1, p2, p3⟩ := p_four_cells (hg2.heap HP1.out)
      have HO2 := Lib.hid (hg2.heap HO1.out)
      have HP2 := Lib.hid (hg2.heap HP1.out)
      have hgw2 := hgw1.trans hg2
      clear hg2 HO1 HP1 hgw1 c0 c1 c2 c3 c4 c5 c6
      go_wp2_with fail
      refine (HCS.out _).mono ?_
      rintro e w3 ⟨rfl, hg3⟩
      obtain ⟨p0, p1, p2, p3⟩ := p_four_cells (hg3.heap HP2.out)
      have HO3 := Lib.hid (hg3.heap HO2.out)
      have HP3 := Lib.hid (hg3.heap HP2.out)
      have hgw3 := hgw2.trans hg3
      clear hg3 HO2 HP2 hgw2
      go_wp2
      go_ret
      exact ⟨rfl, hgw3⟩
  · have hF' : fewOne k k' = false := by simpa using hF
    rw [hF'] at CFew
    have HFew := Lib.hid CFew
    clear CS CFew hF hF'
    go_enter Tryd.func4, Tryd.ntmps4
    go_wp2_with fail
    refine (packAwake _).mono ?_
    rintro e w1 ⟨rfl, hg1⟩
    have hO1 := hg1.heap (heap_alloc_new _ _)
    simp only [World.alloc, Array.size_push] at hO1
    obtain ⟨c0, c1, c2, c3, c4, c5, c6, _⟩ := seven_cells hO1
    have hgw1 := (((Gr.refl w).alloc _).alloc _).trans hg1
    clear hg1 hO1
    go_wp2_with fail
    refine (HFew.out _).mono ?_
    rintro e w2 ⟨rfl, hg2⟩
    have hgw2 := hgw1.trans hg2
    clear hg2 hgw1
    go_wp2
    go_ret
    exact ⟨rfl, hgw2⟩
end Go.Proofs.YtdmijoochgmhiacDoor
