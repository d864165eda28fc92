/-
  The walk of law PacketWrites.
-/
import Derived.Test.YtdmijoochgmhiabDoorOne
import Derived.Test.YtdmijoochgmhiabDoorUp
import Derived.Test.YtdmijoochgmhiabDoorPacketLawRef
import Derived.Test.YtdmijoochgmhiabDoorPacketLenRef
import Derived.Test.YtdmijoochgmhiabDoorPacketAllRef
import Derived.Test.YtdmijoochgmhiabDoorMapLit
namespace Go.Proofs.YtdmijoochgmhiabDoor
open Go.RowKit
set_option linter.unusedVariables false

set_option maxRecDepth 100000 in
set_option maxHeartbeats 8000000 in
theorem packetWrites_walk (w : World) (htab : Tab w) (n : Int) (hlo : -9223372036854775808 ≤ n) (hm : n ≤ 9223372036854775807) (s : Int) (hsl : -9223372036854775808 ≤ s) (hsm : s ≤ 9223372036854775807) (q : Int) (hq1 : -9223372036854775808 ≤ q) (hq2 : q ≤ 9223372036854775807) (id : Nat) (hid : id < 4294967296)
    (m : Nat) (hmb : m < 256) (o : Nat) (hob : o < 4294967296) (nn : Nat) (hnb : nn < 4294967296) (md : Nat) (hmdb : md < 256) (a : Option Addr) (k c : Nat) (l : List UInt8) (hs : Bs w a k c l) (sd : Nat) (hsd : sd < 18446744073709551616) (a' : Option Addr) (k' c' : Nat) (lp : List UInt8) (hs' : Bs w a' k' c' lp) (mode : Nat) (hmode : mode < 256) :
    Calls Tryd.prog 5 #[.agg #[.int .i64 n, .int .i64 s, .int .i64 q, .int .u32 (id : Int)], .agg #[.int .u8 (m : Int), .int .u32 (o : Int), .int .u32 (nn : Int), .int .u8 (md : Int), .slice a k c, .int .u64 (sd : Int), .slice a' k' c'], .int .u8 (mode : Int)] w fun e w' => e = .returned (.bool true) ∧ Gr w w' := by
  have hkx : k ≤ 9223372036854775807 := by have h1 := hs.2.1; have h2 := hs.2.2.1; unfold maxLen at h2; omega
  have hkx' : k' ≤ 9223372036854775807 := by have h1 := hs'.2.1; have h2 := hs'.2.2.1; unfold maxLen at h2; omega
  have CFew := oneFew_any m o nn md sd a a' k c k' c' hkx hkx'
  have CS := packSmall_any n s q id hlo hm hsl hsm
  by_cases hF : fewOne k k' = true
  · rw [hF] at CFew
    have HFew := Lib.hid CFew
    by_cases hS : pSmall n s q = true
    · rw [hS] at CS
      have HCS := Lib.hid CS
      have hkk : k ≤ 300 ∧ k' ≤ 300 := by simpa [fewOne] using hF
      obtain ⟨hk3, hk3'⟩ := hkk
      have HT := Lib.hid htab
      have HB := Lib.hid hs
      have HB' := Lib.hid hs'
      have CW := Lib.hid fun w ht h1 h2 => packWrite_all n s q id m o nn md k k' sd hid hnb hlo hm hsl hsm a a' c c' l lp w ht h1 h2 (by omega) (by omega)
      have CR := Lib.hid fun w h1 h2 => refWrite_all n s q id m o nn md k k' sd hid hnb hsd hm hsm a a' c c' l lp w h1 h2 (by omega) (by omega)
      have CE := Lib.hid fun w h1 h2 => packEq_all n s q id m o nn md k k' sd hsd hlo hm hsl hsm a a' c c' l lp w h1 h2 (by omega) (by omega)
      have CL := Lib.hid (packLength_any n s q id mode hlo hm hsl hsm)
      have CLR := Lib.hid (refLength_any n s q id mode hlo hm hsl hsm)
      have CMk := Lib.hid (oneMake_any m o nn md sd a a' k c k' c')
      have CRf := Lib.hid (packRef_any m o nn md sd a a' k c k' c')
      have CV := Lib.hid fun (q' : Nat) w h1 (h0 : fitErr n s q' id m o md k k' = 0) => refPackVec_ok n s q' id m o nn md k k' sd hsd a a' c c' l lp w h1 (by omega) h0
      have hwt : fitErr n s q id m o md k k' = 0 → wText n s q id m o nn md l sd lp = packText m o nn l sd lp ∧ wVec n s q id m o nn md l sd lp = rowVec m l sd q.toNat ∧ wData n s q id m o nn md l sd lp = lp := fun h => by
        unfold wText wVec wData
        rw [hs.1, hs'.1, if_pos h, if_pos h, if_pos h]; exact ⟨rfl, rfl, rfl⟩
      have hwn : fitErr n s q id m o md k k' ≠ 0 → wVec n s q id m o nn md l sd lp = [] ∧ wData n s q id m o nn md l sd lp = [] := fun h => by
        unfold wVec wData
        rw [hs.1, hs'.1, if_neg h, if_neg h]; exact ⟨rfl, rfl⟩
      have HWT := Lib.hid hwt
      have HWN := Lib.hid hwn
      obtain ⟨E, eE⟩ : ∃ E, fitErr n s q id m o md k k' = E := ⟨_, rfl⟩
      obtain ⟨TX, eTX⟩ : ∃ E, wText n s q id m o nn md l sd lp = E := ⟨_, rfl⟩
      obtain ⟨TV, eTV⟩ : ∃ E, wVec n s q id m o nn md l sd lp = E := ⟨_, rfl⟩
      obtain ⟨TD, eTD⟩ : ∃ E, wData n s q id m o nn md l sd lp = E := ⟨_, rfl⟩
      obtain ⟨LN, eLN⟩ : ∃ E, lenN n s q mode = E := ⟨_, rfl⟩
      obtain ⟨LE, eLE⟩ : ∃ E, lenE n s q mode = E := ⟨_, rfl⟩
      rw [eE, eTX] at CW CR
      rw [eE, eTV, eTD] at CE
      rw [eE, eTX, eTV, eTD] at HWT
      rw [eE, eTV, eTD] at HWN
      rw [eLN, eLE] at CL CLR
      have HE := Lib.hid eE
      have hdec : ((E : Int) != 0) = true ∨ ((E : Int) != 0) = false := by cases ((E : Int) != 0) <;> simp
      have hEE : ((E : Int) != (E : Int)) = false := by simp
      have hLN : ((LN : Int) != (LN : Int)) = false := by simp
      have hLE : ((LE : Int) != (LE : Int)) = false := by simp
      have HDEC := Lib.hid hdec
      clear CFew CS hF hS htab hs hs' hwt hwn eE eTX eTV eTD eLN eLE hdec
      go_enter Tryd.func5, Tryd.ntmps5
      go_wp2_with fail
      refine (packAwake _).mono ?_
      rintro e w1 ⟨rfl, hg1⟩
      have hO1 := hg1.heap (heap_alloc_new _ _)
      simp only [World.alloc, Array.size_push] at hO1
      have hP1 := hg1.heap (Gr.heap (Gr.alloc (Gr.refl _) _) (heap_alloc_new w _))
      obtain ⟨c0, c1, c2, c3, c4, c5, c6, _⟩ := seven_cells hO1
      have HO1 := Lib.hid hO1
      have HP1 := Lib.hid hP1
      have hgw1 := (((Gr.refl w).alloc _).alloc _).trans hg1
      clear hg1 hO1 hP1
      go_wp2_with fail
      refine (HFew.out _).mono ?_
      rintro e w2 ⟨rfl, hg2⟩
      obtain ⟨p0, p1, p2, p3⟩ := p_four_cells (hg2.heap HP1.out)
      have HO2 := Lib.hid (hg2.heap HO1.out)
      have HP2 := Lib.hid (hg2.heap HP1.out)
      have hgw2 := hgw1.trans hg2
      clear hg2 HO1 HP1 hgw1 c0 c1 c2 c3 c4 c5 c6
      go_wp2_with fail
      refine (HCS.out _).mono ?_
      rintro e w3 ⟨rfl, hg3⟩
      obtain ⟨p0, p1, p2, p3⟩ := p_four_cells (hg3.heap HP2.out)
      have HO3 := Lib.hid (hg3.heap HO2.out)
      have HP3 := Lib.hid (hg3.heap HP2.out)
      have hgw3 := hgw2.trans hg3
      clear hg3 HO2 HP2 hgw2
      go_wp2
      have hgw4 := hgw3.alloc (.cells #[.int .i64 n, .int .i64 s, .int .i64 q, .int .u32 (id : Int)] 43)
      have h34 := (Gr.refl w3).alloc (.cells #[.int .i64 n, .int .i64 s, .int .i64 q, .int .u32 (id : Int)] 43)
      have hD4 := heap_alloc_new w3 (.cells #[.int .i64 n, .int .i64 s, .int .i64 q, .int .u32 (id : Int)] 43)
      obtain ⟨W4, eW4⟩ : ∃ W4, w3.alloc (.cells #[.int .i64 n, .int .i64 s, .int .i64 q, .int .u32 (id : Int)] 43) = W4 := ⟨_, rfl⟩
      rw [eW4] at hgw4 h34 hD4 ⊢
      have HO4 := Lib.hid (h34.heap HO3.out)
      have HP4 := Lib.hid (h34.heap HP3.out)
      have HD4 := Lib.hid hD4
      obtain ⟨u0, u1, u2, u3, u4, u5, u6⟩ := up_seven gr_st HO4.out
      obtain ⟨v0, v1, v2, v3⟩ := up_four gr_st HP4.out
      have hup : Nonempty (Up Gr W4.drew) := ⟨⟨_, Gr.refl _⟩⟩
      have HG4 := Lib.hid hgw4
      clear hgw4 h34 hD4 eW4 hgw3 HO3 HP3 p0 p1 p2 p3
      refine wp_region_rg [.reck, spV (.agg #[.int .u8 (m : Int), .int .u32 (o : Int), .int .u32 (nn : Int), .int .u8 (md : Int), .slice a k c, .int .u64 (sd : Int), .slice a' k' c']), .reck, .any (Option Addr × Nat × Nat) (none, 0, 0) (fun x => .tuple #[.slice x.1 x.2.1 x.2.2, .int .i64 (E : Int)]) (fun x w => Bs w x.1 x.2.1 x.2.2 TX), .reck, .reck, .reck, .reck, .reck] Gr (by kernel_rfl) (by kernel_rfl) Gr.refl (fun _ _ _ => Gr.trans) ?_
      (refine wpRG_reck rfl (fun K hK => ?_); go_big_quiet_op; refine hK _ ?_; clear hK K)
      refine wpRG_any rfl (fun _ _ _ _ h => h) (fun W' hw hF R hR => ?_) ?_
      · (have HF := Lib.hid hF; clear hF; unfold rgAt; go_simp)
        show Calls _ _ _ _ _
        refine (CMk.out W').mono ?_
        rintro e w8 ⟨rfl, hg8⟩
        exact ⟨_, rfl, hR () _ hg8 trivial⟩
      rintro ⟨⟩
      (simp only [Act.put, List.setIfInBounds_toArray, List.set_cons_zero, List.set_cons_succ])
      (refine wpRG_reck rfl (fun K hK => ?_); go_big_quiet_op; refine hK _ ?_; clear hK K)
      refine wpRG_any rfl (fun _ _ _ hg h => h.below hg) (fun W' hw hF R hR => ?_) ?_
      · (have HF := Lib.hid hF; clear hF; unfold rgAt; go_simp)
        show Calls _ _ _ _ _
        have hw0 := HG4.out.drew.trans hw
        refine (CW.out W' (HT.out.below hw0) (HB.out.below hw0) (HB'.out.below hw0)).mono ?_
        rintro e w8 ⟨a1, k1, c1, rfl, ho8, hg8⟩
        exact ⟨_, rfl, hR (a1, k1, c1) _ hg8 ho8.bs2.1⟩
      rintro ⟨a5, k5, c5⟩
      (simp only [Act.put, List.setIfInBounds_toArray, List.set_cons_zero, List.set_cons_succ])
      (refine wpRG_reck rfl (fun K hK => ?_); go_big_quiet_op; refine hK _ ?_; clear hK K)
      (refine wpRG_reck rfl (fun K hK => ?_); go_big_quiet_op; refine hK _ ?_; clear hK K)
      (refine wpRG_reck rfl (fun K hK => ?_); go_big_quiet_op; refine hK _ ?_; clear hK K)
      (refine wpRG_reck rfl (fun K hK => ?_); go_big_quiet_op; refine hK _ ?_; clear hK K)
      (refine wpRG_reck rfl (fun K hK => ?_); go_big_quiet_op; refine hK _ ?_; clear hK K)
      refine wpRG_end fun W5 hw5 hF => ?_
      have hX5 : Bs W5 a5 k5 c5 TX := hF 3
      clear hF u0 u1 u2 u3 u4 u5 u6 v0 v1 v2 v3 hup
      have h45 : Gr W4 W5 := (Gr.refl _).drew.trans hw5
      have HO5 := Lib.hid (h45.heap HO4.out)
      have HP5 := Lib.hid (h45.heap HP4.out)
      have HD5 := Lib.hid (h45.heap HD4.out)
      have HG5 := Lib.hid (HG4.out.trans h45)
      have HX5 := Lib.hid hX5
      clear h45 hw5 hX5 HO4 HP4 HD4 HG4
      refine wpList_nil ?_
      go_wp2
      obtain ⟨u0, u1, u2, u3, u4, u5, u6⟩ := up_seven gr_st HO5.out
      obtain ⟨v0, v1, v2, v3⟩ := up_four gr_st HD5.out
      have hup : Nonempty (Up Gr W5.drew) := ⟨⟨_, Gr.refl _⟩⟩
      refine wp_region_rg [.reck, .reck, spV (.agg #[.int .u8 (m : Int), .int .u32 (o : Int), .int .u32 (nn : Int), .int .u8 (md : Int), .slice a k c, .int .u64 (sd : Int), .slice a' k' c']), spV (.agg #[.int .u8 (m : Int), .int .u32 (o : Int), .int .u32 (nn : Int), .int .u8 (md : Int), .slice a k c, .int .u64 (sd : Int), .slice a' k' c']), .any (Option Addr × Nat × Nat) (none, 0, 0) (fun x => .tuple #[.slice x.1 x.2.1 x.2.2, .int .i64 (E : Int)]) (fun x w => Bs w x.1 x.2.1 x.2.2 TX), .reck, .reck, .reck, .reck, .reck] Gr (by kernel_rfl) (by kernel_rfl) Gr.refl (fun _ _ _ => Gr.trans) ?_
      (refine wpRG_reck rfl (fun K hK => ?_); go_big_quiet_op; refine hK _ ?_; clear hK K)
      (refine wpRG_reck rfl (fun K hK => ?_); go_big_quiet_op; refine hK _ ?_; clear hK K)
      refine wpRG_any rfl (fun _ _ _ _ h => h) (fun W' hw hF R hR => ?_) ?_
      · (have HF := Lib.hid hF; clear hF; unfold rgAt; go_simp)
        show Calls _ _ _ _ _
        refine (CMk.out W').mono ?_
        rintro e w8 ⟨rfl, hg8⟩
        exact ⟨_, rfl, hR () _ hg8 trivial⟩
      rintro ⟨⟩
      (simp only [Act.put, List.setIfInBounds_toArray, List.set_cons_zero, List.set_cons_succ])
      refine wpRG_any rfl (fun _ _ _ _ h => h) (fun W' hw hF R hR => ?_) ?_
      · (have HF := Lib.hid hF; clear hF; unfold rgAt; go_simp)
        show Calls _ _ _ _ _
        refine (CRf.out W').mono ?_
        rintro e w8 ⟨rfl, hg8⟩
        exact ⟨_, rfl, hR () _ hg8 trivial⟩
      rintro ⟨⟩
      (simp only [Act.put, List.setIfInBounds_toArray, List.set_cons_zero, List.set_cons_succ])
      refine wpRG_any rfl (fun _ _ _ hg h => h.below hg) (fun W' hw hF R hR => ?_) ?_
      · (have HF := Lib.hid hF; clear hF; unfold rgAt; go_simp)
        show Calls _ _ _ _ _
        have hw0 := HG5.out.drew.trans hw
        refine (CR.out W' (HB.out.below hw0) (HB'.out.below hw0)).mono ?_
        rintro e w8 ⟨a1, k1, c1, rfl, ho8, hg8⟩
        exact ⟨_, rfl, hR (a1, k1, c1) _ hg8 ho8⟩
      rintro ⟨a6, k6, c6⟩
      (simp only [Act.put, List.setIfInBounds_toArray, List.set_cons_zero, List.set_cons_succ])
      (refine wpRG_reck rfl (fun K hK => ?_); go_big_quiet_op; refine hK _ ?_; clear hK K)
      (refine wpRG_reck rfl (fun K hK => ?_); go_big_quiet_op; refine hK _ ?_; clear hK K)
      (refine wpRG_reck rfl (fun K hK => ?_); go_big_quiet_op; refine hK _ ?_; clear hK K)
      (refine wpRG_reck rfl (fun K hK => ?_); go_big_quiet_op; refine hK _ ?_; clear hK K)
      (refine wpRG_reck rfl (fun K hK => ?_); go_big_quiet_op; refine hK _ ?_; clear hK K)
      refine wpRG_end fun W6 hw6 hF => ?_
      have hX6 : Bs W6 a6 k6 c6 TX := hF 4
      clear hF u0 u1 u2 u3 u4 u5 u6 v0 v1 v2 v3 hup
      have h56 : Gr W5 W6 := (Gr.refl _).drew.trans hw6
      have HO6 := Lib.hid (h56.heap HO5.out)
      have HP6 := Lib.hid (h56.heap HP5.out)
      have HD6 := Lib.hid (h56.heap HD5.out)
      have HG6 := Lib.hid (HG5.out.trans h56)
      have HX6 := Lib.hid (HX5.out.below h56)
      have HY6 := Lib.hid hX6
      obtain ⟨p0, p1, p2, p3⟩ := p_four_cells HP6.out
      clear h56 hw6 hX6 HO5 HP5 HD5 HG5 HX5
      refine wpList_nil ?_
      go_wp2_with fail
      refine (CL.out W6).mono ?_
      rintro e w7 ⟨rfl, hg7⟩
      obtain ⟨d0, d1, d2, d3⟩ := p_four_cells (hg7.heap HD6.out)
      clear p0 p1 p2 p3
      go_wp2_with fail
      refine (CLR.out w7).mono ?_
      rintro e w8 ⟨rfl, hg8⟩
      have h68 := hg7.trans hg8
      have HO8 := Lib.hid (h68.heap HO6.out)
      have HP8 := Lib.hid (h68.heap HP6.out)
      have HD8 := Lib.hid (h68.heap HD6.out)
      have HG8 := Lib.hid (HG6.out.trans h68)
      have HX8 := Lib.hid (HX6.out.below h68)
      have HY8 := Lib.hid (HY6.out.below h68)
      clear hg7 hg8 h68 HO6 HP6 HD6 HG6 HX6 HY6 d0 d1 d2 d3
      go_wp2
      obtain ⟨u0, u1, u2, u3, u4, u5, u6⟩ := up_seven gr_st HO8.out
      obtain ⟨v0, v1, v2, v3⟩ := up_four gr_st HP8.out
      have hup : Nonempty (Up Gr w8.drew) := ⟨⟨_, Gr.refl _⟩⟩
      refine wp_region_rgF [.reck, spV (.agg #[.int .u8 (m : Int), .int .u32 (o : Int), .int .u32 (nn : Int), .int .u8 (md : Int), .slice a k c, .int .u64 (sd : Int), .slice a' k' c']), .reck, .any (Option Addr × Nat × Nat × Option Addr × Nat × Nat) (none, 0, 0, none, 0, 0) (fun x => .tuple #[.agg #[.slice x.1 x.2.1 x.2.2.1, .slice x.2.2.2.1 x.2.2.2.2.1 x.2.2.2.2.2], .int .i64 (E : Int)]) (fun x w => OwnV w w8.heap.size (.slice x.1 x.2.1 x.2.2.1) TV ∧ OwnV w w8.heap.size (.slice x.2.2.2.1 x.2.2.2.2.1 x.2.2.2.2.2) TD), .reck, .reck, .flt,
        .any Nat 0 (fun b => .pointer (some ⟨b, 0, none⟩)) (fun b w' => w8.heap.size ≤ b ∧ w'.heap[b]? = some (.cells #[.slice none 0 0, .slice none 0 0] 74))] Gr (by kernel_rfl) (by kernel_rfl) Gr.refl (fun _ _ _ => Gr.trans) ?_
      (refine wpRG_reck rfl (fun K hK => ?_); go_big_quiet_op; refine hK _ ?_; clear hK K)
      refine wpRG_any rfl (fun _ _ _ _ h => h) (fun W' hw hF R hR => ?_) ?_
      · (have HF := Lib.hid hF; clear hF; unfold rgAt; go_simp)
        show Calls _ _ _ _ _
        refine (CMk.out W').mono ?_
        rintro e w8 ⟨rfl, hg8⟩
        exact ⟨_, rfl, hR () _ hg8 trivial⟩
      rintro ⟨⟩
      (simp only [Act.put, List.setIfInBounds_toArray, List.set_cons_zero, List.set_cons_succ])
      (refine wpRG_reck rfl (fun K hK => ?_); go_big_quiet_op; refine hK _ ?_; clear hK K)
      refine wpRG_any rfl (fun _ _ _ hg h => ⟨OwnV.gr h.1 hg, OwnV.gr h.2 hg⟩) (fun W' hw hF R hR => ?_) ?_
      · (have HF := Lib.hid hF; clear hF; unfold rgAt; go_simp)
        show Calls _ _ _ _ _
        have hw0 := HG8.out.drew.trans hw
        refine (CE.out W' (HB.out.below hw0) (HB'.out.below hw0)).mono ?_
        rintro e w9 ⟨a1, k1, c1, a2, k2, c2, rfl, ho1, ho2, hg8⟩
        exact ⟨_, rfl, hR (a1, k1, c1, a2, k2, c2) _ hg8 ⟨ho1.mono hw.size, ho2.mono hw.size⟩⟩
      rintro ⟨a9, k9, c9, a10, k10, c10⟩
      (simp only [Act.put, List.setIfInBounds_toArray, List.set_cons_zero, List.set_cons_succ])
      (refine wpRG_reck rfl (fun K hK => ?_); go_big_quiet_op; refine hK _ ?_; clear hK K)
      (refine wpRG_reck rfl (fun K hK => ?_); go_big_quiet_op; refine hK _ ?_; clear hK K)
      refine wpRG_flt rfl (fun _ => by go_simp; rfl) ?_
      (simp only [Act.put])
      refine wpRG_any rfl (fun x w w' hg h => ⟨h.1, hg.heap h.2⟩) (fun W' hw hF R hR => ?_) ?_
      · (have HF := Lib.hid hF; clear hF; unfold rgAt; go_simp)
        exact hR W'.heap.size _ ((Gr.refl _).alloc _) ⟨hw.size, heap_alloc_new _ _⟩
      intro b9
      (simp only [Act.put, List.setIfInBounds_toArray, List.set_cons_zero, List.set_cons_succ])
      refine wpRG_end fun W9 hw9 hF => ?_
      have hx9 : OwnV W9 w8.heap.size (.slice a9 k9 c9) TV ∧ OwnV W9 w8.heap.size (.slice a10 k10 c10) TD := hF 3
      have hy9 : w8.heap.size ≤ b9 ∧ W9.heap[b9]? = some (.cells #[.slice none 0 0, .slice none 0 0] 74) := hF 7
      have h89 : Gr w8 W9 := (Gr.refl _).drew.trans hw9
      clear hF u0 u1 u2 u3 u4 u5 u6 v0 v1 v2 v3 hup hw9
      obtain ⟨hx9, hx10⟩ := hx9
      obtain ⟨hy9, hy10⟩ := hy9
      obtain ⟨r0, r1, rf⟩ := two_cells hy10
      obtain ⟨hgb, hh⟩ := two_set hy10 (.slice a9 k9 c9) (.slice a10 k10 c10)
      refine wpTl_cons rfl (fun R hR => ?_)
      unfold rgAt
      go_simp
      refine hR _ _ ?_
      have h8A := h89.grb hgb hy9
      have hv9 := (hx9.bs2.1).grb hgb (hx9.ne_block hy10 (by decide))
      have hv10 := (hx10.bs2.1).grb hgb (hx10.ne_block hy10 (by decide))
      obtain ⟨WA, hWA⟩ : ∃ WA, (W9.setCell ⟨b9, 0, none⟩ (.slice a9 k9 c9)).setCell ⟨b9, 1, none⟩ (.slice a10 k10 c10) = WA := ⟨_, rfl⟩
      rw [hWA] at h8A hv9 hv10 hh ⊢
      clear hgb r0 r1 rf hx9 hx10 hy10 h89 hWA hR
      (simp only [Act.put])
      refine wpTl_cons rfl (fun R hR => ?_)
      unfold rgAt
      go_simp
      refine hR _ _ ?_
      (simp only [Act.put, List.setIfInBounds_toArray, List.set_cons_zero, List.set_cons_succ])
      refine wpTl_nil ?_
      clear hR
      have HOA := Lib.hid (h8A.heap HO8.out)
      have HPA := Lib.hid (h8A.heap HP8.out)
      have HDA := Lib.hid (h8A.heap HD8.out)
      have HGA := Lib.hid (HG8.out.trans h8A)
      have HXA := Lib.hid (HX8.out.below h8A)
      have HYA := Lib.hid (HY8.out.below h8A)
      have HV9 := Lib.hid hv9
      have HV10 := Lib.hid hv10
      have HRA := Lib.hid hh
      clear HO8 HP8 HD8 HG8 HX8 HY8 hv9 hv10 hh h8A hy9
      have hst := sameB_self TX
      go_wp2_with fail
      refine (same_any a5 a6 k5 c5 k6 c6 TX TX WA HXA.out HYA.out).mono ?_
      rintro e wB ⟨rfl, hgB⟩
      rw [hst]
      obtain ⟨r0, r1, _⟩ := two_cells (hgB.heap HRA.out)
      have HOB := Lib.hid (hgB.heap HOA.out)
      have HPB := Lib.hid (hgB.heap HPA.out)
      have HDB := Lib.hid (hgB.heap HDA.out)
      have HRB := Lib.hid (hgB.heap HRA.out)
      have HGB := Lib.hid (HGA.out.trans hgB)
      have HXB := Lib.hid (HXA.out.below hgB)
      have HV9B := Lib.hid (HV9.out.below hgB)
      have HV10B := Lib.hid (HV10.out.below hgB)
      clear hgB HOA HPA HDA HRA HGA HXA HYA HV9 HV10 hst
      rcases HDEC.out with hd | hd
      · have hE0 : E ≠ 0 := by rw [bne_iff_ne] at hd; omega
        obtain ⟨hn1, hn2⟩ := HWN.out hE0
        have hk9 : k9 = 0 := by have := HV9B.out.1; rw [hn1] at this; exact this.symm
        have hk10 : k10 = 0 := by have := HV10B.out.1; rw [hn2] at this; exact this.symm
        subst hk9 hk10
        clear hn1 hn2 hE0
        go_wp2
        go_ret
        exact ⟨rfl, HGB.out⟩
      · have hE0 : E = 0 := by rw [bne_eq_false_iff_eq] at hd; omega
        have hE00 : fitErr n s q id m o md k k' = 0 := by rw [HE.out]; exact hE0
        have hFZ := fitErr_zero hE00
        obtain ⟨q', hqq, hq'⟩ := fitErr_q hE00
        obtain ⟨hT1, hT2, hT3⟩ := HWT.out hE0
        have hmd : md = m := hFZ.2.2.2.1
        have hm01 := hFZ.2.1
        have hVV : ∀ w, Bs w a k c l → Calls Tryd.prog 27 #[.agg #[.int .i64 n, .int .i64 s, .int .i64 q, .int .u32 (id : Int)], .agg #[.int .u8 (m : Int), .int .u32 (o : Int), .int .u32 (nn : Int), .int .u8 (md : Int), .slice a k c, .int .u64 (sd : Int), .slice a' k' c']] w fun e w' => ∃ a1 c1, e = .returned (.slice a1 q' c1) ∧ Bs w' a1 q' c1 TV ∧ Gr w w' := by
          intro w h1
          rw [hT2, hqq, Int.toNat_natCast, ← hmd]
          exact refPackVec_ok n s q' id md o nn md k k' sd hsd a a' c c' l lp w h1 (by omega) (by rw [← hqq, hmd]; rw [hmd] at hE00; exact hE00)
        have HVV := Lib.hid hVV
        have hlr : (rowText m l sd).length = if m = 1 then 8 else q' := by
          rw [rowText]
          by_cases h : m = 0
          · rw [if_pos h, if_neg (by omega), HB.out.1]; have := hFZ.2.2.2.2.1 h; omega
          · rw [if_neg h, if_pos (by omega)]; rfl
        have hk5 : (k5 : Int) = 14 + (k' : Int) + (if m = 1 then 8 else q) := by
          have h1 := HXB.out.1
          rw [hT1, packText_length, hlr, HB'.out.1] at h1
          split <;> rename_i h <;> simp only [h, if_true, if_false] at h1 <;> omega
        obtain ⟨Z, eZ⟩ : ∃ Z : Int, (if m = 1 then 8 else q) = Z := ⟨_, rfl⟩
        rw [eZ] at hk5
        have hZ : 0 ≤ Z ∧ Z ≤ 4096 := by rw [← eZ]; split <;> omega
        obtain ⟨hZ1, hZ2⟩ := hZ
        have hk5t : ((k5 : Int) == 14 + (k' : Int) + Z) = true := by rw [beq_iff_eq]; exact hk5
        have HLK := Lib.hid fun (w : World) (b i j : Nat) hi hj ha hb (h : w.heap[b]? = some (mpF q i)) h' => (mp_look q m hm01 i j hi hj ha hb h h')
        simp only [eZ] at HLK
        have HTD := Lib.hid hT3
        have HM01 := Lib.hid hm01
        have hst1 := sameB_self TV
        have hst2 := sameB_self TD
        clear hFZ hT1 hT2 hT3 hlr hk5 eZ hm01 hE00 hE0 hqq hmd hVV r0 r1
        go_wp2
        obtain ⟨u0, u1, u2, u3, u4, u5, u6⟩ := up_seven (Rel := MpR wB.heap.size q) mp_st HOB.out
        obtain ⟨v0, v1, v2, v3⟩ := up_four (Rel := MpR wB.heap.size q) mp_st HDB.out
        obtain ⟨x0, x1, x2, x3⟩ := up_four (Rel := MpR wB.heap.size q) mp_st HPB.out
        obtain ⟨y0, y1⟩ := up_two (Rel := MpR wB.heap.size q) mp_st HRB.out
        have hup : Nonempty (Up (MpR wB.heap.size q) wB.drew) := ⟨⟨_, MpR.refl _ _ _⟩⟩
        have hmm := @run_makeMap Tryd.prog
        refine wp_region_rg [.reck, .reck, .reck, .reck, spV (.agg #[.int .u8 (m : Int), .int .u32 (o : Int), .int .u32 (nn : Int), .int .u8 (md : Int), .slice a k c, .int .u64 (sd : Int), .slice a' k' c']), spV (.agg #[.int .u8 (m : Int), .int .u32 (o : Int), .int .u32 (nn : Int), .int .u8 (md : Int), .slice a k c, .int .u64 (sd : Int), .slice a' k' c']),
          .any (Option Addr × Nat) (none, 0) (fun x => .slice x.1 q' x.2) (fun x w => Bs w x.1 q' x.2 TV), spV (.bool true), .reck, .reck, .reck, .reck, .reck, spV (.bool true), .reck, .reck, .reck, .reck, .reck, .reck, .reck, .reck,
          .any Nat 0 (fun b => .map (some b)) (fun b w => wB.heap.size ≤ b ∧ MpAt q (fun _ => true) b w), .reck, .reck,
          .on Unit () (fun _ => undef) (fun s _ w => ∃ b, s 22 = .map (some b) ∧ MpAt q mpA b w),
          .on Unit () (fun _ => undef) (fun s _ w => ∃ b, s 22 = .map (some b) ∧ MpAt q mpB b w),
          .reck, .reck, .reck, .reck, spV (.int .i64 Z), .reck, .reck, .reck, .reck] (MpR wB.heap.size q) (by kernel_rfl) (by kernel_rfl) (MpR.refl _ _) MpR.trans ?_
        (refine wpRG_reck rfl (fun K hK => ?_); go_big_quiet_op; refine hK _ ?_; clear hK K)
        (refine wpRG_reck rfl (fun K hK => ?_); go_big_quiet_op; refine hK _ ?_; clear hK K)
        (refine wpRG_reck rfl (fun K hK => ?_); go_big_quiet_op; refine hK _ ?_; clear hK K)
        (refine wpRG_reck rfl (fun K hK => ?_); go_big_quiet_op; refine hK _ ?_; clear hK K)
        refine wpRG_any rfl (fun _ _ _ _ h => h) (fun W' hw hF R hR => ?_) ?_
        · (have HF := Lib.hid hF; clear hF; unfold rgAt; go_simp)
          show Calls _ _ _ _ _
          refine (CMk.out W').mono ?_
          rintro e w8 ⟨rfl, hg8⟩
          exact ⟨_, rfl, hR () _ (MpR.of_gr hg8) trivial⟩
        rintro ⟨⟩
        (simp only [Act.put, List.setIfInBounds_toArray, List.set_cons_zero, List.set_cons_succ])
        refine wpRG_any rfl (fun _ _ _ _ h => h) (fun W' hw hF R hR => ?_) ?_
        · (have HF := Lib.hid hF; clear hF; unfold rgAt; go_simp)
          show Calls _ _ _ _ _
          refine (CRf.out W').mono ?_
          rintro e w8 ⟨rfl, hg8⟩
          exact ⟨_, rfl, hR () _ (MpR.of_gr hg8) trivial⟩
        rintro ⟨⟩
        (simp only [Act.put, List.setIfInBounds_toArray, List.set_cons_zero, List.set_cons_succ])
        refine wpRG_any rfl (fun _ _ _ hg h => hg.bs h) (fun W' hw hF R hR => ?_) ?_
        · (have HF := Lib.hid hF; clear hF; unfold rgAt; go_simp)
          show Calls _ _ _ _ _
          have hbW : Bs W' a k c l := hw.bs (HB.out.below HGB.out.drew)
          refine (HVV.out W' hbW).mono ?_
          rintro e w8 ⟨a1, c1, rfl, ho8, hg8⟩
          exact ⟨_, rfl, hR (a1, c1) _ (MpR.of_gr hg8) ho8⟩
        rintro ⟨a6', c6'⟩
        (simp only [Act.put, List.setIfInBounds_toArray, List.set_cons_zero, List.set_cons_succ])
        refine wpRG_any rfl (fun _ _ _ _ h => h) (fun W' hw hF R hR => ?_) ?_
        · have h6 : Bs W' a6' q' c6' TV := hF 6 (by kernel_rfl)
          (have HF := Lib.hid hF; clear hF; unfold rgAt; go_simp)
          show Calls _ _ _ _ _
          refine (same_any a9 a6' k9 c9 q' c6' TV TV W' (hw.bs (HV9B.out.below ((Gr.refl wB).drew))) h6).mono ?_
          rintro e w8 ⟨rfl, hg8⟩
          exact ⟨_, by rw [hst1], hR () _ (MpR.of_gr hg8) trivial⟩
        rintro ⟨⟩
        (simp only [Act.put, List.setIfInBounds_toArray, List.set_cons_zero, List.set_cons_succ])
        (refine wpRG_reck rfl (fun K hK => ?_); go_big_quiet_op; refine hK _ ?_; clear hK K)
        (refine wpRG_reck rfl (fun K hK => ?_); go_big_quiet_op; refine hK _ ?_; clear hK K)
        (refine wpRG_reck rfl (fun K hK => ?_); go_big_quiet_op; refine hK _ ?_; clear hK K)
        (refine wpRG_reck rfl (fun K hK => ?_); go_big_quiet_op; refine hK _ ?_; clear hK K)
        (refine wpRG_reck rfl (fun K hK => ?_); go_big_quiet_op; refine hK _ ?_; clear hK K)
        refine wpRG_any rfl (fun _ _ _ _ h => h) (fun W' hw hF R hR => ?_) ?_
        · (have HF := Lib.hid hF; clear hF; unfold rgAt; go_simp)
          show Calls _ _ _ _ _
          have hbW : Bs W' a' k' c' TD := by rw [HTD.out]; exact hw.bs (HB'.out.below HGB.out.drew)
          refine (same_any a10 a' k10 c10 k' c' TD TD W' (hw.bs (HV10B.out.below ((Gr.refl wB).drew))) hbW).mono ?_
          rintro e w8 ⟨rfl, hg8⟩
          exact ⟨_, by rw [hst2], hR () _ (MpR.of_gr hg8) trivial⟩
        rintro ⟨⟩
        (simp only [Act.put, List.setIfInBounds_toArray, List.set_cons_zero, List.set_cons_succ])
        (refine wpRG_reck rfl (fun K hK => ?_); go_big_quiet_op; refine hK _ ?_; clear hK K)
        (refine wpRG_reck rfl (fun K hK => ?_); go_big_quiet_op; refine hK _ ?_; clear hK K)
        (refine wpRG_reck rfl (fun K hK => ?_); go_big_quiet_op; refine hK _ ?_; clear hK K)
        (refine wpRG_reck rfl (fun K hK => ?_); go_big_quiet_op; refine hK _ ?_; clear hK K)
        (refine wpRG_reck rfl (fun K hK => ?_); go_big_quiet_op; refine hK _ ?_; clear hK K)
        (refine wpRG_reck rfl (fun K hK => ?_); go_big_quiet_op; refine hK _ ?_; clear hK K)
        (refine wpRG_reck rfl (fun K hK => ?_); go_big_quiet_op; refine hK _ ?_; clear hK K)
        (refine wpRG_reck rfl (fun K hK => ?_); go_big_quiet_op; refine hK _ ?_; clear hK K)
        refine wpRG_any rfl (fun _ _ _ hg h => ⟨h.1, h.2.stay (fun _ _ _ _ _ h => h) hg⟩) (fun W' hw hF R hR => ?_) ?_
        · (have HF := Lib.hid hF; clear hF; unfold rgAt; go_simp)
          exact hR W'.heap.size _ (MpR.of_gr ((Gr.refl _).alloc _)) ⟨hw.2.1, 0, by decide, rfl, heap_alloc_new _ _⟩
        intro b22
        (simp only [Act.put, List.setIfInBounds_toArray, List.set_cons_zero, List.set_cons_succ])
        (refine wpRG_reck rfl (fun K hK => ?_); go_big_quiet_op; refine hK _ ?_; clear hK K)
        (refine wpRG_reck rfl (fun K hK => ?_); go_big_quiet_op; refine hK _ ?_; clear hK K)
        refine wpRG_on rfl (fun _ _ _ _ hg ⟨b, h1, h2⟩ => ⟨b, h1, h2.stay mpA_le hg⟩) (fun W' hw hF R hR => ?_) ?_
        · obtain ⟨h22, i, hi, _, hbi⟩ : wB.heap.size ≤ b22 ∧ MpAt q (fun _ => true) b22 W' := hF 22 (by kernel_rfl)
          obtain ⟨w', hr, hgb, hnew⟩ := mp_first q i hi hbi
          obtain ⟨ho1, ho2, ho3⟩ := mpFst_ok i hi
          have hrel := MpR.step h22 hi ho1 ho2 hbi hgb hnew
          have HR2 := Lib.hid hR
          have HN := Lib.hid hnew
          clear hgb hR hnew hbi
          (have HF := Lib.hid hF; clear hF; unfold rgAt; go_simp)
          show R undef w'
          exact HR2.out () _ hrel ⟨b22, by kernel_rfl, _, ho1, ho3, HN.out⟩
        rintro ⟨⟩
        (simp only [Act.put])
        refine wpRG_on rfl (fun _ _ _ _ hg ⟨b, h1, h2⟩ => ⟨b, h1, h2.stay mpB_le hg⟩) (fun W' hw hF R hR => ?_) ?_
        · obtain ⟨h22, i, hi, _, hbi⟩ : wB.heap.size ≤ b22 ∧ MpAt q (fun _ => true) b22 W' := hF 22 (by kernel_rfl)
          obtain ⟨w', hr, hgb, hnew⟩ := mp_second q i hi hbi
          obtain ⟨ho1, ho2, ho3⟩ := mpSnd_ok i hi
          have hrel := MpR.step h22 hi ho1 ho2 hbi hgb hnew
          have HR2 := Lib.hid hR
          have HN := Lib.hid hnew
          clear hgb hR hnew hbi
          (have HF := Lib.hid hF; clear hF; unfold rgAt; go_simp)
          show R undef w'
          exact HR2.out () _ hrel ⟨b22, by kernel_rfl, _, ho1, ho3, HN.out⟩
        rintro ⟨⟩
        (simp only [Act.put])
        (refine wpRG_reck rfl (fun K hK => ?_); go_big_quiet_op; refine hK _ ?_; clear hK K)
        (refine wpRG_reck rfl (fun K hK => ?_); go_big_quiet_op; refine hK _ ?_; clear hK K)
        (refine wpRG_reck rfl (fun K hK => ?_); go_big_quiet_op; refine hK _ ?_; clear hK K)
        (refine wpRG_reck rfl (fun K hK => ?_); go_big_quiet_op; refine hK _ ?_; clear hK K)
        refine wpRG_any rfl (fun _ _ _ _ h => h) (fun W' hw hF R hR => ?_) ?_
        · obtain ⟨b25, h25, i, hi, hai, hbi⟩ : ∃ b, rgSees _ 25 _ 22 = Value.map (some b) ∧ MpAt q mpA b W' := hF 25 (by kernel_rfl)
          obtain ⟨b26, h26, j, hj, haj, hbj⟩ : ∃ b, rgSees _ 26 _ 22 = Value.map (some b) ∧ MpAt q mpB b W' := hF 26 (by kernel_rfl)
          obtain rfl : b22 = b25 := by
            have h0 : Value.map (some b22) = Value.map (some b25) := h25
            cases h0; rfl
          obtain rfl : b22 = b26 := by
            have h0 : Value.map (some b22) = Value.map (some b26) := h26
            cases h0; rfl
          have hr := HLK.out W' b22 i j hi hj hai haj hbi hbj
          have HR2 := Lib.hid hR
          clear hR h26 h25 hbi hbj
          (have HF := Lib.hid hF; clear hF; unfold rgAt; go_simp)
          exact HR2.out () _ (MpR.refl _ _ _) trivial
        rintro ⟨⟩
        (simp only [Act.put, List.setIfInBounds_toArray, List.set_cons_zero, List.set_cons_succ])
        (refine wpRG_reck rfl (fun K hK => ?_); go_big_quiet_op; refine hK _ ?_; clear hK K)
        (refine wpRG_reck rfl (fun K hK => ?_); go_big_quiet_op; refine hK _ ?_; clear hK K)
        (refine wpRG_reck rfl (fun K hK => ?_); go_big_quiet_op; refine hK _ ?_; clear hK K)
        (refine wpRG_reck rfl (fun K hK => ?_); go_big_quiet_op; refine hK _ ?_; clear hK K)
        refine wpRG_end fun W' hw hF => ?_
        have hgW := MpR.gr hw HGB.out.drew HGB.out.size
        clear hF hw
        refine wpList_nil ?_
        go_wp2
        go_ret
        exact ⟨rfl, hgW⟩
    · have hS' : pSmall n s q = false := by simpa using hS
      rw [hS'] at CS
      have HCS := Lib.hid CS
      clear CS CFew hS hS' hF
      go_enter Tryd.func5, Tryd.ntmps5
      go_wp2_with fail
      refine (packAwake _).mono ?_
      rintro e w1 ⟨rfl, hg1⟩
      have hO1 := hg1.heap (heap_alloc_new _ _)
      simp only [World.alloc, Array.size_push] at hO1
      have hP1 := hg1.heap (Gr.heap (Gr.alloc (Gr.refl _) _) (heap_alloc_new w _))
      obtain ⟨c0, c1, c2, c3, c4, c5, c6, _⟩ := seven_cells hO1
      have HP1 := Lib.hid hP1
      have hgw1 := (((Gr.refl w).alloc _).alloc _).trans hg1
      clear hg1 hO1 hP1
      go_wp2_with fail
      refine (HFew.out _).mono ?_
      rintro e w2 ⟨rfl, hg2⟩
      obtain ⟨p0, p1, p2, p3⟩ := p_four_cells (hg2.heap HP1.out)
      have hgw2 := hgw1.trans hg2
      clear hg2 HP1 hgw1 c0 c1 c2 c3 c4 c5 c6
      go_wp2_with fail
      refine (HCS.out _).mono ?_
      rintro e w3 ⟨rfl, hg3⟩
      have hgw3 := hgw2.trans hg3
      clear hg3 hgw2
      go_wp2
      go_ret
      exact ⟨rfl, hgw3⟩
  · have hF' : fewOne k k' = false := by simpa using hF
    rw [hF'] at CFew
    have HFew := Lib.hid CFew
    clear CS CFew hF hF'
    go_enter Tryd.func5, Tryd.ntmps5
    go_wp2_with fail
    refine (packAwake _).mono ?_
    rintro e w1 ⟨rfl, hg1⟩
    have hO1 := hg1.heap (heap_alloc_new _ _)
    simp only [World.alloc, Array.size_push] at hO1
    obtain ⟨c0, c1, c2, c3, c4, c5, c6, _⟩ := seven_cells hO1
    have hgw1 := (((Gr.refl w).alloc _).alloc _).trans hg1
    clear hg1 hO1
    go_wp2_with fail
    refine (HFew.out _).mono ?_
    rintro e w2 ⟨rfl, hg2⟩
    have hgw2 := hgw1.trans hg2
    clear hg2 hgw1
    go_wp2
    go_ret
    exact ⟨rfl, hgw2⟩
end Go.Proofs.YtdmijoochgmhiabDoor
