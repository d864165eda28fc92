/-
  The walk of packet.Packet.Write.
-/
import Derived.Test.YtdmijoochgmhiaaGreatDoorPacketFits
import Derived.Test.YtdmijoochgmhiaaGreatDoorRowOwn
namespace Go.Proofs.YtdmijoochgmhiaaGreatDoor
open Go.RowKit
set_option linter.unusedVariables false

theorem Bss.of_alloc4 {w : World} {b : Nat} {a a' a'' a3 : Option Addr} {n c n' c' n'' c'' n3 c3 : Nat} {l l' l'' l3 : List UInt8} {t : TypeId} (h : Bs w a n c l) (h' : Bs w a' n' c' l') (h'' : Bs w a'' n'' c'' l'') (h3 : Bs w a3 n3 c3 l3) (hb : b = w.heap.size) :
    Bss (w.alloc (.cells #[.slice a n c, .slice a' n' c', .slice a'' n'' c'', .slice a3 n3 c3] t)) (some ⟨b, 0, none⟩) 4 4 [l, l', l'', l3] := by
  subst hb
  refine ⟨rfl, Nat.le_refl _, by decide, (fun h => by cases h), fun x hx i u hu => ?_⟩
  cases hx
  rw [Addr.add_lit, Nat.zero_add, World.cell?_alloc_at _ _ _ _ rfl]
  match i, hu with
  | 0, hu => simp at hu; subst hu; exact ⟨a, n, c, rfl, h.below ((Gr.refl _).alloc _)⟩
  | 1, hu => simp at hu; subst hu; exact ⟨a', n', c', rfl, h'.below ((Gr.refl _).alloc _)⟩
  | 2, hu => simp at hu; subst hu; exact ⟨a'', n'', c'', rfl, h''.below ((Gr.refl _).alloc _)⟩
  | 3, hu => simp at hu; subst hu; exact ⟨a3, n3, c3, rfl, h3.below ((Gr.refl _).alloc _)⟩

/-- what a packet is written as, but for its sum; with it. -/
def packBody (m o nn : Nat) (l : List UInt8) (seed : Nat) (lp : List UInt8) : List UInt8 := [headL m o nn, rowText m l seed, lp].flatten
def packText (m o nn : Nat) (l : List UInt8) (seed : Nat) (lp : List UInt8) : List UInt8 := [headL m o nn, rowText m l seed, lp, put4 (crc (packBody m o nn l seed lp))].flatten
theorem packText_length (m o nn : Nat) (l : List UInt8) (seed : Nat) (lp : List UInt8) : (packText m o nn l seed lp).length = 10 + ((rowText m l seed).length + (lp.length + 4)) := by
  have h4 : (put4 (crc (packBody m o nn l seed lp))).length = 4 := rfl
  have hh : (headL m o nn).length = 10 := rfl
  simp only [packText, List.flatten_cons, List.flatten_nil, List.length_append, List.length_nil, h4, hh, Nat.add_zero]
theorem fitErr_row {n s q : Int} {id m o md k k' : Nat} (h : fitErr n s q id m o md k k' = 0) : rowErr md k q = 0 := by
  obtain ⟨hP, h2, _, h4, h5, _⟩ := fitErr_zero h
  obtain ⟨e1, e2⟩ := planErr_zero hP
  obtain ⟨f1, f2, f3, f4⟩ := planFit_zero e1
  have hp := planNeed_pos f1 f2
  have hw : widthE md q = 0 := widthE_ok (by omega) (by omega) (by omega)
  rw [rowErr, if_neg (by simpa using hw), if_neg (by rintro ⟨h0, h1⟩; exact h1 (h5 (by omega)))]

set_option maxRecDepth 100000 in
set_option maxHeartbeats 4000000 in
theorem packWrite_ok (n s : Int) (q : Nat) (id m nn k k' seed : Nat) (ho : id < 4294967296) (hn : nn < 4294967296) (hlo : -9223372036854775808 ≤ n) (hm : n ≤ 9223372036854775807) (hsl : -9223372036854775808 ≤ s) (hsm : s ≤ 9223372036854775807) (a a' : Option Addr) (c c' : Nat) (l lp : List UInt8) (w : World) (htab : Tab w)
    (hs : Bs w a k c l) (hs' : Bs w a' k' c' lp) (hk : k ≤ 1000000000) (hk' : k' ≤ 1000000000) (hq : q ≤ 1000000000) (h0 : fitErr n s q id m id m k k' = 0) :
    Calls Tryz.prog 34 #[.agg #[.int .u8 (m : Int), .int .u32 (id : Int), .int .u32 (nn : Int), .int .u8 (m : Int), .slice a k c, .int .u64 (seed : Int), .slice a' k' c'], .agg #[.int .i64 n, .int .i64 s, .int .i64 (q : Int), .int .u32 (id : Int)]] w fun e w' => ∃ a1 c1, e = .returned (.tuple #[.slice a1 (packText m id nn l seed lp).length c1, .int .i64 0]) ∧ OwnV w' w.heap.size (.slice a1 (packText m id nn l seed lp).length c1) (packText m id nn l seed lp) ∧ Gr w w' := by
  have CF := packFits_any n s q id m id m k k' nn seed hlo hm hsl hsm (by omega) (by omega) a a' c c'
  rw [h0] at CF
  have HF := Lib.hid CF
  have hz := fitErr_zero h0
  have hrow := fitErr_row h0
  have HH := Lib.hid fun w => headBytes_ok m id nn hz.2.1 ho hn w
  have HR := Lib.hid fun w hs => rowWrite_ok m a k c l seed q w hs (by omega) hrow
  have HS := Lib.hid hs
  have HS' := Lib.hid hs'
  have HT := Lib.hid htab
  have hwn := (widthN_le (mode := m) (k := (q : Int))).2
  obtain ⟨LH, eLH⟩ : ∃ x, headL m id nn = x := ⟨_, rfl⟩
  have hLH : LH.length = 10 := by rw [← eLH]; rfl
  have HPT : Hid (packText m id nn l seed lp = [LH, rowText m l seed, lp, put4 (crc [LH, rowText m l seed, lp].flatten)].flatten) := by
    show _ = _; rw [← eLH]; rfl
  have HLN : Hid ((packText m id nn l seed lp).length = 10 + ((rowText m l seed).length + (lp.length + 4))) := packText_length m id nn l seed lp
  have HKP := Lib.hid hs'.1
  obtain ⟨PT, ePT⟩ : ∃ x, packText m id nn l seed lp = x := ⟨_, rfl⟩
  rw [ePT] at HPT HLN ⊢
  obtain ⟨TL, eTL⟩ : ∃ x, PT.length = x := ⟨_, rfl⟩
  rw [eTL] at HLN ⊢
  have HTL := Lib.hid eTL
  clear eTL
  rw [eLH] at HH
  have HLH := Lib.hid hLH
  clear CF hz hrow h0 hs hs' htab eLH hLH ePT
  go_enter Tryz.func34, Tryz.ntmps34
  go_wp2_with fail
  refine (HF.out _).mono ?_
  rintro e w1 ⟨rfl, hg⟩
  have hgw := (((Gr.refl w).alloc _).alloc _).trans hg
  have hA := hg.heap (Gr.heap (Gr.alloc (Gr.refl _) _) (heap_alloc_new w _))
  have hB := hg.heap (heap_alloc_new _ _)
  simp only [World.alloc, Array.size_push] at hB
  obtain ⟨cc0, cc1, cc2, cc3, cc4, cc5, cc6, ff⟩ := seven_cells hA
  have HA := Lib.hid hA
  have HB := Lib.hid hB
  clear hA hB hg
  go_wp2_with fail
  refine (HH.out _).mono ?_
  rintro e w2 ⟨a2, cap2, rfl, hb2, hg2⟩
  obtain ⟨cc0, cc1, cc2, cc3, cc4, cc5, cc6, ff⟩ := seven_cells (hg2.heap HA.out)
  obtain ⟨p0, p1, p2, p3⟩ := p_four_cells (hg2.heap HB.out)
  have HA2 := Lib.hid (hg2.heap HA.out)
  have hgw2 := hgw.trans hg2
  have HB2 := Lib.hid hb2.bs2.1
  clear hg2 hgw HA HB hb2
  go_wp2_with fail
  refine (HR.out _ (HS.out.below hgw2)).mono ?_
  rintro e w3 ⟨v3, rfl, ⟨a3, cap3, rfl, hb3, _, hg3⟩, hlr⟩
  obtain ⟨LR, eLR⟩ : ∃ x, rowText m l seed = x := ⟨_, rfl⟩
  rw [eLR] at HPT HLN hb3 hlr ⊢
  have HA3 := Lib.hid (hg3.heap HA2.out)
  have hgw3 := hgw2.trans hg3
  have h2 := HB2.out.below hg3
  have h3 := HS'.out.below hgw3
  have HX2 := Lib.hid h2
  have HX3 := Lib.hid hb3
  have HX4 := Lib.hid h3
  have HW3 := Lib.hid hgw3
  have hLR : LR.length ≤ 4096 := by omega
  clear hg3 hgw2 hgw3 hlr h2 h3 hb3 eLR HA2 HB2
  go_wp2
  obtain ⟨_, _, _, _, _, _, d6, _⟩ := seven_cells HA3.out
  obtain ⟨CR, eCR⟩ : ∃ x, crc [LH, LR, lp].flatten = x := ⟨_, rfl⟩
  have hcl := crc_lt [LH, LR, lp].flatten
  rw [eCR] at HPT hcl
  have HCR := Lib.hid eCR
  have HCL := Lib.hid hcl
  have HFL : Hid ([LH, LR, lp, put4 CR].flatten.length = TL) := by show _ = _; rw [← HPT.out]; exact HTL.out
  have hT0 : 0 < TL := by have := HLN.out; omega
  have hTm : TL ≤ 140737488355328 := by have := HLN.out; have := HKP.out; omega
  clear eCR hcl cc0 cc1 cc2 cc3 cc4 cc5 cc6 ff p0 p1 p2 p3
  have hup : Nonempty (Up Gr w3.drew) := ⟨⟨_, Gr.refl _⟩⟩
  have u6 : ∀ x : Up Gr w3.drew, x.w.cell? ⟨w.heap.size, 6, none⟩ = some (.slice a' k' c') := fun x => Gr.cell x.rel d6
  refine wp_region_rg [.reck, .reck, .reck, .reck, .reck, .reck, .reck, .reck, spBss 3 [LH, LR, lp], spV (.int .u32 (CR : Int)), spB 4 (put4 CR), spBss 4 [LH, LR, lp, put4 CR], spO w.heap.size TL PT, .reck, .reck] Gr (by kernel_rfl) (by kernel_rfl) Gr.refl (fun _ _ _ => Gr.trans) ?_
  (refine wpRG_reck rfl (fun K hK => ?_); go_big_quiet_op; refine hK _ ?_; clear hK K)
  (refine wpRG_reck rfl (fun K hK => ?_); go_big_quiet_op; refine hK _ ?_; clear hK K)
  (refine wpRG_reck rfl (fun K hK => ?_); go_big_quiet_op; refine hK _ ?_; clear hK K)
  (refine wpRG_reck rfl (fun K hK => ?_); go_big_quiet_op; refine hK _ ?_; clear hK K)
  (refine wpRG_reck rfl (fun K hK => ?_); go_big_quiet_op; refine hK _ ?_; clear hK K)
  (refine wpRG_reck rfl (fun K hK => ?_); go_big_quiet_op; refine hK _ ?_; clear hK K)
  (refine wpRG_reck rfl (fun K hK => ?_); go_big_quiet_op; refine hK _ ?_; clear hK K)
  (refine wpRG_reck rfl (fun K hK => ?_); go_big_quiet_op; refine hK _ ?_; clear hK K)
  refine wpRG_any rfl (fun x w w' hg h => h.below hg) (fun W hw hF R hR => ?_) ?_
  · (have HF := Lib.hid hF; clear hF; unfold rgAt; go_simp)
    have hw0 := (Gr.refl w3).drew.trans hw
    exact hR (some ⟨W.heap.size, 0, none⟩, 3) _ ((Gr.refl _).alloc _) (Bss.of_alloc3 (HX2.out.below hw0) (HX3.out.below hw0) (HX4.out.below hw0) rfl)
  rintro ⟨a8, cap8⟩
  (simp only [Act.put, List.setIfInBounds_toArray, List.set_cons_zero, List.set_cons_succ])
  refine wpRG_any rfl (fun _ _ _ _ h => h) (fun W hw hF R hR => ?_) ?_
  · have h8 : Bss W a8 3 cap8 [LH, LR, lp] := hF 8 (by kernel_rfl)
    (have HF := Lib.hid hF; clear hF; unfold rgAt; go_simp)
    show Calls _ _ _ _ _
    have hw0 := HW3.out.drew.trans hw
    refine (of_any a8 3 cap8 _ W (HT.out.below hw0) h8).mono ?_
    rintro e w8 ⟨rfl, hg8⟩
    exact ⟨_, by rw [HCR.out], hR () _ hg8 trivial⟩
  rintro ⟨⟩
  (simp only [Act.put, List.setIfInBounds_toArray, List.set_cons_zero, List.set_cons_succ])
  refine wpRG_any rfl (fun x w w' hg h => h.below hg) (fun W hw hF R hR => ?_) ?_
  · (have HF := Lib.hid hF; clear hF; unfold rgAt; go_simp)
    show Calls _ _ _ _ _
    refine (sumPut4_any CR HCL.out W).mono ?_
    rintro e w6 ⟨a6, cap6, rfl, hb6, hg6⟩
    exact ⟨_, rfl, hR (a6, cap6) _ hg6 hb6⟩
  rintro ⟨a10, cap10⟩
  (simp only [Act.put, List.setIfInBounds_toArray, List.set_cons_zero, List.set_cons_succ])
  refine wpRG_any rfl (fun x w w' hg h => h.below hg) (fun W hw hF R hR => ?_) ?_
  · have h10 : Bs W a10 4 cap10 (put4 CR) := hF 10 (by kernel_rfl)
    (have HF := Lib.hid hF; clear hF; unfold rgAt; go_simp)
    have hw0 := (Gr.refl w3).drew.trans hw
    exact hR (some ⟨W.heap.size, 0, none⟩, 4) _ ((Gr.refl _).alloc _) (Bss.of_alloc4 (HX2.out.below hw0) (HX3.out.below hw0) (HX4.out.below hw0) h10 rfl)
  rintro ⟨a11, cap11⟩
  (simp only [Act.put, List.setIfInBounds_toArray, List.set_cons_zero, List.set_cons_succ])
  refine wpRG_any rfl (fun x w w' hg h => OwnV.gr h hg) (fun W hw hF R hR => ?_) ?_
  · have h11 : Bss W a11 4 cap11 [LH, LR, lp, put4 CR] := hF 11 (by kernel_rfl)
    (have HF := Lib.hid hF; clear hF; unfold rgAt; go_simp)
    show Calls _ _ _ _ _
    refine (sliceConcat_own _ 4 _ [LH, LR, lp, put4 CR] TL HFL.out hT0 hTm W h11).mono ?_
    rintro e w6 ⟨v, rfl, ho6, hg6⟩
    rw [← HPT.out] at ho6
    obtain ⟨a6, cap6, rfl, _⟩ := ho6.slice
    rw [HTL.out] at ho6 ⊢
    exact ⟨_, rfl, hR (a6, cap6) _ hg6 (ho6.mono (HW3.out.drew.trans hw).size)⟩
  rintro ⟨aa, capa⟩
  (simp only [Act.put, List.setIfInBounds_toArray, List.set_cons_zero, List.set_cons_succ])
  (refine wpRG_reck rfl (fun K hK => ?_); go_big_quiet_op; refine hK _ ?_; clear hK K)
  (refine wpRG_reck rfl (fun K hK => ?_); go_big_quiet_op; refine hK _ ?_; clear hK K)
  refine wpRG_end fun W hw hF => ?_
  have hb : OwnV W w.heap.size (.slice aa TL capa) PT := hF 12
  have hgW : Gr w W := HW3.out.drew.trans hw
  clear hF
  refine wpList_nil ?_
  go_wp2
  go_ret2
  exact ⟨aa, capa, rfl, hb, hgW⟩

set_option maxRecDepth 100000 in
set_option maxHeartbeats 2000000 in
theorem packWrite_bad (n s q : Int) (id m o md k k' : Nat) (nn sd : Int) (hlo : -9223372036854775808 ≤ n) (hm : n ≤ 9223372036854775807) (hsl : -9223372036854775808 ≤ s) (hsm : s ≤ 9223372036854775807) (hk : k ≤ 9223372036854775807) (hk' : k' ≤ 9223372036854775807) (a a' : Option Addr) (c c' : Nat) (w : World) (h0 : fitErr n s q id m o md k k' ≠ 0) :
    Calls Tryz.prog 34 #[.agg #[.int .u8 (m : Int), .int .u32 (o : Int), .int .u32 nn, .int .u8 (md : Int), .slice a k c, .int .u64 sd, .slice a' k' c'], .agg #[.int .i64 n, .int .i64 s, .int .i64 q, .int .u32 (id : Int)]] w fun e w' => e = .returned (.tuple #[.slice none 0 0, .int .i64 (fitErr n s q id m o md k k' : Nat)]) ∧ Gr w w' := by
  have CF := packFits_any n s q id m o md k k' nn sd hlo hm hsl hsm hk hk' a a' c c'
  obtain ⟨E, hE⟩ : ∃ E, fitErr n s q id m o md k k' = E := ⟨_, rfl⟩
  rw [hE] at CF h0 ⊢
  have HF := Lib.hid CF
  have ht : ((E : Int) != 0) = true := by rw [bne_iff_ne]; omega
  clear CF h0 hE
  go_enter Tryz.func34, Tryz.ntmps34
  go_wp2_with fail
  refine (HF.out _).mono ?_
  rintro e w1 ⟨rfl, hg⟩
  have hgw := (((Gr.refl w).alloc _).alloc _).trans hg
  clear hg
  go_wp2
  go_ret2
  exact ⟨rfl, hgw⟩
end Go.Proofs.YtdmijoochgmhiaaGreatDoor
