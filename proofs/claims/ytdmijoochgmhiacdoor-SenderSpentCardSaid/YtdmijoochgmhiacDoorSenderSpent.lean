/-
  The walks of Explicit and Seeded; the chapter's example; law SenderSpent.
-/
import Derived.Test.YtdmijoochgmhiacDoorSend
import Derived.Test.YtdmijoochgmhiacDoorPacketGot
import Derived.Test.YtdmijoochgmhiacDoorPacketPlain
namespace Go.Proofs.YtdmijoochgmhiacDoor
open Go.RowKit
set_option linter.unusedVariables false

set_option maxRecDepth 100000 in
set_option maxHeartbeats 1000000 in
theorem explicit_ok (B n s q id : Nat) (hP : planErr n s q = 0) (hid : id < 4294967296) (hnm : n ≤ 1000000000) (obj : List UInt8) (next : Nat) (hnx : next < 4294967296) (a : Option Addr) (cap : Nat) (l : List UInt8) (w : World) (htab : Tab w) (hs : Bs w a q cap l) (h : SendAt w B n s q id obj next) :
    Calls Tryd.prog 33 #[.pointer (some ⟨B, 0, none⟩), .slice a q cap] w fun e w' => ∃ a' k' c', e = .returned (.tuple #[.slice a' k' c', .int .i64 0]) ∧ Bs w' a' k' c' (sentL n s q id obj next 0 l 0) ∧ SendAt w' B n s q id obj (next + 1) ∧ GrB w B w' := by
  obtain ⟨hs1, hs2, hq1, hq2⟩ := plan_bounds hP
  have hE : rowErr 0 q q = 0 := by unfold rowErr; rw [if_neg (by rw [widthE_ok (by decide) (by omega) (by omega)]; decide), if_neg (by omega)]
  have HX := Lib.hid fun w h => explicit_any a q cap l w h (by omega)
  have HO := Lib.hid fun a' c' w ht h1 h2 => send_ok B n s q id hP hid hnm obj next hnx 0 a' q c' 0 (by decide) l (by omega) hE w ht h1 h2
  have HS := Lib.hid hs
  have HT := Lib.hid htab
  have HA := Lib.hid h
  clear hP hE hs htab h
  go_enter Tryd.func33, Tryd.ntmps33
  go_wp2_with fail
  refine (HX.out _ HS.out).mono ?_
  rintro e w1 ⟨a', c', rfl, hb, _, hg⟩
  have C := Lib.hid (HO.out a' c' w1 (HT.out.below hg) hb (HA.out.gr hg))
  have HG := Lib.hid hg
  clear hb hg
  go_wp2_with fail
  refine C.out.mono ?_
  rintro e w2 ⟨a2, k2, c2, rfl, hb2, _, hs2, hg2⟩
  have hfin := Lib.hid (show _ ∧ _ ∧ _ from ⟨hb2, hs2, (GrB.of_gr HG.out).trans hg2⟩)
  clear hb2 hs2 hg2
  go_wp2
  first | go_ret | go_ret2
  exact ⟨a2, k2, c2, rfl, hfin.out⟩

set_option maxRecDepth 100000 in
set_option maxHeartbeats 1000000 in
theorem explicit_bad (B n s q id : Nat) (obj : List UInt8) (next : Nat) (hnx : next < 4294967296) (a : Option Addr) (len cap : Nat) (hlm : len ≤ 1000000) (l : List UInt8) (hE : rowErr 0 len q ≠ 0) (w : World) (hs : Bs w a len cap l) (h : SendAt w B n s q id obj next) :
    Calls Tryd.prog 33 #[.pointer (some ⟨B, 0, none⟩), .slice a len cap] w fun e w' => e = .returned (.tuple #[.slice none 0 0, .int .i64 (rowErr 0 len q : Nat)]) ∧ Gr w w' := by
  have HX := Lib.hid fun w h => explicit_any a len cap l w h (by omega)
  have HO := Lib.hid fun a' c' w h2 => send_bad B n s q id obj next hnx 0 a' len c' 0 (by omega) hE w h2
  obtain ⟨E, eE⟩ : ∃ E, rowErr 0 len q = E := ⟨_, rfl⟩
  rw [eE] at HO ⊢
  have HS := Lib.hid hs
  have HA := Lib.hid h
  clear hE eE hs h
  go_enter Tryd.func33, Tryd.ntmps33
  go_wp2_with fail
  refine (HX.out _ HS.out).mono ?_
  rintro e w1 ⟨a', c', rfl, hb, _, hg⟩
  have C := Lib.hid (HO.out a' c' w1 (HA.out.gr hg))
  have HG := Lib.hid hg
  clear hb hg
  go_wp2_with fail
  refine C.out.mono ?_
  rintro e w2 ⟨rfl, hg2⟩
  have hfin := HG.out.trans hg2
  clear hg2
  go_wp2
  first | go_ret | go_ret2
  exact ⟨rfl, hfin⟩

set_option maxRecDepth 100000 in
set_option maxHeartbeats 1000000 in
theorem seededSend_ok (B n s q id : Nat) (hP : planErr n s q = 0) (hid : id < 4294967296) (hnm : n ≤ 1000000000) (obj : List UInt8) (next : Nat) (hnx : next < 4294967296) (sd : Nat) (hsd : sd < 18446744073709551616) (w : World) (htab : Tab w) (h : SendAt w B n s q id obj next) :
    Calls Tryd.prog 34 #[.pointer (some ⟨B, 0, none⟩), .int .u64 (sd : Int)] w fun e w' => ∃ a' k' c', e = .returned (.tuple #[.slice a' k' c', .int .i64 0]) ∧ Bs w' a' k' c' (sentL n s q id obj next 1 [] sd) ∧ (∀ x, a' = some x → w.heap.size ≤ x.block) ∧ SendAt w' B n s q id obj (next + 1) ∧ GrB w B w' := by
  obtain ⟨hs1, hs2, hq1, hq2⟩ := plan_bounds hP
  have hE : rowErr 1 0 q = 0 := by unfold rowErr; rw [if_neg (by rw [widthE_ok (by decide) (by omega) (by omega)]; decide), if_neg (by omega)]
  have HO := Lib.hid fun w ht h1 h2 => send_ok B n s q id hP hid hnm obj next hnx 1 none 0 0 sd hsd [] (by omega) hE w ht h1 h2
  have HT := Lib.hid htab
  have HA := Lib.hid h
  clear hP hE htab h
  go_enter Tryd.func34, Tryd.ntmps34
  go_wp2_with fail
  refine (seeded_any sd _).mono ?_
  rintro e w1 ⟨rfl, hg⟩
  have C := Lib.hid (HO.out w1 (HT.out.below hg) (Bs.nil _) (HA.out.gr hg))
  have HG := Lib.hid hg
  clear hg
  go_wp2_with fail
  refine C.out.mono ?_
  rintro e w2 ⟨a2, k2, c2, rfl, hb2, hf2, hs2, hg2⟩
  have hz := HG.out.size
  have hfin := Lib.hid (show _ ∧ _ ∧ _ ∧ _ from ⟨hb2, fun x hx => Nat.le_trans hz (hf2 x hx), hs2, (GrB.of_gr HG.out).trans hg2⟩)
  clear hb2 hs2 hg2 hf2
  go_wp2
  first | go_ret | go_ret2
  exact ⟨a2, k2, c2, rfl, hfin.out⟩

set_option maxRecDepth 100000 in
set_option maxHeartbeats 1000000 in
theorem seededSend_spent (B n s q id : Nat) (obj : List UInt8) (sd : Nat) (w : World) (h : SendAt w B n s q id obj 4294967296) :
    Calls Tryd.prog 34 #[.pointer (some ⟨B, 0, none⟩), .int .u64 (sd : Int)] w fun e w' => e = .returned (.tuple #[.slice none 0 0, .int .i64 11]) ∧ Gr w w' := by
  have HA := Lib.hid h
  clear h
  go_enter Tryd.func34, Tryd.ntmps34
  go_wp2_with fail
  refine (seeded_any sd _).mono ?_
  rintro e w1 ⟨rfl, hg⟩
  go_wp2_with fail
  refine (send_spent B n s q id obj 1 none 0 0 sd w1 (HA.out.gr hg)).mono ?_
  rintro e w2 ⟨rfl, hg2⟩
  have hfin := hg.trans hg2
  clear hg hg2
  go_wp2
  first | go_ret | go_ret2
  exact ⟨rfl, hfin⟩

set_option maxRecDepth 100000 in
set_option maxHeartbeats 1000000 in
theorem seededSend_nil (sd : Nat) (w : World) :
    Calls Tryd.prog 34 #[.pointer none, .int .u64 (sd : Int)] w fun e w' => e = .returned (.tuple #[.slice none 0 0, .int .i64 1]) ∧ Gr w w' := by
  go_enter Tryd.func34, Tryd.ntmps34
  go_wp2_with fail
  refine (seeded_any sd _).mono ?_
  rintro e w1 ⟨rfl, hg⟩
  go_wp2_with fail
  refine (send_nil (.int .u8 0) w1 1 none 0 0 sd).mono ?_
  rintro e w2 ⟨rfl, hg2⟩
  have hfin := hg.trans hg2
  clear hg hg2
  go_wp2
  first | go_ret | go_ret2
  exact ⟨rfl, hfin⟩
theorem sent_5 : (sentL 5 2 3 0 [1, 2, 3, 4, 5] 0 0 [1, 1, 0] 0).length = 19 ∧ (sentL 5 2 3 0 [1, 2, 3, 4, 5] 0 0 [1, 1, 0] 0)[13]? = some 2 ∧ (sentL 5 2 3 0 [1, 2, 3, 4, 5] 0 0 [1, 1, 0] 0)[14]? = some 6 := by decide +kernel

set_option maxRecDepth 100000 in
set_option maxHeartbeats 2000000 in
theorem sendAwake (w : World) (htab : Tab w) : Calls Tryd.prog 22 #[] w fun e w' => e = .returned (.bool true) ∧ Gr w w' := by
  have HO : Hid (∀ w, Calls Tryd.prog 32 #[.int .i64 5, .int .i64 2, .int .u32 0] w fun e w' => e = .returned (.tuple #[.agg #[.int .i64 5, .int .i64 2, .int .i64 3, .int .u32 0], .int .i64 0]) ∧ Gr w w') := by
    intro w
    refine (planOf_any 5 2 0 (by decide) (by decide) (by decide) (by decide) w).mono ?_
    rintro e w' ⟨he, hg⟩
    refine ⟨?_, hg⟩
    rw [he, show planFit 5 2 = 0 by decide, if_pos rfl, show planNeed 5 2 = 3 by decide]
    rfl
  have HN : Hid (∀ a w, Bs w a 5 5 [1, 2, 3, 4, 5] → Calls Tryd.prog 24 #[.agg #[.int .i64 5, .int .i64 2, .int .i64 3, .int .u32 0], .slice a 5 5] w fun e w' => ∃ B, w.heap.size ≤ B ∧ e = .returned (.tuple #[.pointer (some ⟨B, 0, none⟩), .int .i64 0]) ∧ SendAt w' B 5 2 3 0 [1, 2, 3, 4, 5] 0 ∧ Gr w w') :=
    fun a w h => senderNew_ok 5 2 3 0 (by decide) a 5 [1, 2, 3, 4, 5] w h (by decide)
  have HX : Hid (∀ B a w, Tab w → Bs w a 3 3 [1, 1, 0] → SendAt w B 5 2 3 0 [1, 2, 3, 4, 5] 0 → Calls Tryd.prog 33 #[.pointer (some ⟨B, 0, none⟩), .slice a 3 3] w fun e w' => ∃ b off c', e = .returned (.tuple #[.slice (some ⟨b, off, none⟩) 19 c', .int .i64 0]) ∧ w'.cell? ⟨b, off + 13, none⟩ = some (.int .u8 2) ∧ w'.cell? ⟨b, off + 14, none⟩ = some (.int .u8 6) ∧ GrB w B w') := by
    show ∀ B a w, _
    intro B a w ht h1 h2
    refine (explicit_ok B 5 2 3 0 (by decide) (by decide) (by decide) [1, 2, 3, 4, 5] 0 (by decide) a 3 [1, 1, 0] w ht h1 h2).mono ?_
    rintro e w' ⟨a', k', c', rfl, hb, _, hg⟩
    obtain ⟨l1, l2, l3⟩ := sent_5
    have hk : k' = 19 := by rw [← hb.1]; exact l1
    subst hk
    obtain ⟨b, off, rfl, _, hc⟩ := hb.at_ (by decide)
    exact ⟨b, off, c', rfl, hc 13 2 l2, hc 14 6 l3, hg⟩
  have HT := Lib.hid htab
  clear htab
  go_enter Tryd.func22, Tryd.ntmps22
  go_wp2_with fail
  refine (HO.out _).mono ?_
  rintro e w1 ⟨rfl, hg1⟩
  go_wp2_with fail
  have hg2 : Gr w ((w1.alloc (.cells #[.int .i64 5, .int .i64 2, .int .i64 3, .int .u32 0] 24)).alloc (.cells #[.int .u8 1, .int .u8 2, .int .u8 3, .int .u8 4, .int .u8 5] 5)) := (hg1.alloc _).alloc _
  refine (HN.out _ _ (Bs.of_alloc rfl rfl (by decide) (by simp))).mono ?_
  rintro e w2 ⟨B, hB, rfl, hsa, hg3⟩
  have hgw := hg2.trans hg3
  have HSA := Lib.hid hsa
  have HGW := Lib.hid hgw
  have hBw : w.heap.size ≤ B := Nat.le_trans hg2.size hB
  clear hg1 hg2 hg3 hsa hgw hB
  go_wp2_with fail
  have hal := (Gr.refl w2).alloc (.cells #[.int .u8 1, .int .u8 1, .int .u8 0] 5)
  refine (HX.out B _ _ (HT.out.below (HGW.out.trans hal)) (Bs.of_alloc rfl rfl (by decide) rfl) (HSA.out.gr hal)).mono ?_
  rintro e w3 ⟨b, off, c', rfl, c13, c14, hg4⟩
  have hfin := (HGW.out.trans hal).grb hg4 hBw
  clear hal hg4
  go_wp2
  go_ret
  exact ⟨rfl, hfin⟩

theorem spent_fit : fitErr 3 1 3 9 1 9 1 ([] : List UInt8).length 1 = 0 := by decide
theorem spent_len : (combL (rowVec 1 [] 5 3) (cutL [1, 2, 3] 1 3) 1).length = 1 := combL_length cut_same

set_option maxRecDepth 100000 in
set_option maxHeartbeats 4000000 in
theorem senderSpent_walk (w : World) (htab : Tab w) : Calls Tryd.prog 6 #[] w fun e w' => e = .returned (.bool true) ∧ Gr w w' := by
  have HO : Hid (∀ w, Calls Tryd.prog 32 #[.int .i64 3, .int .i64 1, .int .u32 9] w fun e w' => e = .returned (.tuple #[.agg #[.int .i64 3, .int .i64 1, .int .i64 3, .int .u32 9], .int .i64 0]) ∧ Gr w w') := by
    intro w
    refine (planOf_any 3 1 9 (by decide) (by decide) (by decide) (by decide) w).mono ?_
    rintro e w' ⟨he, hg⟩
    refine ⟨?_, hg⟩
    rw [he, show planFit 3 1 = 0 by decide, if_pos rfl, show planNeed 3 1 = 3 by decide]
    rfl
  have HN : Hid (∀ a w, Bs w a 3 3 [1, 2, 3] → Calls Tryd.prog 24 #[.agg #[.int .i64 3, .int .i64 1, .int .i64 3, .int .u32 9], .slice a 3 3] w fun e w' => ∃ B, w.heap.size ≤ B ∧ e = .returned (.tuple #[.pointer (some ⟨B, 0, none⟩), .int .i64 0]) ∧ SendAt w' B 3 1 3 9 [1, 2, 3] 0 ∧ Gr w w') :=
    fun a w h => senderNew_ok 3 1 3 9 (by decide) a 3 [1, 2, 3] w h (by decide)
  have HK : Hid (∀ B w, SendAt w B 3 1 3 9 [1, 2, 3] 0 → Calls Tryd.prog 26 #[.pointer (some ⟨B, 0, none⟩), .int .u64 4294967295] w fun e w' => e = .returned (.int .i64 0) ∧ SendAt w' B 3 1 3 9 [1, 2, 3] 4294967295 ∧ GrB w B w') :=
    fun B w h => sendSkip_ok B 3 1 3 9 [1, 2, 3] 0 4294967295 (by decide) (by decide) w h
  have HX : Hid (∀ B a w, Bs w a 2 2 [1, 2] → SendAt w B 3 1 3 9 [1, 2, 3] 4294967295 → Calls Tryd.prog 33 #[.pointer (some ⟨B, 0, none⟩), .slice a 2 2] w fun e w' => e = .returned (.tuple #[.slice none 0 0, .int .i64 4]) ∧ Gr w w') :=
    fun B a w h1 h2 => explicit_bad B 3 1 3 9 [1, 2, 3] 4294967295 (by decide) a 2 2 (by decide) [1, 2] (by decide) w h1 h2
  have HE1 : Hid (∀ B w, SendAt w B 3 1 3 9 [1, 2, 3] 4294967295 → Calls Tryd.prog 31 #[.pointer (some ⟨B, 0, none⟩)] w fun e w' => e = .returned (.int .u64 4294967295) ∧ w = w') :=
    fun B w h => sendNext B 3 1 3 9 [1, 2, 3] 4294967295 w h
  have HE2 : Hid (∀ B w, SendAt w B 3 1 3 9 [1, 2, 3] 4294967296 → Calls Tryd.prog 31 #[.pointer (some ⟨B, 0, none⟩)] w fun e w' => e = .returned (.int .u64 4294967296) ∧ w = w') :=
    fun B w h => sendNext B 3 1 3 9 [1, 2, 3] 4294967296 w h
  have HS5 : Hid (∀ B w, Tab w → SendAt w B 3 1 3 9 [1, 2, 3] 4294967295 → Calls Tryd.prog 34 #[.pointer (some ⟨B, 0, none⟩), .int .u64 5] w fun e w' => ∃ a' k' c', e = .returned (.tuple #[.slice a' k' c', .int .i64 0]) ∧ Bs w' a' k' c' (sentL 3 1 3 9 [1, 2, 3] 4294967295 1 [] 5) ∧ SendAt w' B 3 1 3 9 [1, 2, 3] 4294967296 ∧ GrB w B w') := by
    show ∀ B w, _
    intro B w ht h
    refine (seededSend_ok B 3 1 3 9 (by decide) (by decide) (by decide) [1, 2, 3] 4294967295 (by decide) 5 (by decide) w ht h).mono ?_
    rintro e w' ⟨a', k', c', he, hb, _, h1, h2⟩
    exact ⟨a', k', c', he, hb, h1, h2⟩
  have HR : Hid (∀ a k c w, Tab w → Bs w a k c (sentL 3 1 3 9 [1, 2, 3] 4294967295 1 [] 5) → k ≤ 1000 → Calls Tryd.prog 19 #[.agg #[.int .i64 3, .int .i64 1, .int .i64 3, .int .u32 9], .slice a k c] w fun e w' => ∃ a1 k1 c1 a2 k2 c2, e = .returned (.tuple #[.agg #[.int .u8 1, .int .u32 9, .int .u32 4294967295, .int .u8 1, .slice a1 k1 c1, .int .u64 5, .slice a2 k2 c2], .int .i64 0]) ∧ Gr w w') := by
    show ∀ a k c w, _
    intro a k c w ht h hk
    obtain ⟨t1, t2⟩ := text_read (n := 3) (s := 1) (q := 3) (id := 9) (m := 1) (nn := 4294967295) (seed := 5) (l := []) (lp := combL (rowVec 1 [] 5 3) (cutL [1, 2, 3] 1 3) 1) (by decide) (by decide) (by decide) (by rw [spent_len]; exact spent_fit)
    refine (packRead_all 3 1 3 9 (by decide) (by decide) (by decide) (by decide) a k c _ w ht h (by omega)).mono ?_
    rintro e w' ⟨a1, k1, c1, a2, k2, c2, he, _, _, hg⟩
    rw [show sentL 3 1 3 9 [1, 2, 3] 4294967295 1 [] 5 = packText 1 9 4294967295 [] 5 (combL (rowVec 1 [] 5 3) (cutL [1, 2, 3] 1 3) 1) from rfl] at he
    have t1' : packErr 3 1 3 9 (packText 1 9 4294967295 [] 5 (combL (rowVec 1 [] 5 3) (cutL [1, 2, 3] 1 3) 1)) = 0 := t1
    have t2' : packGot 3 1 3 9 (packText 1 9 4294967295 [] 5 (combL (rowVec 1 [] 5 3) (cutL [1, 2, 3] 1 3) 1)) = _ := t2
    rw [t1', t2'] at he
    exact ⟨a1, k1, c1, a2, k2, c2, he, hg⟩
  have HSP : Hid (∀ B w, SendAt w B 3 1 3 9 [1, 2, 3] 4294967296 → Calls Tryd.prog 34 #[.pointer (some ⟨B, 0, none⟩), .int .u64 6] w fun e w' => e = .returned (.tuple #[.slice none 0 0, .int .i64 11]) ∧ Gr w w') :=
    fun B w h => seededSend_spent B 3 1 3 9 [1, 2, 3] 6 w h
  have HSN : Hid (∀ w, Calls Tryd.prog 34 #[.pointer none, .int .u64 1] w fun e w' => e = .returned (.tuple #[.slice none 0 0, .int .i64 1]) ∧ Gr w w') :=
    fun w => seededSend_nil 1 w
  have HK1 : Hid (∀ B w, SendAt w B 3 1 3 9 [1, 2, 3] 4294967296 → Calls Tryd.prog 26 #[.pointer (some ⟨B, 0, none⟩), .int .u64 1] w fun e w' => e = .returned (.int .i64 2) ∧ w = w') :=
    fun B w h => sendSkip_bad B 3 1 3 9 [1, 2, 3] 4294967296 1 (by decide) (by decide) w h
  have HK0 : Hid (∀ B w, SendAt w B 3 1 3 9 [1, 2, 3] 4294967296 → Calls Tryd.prog 26 #[.pointer (some ⟨B, 0, none⟩), .int .u64 0] w fun e w' => e = .returned (.int .i64 0) ∧ SendAt w' B 3 1 3 9 [1, 2, 3] 4294967296 ∧ GrB w B w') :=
    fun B w h => sendSkip_ok B 3 1 3 9 [1, 2, 3] 4294967296 0 (by decide) (by decide) w h
  have HLEN : Hid ((sentL 3 1 3 9 [1, 2, 3] 4294967295 1 [] 5).length ≤ 1000) := by
    show (packText 1 9 4294967295 [] 5 _).length ≤ 1000
    rw [packText_length, spent_len]; decide
  obtain ⟨TX, eTX⟩ : ∃ T, sentL 3 1 3 9 [1, 2, 3] 4294967295 1 [] 5 = T := ⟨_, rfl⟩
  rw [eTX] at HS5 HR HLEN
  have HT := Lib.hid htab
  clear htab eTX
  go_enter Tryd.func6, Tryd.ntmps6
  go_wp2_with fail
  refine (HO.out _).mono ?_
  rintro e w1 ⟨rfl, hg1⟩
  go_wp2_with fail
  have hA := Gr.heap ((Gr.refl _).alloc (.cells #[.int .u8 1, .int .u8 2, .int .u8 3] 5)) (heap_alloc_new w1 (.cells #[.int .i64 3, .int .i64 1, .int .i64 3, .int .u32 9] 24))
  have hg2 : Gr w ((w1.alloc (.cells #[.int .i64 3, .int .i64 1, .int .i64 3, .int .u32 9] 24)).alloc (.cells #[.int .u8 1, .int .u8 2, .int .u8 3] 5)) := (hg1.alloc _).alloc _
  refine (HN.out _ _ (Bs.of_alloc rfl rfl (by decide) (by simp))).mono ?_
  rintro e w2 ⟨B, hB, rfl, hsa, hg3⟩
  have hgw := hg2.trans hg3
  have HSA := Lib.hid hsa
  have HGW := Lib.hid hgw
  have HA := Lib.hid (hg3.heap hA)
  have hBw : w.heap.size ≤ B := Nat.le_trans hg2.size hB
  have hBp : w1.heap.size ≠ B := by have h := hB; simp only [World.size_alloc] at h; omega
  clear hg1 hg2 hg3 hsa hgw hB hA
  go_wp2_with fail
  refine (HK.out B w2 HSA.out).mono ?_
  rintro e w3 ⟨rfl, hsa, hg⟩
  have HSA3 := Lib.hid hsa
  have HGW3 := Lib.hid (HGW.out.grb hg hBw)
  have HA3 := Lib.hid (hg.heap HA.out hBp)
  clear hsa hg HSA HGW HA
  go_wp2_with fail
  have hal := (Gr.refl w3).alloc (.cells #[.int .u8 1, .int .u8 2] 5)
  refine (HX.out B _ _ (Bs.of_alloc rfl rfl (by decide) rfl) (HSA3.out.gr hal)).mono ?_
  rintro e w4 ⟨rfl, hg⟩
  have HSA4 := Lib.hid (HSA3.out.gr (hal.trans hg))
  have HGW4 := Lib.hid (HGW3.out.trans (hal.trans hg))
  have HA4 := Lib.hid ((hal.trans hg).heap HA3.out)
  clear hg hal HSA3 HGW3 HA3
  go_wp2_with fail
  refine (HE1.out B w4 HSA4.out).mono ?_
  rintro e w5 ⟨rfl, rfl⟩
  go_wp2_with fail
  refine (HS5.out B w4 (HT.out.below HGW4.out) HSA4.out).mono ?_
  rintro e w5 ⟨a5, k5, c5, rfl, hb5, hsa, hg⟩
  have HSA5 := Lib.hid hsa
  have HGW5 := Lib.hid (HGW4.out.grb hg hBw)
  have hA5 := hg.heap HA4.out hBp
  have HB5 := Lib.hid hb5
  have hk5 : k5 ≤ 1000 := by rw [← hb5.1]; exact HLEN.out
  obtain ⟨p0, p1, p2, p3⟩ := p_four_cells hA5
  clear hsa hg HSA4 HGW4 HA4 hb5 hA5
  go_wp2_with fail
  refine (HR.out a5 k5 c5 w5 (HT.out.below HGW5.out) HB5.out hk5).mono ?_
  rintro e w6 ⟨a1, k1, c1, a2, k2, c2, rfl, hg⟩
  have hal := (Gr.refl w6).alloc (.cells #[.int .u8 1, .int .u32 9, .int .u32 4294967295, .int .u8 1, .slice a1 k1 c1, .int .u64 5, .slice a2 k2 c2] 42)
  have HP7 := Lib.hid (heap_alloc_new w6 (.cells #[.int .u8 1, .int .u32 9, .int .u32 4294967295, .int .u8 1, .slice a1 k1 c1, .int .u64 5, .slice a2 k2 c2] 42))
  have HSA7 := Lib.hid (HSA5.out.gr (hg.trans hal))
  have HGW7 := Lib.hid (HGW5.out.trans (hg.trans hal))
  clear hg hal HSA5 HGW5 p0 p1 p2 p3 HB5 hk5
  go_wp2_with fail
  refine (HSP.out B _ HSA7.out).mono ?_
  rintro e w8 ⟨rfl, hg8⟩
  have HSA8 := Lib.hid (HSA7.out.gr hg8)
  have HGW8 := Lib.hid (HGW7.out.trans hg8)
  have HP8 := Lib.hid (hg8.heap HP7.out)
  clear hg8 HSA7 HGW7 HP7
  go_wp2_with fail
  refine (HSN.out w8).mono ?_
  rintro e w9 ⟨rfl, hg9⟩
  have HSA9 := Lib.hid (HSA8.out.gr hg9)
  have HGW9 := Lib.hid (HGW8.out.trans hg9)
  have hP9 := hg9.heap HP8.out
  obtain ⟨y0, y1, y2, y3, y4, y5, y6, _⟩ := seven_cells hP9
  clear hg9 HSA8 HGW8 HP8 hP9
  go_wp2_with fail
  refine (HE2.out B w9 HSA9.out).mono ?_
  rintro e w10 ⟨rfl, rfl⟩
  go_wp2_with fail
  refine (HK1.out B w9 HSA9.out).mono ?_
  rintro e w10 ⟨rfl, rfl⟩
  go_wp2_with fail
  refine (HK0.out B w9 HSA9.out).mono ?_
  rintro e w10 ⟨rfl, _, hg10⟩
  have HGW10 := Lib.hid (HGW9.out.grb hg10 hBw)
  clear hg10 y0 y1 y2 y3 y4 y5 y6
  go_wp2_with fail
  refine (sendNext_nil w10).mono ?_
  rintro e w11 ⟨rfl, rfl⟩
  go_wp2_with fail
  refine (sendSkip_nil 0 w10).mono ?_
  rintro e w11 ⟨rfl, rfl⟩
  go_wp2_with fail
  refine (sendClone_nil w10).mono ?_
  rintro e w11 ⟨rfl, rfl⟩
  go_wp2_with fail
  refine (sendAwake w10 (HT.out.below HGW10.out)).mono ?_
  rintro e w11 ⟨rfl, hg11⟩
  have hfin := HGW10.out.trans hg11
  clear hg11
  go_wp2
  go_ret
  exact ⟨rfl, hfin⟩
end Go.Proofs.YtdmijoochgmhiacDoor
