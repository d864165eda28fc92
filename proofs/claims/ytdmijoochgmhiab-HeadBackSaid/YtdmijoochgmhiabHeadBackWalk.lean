/-
  The walk of law HeadBack.
-/
import Derived.Test.YtdmijoochgmhiabHeadTellsWalk
namespace Go.Proofs.Ytdmijoochgmhiab
open Go.RowKit

/-- bytes that are copied: append to an empty literal. -/
theorem OwnV.lit {w : World} {base : Nat} (hb : base ≤ w.heap.size) : OwnV (w.alloc (.cells #[] 5)) base (.slice (some ⟨w.heap.size, 0, none⟩) 0 0) [] := OwnV.made hb rfl rfl (Nat.zero_le _)
theorem headErr_headL (m o n : Nat) (hm : m ≤ 1) (l : List UInt8) : headErr (headL m o n ++ l) = 0 := by
  have e0 : (headL m o n ++ l).getD 0 0 = 1 := by simp [headL]
  have e1 : (headL m o n ++ l).getD 1 0 = UInt8.ofNat m := by simp [headL]
  have e2 : (UInt8.ofNat m).toNat = m := by rw [UInt8.toNat_ofNat']; omega
  have e3 : ¬ (headL m o n ++ l).length < 10 := by simp [headL, put4]
  unfold headErr
  rw [if_neg e3, e0, e1, e2, if_neg (by decide), if_neg (by omega)]
theorem headM_headL (m o n : Nat) (hm : m ≤ 1) (l : List UInt8) : headM (headL m o n ++ l) = m := by
  have e1 : (headL m o n ++ l).getD 1 0 = UInt8.ofNat m := by simp [headL]
  unfold headM; rw [e1, UInt8.toNat_ofNat']; omega
theorem headO_headL (m o n : Nat) (ho : o < 4294967296) (l : List UInt8) : headO (headL m o n ++ l) = o := by
  have e : ((headL m o n ++ l).take 6).drop 2 = put4 o := by simp [headL, put4]
  unfold headO; rw [e, get4_put4 o ho]
theorem headN_headL (m o n : Nat) (hn : n < 4294967296) (l : List UInt8) : headN (headL m o n ++ l) = n := by
  have e : ((headL m o n ++ l).take 10).drop 6 = put4 n := by simp [headL, put4]
  unfold headN; rw [e, get4_put4 n hn]
theorem drop_headL (m o n : Nat) (l : List UInt8) : (headL m o n ++ l).drop 10 = l := by simp [headL, put4]
theorem headL_length (m o n : Nat) : (headL m o n).length = 10 := by simp [headL, put4]
/-- what is read is written as it was. -/
theorem headL_read (l : List UInt8) (h : headErr l = 0) : headL (headM l) (headO l) (headN l) ++ l.drop 10 = l := by
  obtain ⟨h1, h2, h3⟩ := headErr_zero h
  match l, h1, h2, h3 with
  | x0 :: x1 :: x2 :: x3 :: x4 :: x5 :: x6 :: x7 :: x8 :: x9 :: r, _, h2, h3 =>
    have e0 : x0 = 1 := UInt8.toNat_inj.1 (by simpa using h2)
    have e1 : UInt8.ofNat x1.toNat = x1 := by simp
    have e2 := put4_get4 [x2, x3, x4, x5] rfl
    have e3 := put4_get4 [x6, x7, x8, x9] rfl
    simp only [headL, headM, headO, headN, List.getD_cons_succ, List.getD_cons_zero, List.take_succ_cons, List.take_zero, List.drop_succ_cons, List.drop_zero, e1, e2, e3, e0]
    rfl

set_option maxRecDepth 100000 in
set_option maxHeartbeats 4000000 in
theorem headBack_walk (w : World) (m : Nat) (_ : m < 256) (o : Nat) (ho : o < 4294967296) (n : Nat) (hn : n < 4294967296) (a : Option Addr) (len cap : Nat) (l : List UInt8) (hl : Bs w a len cap l) (k : Nat) (hk : k < 256) :
    Calls Try.prog 8 #[.agg #[.int .u8 (m : Int), .int .u32 (o : Int), .int .u32 (n : Int)], .slice a len cap, .int .u8 (k : Int)] w fun e w' => e = .returned (.bool true) ∧ Gr w w' := by
  have hmx : len ≤ 9223372036854775807 := by have h1 := hl.2.1; have h2 := hl.2.2.1; unfold maxLen at h2; omega
  have hlen := Lib.hid hl.1
  by_cases h300 : 300 < len
  · have h300' : (300 : Int) < (len : Int) := by omega
    go_enter Try.func8, Try.ntmps8
    go_wp2_with fail
    refine (headAwake_any _).mono ?_
    rintro e w1 ⟨rfl, hg1⟩
    go_wp2
    go_ret
    exact ⟨rfl, ((Gr.refl w).alloc _).trans hg1⟩
  have h300' : ¬ (300 : Int) < (len : Int) := by omega
  by_cases hm : m ≤ 1
  · have HM := Lib.hid hm
    go_enter Try.func8, Try.ntmps8
    go_wp2_with fail
    refine (headAwake_any _).mono ?_
    rintro e w1 ⟨rfl, hg1⟩
    have hB1 := hg1.heap (heap_alloc_new w _)
    have hgw1 : Gr w w1 := ((Gr.refl w).alloc _).trans hg1
    obtain ⟨cc0, cc1, cc2, _⟩ := three_cells hB1
    have HB1 := Lib.hid hB1
    clear hB1 hg1
    go_wp2_with fail
    refine (headBytes_ok m o n hm ho hn w1).mono ?_
    rintro e w2 ⟨a2, cap2, rfl, ho2, hg2⟩
    obtain ⟨hb2, _⟩ := ho2.bs'
    have hgw2 := hgw1.trans hg2
    have HB2 := Lib.hid (hg2.heap HB1.out)
    have hq3 : ([] : List UInt8).length + 10 ≤ 140737488355328 := by simp
    have hbase3 : w2.heap.size ≤ (w2.alloc (.cells #[] 5)).heap.size := ((Gr.refl w2).alloc _).size
    clear cc0 cc1 cc2 hm
    have hb3 := hb2.below ((Gr.refl w2).alloc (.cells #[] 5))
    have hl3 := hl.below hgw2
    have hq4 : ([] ++ headL m o n).length + len ≤ 140737488355328 := by rw [List.nil_append, headL_length]; omega
    go_wp2_with (first
      | (at_builtin; refine wpList_append_bytes rfl (.tmp 33) (.tmp 34) rfl w2.heap.size _ [] rfl (OwnV.lit (Nat.le_refl _)) a2 10 cap2 (headL m o n) rfl hb3 hq3 hbase3 ?_; intro v3 w3 ho3 hg3 hn3; have hG3 : Gr w2 w3 := ((Gr.refl w2).alloc _).grown hg3 (fun k hk => by cases hk; exact Nat.le_refl _))
      | (at_builtin; refine wpList_append_bytes rfl (.tmp 35) (.tmp 36) rfl w2.heap.size _ ([] ++ headL m o n) rfl ho3 a len cap l rfl (hl3.below hG3) hq4 hG3.size ?_; intro v4 w4 ho4 hg4 hn4))
    have hG4 : Gr w2 w4 := Gr.grown hG3 hg4 (fun q hq => (ho3.lt q hq).1)
    obtain ⟨a4, cap4, hv4, hb4⟩ := ho4.slice
    rw [List.nil_append] at hb4 hv4
    have hlen4 : (headL m o n ++ l).length = 10 + len := by rw [List.length_append, headL_length, hlen.out]
    rw [hlen4] at hb4 hv4
    subst hv4
    clear ho4 hg4 hn4 hn3 hg3 ho3 hlen4 hq4 hq3 hbase3 hb3
    have e0 := headErr_headL m o n HM.out l
    go_wp2_with fail
    refine (headRead_ok a4 (10 + len) cap4 (headL m o n ++ l) w4 hb4 e0 (by omega)).mono ?_
    rintro e w5 ⟨a5, cap5, rfl, hb5, hg5⟩
    rw [headM_headL m o n HM.out l, headO_headL m o n ho l, headN_headL m o n hn l, drop_headL] at *
    rw [show 10 + len - 10 = len by omega] at *
    clear hb4 e0
    have hk1 : (0 : Int) ≤ (k : Int) % 10 := by omega
    have hk2 : (k : Int) % 10 ≤ (cap2 : Int) := by have := hb2.2.1; omega
    have e6 : headErr ((headL m o n).take (k % 10)) = 6 := by unfold headErr; rw [if_pos (by rw [List.length_take, headL_length]; omega)]
    have E6 := Lib.hid e6
    have hgw5 : Gr w2 w5 := hG4.trans hg5
    have hst := sameB_self l
    clear e6
    go_wp2_with fail
    refine (headRead_bad a2 (k % 10) cap2 _ _ ((hb2.below (hgw5.alloc _)).take (k := k % 10) (by omega)) (by rw [E6.out]; decide)).mono ?_
    rintro e w6 ⟨rfl, hg6⟩
    rw [E6.out]
    have hgB : Gr w2 w6 := (hgw5.alloc _).trans hg6
    have hC1 := hgB.heap HB2.out
    have hC2 := hg6.heap (heap_alloc_new w5 _)
    have hgD : Gr w2 (w6.alloc (.cells #[.int .u8 0, .int .u32 0, .int .u32 0] 58)) := hgB.alloc _
    have hb5' := (hb5.below ((Gr.refl _).alloc (.cells #[.int .u8 (m : Int), .int .u32 (o : Int), .int .u32 (n : Int)] 58))).below (hg6.alloc (.cells #[.int .u8 0, .int .u32 0, .int .u32 0] 58))
    have hl' := hl3.below hgD
    obtain ⟨cc0, cc1, cc2, _⟩ := three_cells hC1
    obtain ⟨dd0, dd1, dd2, _⟩ := three_cells hC2
    have hz1 := lt_of_block hC1
    have hz2 := lt_of_block hC2
    clear hC1 hC2 hg6 hgB hb5 hl3 hb2 hk1 hk2 hg5 hG4 hG3 ho2 hg2 HB1 hgw1
    go_wp2_with fail
    refine (same_any a5 a len cap5 len cap l l _ hb5' hl').mono ?_
    rintro e w7 ⟨rfl, hg7⟩
    have hgr : Gr w w7 := (hgw2.trans hgD).trans hg7
    clear cc0 cc1 cc2 dd0 dd1 dd2 hz1 hz2 hb5' hl' hg7 hgD hgw2 hgw5 HB2
    by_cases h0 : headErr l = 0
    · obtain ⟨z1, z2, z3⟩ := headErr_zero h0
      have hM1 := z3
      have hO1 : headO l < 4294967296 := get4_lt _
      have hN1 : headN l < 4294967296 := get4_lt _
      have hlr := headL_read l h0
      have hst := sameB_self l
      rw [hlen.out] at z1
      have cR := headRead_ok a len cap l w7 (hl.below hgr) h0 (by omega)
      change headM l ≤ 1 at hM1
      obtain ⟨x1, hx1⟩ : ∃ x, headM l = x := ⟨_, rfl⟩
      obtain ⟨x2, hx2⟩ : ∃ x, headO l = x := ⟨_, rfl⟩
      obtain ⟨x3, hx3⟩ : ∃ x, headN l = x := ⟨_, rfl⟩
      rw [hx1, hx2, hx3] at cR hlr
      rw [hx1] at hM1
      rw [hx2] at hO1
      rw [hx3] at hN1
      have HLR := Lib.hid hlr
      have HM1 := Lib.hid hM1
      have HO1 := Lib.hid hO1
      have HN1 := Lib.hid hN1
      have CR := Lib.hid cR
      clear h0 z2 z3 hx1 hx2 hx3 hlr hM1 hO1 hN1 cR
      go_wp2_with fail
      refine (CR.out).mono ?_
      rintro e w8 ⟨a8, cap8, rfl, hb8, hg8⟩
      go_wp2_with fail
      refine (headBytes_ok x1 x2 x3 HM1.out HO1.out HN1.out _).mono ?_
      rintro e w9 ⟨a9, cap9, rfl, ho9, hg9⟩
      have hg89 : Gr w8 w9 := ((Gr.refl _).alloc _).trans hg9
      have hgw9 := (hgr.trans hg8).trans hg89
      have hl9 := hl.below hgw9
      have hb9 := hb8.below hg89
      have hq9 : (headL x1 x2 x3).length + (len - 10) ≤ 140737488355328 := by rw [headL_length]; omega
      have hown : OwnV w9 w8.heap.size (.slice a9 10 cap9) (headL x1 x2 x3) := ho9.mono (by simp)
      have hbs : w8.heap.size ≤ w9.heap.size := hg89.size
      clear hg9 hb8
      go_wp2_with (at_builtin; refine wpList_append_bytesG rfl (.tmp 101) (.tmp 102) rfl w8.heap.size _ (headL x1 x2 x3) rfl hown a8 (len - 10) cap8 (l.drop 10) rfl hb9 hq9 hbs ?_; intro v10 w10 ho10 hg10 hn10)
      have hg8t : Gr w8 w10 := Gr.grown hg89 hg10 (fun q hq => (hown.lt q hq).1)
      rw [HLR.out] at ho10
      obtain ⟨a10, cap10, hv10, hb10⟩ := ho10.slice
      subst hv10
      have hl10 := hl.below ((hgr.trans hg8).trans hg8t)
      go_wp2_with fail
      refine (same_any a10 a _ cap10 len cap l l _ hb10 hl10).mono ?_
      rintro e w11 ⟨rfl, hg11⟩
      go_wp2
      go_ret
      exact ⟨rfl, ((hgr.trans hg8).trans hg8t).trans hg11⟩
    · have ht : ((headErr l : Int) != 0) = true := by rw [bne_iff_ne]; omega
      have H0 := Lib.hid h0
      clear h0
      go_wp2_with fail
      refine (headRead_bad a len cap l w7 (hl.below hgr) H0.out).mono ?_
      rintro e w8 ⟨rfl, hg8⟩
      go_wp2
      go_ret
      exact ⟨rfl, (hgr.trans hg8).alloc _⟩
  · go_enter Try.func8, Try.ntmps8
    go_wp2_with fail
    refine (headAwake_any _).mono ?_
    rintro e w1 ⟨rfl, hg1⟩
    have hB1 := hg1.heap (heap_alloc_new w _)
    have hgw1 : Gr w w1 := ((Gr.refl w).alloc _).trans hg1
    obtain ⟨cc0, cc1, cc2, _⟩ := three_cells hB1
    clear hB1 hg1
    go_wp2_with fail
    refine (headBytes_not m o n hm w1).mono ?_
    rintro e w7 ⟨rfl, hg2⟩
    have hgr := hgw1.trans hg2
    clear cc0 cc1 cc2 hg2 hgw1
    by_cases h0 : headErr l = 0
    · obtain ⟨z1, z2, z3⟩ := headErr_zero h0
      have hM1 := z3
      have hO1 : headO l < 4294967296 := get4_lt _
      have hN1 : headN l < 4294967296 := get4_lt _
      have hlr := headL_read l h0
      have hst := sameB_self l
      rw [hlen.out] at z1
      have cR := headRead_ok a len cap l w7 (hl.below hgr) h0 (by omega)
      change headM l ≤ 1 at hM1
      obtain ⟨x1, hx1⟩ : ∃ x, headM l = x := ⟨_, rfl⟩
      obtain ⟨x2, hx2⟩ : ∃ x, headO l = x := ⟨_, rfl⟩
      obtain ⟨x3, hx3⟩ : ∃ x, headN l = x := ⟨_, rfl⟩
      rw [hx1, hx2, hx3] at cR hlr
      rw [hx1] at hM1
      rw [hx2] at hO1
      rw [hx3] at hN1
      have HLR := Lib.hid hlr
      have HM1 := Lib.hid hM1
      have HO1 := Lib.hid hO1
      have HN1 := Lib.hid hN1
      have CR := Lib.hid cR
      clear h0 z2 z3 hx1 hx2 hx3 hlr hM1 hO1 hN1 cR
      go_wp2_with fail
      refine (CR.out).mono ?_
      rintro e w8 ⟨a8, cap8, rfl, hb8, hg8⟩
      go_wp2_with fail
      refine (headBytes_ok x1 x2 x3 HM1.out HO1.out HN1.out _).mono ?_
      rintro e w9 ⟨a9, cap9, rfl, ho9, hg9⟩
      have hg89 : Gr w8 w9 := ((Gr.refl _).alloc _).trans hg9
      have hgw9 := (hgr.trans hg8).trans hg89
      have hl9 := hl.below hgw9
      have hb9 := hb8.below hg89
      have hq9 : (headL x1 x2 x3).length + (len - 10) ≤ 140737488355328 := by rw [headL_length]; omega
      have hown : OwnV w9 w8.heap.size (.slice a9 10 cap9) (headL x1 x2 x3) := ho9.mono (by simp)
      have hbs : w8.heap.size ≤ w9.heap.size := hg89.size
      clear hg9 hb8
      go_wp2_with (at_builtin; refine wpList_append_bytesG rfl (.tmp 101) (.tmp 102) rfl w8.heap.size _ (headL x1 x2 x3) rfl hown a8 (len - 10) cap8 (l.drop 10) rfl hb9 hq9 hbs ?_; intro v10 w10 ho10 hg10 hn10)
      have hg8t : Gr w8 w10 := Gr.grown hg89 hg10 (fun q hq => (hown.lt q hq).1)
      rw [HLR.out] at ho10
      obtain ⟨a10, cap10, hv10, hb10⟩ := ho10.slice
      subst hv10
      have hl10 := hl.below ((hgr.trans hg8).trans hg8t)
      go_wp2_with fail
      refine (same_any a10 a _ cap10 len cap l l _ hb10 hl10).mono ?_
      rintro e w11 ⟨rfl, hg11⟩
      go_wp2
      go_ret
      exact ⟨rfl, ((hgr.trans hg8).trans hg8t).trans hg11⟩
    · have ht : ((headErr l : Int) != 0) = true := by rw [bne_iff_ne]; omega
      have H0 := Lib.hid h0
      clear h0
      go_wp2_with fail
      refine (headRead_bad a len cap l w7 (hl.below hgr) H0.out).mono ?_
      rintro e w8 ⟨rfl, hg8⟩
      go_wp2
      go_ret
      exact ⟨rfl, (hgr.trans hg8).alloc _⟩
end Go.Proofs.Ytdmijoochgmhiab
