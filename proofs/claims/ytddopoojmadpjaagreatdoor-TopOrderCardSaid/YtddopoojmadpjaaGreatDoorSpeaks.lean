/-
  What a relay heard, and what it says by draws.
-/
import Derived.Test.YtddopoojmadpjaaGreatDoorTopRun
import Derived.Test.YtddopoojmadpjaaGreatDoorAppendZ
import Derived.Test.YtddopoojmadpjaaGreatDoorRegionTail
namespace Go.Proofs.YtddopoojmadpjaaGreatDoor
open Go.RowKit
set_option linter.unusedVariables false

theorem putAll_snoc (V vs : List (List UInt8)) (v : List UInt8) : putAll V (vs ++ [v]) = putV (putAll V vs) v := by unfold putAll; rw [List.foldl_append]; rfl
/-- packets, and the vectors of what they tell. -/
def Goods (n s q id : Nat) (D : List UInt8 → List UInt8) (ls vs : List (List UInt8)) : Prop :=
  vs.length = ls.length ∧ ∀ (i : Nat) (l v : List UInt8), ls[i]? = some l → vs[i]? = some v → Goodp n s q id D l v ∧ l.length ≤ 1000000

set_option maxRecDepth 100000 in
set_option maxHeartbeats 2000000 in
theorem heard_ok (n s q id first : Nat) (hf : first < 4294967296) (D : List UInt8 → List UInt8) (hD : Lin D q s) (hP : planErr n s q = 0) (hnm : n ≤ 1000000000) (a : Option Addr) (len cap : Nat) (hlen : len ≤ 900) (ls vs : List (List UInt8)) (w : World) (htab : Tab w) (h : Bss w a len cap ls) (hg : Goods n s q id D ls vs) :
    Calls Tryz.prog 13 #[.agg #[.int .i64 (n : Int), .int .i64 (s : Int), .int .i64 (q : Int), .int .u32 (id : Int)], .int .u32 (first : Int), .slice a len cap] w fun e w' =>
      ∃ B T E S, e = .returned (.tuple #[.pointer (some ⟨B, 0, none⟩), .bool true]) ∧ w.heap.size ≤ T ∧ w.heap.size ≤ B ∧ ¬ S B ∧ (∀ b, S b → w.heap.size ≤ b) ∧ RelAt w' B T first ∧ TakS w' S T E n s q id (putAll [] vs) D len ∧ Gr w w' := by
  have HN := Lib.hid fun w => relayNew_ok n s q id first hf D hP (by omega) w
  have hal := (Gr.refl w).alloc (.cells #[.int .i64 (n : Int), .int .i64 (s : Int), .int .i64 (q : Int), .int .u32 (id : Int)] 28)
  have HAL := Lib.hid hal
  have H := Lib.hid h
  have HT := Lib.hid htab
  have HP := Lib.hid hP
  have HGD := Lib.hid hg
  have HD := Lib.hid hD
  have HLS : Hid (ls.length = len) := h.1
  have hcap : len ≤ 9223372036854775807 := by omega
  obtain ⟨p0, p1, p2, p3⟩ := p_four_cells (heap_alloc_new w (.cells #[.int .i64 (n : Int), .int .i64 (s : Int), .int .i64 (q : Int), .int .u32 (id : Int)] 28))
  clear hP hal h htab hg hD
  go_enter Tryz.func13, Tryz.ntmps13
  go_wp2_with fail
  refine (HN.out _).mono ?_
  rintro e w1 ⟨B, T, E, rfl, h1, h2, h3, hR, hTS, hg⟩
  rw [World.size_alloc] at h1
  have HR := Lib.hid hR
  have HTS := Lib.hid hTS
  have HW := Lib.hid (HAL.out.trans hg)
  clear hR hTS hg p0 p1 p2 p3
  go_wp2
  go_loopw [22] (fun i wr => ∃ (j : Nat) (S : Nat → Prop), j ≤ len ∧ i = .int .i64 j ∧ TakS wr S T E n s q id (putAll [] (vs.take j)) D j ∧ (∀ b, S b → w.heap.size ≤ b) ∧ ¬ S B ∧ RelAt wr B T first ∧ Gr w wr) (fun i _ => len - (intOf i).toNat)
  case atStart => exact ⟨0, _, Nat.zero_le _, rfl, HTS.out, fun b hb => by rw [hb]; omega, fun hb => by have hb2 : B = E := hb; omega, HR.out, HW.out⟩
  case round =>
    obtain ⟨j, S, hj, rfl, hts, hS, hSB, hr, hgr⟩ := hrel
    have HTSr := Lib.hid hts
    have HSr := Lib.hid hS
    have HSBr := Lib.hid hSB
    have HRr := Lib.hid hr
    have HGR := Lib.hid hgr
    clear hts hS hSB hr hgr
    by_cases hlt : j < len
    · obtain ⟨b, off, rfl, _⟩ := H.out.at_ (by omega)
      obtain ⟨l, a', n', c', hl, hc, hb⟩ := (H.out.below HGR.out).get hlt
      have hvj : vs[j]? = some (vs[j]'(by rw [HGD.out.1, HLS.out]; exact hlt)) := by simp
      obtain ⟨v, ev⟩ : ∃ v, vs[j]'(by rw [HGD.out.1, HLS.out]; exact hlt) = v := ⟨_, rfl⟩
      rw [ev] at hvj
      obtain ⟨hgd, hlm⟩ := HGD.out.2 j l v hl hvj
      have htk : vs.take (j + 1) = vs.take j ++ [v] := by rw [List.take_add_one, hvj]; rfl
      have hpa : putAll [] (vs.take (j + 1)) = putV (putAll [] (vs.take j)) v := by rw [htk, putAll_snoc]
      have HPA := Lib.hid hpa
      rw [hb.1] at hlm
      have HTK := Lib.hid (take_all T E n s q id S HP.out hnm (putAll [] (vs.take j)) D HD.out j (by omega) a' n' c' l v wr (HT.out.below HGR.out) hb hlm HTSr.out hgd)
      obtain ⟨r0, r1, rf⟩ := two_cells HRr.out
      clear hl hb hvj ev hgd hlm htk hpa
      go_wp2_with fail
      refine HTK.out.mono ?_
      rintro e w4 ⟨rfl, S', hS', hts', hgs⟩
      have hTw : T < wr.heap.size := HTSr.out.lt
      have hBw : B < wr.heap.size := lt_of_block HRr.out
      have hnB : ¬ (fun b => b = T ∨ S b) B := fun hb => hb.elim (fun e => by omega) HSBr.out
      have HR4 : Hid (RelAt w4 B T first) := hgs.heap HRr.out hnB
      have HG4 := Lib.hid (GrS.to_gr HGR.out hgs fun b hb => hb.elim (fun e => by omega) (HSr.out b))
      have hsz := HGR.out.size
      have HS4 : Hid (∀ b, S' b → w.heap.size ≤ b) := fun b hb => (hS' b hb).elim (HSr.out b) fun h => by omega
      have HSB4 : Hid (¬ S' B) := fun hb => (hS' B hb).elim HSBr.out fun h => by omega
      have HTS4 := Lib.hid hts'
      clear hts' hgs hS' hnB r0 r1 rf
      go_wp2
      go_roundw
      case rel => exact ⟨j + 1, S', by omega, by go_num, by rw [HPA.out]; exact HTS4.out, HS4.out, HSB4.out, HR4.out, HG4.out⟩
      case measure => simp [intOf]; omega
    · have hjl : j = len := by omega
      have hge : (len : Int) ≤ (j : Int) := by omega
      have HF : Hid (TakS wr S T E n s q id (putAll [] vs) D len) := by
        show TakS _ _ _ _ _ _ _ _ _ _ _
        have h1 := HTSr.out
        rw [List.take_of_length_le (by rw [HGD.out.1, HLS.out]; omega), hjl] at h1
        exact h1
      clear hjl
      go_wp2
      first | go_ret | go_ret2
      exact ⟨B, T, E, S, rfl, by omega, by omega, HSBr.out, HSr.out, HRr.out, HF.out, HGR.out⟩

/-- draws filled up, or cut. -/
def padTo (R : Nat) (d : List UInt8) : List UInt8 := (d ++ List.replicate R 0).take R
theorem padTo_length (R : Nat) (d : List UInt8) : (padTo R d).length = R := by simp [padTo]
def saidTo (n s q id : Nat) (obj : List UInt8) (V : List (List UInt8)) (first : Nat) (ds : List (List UInt8)) (j : Nat) : List (List UInt8) :=
  (List.range j).map fun i => sentL n s q id obj (first + i) 0 (combL (padTo V.length (ds.getD i [])) V q) 0
theorem saidTo_succ (n s q id : Nat) (obj : List UInt8) (V : List (List UInt8)) (first : Nat) (ds : List (List UInt8)) (j : Nat) : saidTo n s q id obj V first ds (j + 1) = saidTo n s q id obj V first ds j ++ [sentL n s q id obj (first + j) 0 (combL (padTo V.length (ds.getD j [])) V q) 0] := by simp [saidTo, List.range_succ]
theorem saidTo_length (n s q id : Nat) (obj : List UInt8) (V : List (List UInt8)) (first : Nat) (ds : List (List UInt8)) (j : Nat) : (saidTo n s q id obj V first ds j).length = j := by simp [saidTo]

theorem Tab.rel {w w' : World} {B T nx : Nat} (h : Tab w) (hg : GrB w B w') (hR : RelAt w B T nx) : Tab w' := fun k hk => hg.cell (h k hk) fun e => by
  have h0 := h 0 (by decide)
  obtain ⟨r0, _⟩ := two_cells hR
  have e2 : 0 = B := e
  subst e2
  rw [r0] at h0
  cases h0

set_option maxRecDepth 100000 in
set_option maxHeartbeats 2000000 in
theorem speaks_ok (B T E n s q id first mx : Nat) (S : Nat → Prop) (hP : planErr n s q = 0) (hid : id < 4294967296) (hnm : n ≤ 1000000000) (obj : List UInt8) (V : List (List UInt8)) (hV0 : V ≠ []) (a : Option Addr) (len cap : Nat) (ds : List (List UInt8)) (w : World) (htab : Tab w) (hTS : TakS w S T E n s q id V (fun v => combL v (cutL obj s q) s) mx) (hR : RelAt w B T first) (hTB : T ≠ B) (hSB : ¬ S B) (h : Bss w a len cap ds) (hd : ∀ d, d ∈ ds → d.length ≤ 60) (hlen : len ≤ 20) (hfl : first + len ≤ 4294967296) :
    Calls Tryz.prog 14 #[.pointer (some ⟨B, 0, none⟩), .slice a len cap] w fun e w' => ∃ v, e = .returned (.tuple #[v, .bool true]) ∧ RowsV w' w.heap.size v (saidTo n s q id obj V first ds len) none ∧ GrB w B w' := by
  obtain ⟨hs1, hs2, hq1, hq2⟩ := plan_bounds hP
  have hVq := hTS.red.ech.rank_k
  have hV1 : 1 ≤ V.length := by cases V with | nil => exact absurd rfl hV0 | cons _ _ => simp
  have H := Lib.hid h
  have HT := Lib.hid htab
  have HP := Lib.hid hP
  have HTS := Lib.hid hTS
  have HR := Lib.hid hR
  have HSB := Lib.hid hSB
  have HD := Lib.hid hd
  have HV0 := Lib.hid hV0
  have HDS : Hid (ds.length = len) := h.1
  have hBw := lt_of_block hR
  have hTw := hTS.lt
  obtain ⟨gg, es, _, hTA, _, hE, _⟩ := hTS
  obtain ⟨ST, eST⟩ : ∃ x : Nat, (if V.length = q then 1 else 0) = x := ⟨_, rfl⟩
  rw [eST] at hTA
  obtain ⟨r, ar, cr, er, hEc⟩ := hE.cells
  subst er
  have HTA := Lib.hid hTA
  have HEC := Lib.hid hEc
  have hEB : E ≠ B := fun e => by subst e; rw [hR] at hEc; cases hEc
  have hcap : len ≤ 9223372036854775807 := by omega
  have hv0i : ((V.length : Int) == 0) = false := by rw [beq_eq_false_iff_ne]; omega
  obtain ⟨R, eR⟩ : ∃ x, V.length = x := ⟨_, rfl⟩
  have ER := Lib.hid eR
  rw [eR] at HEC hv0i hVq hV1
  have hR0 : (0 : Int) ≤ (R : Int) := by omega
  clear hP h htab hR hSB hd hV0 hTA hE hEc eST eR
  go_enter Tryz.func14, Tryz.ntmps14
  go_wp2
  go_loopw [6, 13] (fun o i wr => ∃ (j : Nat) (v : Value), j ≤ len ∧ i = .int .i64 j ∧ v = o ∧ RowsV wr w.heap.size v (saidTo n s q id obj V first ds j) none ∧ RelAt wr B T (first + j) ∧ GrB w B wr) (fun _ i _ => len - (intOf i).toNat)
  case atStart => exact ⟨0, _, Nat.zero_le _, rfl, rfl, RowsV.nil _ _ _, HR.out, GrB.refl _ _⟩
  case round =>
    obtain ⟨j, v, hj, rfl, rfl, hrow, hr, hgr⟩ := hrel
    have HROW := Lib.hid hrow
    have HRr := Lib.hid hr
    have HGR := Lib.hid hgr
    clear hrow hr hgr
    by_cases hlt : j < len
    · obtain ⟨b, off, rfl, _⟩ := H.out.at_ (by omega)
      have hnoB : ∀ (i : Nat) (u : Int), (#[.pointer (some ⟨T, 0, none⟩), .int .u64 (first : Int)] : Array Value)[i]? ≠ some (.int .u8 u) := fun i u => by match i with | 0 => simp | 1 => simp | i + 2 => simp
      have hba : b ≠ B := fun e => by
        obtain ⟨_, _, _, _, _, hc, _⟩ := H.out.get (i := j) hlt
        obtain ⟨r0, r1, _⟩ := two_cells HR.out
        rw [e] at hc
        match hoff : off + j, hc with
        | 0, hc => rw [r0] at hc; cases hc
        | 1, hc => rw [r1] at hc; cases hc
        | x + 2, hc => have hh : w.heap[B]? = _ := HR.out; simp [World.cell?, hh] at hc
      obtain ⟨d, a', n', c', hdj, hc, hb⟩ := (H.out.gap HGR.out HR.out hnoB (fun y hy => by cases hy; exact hba)).get hlt
      have hd60 := HD.out d (List.mem_of_getElem? hdj)
      have hdd : ds.getD j [] = d := by rw [List.getD_eq_getElem?_getD, hdj]; rfl
      have hn60 : n' ≤ 60 := by rw [← hb.1]; exact hd60
      have hst := saidTo_succ n s q id obj V first ds j
      rw [hdd] at hst
      have HST := Lib.hid hst
      have HTSr : Hid (TakS wr S T E n s q id V (fun v => combL v (cutL obj s q) s) mx) := HTS.out.grS (S1 := fun x => x = B) (GrS.of_grb HGR.out HR.out rfl) hTB (fun x hx e => HSB.out (e ▸ hx))
      have HTAr : Hid (TakAt wr T E n s q id gg ST) := HGR.out.heap HTA.out hTB
      have HECr := Lib.hid (HGR.out.heap HEC.out hEB)
      have HRK := Lib.hid (takerRank_any T E n s q id ST gg q s R cr ar wr HTAr.out HECr.out)
      have HB := Lib.hid hb
      obtain ⟨r0, r1, rf⟩ := two_cells HRr.out
      have R0 := Lib.hid r0
      have hpl := padTo_length R d
      clear hnoB hb hdj hd60 hdd hst hba
      go_wp2_with fail
      refine HRK.out.mono ?_
      rintro e w2 ⟨rfl, hw2⟩
      subst hw2
      go_wp2
      have hHeld : (fun W : World => W.cell? ⟨B, 0, none⟩ = some (.pointer (some ⟨T, 0, none⟩)) ∧ TakAt W T E n s q id gg ST ∧ W.heap[E]? = some (.cells #[.int .i64 (q : Int), .int .i64 (s : Int), .slice ar R cr] 154)) wr.drew := ⟨R0.out, HTAr.out, HECr.out⟩
      refine wp_region_held_drew (S := fun W : World => W.cell? ⟨B, 0, none⟩ = some (.pointer (some ⟨T, 0, none⟩)) ∧ TakAt W T E n s q id gg ST ∧ W.heap[E]? = some (.cells #[.int .i64 (q : Int), .int .i64 (s : Int), .slice ar R cr] 154)) (by kernel_rfl) hHeld (fun _ => ?_)
      refine wpAnyH_takeL 0 rfl (by kernel_rfl) (by kernel_rfl) (by kernel_rfl) (fun _ _ _ h => h) rfl (by assumption) (by (intro w hSw; (try dsimp only at hSw); go_simp; try with_reducible rfl)) ?_
      simp only [Act.put, List.setIfInBounds_toArray, List.set_cons_zero, List.set_cons_succ]
      refine wpAnyH_takeL 2 rfl (by kernel_rfl) (by kernel_rfl) (by kernel_rfl) (fun _ _ _ h => h) rfl (by assumption) (by (intro w hSw; (try dsimp only at hSw); go_simp; try with_reducible rfl)) ?_
      simp only [Act.put, List.setIfInBounds_toArray, List.set_cons_zero, List.set_cons_succ]
      refine wpAnyH_takeL 4 rfl (by kernel_rfl) (by kernel_rfl) (by kernel_rfl) (fun _ _ _ h => h) rfl (by assumption) (by (intro w hSw; (try dsimp only at hSw); go_simp; try with_reducible rfl)) ?_
      simp only [Act.put, List.setIfInBounds_toArray, List.set_cons_zero, List.set_cons_succ]
      refine wpAnyH_takeL 5 rfl (by kernel_rfl) (by kernel_rfl) (by kernel_rfl) (fun _ _ _ h => h) rfl (by assumption) (by (intro w hSw; (try dsimp only at hSw); go_simp; try with_reducible rfl)) ?_
      simp only [Act.put, List.setIfInBounds_toArray, List.set_cons_zero, List.set_cons_succ]
      refine wpAnyH_takeL 6 rfl (by kernel_rfl) (by kernel_rfl) (by kernel_rfl) (fun _ _ _ h => h) rfl (by assumption) (by (intro w hSw; (try dsimp only at hSw); go_simp; try with_reducible rfl)) ?_
      simp only [Act.put, List.setIfInBounds_toArray, List.set_cons_zero, List.set_cons_succ]
      refine wpAnyH_takeL 7 rfl (by kernel_rfl) (by kernel_rfl) (by kernel_rfl) (fun _ _ _ h => h) rfl (by assumption) (by (intro w hSw; (try dsimp only at hSw); go_simp; try with_reducible rfl)) ?_
      simp only [Act.put, List.setIfInBounds_toArray, List.set_cons_zero, List.set_cons_succ]
      refine wpAnyH_takeL 10 rfl (by kernel_rfl) (by kernel_rfl) (by kernel_rfl) (fun _ _ _ h => h) rfl (by assumption) (by (intro w hSw; (try dsimp only at hSw); go_simp; try with_reducible rfl)) ?_
      simp only [Act.put, List.setIfInBounds_toArray, List.set_cons_zero, List.set_cons_succ]
      refine wpAnyH_takeL 11 rfl (by kernel_rfl) (by kernel_rfl) (by kernel_rfl) (fun _ _ _ h => h) rfl (by assumption) (by (intro w hSw; (try dsimp only at hSw); go_simp; try with_reducible rfl)) ?_
      simp only [Act.put, List.setIfInBounds_toArray, List.set_cons_zero, List.set_cons_succ]
      refine wpAnyH_takeL 12 rfl (by kernel_rfl) (by kernel_rfl) (by kernel_rfl) (fun _ _ _ h => h) rfl (by assumption) (by (intro w hSw; (try dsimp only at hSw); go_simp; try with_reducible rfl)) ?_
      simp only [Act.put, List.setIfInBounds_toArray, List.set_cons_zero, List.set_cons_succ]
      refine wpAnyH_takeL 13 rfl (by kernel_rfl) (by kernel_rfl) (by kernel_rfl) (fun _ _ _ h => h) rfl (by assumption) (by (intro w hSw; (try dsimp only at hSw); go_simp; try with_reducible rfl)) ?_
      simp only [Act.put, List.setIfInBounds_toArray, List.set_cons_zero, List.set_cons_succ]
      have hgA : Gr wr (wr.drew.alloc (.cells #[] 5)) := (Gr.refl wr).drew.alloc _
      have HGA := Lib.hid hgA
      clear hHeld hgA
      refine wpAnyH_oneL 1 rfl (by kernel_rfl) rfl (fun K hK => ?_)
      go_simp
      have hHeld : (fun W : World => W.cell? ⟨B, 0, none⟩ = some (.pointer (some ⟨T, 0, none⟩)) ∧ TakAt W T E n s q id gg ST ∧ W.heap[E]? = some (.cells #[.int .i64 (q : Int), .int .i64 (s : Int), .slice ar R cr] 154)) (wr.drew.alloc (.cells #[] 5)) := ⟨HGA.out.cell R0.out, HTAr.out.gr HGA.out, HGA.out.heap HECr.out⟩
      refine hK.out _ _ hHeld ?_
      clear hK K hHeld
      have hO0 : OwnV (wr.drew.alloc (.cells #[] 5)) wr.heap.size (.slice (some ⟨wr.heap.size, 0, none⟩) 0 0) [] := OwnV.made (t := []) (Nat.le_refl _) rfl rfl (by decide)
      refine wpAnyH_oneL 3 rfl (by kernel_rfl) rfl (fun K hK => ?_)
      refine wp_append_bytes (.tmp 25) (.tmp 26) rfl wr.heap.size _ [] rfl hO0 a' n' c' d rfl (HB.out.below HGA.out) (by simp; omega) (by simp) ?_
      intro v3 w3 ho3 hg3 hn3
      rw [List.nil_append] at ho3
      have HG3 := Lib.hid (HGA.out.grown hg3 fun k hk => by cases hk; exact Nat.le_refl _)
      clear hO0 hg3 hn3
      have hHeld : (fun W : World => W.cell? ⟨B, 0, none⟩ = some (.pointer (some ⟨T, 0, none⟩)) ∧ TakAt W T E n s q id gg ST ∧ W.heap[E]? = some (.cells #[.int .i64 (q : Int), .int .i64 (s : Int), .slice ar R cr] 154)) w3 := ⟨HG3.out.cell R0.out, HTAr.out.gr HG3.out, HG3.out.heap HECr.out⟩
      refine hK.out _ _ hHeld ?_
      clear hK K hHeld
      refine wpAnyH_oneL 8 rfl (by kernel_rfl) rfl (fun K hK => ?_)
      go_simp
      go_at_call 21
      refine (takerRank_any T E n s q id ST gg q s R cr ar w3 (HTAr.out.gr HG3.out) (HG3.out.heap HECr.out)).mono ?_
      rintro e w4 ⟨rfl, hw4⟩
      subst hw4
      go_simp
      have hHeld : (fun W : World => W.cell? ⟨B, 0, none⟩ = some (.pointer (some ⟨T, 0, none⟩)) ∧ TakAt W T E n s q id gg ST ∧ W.heap[E]? = some (.cells #[.int .i64 (q : Int), .int .i64 (s : Int), .slice ar R cr] 154)) w3 := ⟨HG3.out.cell R0.out, HTAr.out.gr HG3.out, HG3.out.heap HECr.out⟩
      refine hK.out _ _ hHeld ?_
      clear hK K hHeld
      have hdl : d.length = n' := HB.out.1
      obtain ⟨v5, w5, hr5, ho5, hg5, hn5⟩ := run_append_bytesZ (w := w3) 22 wr.heap.size ho3 R (by omega) HG3.out.size
      have HG5 := Lib.hid (HG3.out.grown hg5 fun k hk => (ho3.lt k hk).1)
      refine wpAnyH_oneL 9 rfl (by kernel_rfl) rfl (fun K hK => ?_)
      refine Lib.wp_append_run w3 (.tmp 27) (.tmp 32) 22 3 rfl _ _ rfl rfl v5 w5 hr5 ?_
      have hHeld : (fun W : World => W.cell? ⟨B, 0, none⟩ = some (.pointer (some ⟨T, 0, none⟩)) ∧ TakAt W T E n s q id gg ST ∧ W.heap[E]? = some (.cells #[.int .i64 (q : Int), .int .i64 (s : Int), .slice ar R cr] 154)) w5 := ⟨HG5.out.cell R0.out, HTAr.out.gr HG5.out, HG5.out.heap HECr.out⟩
      refine hK.out _ _ hHeld ?_
      clear hK K hHeld hr5 hg5 hn5
      simp only [Act.put, List.setIfInBounds_toArray, List.set_cons_zero, List.set_cons_succ]
      refine wpAnyH_oneL 14 rfl (by kernel_rfl) rfl (fun K hK => ?_)
      go_simp
      go_at_call 21
      refine (takerRank_any T E n s q id ST gg q s R cr ar w5 (HTAr.out.gr HG5.out) (HG5.out.heap HECr.out)).mono ?_
      rintro e w6 ⟨rfl, hw6⟩
      subst hw6
      go_simp
      have hHeld : (fun W : World => W.cell? ⟨B, 0, none⟩ = some (.pointer (some ⟨T, 0, none⟩)) ∧ TakAt W T E n s q id gg ST ∧ W.heap[E]? = some (.cells #[.int .i64 (q : Int), .int .i64 (s : Int), .slice ar R cr] 154)) w5 := ⟨HG5.out.cell R0.out, HTAr.out.gr HG5.out, HG5.out.heap HECr.out⟩
      refine hK.out _ _ hHeld ?_
      clear hK K
      obtain ⟨a5, c5, rfl, hb5, hf5⟩ := ho5.bs
      have hl5 : (d ++ List.replicate R (0 : UInt8)).length = n' + R := by simp [hdl]
      rw [hl5] at hb5
      have hbp : Bs w5 a5 R c5 (padTo R d) := hb5.take (by omega)
      have hc5 : n' + R ≤ c5 := hb5.2.1
      rw [hl5]
      have hi1 : (R : Int) ≤ (c5 : Int) := by omega
      have hi2 : (c5 : Int) ≤ 9223372036854775807 := by have := hb5.2.2.1; unfold maxLen at this; omega
      refine wpAnyH_takeL 15 rfl (by kernel_rfl) (by kernel_rfl) (by kernel_rfl) (fun _ _ _ h => h) rfl (by assumption) (by (intro w hSw; (try dsimp only at hSw); go_simp; try with_reducible rfl)) ?_
      simp only [Act.put, List.setIfInBounds_toArray, List.set_cons_zero, List.set_cons_succ]
      have hgw5 : GrB w B w5 := HGR.out.gr HG5.out
      have htab5 : Tab w5 := HT.out.rel hgw5 HR.out
      have hSay := say_ok B T E n s q id (first + j) mx S HP.out hid hnm (by omega) obj V HV0.out a5 c5 (padTo R d) w5 htab5 (HTSr.out.gr HG5.out) (HG5.out.heap HRr.out) (by rw [ER.out]; exact hbp)
      rw [ER.out] at hSay
      have HSAY := Lib.hid hSay
      have HROW5 := Lib.hid (HROW.out.gr HG5.out)
      have HR5 : Hid (RelAt w5 B T (first + j)) := HG5.out.heap HRr.out
      have HST2 := HST.out
      rw [ER.out] at HST2
      have hpos := sentL_pos n s q id obj (first + j) 0 (combL (padTo R d) V q) 0
      obtain ⟨TX, eTX⟩ : ∃ x, sentL n s q id obj (first + j) 0 (combL (padTo R d) V q) 0 = x := ⟨_, rfl⟩
      rw [eTX] at HSAY HST2 hpos
      have HSTX := Lib.hid HST2
      clear hb5 hbp hf5 hl5 ho5 hc5 hi1 hi2 hSay htab5 HST2 eTX ho3 HG3 HGA
      refine wpAnyH_oneL 16 rfl (by kernel_rfl) rfl (fun K hK => ?_)
      go_simp
      go_at_call 36
      refine HSAY.out.mono ?_
      rintro e w7 ⟨a7, k7, c7, rfl, hb7, hf7, hr7, hg7⟩
      go_simp
      obtain ⟨q0, q1, -⟩ := two_cells hr7
      have hHeld : (fun W : World => W.cell? ⟨B, 0, none⟩ = some (.pointer (some ⟨T, 0, none⟩)) ∧ TakAt W T E n s q id gg ST ∧ W.heap[E]? = some (.cells #[.int .i64 (q : Int), .int .i64 (s : Int), .slice ar R cr] 154)) w7 := ⟨q0, hg7.heap (HTAr.out.gr HG5.out) hTB, hg7.heap (HG5.out.heap HECr.out) hEB⟩
      refine hK.out _ _ hHeld ?_
      clear hK K
      refine wpAnyH_takeL 17 rfl (by kernel_rfl) (by kernel_rfl) (by kernel_rfl) (fun _ _ _ h => h) rfl (by assumption) (by (intro w hSw; (try dsimp only at hSw); go_simp; try with_reducible rfl)) ?_
      simp only [Act.put, List.setIfInBounds_toArray, List.set_cons_zero, List.set_cons_succ]
      refine wpAnyH_takeL 18 rfl (by kernel_rfl) (by kernel_rfl) (by kernel_rfl) (fun _ _ _ h => h) rfl (by assumption) (by (intro w hSw; (try dsimp only at hSw); go_simp; try with_reducible rfl)) ?_
      simp only [Act.put, List.setIfInBounds_toArray, List.set_cons_zero, List.set_cons_succ]
      refine wpAnyH_takeL 19 rfl (by kernel_rfl) (by kernel_rfl) (by kernel_rfl) (fun _ _ _ h => h) rfl (by assumption) (by (intro w hSw; (try dsimp only at hSw); go_simp; try with_reducible rfl)) ?_
      simp only [Act.put, List.setIfInBounds_toArray, List.set_cons_zero, List.set_cons_succ]
      refine wpAnyH_takeL 20 rfl (by kernel_rfl) (by kernel_rfl) (by kernel_rfl) (fun _ _ _ h => h) rfl (by assumption) (by (intro w hSw; (try dsimp only at hSw); go_simp; try with_reducible rfl)) ?_
      simp only [Act.put, List.setIfInBounds_toArray, List.set_cons_zero, List.set_cons_succ]
      refine wpAnyH_takeL 21 rfl (by kernel_rfl) (by kernel_rfl) (by kernel_rfl) (fun _ _ _ h => h) rfl (by assumption) (by (intro w hSw; (try dsimp only at hSw); go_simp; try with_reducible rfl)) ?_
      simp only [Act.put, List.setIfInBounds_toArray, List.set_cons_zero, List.set_cons_succ]
      refine wpAnyH_done (by kernel_rfl) ?_ _
      have hk7 : 0 < k7 := by rw [← hb7.1]; exact hpos
      have hblk := hb7.lt_ hk7
      have hownB : v.ownBlock ≠ some B := fun e => by have := (HROW.out.lt _ e).1; omega
      have hownlt : ∀ k, v.ownBlock = some k → w.heap.size ≤ k ∧ k < wr.heap.size := HROW.out.lt
      have hrow7 := HROW5.out.gap hg7 HR5.out (fun i u => by match i with | 0 => simp | 1 => simp | i + 2 => simp) hownB
      have hgr7 := (HGR.out.gr HG5.out).trans hg7
      have hsz75 := hg7.size
      have hsz5r := HG5.out.size
      have hsaidl := saidTo_length n s q id obj V first ds j
      have hal := (Gr.refl w7).alloc (.cells #[.slice a7 k7 c7] 22)
      have hcl := one_cell (heap_alloc_new w7 (.cells #[.slice a7 k7 c7] 22))
      clear hHeld q0 q1 r0 r1 rf
      go_wp2_with (with_reducible refine wpList_hold (o := ⟨some 48, _, _, _, _, _⟩) ?_)
      change wpList _ _ _ _ _ _
      obtain ⟨W8, eW⟩ : ∃ W, w7.alloc (.cells #[.slice a7 k7 c7] 22) = W := ⟨_, rfl⟩
      rw [eW] at hal hcl ⊢
      clear eW
      have hgw8 := hgr7.gr hal
      refine wpList_append_rows rfl (.tmp 45) (.tmp 47) rfl w.heap.size rfl (hrow7.gr hal) rfl hcl (hb7.below hal) (fun y hy => ⟨fun e => by have h1 := (hownlt _ e).2; have h2 := hf7 y hy; omega, by have := hblk y hy; have := hal.size; omega⟩) (by rw [hsaidl]; omega) hgw8.size ?_
      intro v8 w8 hr8 hg8 hn8
      have HR8 := Lib.hid hr8
      have HRF : Hid (RelAt w8 B T (first + (j + 1))) := by
        show w8.heap[B]? = _
        have h1 : RelAt W8 B T (first + j + 1) := hal.heap hr7
        rw [hg8.block B (lt_of_block h1) (fun e => hownB e.symm)]
        exact h1
      have HG8 := Lib.hid (hgw8.grown hg8 fun k hk => (hownlt k hk).1)
      clear hr8 hg8 hn8 hrow7 hgr7 hal hcl hb7 hf7 hr7 hg7 hblk hgw8 hownB hownlt
      go_wp2
      go_roundw
      case rel => exact ⟨j + 1, v8, by omega, by go_num, rfl, by rw [HSTX.out]; exact HR8.out, HRF.out, HG8.out⟩
      case measure => simp [intOf]; omega
    · have hjl : j = len := by omega
      have hge : (len : Int) ≤ (j : Int) := by omega
      have HF : Hid (RowsV wr w.heap.size v (saidTo n s q id obj V first ds len) none) := by
        show RowsV _ _ _ _ _
        rw [← hjl]; exact HROW.out
      clear hjl
      go_wp2
      first | go_ret | go_ret2
      exact ⟨v, rfl, HF.out, HGR.out⟩
end Go.Proofs.YtddopoojmadpjaaGreatDoor
