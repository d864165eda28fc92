/-
  The walk of the document's Cut.
-/
import Derived.Test.YtdmijoochgmhiacDoorCutCut
import Derived.Test.YtdmijoochgmhiacDoorPlanRef
import Derived.Test.YtdmijoochgmhiacDoorRowsV
import Derived.Test.YtdmijoochgmhiacDoorSlices
namespace Go.Proofs.YtdmijoochgmhiacDoor
open Go.RowKit

theorem piece_get (obj : List UInt8) (s m r : Nat) (hr : r < s) : (pieceL obj s m)[r]? = some (obj.getD (m * s + r) 0) := by
  unfold pieceL
  by_cases h : m * s + r < obj.length
  · have h1 : r < ((obj.drop (m * s)).take s).length := by simp; omega
    rw [List.getElem?_append_left h1, List.getElem?_take, if_pos hr, List.getElem?_drop, List.getD_eq_getElem?_getD, List.getElem?_eq_getElem h]
    rfl
  · have h1 : ((obj.drop (m * s)).take s).length ≤ r := by simp; omega
    rw [List.getElem?_append_right h1, List.getElem?_replicate, if_pos (by omega), List.getD_eq_getElem?_getD, List.getElem?_eq_none (by omega)]
    rfl
theorem piece_take (obj : List UInt8) (s m r : Nat) (hr : r < s) : (pieceL obj s m).take r ++ [obj.getD (m * s + r) 0] = (pieceL obj s m).take (r + 1) := by
  rw [List.take_add_one, piece_get obj s m r hr]; rfl
theorem cut_take (obj : List UInt8) (s q m : Nat) (h : m < q) : (cutL obj s q).take m ++ [pieceL obj s m] = (cutL obj s q).take (m + 1) := by
  rw [List.take_add_one, cutL_get obj s q m h]; rfl

/-- the state at the head of a round. -/
def RefC (wA : World) (base : Nat) (vo vn : Value) (rows : List (List UInt8)) (part : List UInt8) (w : World) : Prop :=
  RowsV w base vo rows vn.ownBlock ∧ OwnV w base vn part ∧ (vo.ownBlock = none ∨ vo.ownBlock ≠ vn.ownBlock) ∧ Gr wA w
/-- behind a byte. -/
theorem RefC.byte {wA w w2 : World} {base : Nat} {vo vn v2 : Value} {rows : List (List UInt8)} {part : List UInt8} {b : UInt8} {o : Obj} (h : RefC wA base vo vn rows part w) (hA : wA.heap.size ≤ base) (ho : OwnV w2 base v2 (part ++ [b]))
    (hg : (w.alloc o).grownBy w2 vn.ownBlock) (hn : v2.ownBlock = vn.ownBlock ∨ v2.ownBlock = some (w.alloc o).heap.size) : RefC wA base vo v2 rows (part ++ [b]) w2 := by
  obtain ⟨h1, h2, h3, h4⟩ := h
  have ha := (Gr.refl w).alloc o
  have hlt := h1.lt
  refine ⟨(h1.gr ha).grown hg h3 ?_, ho, ?_, (h4.trans ha).grown hg (fun k hk => Nat.le_trans hA ((h2.lt k hk).1))⟩
  · rcases hn with hn | hn
    · exact .inl hn
    · exact .inr fun k hk => by rw [hn] at hk; cases hk; exact Nat.le_refl _
  · rcases h3 with h3 | h3
    · exact .inl h3
    · rcases hn with hn | hn
      · rw [hn]; exact .inr h3
      · cases hv : vo.ownBlock with
        | none => exact .inl rfl
        | some k =>
          refine .inr ?_
          rw [hn]
          intro e
          have := (hlt k hv).2
          have e' := Option.some.inj e
          have := ha.size
          omega
/-- behind a symbol that is full. -/
theorem RefC.row {wA w w2 : World} {base : Nat} {vo vn v2 : Value} {rows : List (List UInt8)} {part : List UInt8} {o : Obj} (h : RefC wA base vo vn rows part w) (hA : wA.heap.size ≤ base) (ho : RowsV w2 base v2 (rows ++ [part]) none)
    (hg : (w.alloc o).grownBy w2 vo.ownBlock) : RefC wA base v2 (.slice none 0 0) (rows ++ [part]) [] w2 := by
  obtain ⟨h1, h2, h3, h4⟩ := h
  refine ⟨ho, OwnV.nil _ _, ?_, (h4.alloc o).grown hg (fun k hk => Nat.le_trans hA ((h1.lt k hk).1))⟩
  cases v2.ownBlock with
  | none => exact .inl rfl
  | some k => exact .inr (by simp [Value.ownBlock])

set_option maxHeartbeats 1000000 in
theorem refCut_bad (len size sym : Int) (id : Int) (hm : len ≤ 9223372036854775807) (hsm : size ≤ 9223372036854775807) (a : Option Addr) (n cap : Nat) (_ : n ≤ 9223372036854775807) (hE : cutErr len size sym n ≠ 0) (w : World) :
    Calls Tryd.prog 25 #[.agg #[.int .i64 len, .int .i64 size, .int .i64 sym, .int .u32 id], .slice a n cap] w fun e w' => e = .returned (.tuple #[.slice none 0 0, .int .i64 (cutErr len size sym n : Nat)]) ∧ Gr w w' := by
  have CC := Lib.hid (refCheck_any len size sym id hm hsm)
  by_cases hP : planErr len size sym = 0
  · have hl : (n : Int) ≠ len := by
      intro h
      exact hE (by rw [cutErr, if_neg (by simpa using hP), if_neg (by simpa using h)])
    have HE : Hid (cutErr len size sym n = 4) := by show _ = _; rw [cutErr, if_neg (by simpa using hP), if_pos hl]
    have H0 := Lib.hid hP
    have ht : ((n : Int) != len) = true := by rw [bne_iff_ne]; exact hl
    clear hP hl hE
    go_enter Tryd.func25, Tryd.ntmps25
    go_wp2_with fail
    refine (CC.out _).mono ?_
    rintro e w1 ⟨rfl, hg⟩
    rw [H0.out]
    have hB := hg.heap (heap_alloc_new w _)
    have c0 : w1.cell? ⟨w.heap.size, 0, none⟩ = some (.int .i64 len) := by simp [World.cell?, hB]
    have hgw := ((Gr.refl w).alloc _).trans hg
    clear hB hg
    go_wp2
    go_ret2
    exact ⟨by rw [HE.out]; rfl, hgw⟩
  · have HE : Hid (cutErr len size sym n = planErr len size sym) := by show _ = _; rw [cutErr, if_pos hP]
    obtain ⟨q, hq⟩ : ∃ q, planErr len size sym = q := ⟨_, rfl⟩
    rw [hq] at HE CC hP
    have ht : ((q : Int) != 0) = true := by rw [bne_iff_ne]; omega
    clear hq hE hP
    go_enter Tryd.func25, Tryd.ntmps25
    go_wp2_with fail
    refine (CC.out _).mono ?_
    rintro e w1 ⟨rfl, hg⟩
    go_wp2
    go_ret2
    exact ⟨by rw [HE.out]; rfl, ((Gr.refl w).alloc _).trans hg⟩

set_option maxRecDepth 100000 in
set_option maxHeartbeats 4000000 in
theorem refCut_ok (n s q : Nat) (id : Int) (hE : planErr n s q = 0) (a : Option Addr) (cap : Nat) (obj : List UInt8) (w : World) (hb : Bs w a n cap obj) (hm : n ≤ 140737488355328) :
    Calls Tryd.prog 25 #[.agg #[.int .i64 (n : Int), .int .i64 (s : Int), .int .i64 (q : Int), .int .u32 id], .slice a n cap] w fun e w' =>
      ∃ a' cap', e = .returned (.tuple #[.slice a' q cap', .int .i64 0]) ∧ Bss w' a' q cap' (cutL obj s q) ∧ Gr w w' := by
  obtain ⟨hs1, hs2, hq1, hq2⟩ := plan_bounds hE
  have CC := Lib.hid (refCheck_any n s q id (by omega) (by omega))
  have HL := Lib.hid hb.1
  have H0 := Lib.hid hE
  have hT : (s : Int) * (q : Int) = ((q * s : Nat) : Int) := by rw [Int.natCast_mul]; exact Int.mul_comm _ _
  have hTm : q * s ≤ 4096 * 65535 := Nat.mul_le_mul hq2 hs2
  obtain ⟨T, hTe⟩ : ∃ T, q * s = T := ⟨_, rfl⟩
  rw [hTe] at hT hTm
  have HT := Lib.hid hTe
  have hTi : (T : Int) ≤ 268431360 := by omega
  clear hE hTe hTm
  go_enter Tryd.func25, Tryd.ntmps25
  go_wp2_with fail
  refine (CC.out _).mono ?_
  rintro e w1 ⟨rfl, hg⟩
  rw [H0.out]
  have hbA := hb.below ((Gr.refl w).alloc (.cells #[.int .i64 (n : Int), .int .i64 (s : Int), .int .i64 (q : Int), .int .u32 id] 61))
  have hAn := heap_alloc_new w (.cells #[.int .i64 (n : Int), .int .i64 (s : Int), .int .i64 (q : Int), .int .u32 id] 61)
  have hgA := (Gr.refl w).alloc (.cells #[.int .i64 (n : Int), .int .i64 (s : Int), .int .i64 (q : Int), .int .u32 id] 61)
  obtain ⟨wA, hwA⟩ : ∃ x, x = w.alloc (.cells #[.int .i64 (n : Int), .int .i64 (s : Int), .int .i64 (q : Int), .int .u32 id] 61) := ⟨_, rfl⟩
  rw [← hwA] at hg hbA hAn hgA
  have HAN := Lib.hid hAn
  have hB := hg.heap hAn
  have c0 : w1.cell? ⟨w.heap.size, 0, none⟩ = some (.int .i64 (n : Int)) := by simp [World.cell?, hB]
  clear hB hwA hAn
  go_wp2
  go_loopw [7, 8, 9] (fun vo vn i wr => ∃ m r : Nat, m ≤ q ∧ r < s ∧ (m = q → r = 0) ∧ i = .int .i64 ((m * s + r : Nat) : Int) ∧ RefC wA wA.heap.size vo vn ((cutL obj s q).take m) ((pieceL obj s m).take r) wr) (fun _ _ i _ => T - (intOf i).toNat)
  case atStart => exact ⟨0, 0, by omega, by omega, by omega, by simp, RowsV.nil _ _ _, OwnV.nil _ _, .inl rfl, hg⟩
  case round =>
    obtain ⟨m, r, hmq, hrs, hmr, rfl, hc⟩ := hrel
    by_cases hlt : m < q
    · have htT : m * s + r < T := by
        have h1 : (m + 1) * s ≤ q * s := Nat.mul_le_mul_right s hlt
        rw [HT.out, Nat.add_mul, Nat.one_mul] at h1
        omega
      have hpt := piece_take obj s m r hrs
      have hln : ((pieceL obj s m).take (r + 1)).length = r + 1 := by rw [List.length_take, pieceL_length]; omega
      have HCT := Lib.hid (cut_take obj s q m hlt)
      have hfull : Hid (r + 1 = s → (pieceL obj s m).take (r + 1) = pieceL obj s m) := fun h => List.take_of_length_le (by rw [pieceL_length]; omega)
      have hsz : Hid (((pieceL obj s m).take r).length + 1 ≤ 140737488355328) := by show _ ≤ _; rw [List.length_take, pieceL_length]; omega
      have hrows : Hid ((((cutL obj s q).take m).length + 1) * 24 ≤ 140737488355328) := by show _ ≤ _; rw [List.length_take, cutL_length]; omega
      obtain ⟨t, ht⟩ : ∃ t, m * s + r = t := ⟨_, rfl⟩
      rw [ht] at htT hpt ⊢
      have hnext : Hid (m * s + (r + 1) = t + 1) := by show _ = _; omega
      have hnext2 : Hid (r + 1 = s → (m + 1) * s + 0 = t + 1) := fun h => by rw [Nat.add_mul]; omega
      have HPT := Lib.hid hpt
      have HLN := Lib.hid hln
      have HRS := Lib.hid hrs
      have HMR := Lib.hid hmr
      have HMQ := Lib.hid hlt
      have htT' : (t : Int) < (T : Int) := by omega
      have hgr := hc.2.2.2
      have hown := hc.2.1
      have HC := Lib.hid hc
      have hbr := hbA.below hgr
      have hB := hgr.heap HAN.out
      have c0 : wr.cell? ⟨w.heap.size, 0, none⟩ = some (.int .i64 (n : Int)) := by simp [World.cell?, hB]
      have c1 : wr.cell? ⟨w.heap.size, 1, none⟩ = some (.int .i64 (s : Int)) := by simp [World.cell?, hB]
      have c2 : wr.cell? ⟨w.heap.size, 2, none⟩ = some (.int .i64 (q : Int)) := by simp [World.cell?, hB]
      have hbase := hgr.size
      clear ht hpt hln hrs hmr hc hB hlt hmq htT
      by_cases htn : t < n
      · obtain ⟨bb, off, rfl, hbl, _⟩ := hbr.at_ (by omega)
        obtain ⟨u, hu, hcu⟩ := hbr.get htn
        have hU : Hid (obj.getD t 0 = u) := by show _ = _; rw [List.getD_eq_getElem?_getD, hu]; rfl
        have hlit : Bs (wr.alloc (.cells #[.int .u8 (u.toNat : Int)] 5)) (some ⟨wr.heap.size, 0, none⟩) 1 1 [obj.getD t 0] := by rw [hU.out]; exact Bs.of_alloc rfl rfl (by decide) rfl
        clear hu hbr
        by_cases hfs : r + 1 = s
        · have hf1 : ((r : Int) + 1 == (s : Int)) = true := by rw [beq_iff_eq]; omega
          have HFS := Lib.hid hfs
          clear hfs
          have hgt := HC.out.2.2.1
          go_wp2_with (with_reducible refine wpList_hold (o := ⟨some 41, _, _, _, _, _⟩) ?_)
          change wpList _ _ _ _ _ _
          refine wpList_append_bytes rfl (.tmp 38) (.tmp 40) rfl wA.heap.size u8 ((pieceL obj s m).take r) rfl (hown.gr ((Gr.refl wr).alloc _)) (some ⟨wr.heap.size, 0, none⟩) 1 1 [obj.getD t 0] rfl hlit hsz.out (Nat.le_trans hbase ((Gr.refl wr).alloc _).size) ?_
          intro v2 w2 ho2 hg2 hn2
          have hC2 := HC.out.byte (Nat.le_refl _) ho2 hg2 hn2
          rw [HPT.out] at hC2 ho2
          obtain ⟨a2, cap2, hv2, hb2⟩ := ho2.slice
          rw [HLN.out] at hv2 hb2
          subst hv2
          have hB2 := hC2.2.2.2.heap HAN.out
          have e1 : w2.cell? ⟨w.heap.size, 1, none⟩ = some (.int .i64 (s : Int)) := by simp [World.cell?, hB2]
          clear hB2 hg2 hn2 ho2 hgt
          have HC2 := Lib.hid hC2
          have HB2 := Lib.hid hb2
          clear hC2 hb2
          go_wp2_with (with_reducible refine wpList_hold (o := ⟨some 50, _, _, _, _, _⟩) ?_)
          change wpList _ _ _ _ _ _
          have ha2 := (Gr.refl w2).alloc (.cells #[.slice a2 (r + 1) cap2] 35)
          refine wpList_append_rows (v := u7) rfl (.tmp 47) (.tmp 49) rfl wA.heap.size rfl (HC2.out.1.gr ha2) rfl (ad := ⟨w2.heap.size, 0, none⟩) (by rw [World.cell?_alloc_at _ _ _ _ rfl]; rfl) (HB2.out.below ha2) (fun y hy => ⟨?_, ?_⟩) hrows.out (Nat.le_trans HC2.out.2.2.2.size ha2.size) ?_
          · rcases HC2.out.2.2.1 with h | h
            · rw [h]; simp
            · rw [hy] at h; exact h
          · have := HC2.out.2.1.lt y.block (by rw [hy]; rfl)
            exact Nat.lt_of_lt_of_le this.2 ha2.size
          intro v4 w4 ho4 hg4 hn4
          have hC4 := HC2.out.row (Nat.le_refl _) ho4 hg4
          rw [hfull.out HFS.out, HCT.out] at hC4
          have HC4 := Lib.hid hC4
          clear ho4 hg4 hn4 hC4 ha2
          go_wp2
          go_roundw
          case rel => exact ⟨m + 1, 0, by have := HMQ.out; omega, by omega, fun _ => rfl, by rw [hnext2.out HFS.out]; go_num, HC4.out⟩
          case measure => simp [intOf]; omega
        · have hf1 : ((r : Int) + 1 == (s : Int)) = false := by rw [beq_eq_false_iff_ne]; omega
          have HFS := Lib.hid hfs
          clear hfs
          have hgt := HC.out.2.2.1
          go_wp2_with (with_reducible refine wpList_hold (o := ⟨some 41, _, _, _, _, _⟩) ?_)
          change wpList _ _ _ _ _ _
          refine wpList_append_bytes rfl (.tmp 38) (.tmp 40) rfl wA.heap.size u8 ((pieceL obj s m).take r) rfl (hown.gr ((Gr.refl wr).alloc _)) (some ⟨wr.heap.size, 0, none⟩) 1 1 [obj.getD t 0] rfl hlit hsz.out (Nat.le_trans hbase ((Gr.refl wr).alloc _).size) ?_
          intro v2 w2 ho2 hg2 hn2
          have hC2 := HC.out.byte (Nat.le_refl _) ho2 hg2 hn2
          rw [HPT.out] at hC2 ho2
          obtain ⟨a2, cap2, hv2, hb2⟩ := ho2.slice
          rw [HLN.out] at hv2 hb2
          subst hv2
          have hB2 := hC2.2.2.2.heap HAN.out
          have e1 : w2.cell? ⟨w.heap.size, 1, none⟩ = some (.int .i64 (s : Int)) := by simp [World.cell?, hB2]
          clear hB2 hg2 hn2 ho2 hgt
          have HC2 := Lib.hid hC2
          clear hC2 hb2
          go_wp2
          go_roundw
          case rel => exact ⟨m, r + 1, by have := HMQ.out; omega, by have := HRS.out; have := HFS.out; omega, fun h => by have := HMQ.out; omega, by rw [hnext.out]; go_num, HC2.out⟩
          case measure => simp [intOf]; omega
      · have hU : Hid (obj.getD t 0 = 0) := by show _ = _; rw [List.getD_eq_getElem?_getD, List.getElem?_eq_none (by rw [HL.out]; omega)]; rfl
        have hlit : Bs (wr.alloc (.cells #[.int .u8 0] 5)) (some ⟨wr.heap.size, 0, none⟩) 1 1 [obj.getD t 0] := by rw [hU.out]; exact Bs.of_alloc rfl rfl (by decide) rfl
        clear hbr
        by_cases hfs : r + 1 = s
        · have hf1 : ((r : Int) + 1 == (s : Int)) = true := by rw [beq_iff_eq]; omega
          have HFS := Lib.hid hfs
          clear hfs
          have hgt := HC.out.2.2.1
          go_wp2_with (with_reducible refine wpList_hold (o := ⟨some 41, _, _, _, _, _⟩) ?_)
          change wpList _ _ _ _ _ _
          refine wpList_append_bytes rfl (.tmp 38) (.tmp 40) rfl wA.heap.size u8 ((pieceL obj s m).take r) rfl (hown.gr ((Gr.refl wr).alloc _)) (some ⟨wr.heap.size, 0, none⟩) 1 1 [obj.getD t 0] rfl hlit hsz.out (Nat.le_trans hbase ((Gr.refl wr).alloc _).size) ?_
          intro v2 w2 ho2 hg2 hn2
          have hC2 := HC.out.byte (Nat.le_refl _) ho2 hg2 hn2
          rw [HPT.out] at hC2 ho2
          obtain ⟨a2, cap2, hv2, hb2⟩ := ho2.slice
          rw [HLN.out] at hv2 hb2
          subst hv2
          have hB2 := hC2.2.2.2.heap HAN.out
          have e1 : w2.cell? ⟨w.heap.size, 1, none⟩ = some (.int .i64 (s : Int)) := by simp [World.cell?, hB2]
          clear hB2 hg2 hn2 ho2 hgt
          have HC2 := Lib.hid hC2
          have HB2 := Lib.hid hb2
          clear hC2 hb2
          go_wp2_with (with_reducible refine wpList_hold (o := ⟨some 50, _, _, _, _, _⟩) ?_)
          change wpList _ _ _ _ _ _
          have ha2 := (Gr.refl w2).alloc (.cells #[.slice a2 (r + 1) cap2] 35)
          refine wpList_append_rows (v := u7) rfl (.tmp 47) (.tmp 49) rfl wA.heap.size rfl (HC2.out.1.gr ha2) rfl (ad := ⟨w2.heap.size, 0, none⟩) (by rw [World.cell?_alloc_at _ _ _ _ rfl]; rfl) (HB2.out.below ha2) (fun y hy => ⟨?_, ?_⟩) hrows.out (Nat.le_trans HC2.out.2.2.2.size ha2.size) ?_
          · rcases HC2.out.2.2.1 with h | h
            · rw [h]; simp
            · rw [hy] at h; exact h
          · have := HC2.out.2.1.lt y.block (by rw [hy]; rfl)
            exact Nat.lt_of_lt_of_le this.2 ha2.size
          intro v4 w4 ho4 hg4 hn4
          have hC4 := HC2.out.row (Nat.le_refl _) ho4 hg4
          rw [hfull.out HFS.out, HCT.out] at hC4
          have HC4 := Lib.hid hC4
          clear ho4 hg4 hn4 hC4 ha2
          go_wp2
          go_roundw
          case rel => exact ⟨m + 1, 0, by have := HMQ.out; omega, by omega, fun _ => rfl, by rw [hnext2.out HFS.out]; go_num, HC4.out⟩
          case measure => simp [intOf]; omega
        · have hf1 : ((r : Int) + 1 == (s : Int)) = false := by rw [beq_eq_false_iff_ne]; omega
          have HFS := Lib.hid hfs
          clear hfs
          have hgt := HC.out.2.2.1
          go_wp2_with (with_reducible refine wpList_hold (o := ⟨some 41, _, _, _, _, _⟩) ?_)
          change wpList _ _ _ _ _ _
          refine wpList_append_bytes rfl (.tmp 38) (.tmp 40) rfl wA.heap.size u8 ((pieceL obj s m).take r) rfl (hown.gr ((Gr.refl wr).alloc _)) (some ⟨wr.heap.size, 0, none⟩) 1 1 [obj.getD t 0] rfl hlit hsz.out (Nat.le_trans hbase ((Gr.refl wr).alloc _).size) ?_
          intro v2 w2 ho2 hg2 hn2
          have hC2 := HC.out.byte (Nat.le_refl _) ho2 hg2 hn2
          rw [HPT.out] at hC2 ho2
          obtain ⟨a2, cap2, hv2, hb2⟩ := ho2.slice
          rw [HLN.out] at hv2 hb2
          subst hv2
          have hB2 := hC2.2.2.2.heap HAN.out
          have e1 : w2.cell? ⟨w.heap.size, 1, none⟩ = some (.int .i64 (s : Int)) := by simp [World.cell?, hB2]
          clear hB2 hg2 hn2 ho2 hgt
          have HC2 := Lib.hid hC2
          clear hC2 hb2
          go_wp2
          go_roundw
          case rel => exact ⟨m, r + 1, by have := HMQ.out; omega, by have := HRS.out; have := HFS.out; omega, fun h => by have := HMQ.out; omega, by rw [hnext.out]; go_num, HC2.out⟩
          case measure => simp [intOf]; omega
    · have hmq' : m = q := by omega
      have hr0 : r = 0 := hmr hmq'
      subst hmq'
      subst hr0
      have hTe := HT.out
      have hgr := hc.2.2.2
      have hB := hgr.heap HAN.out
      have c1 : wr.cell? ⟨w.heap.size, 1, none⟩ = some (.int .i64 (s : Int)) := by simp [World.cell?, hB]
      have c2 : wr.cell? ⟨w.heap.size, 2, none⟩ = some (.int .i64 (m : Int)) := by simp [World.cell?, hB]
      have hrw := hc.1
      rw [List.take_of_length_le (by rw [cutL_length]; exact Nat.le_refl _)] at hrw
      obtain ⟨a7, cap7, hv7, hb7, _⟩ := hrw.bss
      rw [cutL_length] at hv7 hb7
      subst hv7
      have HB7 := Lib.hid hb7
      have HGR := Lib.hid (hgA.trans hgr)
      rw [Nat.add_zero, hTe]
      clear hB hc hrw hb7 hgr hmr hlt hTe
      go_wp2
      go_ret2
      exact ⟨a7, cap7, rfl, HB7.out, HGR.out⟩
end Go.Proofs.YtdmijoochgmhiacDoor
