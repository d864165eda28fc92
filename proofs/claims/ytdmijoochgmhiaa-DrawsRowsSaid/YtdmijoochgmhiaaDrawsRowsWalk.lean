/-
  The walk of law DrawsRows.
-/
import Derived.Test.YtdmijoochgmhiaaDrawsRows
import Derived.Test.YtdmijoochgmhiaaDrawsTakesWalk
import Derived.Deep.RegionLaw
namespace Go.Proofs.Ytdmijoochgmhiaa
open Go.RowKit
set_option linter.unusedVariables false

theorem chunk_next (l : List UInt8) (k j : Nat) : (l.drop (j * k)).drop k = l.drop ((j + 1) * k) := by rw [List.drop_drop, Nat.succ_mul]
theorem take_next (l : List UInt8) (k j : Nat) : l.take ((j + 1) * k) = l.take (j * k) ++ chunk l k j := by
  rw [chunk, Nat.succ_mul, List.take_add]

theorem OwnV.away {w : World} {base : Nat} {v : Value} {l : List UInt8} {b : Nat} {cs : Array Value} {t : TypeId} {m : Nat × Nat} (h : OwnV w base v l) (hb : w.heap[b]? = some (.cells cs t m)) (ht : t ≠ 5) : v.ownBlock ≠ some b := by
  intro e
  rcases h.2 with ⟨hv, _⟩ | ⟨g, cap, cur, hv, _, hh, _⟩
  · rw [hv] at e; cases e
  · rw [hv] at e
    obtain rfl : g = b := by simpa [Value.ownBlock] using e
    rw [hh] at hb
    cases hb
    exact ht rfl
theorem grown_heap {w w' : World} {row : Option Nat} {b : Nat} {o : Obj} (hg : w.grownBy w' row) (hb : w.heap[b]? = some o) (hne : row ≠ some b) : w'.heap[b]? = some o := by
  rw [hg.block b (lt_of_block hb) (fun e => hne e.symm)]; exact hb

set_option maxRecDepth 100000 in
set_option maxHeartbeats 4000000 in
theorem drawsRows_walk (w : World) (a : Option Addr) (len cap : Nat) (l : List UInt8) (hb : Bs w a len cap l) (k : Int) (hk1 : -9223372036854775808 ≤ k) (hk2 : k ≤ 9223372036854775807) :
    Calls Try.prog 10 #[.slice a len cap, .int .i64 k] w fun e w' => e = .returned (.bool true) ∧ Gr w w' := by
  have hmx : len ≤ 9223372036854775807 := by have h1 := hb.2.1; have h2 := hb.2.2.1; unfold maxLen at h2; omega
  have HB := Lib.hid hb
  have HL := Lib.hid hb.1
  clear hb
  by_cases hbig : 1000 < len
  · have hbig' : (1000 : Int) < (len : Int) := by omega
    go_enter Try.func10, Try.ntmps10
    go_wp2_with fail
    refine (drawsAwake w).mono ?_
    rintro e w1 ⟨rfl, hg1⟩
    go_wp2
    go_ret
    exact ⟨rfl, hg1⟩
  have hbig' : ¬ (1000 : Int) < (len : Int) := by omega
  have hl1000 : l.length ≤ 1000 := by have := HL.out; omega
  have HOF : Hid (∀ a w, Bss w a 1 1 [l] → Calls Try.prog 20 #[.slice a 1 1] w fun e w' => e = .returned (.agg #[.string (str l)]) ∧ Gr w w') := by
    show ∀ a w, _
    intro a w h
    have hf : [l].flatten = l := by simp
    have := drawsOf a 1 1 [l] w h (by decide) (by rw [hf]; omega)
    rw [hf] at this
    exact this
  by_cases hk0 : k < 1
  · go_enter Try.func10, Try.ntmps10
    go_wp2_with fail
    refine (drawsAwake w).mono ?_
    rintro e w1 ⟨rfl, hg1⟩
    go_wp2_with fail
    refine (HOF.out _ _ (Bss.of_alloc1 (HB.out.below hg1) rfl)).mono ?_
    rintro e w2 ⟨rfl, hg2⟩
    have hgw := hg1.trans (((Gr.refl w1).alloc _).trans hg2)
    clear hg1 hg2
    go_wp2_with fail
    refine (drawsRows_none l k hk0 _).mono ?_
    rintro e w3 ⟨rfl, hg3⟩
    have hgw3 := hgw.trans (((Gr.refl w2).alloc _).trans hg3)
    clear hgw hg3
    go_wp2
    go_ret
    exact ⟨rfl, hgw3⟩
  obtain ⟨K, rfl⟩ : ∃ K : Nat, k = K := ⟨k.toNat, by omega⟩
  have hK1 : 1 ≤ K := by omega
  have HRO := Lib.hid (drawsRows_ok l K hK1 (by omega) hl1000)
  have HFIT := Lib.hid fun j hj => chunk_fits (m := l.length) (k := K) (j := j) hj
  have hmod := Nat.div_add_mod l.length K
  have hlt := Nat.mod_lt l.length (show 0 < K by omega)
  obtain ⟨n, en⟩ : ∃ n, l.length / K = n := ⟨_, rfl⟩
  have hnl : n ≤ 1000 := by rw [← en]; exact Nat.le_trans (Nat.div_le_self _ _) hl1000
  rw [en] at HRO HFIT hmod
  have hrest : Hid (l.length - n * K < K) := by show _ < _; rw [Nat.mul_comm]; omega
  clear en hmod hlt hbig hmx
  go_enter Try.func10, Try.ntmps10
  go_wp2_with fail
  refine (drawsAwake w).mono ?_
  rintro e w1 ⟨rfl, hg1⟩
  go_wp2_with fail
  refine (HOF.out _ _ (Bss.of_alloc1 (HB.out.below hg1) rfl)).mono ?_
  rintro e w2 ⟨rfl, hg2⟩
  have hgw := hg1.trans (((Gr.refl w1).alloc _).trans hg2)
  have hal := (Gr.refl w2).alloc (.cells #[.string (str l)] 42)
  clear hg1 hg2
  go_wp2_with fail
  refine (HRO.out _).mono ?_
  rintro e w3 ⟨ar, cr, rfl, hbr, hg3⟩
  have hd3 := hg3.heap (heap_alloc_new w2 (.cells #[.string (str l)] 42))
  have HBR := Lib.hid hbr
  have HG3 := Lib.hid (hgw.trans (hal.trans hg3))
  have hsB := hgw.size
  obtain ⟨B, eB⟩ : ∃ b, w2.heap.size = b := ⟨_, rfl⟩
  rw [eB] at hd3 hsB ⊢
  have HD3 := Lib.hid hd3
  have hB3 := lt_of_block hd3
  clear hg3 hal hgw hbr hd3 eB
  go_wp2
  go_loopw [7, 34] (fun v i wr => ∃ j : Nat, j ≤ n ∧ i = .int .i64 j ∧ OwnV wr w3.heap.size v (l.take (j * K)) ∧ (wr.heap[B]? = some (.cells #[.string (str (l.drop (j * K)))] 42)) ∧ GrB w3 B wr) (fun _ i _ => n - (intOf i).toNat)
  case atStart => exact ⟨0, Nat.zero_le _, rfl, by simpa using OwnV.nil _ _, by simpa using HD3.out, GrB.refl _ _⟩
  case round =>
    obtain ⟨j, hj, rfl, hown, hdr, hgr⟩ := hrel
    by_cases hlt : j < n
    · have hfit := HFIT.out j hlt
      have hbrw := HBR.out
      obtain ⟨b, off, rfl, _⟩ := hbrw.at_ (by omega)
      obtain ⟨row, a', n', c', hrw, hc, hbs⟩ := hbrw.get hlt
      have hrow : row = chunk l K j := by
        rw [chunks, List.getElem?_map, List.getElem?_range hlt] at hrw
        exact (Option.some.inj hrw).symm
      subst hrow
      have hn' : n' = K := by rw [← hbs.1]; exact chunk_length hfit
      rw [hn'] at hc hbs
      have hbB : b ≠ B := by
        intro e
        subst e
        have hB := HD3.out
        match off + j, hc with
        | 0, h => simp [World.cell?, hB] at h
        | q + 1, h => simp [World.cell?, hB] at h
      have hc' := GrB.cell hgr hc hbB
      have hbs' := hbs.gr1 hgr HD3.out
      have HTK := drawsTake_ok (l.drop (j * K)) K (by rw [List.length_drop]; omega) (by rw [List.length_drop]; omega) wr
      rw [chunk_next] at HTK
      rw [show (l.drop (j * K)).take K = chunk l K j from rfl] at HTK
      have hst := sameB_self (chunk l K j)
      obtain ⟨S, eS⟩ : ∃ S, str (l.drop (j * K)) = S := ⟨_, rfl⟩
      obtain ⟨S2, eS2⟩ : ∃ S, str (l.drop ((j + 1) * K)) = S := ⟨_, rfl⟩
      obtain ⟨C, eC⟩ : ∃ C, chunk l K j = C := ⟨_, rfl⟩
      obtain ⟨acc, eacc⟩ : ∃ acc, l.take (j * K) = acc := ⟨_, rfl⟩
      rw [eS, eS2, eC] at HTK
      rw [eS] at hdr
      rw [eC] at hst hbs'
      rw [eacc] at hown
      have HTK2 := Lib.hid HTK
      have HE2 := Lib.hid eS2
      have HC := Lib.hid eC
      have HACC := Lib.hid eacc
      have hqb : Hid (acc.length + K ≤ 140737488355328) := by
        show _ ≤ _
        rw [← eacc, List.length_take]
        have : K ≤ l.length := by omega
        omega
      obtain ⟨x0, _⟩ := cell1 hdr
      have hne : ((K : Int) != (K : Int)) = false := by simp
      have HDR := Lib.hid hdr
      have HOWN := Lib.hid hown
      have HBS := Lib.hid hbs'
      have HGR := Lib.hid hgr
      clear HTK eS eS2 eC eacc hrw hc hbs hdr hown hbs' hgr hbrw hn' hbB
      go_wp2_with fail
      refine (HTK2.out).mono ?_
      rintro e w6 ⟨b6, c6, rfl, hb6, hg6⟩
      have hl6 := (Gr.refl w6).alloc (.cells #[.string S2] 42)
      have h16 := hg6.trans hl6
      go_wp2_with fail
      refine (same_any _ _ K c6 K c' C C _ (hb6.below hl6) (HBS.out.below h16)).mono ?_
      rintro e w7 ⟨rfl, hg7⟩
      have h17 := h16.trans hg7
      have hd7 := h17.heap HDR.out
      have hn7 := hg7.heap (heap_alloc_new w6 (.cells #[.string S2] 42))
      have hs67 : w6.heap.size < w7.heap.size := lt_of_block hn7
      have hs16 := hg6.size
      have hown7 := HOWN.out.gr h17
      have hbs7 := HBS.out.below h17
      obtain ⟨x0, xf⟩ := cell1 hd7
      obtain ⟨y0, _⟩ := cell1 hn7
      obtain ⟨hgb, hh⟩ := set1 hd7 (.string S2)
      have hgr7 := HGR.out.gr h17
      clear hb6 hg6 hl6 h16 hg7
      have hq := hqb.out
      have hbase7 : w3.heap.size ≤ w7.heap.size := hgr7.size
      have HGB := Lib.hid hgb
      have HH := Lib.hid hh
      have HOWN7 := Lib.hid hown7
      have HGR7 := Lib.hid hgr7
      have HD7 := Lib.hid hd7
      have HN7 := Lib.hid hn7
      have HAW1 := Lib.hid (hown7.away hd7 (by decide))
      have HAW2 := Lib.hid (hown7.away hn7 (by decide))
      clear hgb hh hgr7 hd7 hn7
      go_wp2
      go_region_law (refine step_append_bytes rfl (.tmp 60) (.tmp 61) rfl w3.heap.size u7 acc rfl hown7 a' K c' C rfl hbs7 hq hbase7 ?_; intro v5 w5 ho5 hg5 hn5; have hd5 := grown_heap (b := B) hg5 HD7.out (HAW1.out); have hn6 := grown_heap (b := w6.heap.size) hg5 HN7.out (HAW2.out); obtain ⟨z0, zf⟩ := cell1 hd5; obtain ⟨q0, _⟩ := cell1 hn6)
      all_goals
        obtain ⟨hgb5, hh5⟩ := set1 hd5 (.string S2)
        have ho6 := ho5.other (w' := w5.setCell ⟨B, 0, none⟩ (.string S2)) (fun q hq => hgb5.block q (ho5.lt q hq).2 (fun e => ho5.away hd5 (by decide) (by rw [hq]; exact e)))
        have hg6 : GrB w3 B (w5.setCell ⟨B, 0, none⟩ (.string S2)) := GrB.trans (World.grownBy.andThen (HGR7.out.gr (Gr.refl _).drew) hg5 (fun q hq => .inl (HOWN7.out.lt q hq).1)) hgb5
        have hfin := Lib.hid (show _ ∧ _ ∧ _ from ⟨ho6, hh5, hg6⟩)
        clear hgb5 hh5 ho6 hg6 z0 zf q0 hd5 hn6 hg5 hn5 ho5 x0 xf y0 hbs7 hown7
        go_wp2
        go_roundw
        case rel =>
          refine ⟨j + 1, by omega, by go_num, ?_, by rw [HE2.out]; exact hfin.out.2.1, hfin.out.2.2⟩
          rw [take_next, HACC.out, HC.out]; exact hfin.out.1
        case measure => simp [intOf]; omega
    · have hjn : j = n := by omega
      rw [hjn] at hown hdr
      have hni : (n : Int) ≤ (j : Int) := by omega
      obtain ⟨R, eR⟩ : ∃ R, l.drop (n * K) = R := ⟨_, rfl⟩
      obtain ⟨r, er⟩ : ∃ r, R.length = r := ⟨_, rfl⟩
      have hrK : (r : Int) < (K : Int) := by
        have := hrest.out
        rw [← er, ← eR, List.length_drop]; omega
      have hr1 : r ≤ 1000 := by rw [← er, ← eR, List.length_drop]; omega
      have hlr : l.take (n * K) ++ R.take r = l := by rw [← er, List.take_length, ← eR, List.take_append_drop]
      have hll : (l.take (n * K)).length + r ≤ 140737488355328 := by rw [List.length_take]; omega
      rw [eR] at hdr
      have HLE := Lib.hid (drawsLeft R)
      have HTK := Lib.hid (drawsTake_ok R r (by omega) (by omega))
      rw [er] at HLE
      obtain ⟨LT, eLT⟩ : ∃ LT, l.take (n * K) = LT := ⟨_, rfl⟩
      rw [eLT] at hown hlr hll
      obtain ⟨SR, eSR⟩ : ∃ S, str R = S := ⟨_, rfl⟩
      obtain ⟨SD, eSD⟩ : ∃ S, str (R.drop r) = S := ⟨_, rfl⟩
      rw [eSR] at hdr HLE HTK
      rw [eSD] at HTK
      have HLR := Lib.hid hlr
      have HOWN := Lib.hid hown
      have HDR := Lib.hid hdr
      have HGR := Lib.hid hgr
      have hrl : Hid ((R.take r).length = r) := by show _ = _; rw [List.length_take, er]; omega
      obtain ⟨x0, _⟩ := cell1 hdr
      have hup : Nonempty (Up Gr wr.drew) := ⟨⟨_, Gr.refl _⟩⟩
      have u0 : ∀ x : Up Gr wr.drew, x.w.cell? ⟨B, 0, none⟩ = some (.string SR) := fun x => Gr.cell x.rel x0
      clear eR er eLT eSR eSD hlr hown hdr hgr hjn hlt x0
      go_wp2
      refine wp_region_rgF [.reck, .reck, spV (.int .i64 (r : Int)), .any (Nat × Nat) (0, 0) (fun x => .tuple #[.agg #[.string SD], .slice (some ⟨x.1, 0, none⟩) r x.2, .int .i64 0]) (fun x W => Bs W (some ⟨x.1, 0, none⟩) r x.2 (R.take r)), .reck, .reck, .flt, .flt,
        .any Nat 0 (fun b => .pointer (some ⟨b, 0, none⟩)) (fun b W => wr.heap.size ≤ b ∧ W.heap[b]? = some (.cells #[.string ⟨#[]⟩] 42))] Gr (by kernel_rfl) (by kernel_rfl) Gr.refl (fun _ _ _ => Gr.trans) ?_
      (refine wpRG_reck rfl (fun K hK => ?_); go_big_quiet_op; refine hK _ ?_; clear hK K)
      (refine wpRG_reck rfl (fun K hK => ?_); go_big_quiet_op; refine hK _ ?_; clear hK K)
      refine wpRG_any rfl (fun _ _ _ _ h => h) (fun W hw hF R' hR => ?_) ?_
      · (have HF := Lib.hid hF; clear hF; unfold rgAt; go_simp)
        show Calls _ _ _ _ _
        refine (HLE.out W).mono ?_
        rintro e w6 ⟨rfl, hg6⟩
        exact ⟨_, rfl, hR () _ hg6 trivial⟩
      rintro ⟨⟩
      (simp only [Act.put, List.setIfInBounds_toArray, List.set_cons_zero, List.set_cons_succ])
      refine wpRG_any rfl (fun x w1 w2 hg h => h.below hg) (fun W hw hF R' hR => ?_) ?_
      · (have HF := Lib.hid hF; clear hF; unfold rgAt; go_simp)
        show Calls _ _ _ _ _
        refine (HTK.out W).mono ?_
        rintro e w6 ⟨b6, c6, rfl, hb6, hg6⟩
        exact ⟨_, rfl, hR (b6, c6) _ hg6 hb6⟩
      rintro ⟨b6, c6⟩
      (simp only [Act.put, List.setIfInBounds_toArray, List.set_cons_zero, List.set_cons_succ])
      (refine wpRG_reck rfl (fun K hK => ?_); go_big_quiet_op; refine hK _ ?_; clear hK K)
      (refine wpRG_reck rfl (fun K hK => ?_); go_big_quiet_op; refine hK _ ?_; clear hK K)
      refine wpRG_flt rfl (fun _ => by go_simp; rfl) ?_
      (simp only [Act.put, List.setIfInBounds_toArray, List.set_cons_zero, List.set_cons_succ])
      refine wpRG_flt rfl (fun _ => by go_simp; rfl) ?_
      (simp only [Act.put, List.setIfInBounds_toArray, List.set_cons_zero, List.set_cons_succ])
      refine wpRG_any rfl (fun x w1 w2 hg h => ⟨h.1, hg.heap h.2⟩) (fun W hw hF R' hR => ?_) ?_
      · (have HF := Lib.hid hF; clear hF; unfold rgAt; go_simp)
        exact hR W.heap.size _ ((Gr.refl _).alloc _) ⟨hw.size, heap_alloc_new _ _⟩
      intro bZ
      (simp only [Act.put, List.setIfInBounds_toArray, List.set_cons_zero, List.set_cons_succ])
      refine wpRG_end fun WZ hwZ hF => ?_
      have f3 : Bs WZ (some ⟨b6, 0, none⟩) r c6 (R.take r) := hF 3
      have f8 : wr.heap.size ≤ bZ ∧ WZ.heap[bZ]? = some (.cells #[.string ⟨#[]⟩] 42) := hF 8
      obtain ⟨f8, f9⟩ := f8
      have hAZ : Gr wr WZ := (Gr.refl _).drew.trans hwZ
      clear hF hwZ u0 hup
      obtain ⟨r0, rf⟩ := cell1 f9
      obtain ⟨hgb, hh⟩ := set1 f9 (.string SD)
      have hfin := hAZ.grb hgb f8
      have hbs := f3.gr1 hgb f9
      refine wpTl_cons rfl (fun R' hR => ?_)
      unfold rgAt
      go_simp
      refine hR _ _ ?_
      obtain ⟨WY, hWY⟩ : ∃ WY, WZ.setCell ⟨bZ, 0, none⟩ (.string SD) = WY := ⟨_, rfl⟩
      rw [hWY] at hfin hbs ⊢
      clear r0 rf hgb hh f3 f8 f9 hAZ hWY hR
      (simp only [Act.put])
      refine wpTl_cons rfl (fun R' hR => ?_)
      unfold rgAt
      go_simp
      refine hR _ _ ?_
      clear hR
      (simp only [Act.put, List.setIfInBounds_toArray, List.set_cons_zero, List.set_cons_succ])
      refine wpTl_cons rfl (fun R' hR => ?_)
      unfold rgAt
      go_simp
      refine hR _ _ ?_
      clear hR
      (simp only [Act.put, List.setIfInBounds_toArray, List.set_cons_zero, List.set_cons_succ])
      refine wpTl_nil ?_
      obtain ⟨x0, _⟩ := cell1 (hfin.heap HDR.out)
      have HFIN := Lib.hid hfin
      have HBS := Lib.hid hbs
      clear hfin hbs
      go_wp2_with fail
      refine (HLE.out WY).mono ?_
      rintro e w6 ⟨rfl, hg6⟩
      have hg1 := HFIN.out.trans hg6
      have hown6 := HOWN.out.gr hg1
      have hbs6 := HBS.out.below hg6
      have hgw6 : Gr w w6 := HG3.out.grb (HGR.out.gr hg1) hsB
      have hbase6 : w3.heap.size ≤ w6.heap.size := (HGR.out.gr hg1).size
      go_wp2_with (with_reducible refine wpList_hold (o := ⟨some 83, _, _, _, _, _⟩) ?_)
      change wpList _ _ _ _ _ _
      refine wpList_append_bytesG rfl (.tmp 81) (.tmp 82) rfl w3.heap.size _ LT rfl hown6 (some ⟨b6, 0, none⟩) r c6 (R.take r) rfl hbs6 hll hbase6 ?_
      intro v10 w10 ho10 hg10 hn10
      have hgw10 : Gr w w10 := Gr.grown hgw6 hg10 (fun q hq => Nat.le_trans HG3.out.size (hown6.lt q hq).1)
      rw [HLR.out] at ho10
      obtain ⟨a10, cap10, rfl, hb10, _⟩ := ho10.bs
      have hst := sameB_self l
      have hl10 := HB.out.below hgw10
      rw [HL.out] at hb10 ⊢
      clear hg6 hg1 hown6 hbs6 hgw6 hg10 hn10 ho10 x0
      go_wp2_with fail
      refine (same_any a10 a len cap10 len cap l l _ hb10 hl10).mono ?_
      rintro e w11 ⟨rfl, hg11⟩
      have hgw11 := hgw10.trans hg11
      clear hg11 hgw10 hb10 hl10
      go_wp2
      go_ret
      exact ⟨rfl, hgw11⟩
end Go.Proofs.Ytdmijoochgmhiaa
