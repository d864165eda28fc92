/-
  elim.Elim: Put, whatever comes; Rows; Solve of full rank.
-/
import Derived.Test.YtddopoojmadpjaaGreatDoorElimPutWalk
namespace Go.Proofs.YtddopoojmadpjaaGreatDoor
open Go.RowKit
set_option linter.unusedVariables false

set_option maxRecDepth 100000 in
set_option maxHeartbeats 4000000 in
/-- nothing new in an equation. -/
theorem elimPut_old (E k t : Nat) (S : Nat → Prop) (V : List (List UInt8)) (D : List UInt8 → List UInt8) (hD : Lin D k t) (hV : Red V k) (hV4 : V.length < 4096) (av : Option Addr) (cv : Nat) (v : List UInt8) (ad : Option Addr) (cd : Nat) (w : World) (hE : ElimAt w E S k t V D) (hv : Bs w av k cv v) (hd : Bs w ad t cd (D v)) (hk1 : 1 ≤ k) (hk : k ≤ 1000000) (ht1 : 1 ≤ t) (ht : t ≤ 1000000)
    (hl : ¬ leadL (restL V v) < (restL V v).length) :
    Calls Tryz.prog 41 #[.pointer (some ⟨E, 0, none⟩), .agg #[.slice av k cv, .slice ad t cd]] w fun e w' => e = .returned (.tuple #[.int .i64 1, .int .i64 0]) ∧ Gr w w' := by
  have HR := Lib.hid fun w hE h1 h2 => elimRest_ok E k t S V D hD (fun r hr => ⟨hV.len r hr, hV.lt r hr⟩) (by omega) av cv v ad cd w hE h1 h2 hk1 hk ht1 ht
  obtain ⟨RV, eRV⟩ : ∃ x, restL V v = x := ⟨_, rfl⟩
  rw [eRV] at HR hl
  have HZ : Hid (zeroB RV = true) := by show _ = _; unfold zeroB; simp [hl]
  have HZ' : Hid (zeroB (D RV) = true) := by
    show _ = _
    have := hD.zero RV (fn_nil hl)
    unfold zeroB
    simp only [Bool.not_eq_true', decide_eq_false_iff_not]
    exact fun h0 => (leadL_lead h0).1 (by rw [this])
  have hal := ((Gr.refl w).alloc (.cells #[.pointer (some ⟨E, 0, none⟩)] 105)).alloc (.cells #[.slice av k cv, .slice ad t cd] 113)
  have hS := Gr.heap ((Gr.refl _).alloc (.cells #[.slice av k cv, .slice ad t cd] 113)) (heap_alloc_new w (.cells #[.pointer (some ⟨E, 0, none⟩)] 105))
  have hR := heap_alloc_new (w.alloc (.cells #[.pointer (some ⟨E, 0, none⟩)] 105)) (.cells #[.slice av k cv, .slice ad t cd] 113)
  simp only [World.size_alloc] at hR
  have HS := Lib.hid hS
  have HEE := Lib.hid (hE.gr hal)
  have H1 := Lib.hid (hv.below hal)
  have H2 := Lib.hid (hd.below hal)
  have HAL := Lib.hid hal
  obtain ⟨s0, sf⟩ := one_all hS
  obtain ⟨r0, r1, rf⟩ := two_cells hR
  clear hv hd hal hS hR hE hl hD hV eRV
  go_enter Tryz.func41, Tryz.ntmps41
  go_wp2_with fail
  refine (HR.out _ HEE.out H1.out H2.out).mono ?_
  rintro e w1 ⟨a1, c1, a2, c2, rfl, f1, f2, hg⟩
  have hal := (Gr.refl w1).alloc (.cells #[.slice a1 k c1, .slice a2 t c2] 113)
  have HL := Lib.hid (heap_alloc_new w1 (.cells #[.slice a1 k c1, .slice a2 t c2] 113))
  have HF1 := Lib.hid (f1.below hal)
  have HF2 := Lib.hid (f2.below hal)
  have HW := Lib.hid ((HAL.out.trans hg).trans hal)
  obtain ⟨y0, y1, yf⟩ := two_cells HL.out
  clear f1 f2 hg hal s0 sf r0 r1 rf
  go_wp2_with fail
  refine (vecZero_any a1 k c1 RV _ HF1.out.1).mono ?_
  rintro e w2 ⟨rfl, rfl⟩
  rw [HZ.out]
  go_wp2_with fail
  refine (vecZero_any a2 t c2 (D RV) _ HF2.out.1).mono ?_
  rintro e w2 ⟨rfl, rfl⟩
  rw [HZ'.out]
  go_wp2
  first | go_ret | go_ret2
  exact ⟨rfl, HW.out⟩

/-- PUT: whatever comes of an equation, the rows are those of the plain law. -/
theorem elimPut_all (E k t : Nat) (S : Nat → Prop) (hSE : S E) (V : List (List UInt8)) (D : List UInt8 → List UInt8) (hD : Lin D k t) (hV : Red V k) (hV4 : V.length < 4096) (av : Option Addr) (cv : Nat) (v : List UInt8) (ad : Option Addr) (cd : Nat) (w : World) (hE : ElimAt w E S k t V D) (hv : Bs w av k cv v) (hd : Bs w ad t cd (D v)) (hk1 : 1 ≤ k) (hk : k ≤ 1000000) (ht1 : 1 ≤ t) (ht : t ≤ 1000000) :
    Calls Tryz.prog 41 #[.pointer (some ⟨E, 0, none⟩), .agg #[.slice av k cv, .slice ad t cd]] w fun e w' => ∃ c : Nat, c ≤ 1 ∧ e = .returned (.tuple #[.int .i64 (c : Int), .int .i64 0]) ∧ ElimAt w' E (exS S w.heap.size) k t (putV V v) D ∧ GrS S w w' := by
  by_cases hl : leadL (restL V v) < (restL V v).length
  · refine (elimPut_new E k t S hSE V D hD hV hV4 av cv v ad cd w hE hv hd hk1 hk ht1 ht hl).mono ?_
    rintro e w' ⟨he, h1, h2⟩
    exact ⟨0, by omega, he, h1, h2⟩
  · refine (elimPut_old E k t S V D hD hV hV4 av cv v ad cd w hE hv hd hk1 hk ht1 ht hl).mono ?_
    rintro e w' ⟨he, h1⟩
    exact ⟨1, by omega, he, by rw [putV, if_neg hl]; exact (hE.gr h1).mono exS.inl, GrS.of_gr h1⟩

/-- rows being filled in: the first j. -/
def PrTo (w : World) (S : Nat → Prop) (R n : Nat) (V : List (List UInt8)) (D : List UInt8 → List UInt8) (k t j : Nat) : Prop :=
  ∃ cur : Array Value, w.heap[R]? = some (.cells cur 113 (0, 0)) ∧ cur.size = n * 2 ∧ S R ∧ ∀ i v, i < j → V[i]? = some v → ∃ (a1 : Option Addr) (c1 : Nat) (a2 : Option Addr) (c2 : Nat), cur[i * 2]? = some (.slice a1 k c1) ∧ cur[i * 2 + 1]? = some (.slice a2 t c2) ∧ Bs w a1 k c1 v ∧ Bs w a2 t c2 (D v) ∧ Apt S (.slice (some ⟨R, 0, none⟩) n n) a1 ∧ Apt S (.slice (some ⟨R, 0, none⟩) n n) a2
theorem PrTo.made {w : World} {base R n : Nat} {S : Nat → Prop} {V : List (List UInt8)} {D : List UInt8 → List UInt8} {k t : Nat} {xs : List Value} (h : w.ownsRow base 113 2 (.slice (some ⟨R, 0, none⟩) n n) n xs) (hS : S R) : PrTo w S R n V D k t 0 := by
  rcases h.2 with ⟨h', _⟩ | ⟨g, cap, cur, h', _, hh, _, _, hs, _⟩
  · cases h'
  · cases h'
    exact ⟨cur, hh, hs, hS, fun i v h => by omega⟩
theorem PrTo.gr {w w' : World} {R n : Nat} {S : Nat → Prop} {V : List (List UInt8)} {D : List UInt8 → List UInt8} {k t j : Nat} (h : PrTo w S R n V D k t j) (hg : Gr w w') : PrTo w' S R n V D k t j := by
  obtain ⟨cur, h1, h2, h3, h4⟩ := h
  refine ⟨cur, hg.heap h1, h2, h3, fun i v hi hv => ?_⟩
  obtain ⟨a1, c1, a2, c2, e1, e2, b1, b2, p⟩ := h4 i v hi hv
  exact ⟨a1, c1, a2, c2, e1, e2, b1.below hg, b2.below hg, p⟩
theorem PrTo.at_ {w : World} {R n : Nat} {S : Nat → Prop} {V : List (List UInt8)} {D : List UInt8 → List UInt8} {k t j i : Nat} (h : PrTo w S R n V D k t j) (hi : i < n * 2) : (∃ v, w.cell? ⟨R, i, none⟩ = some v) ∧ (∀ i, w.frozen? ⟨R, i, none⟩ = false) ∧ R < w.heap.size := by
  obtain ⟨cur, h1, h2, _, _⟩ := h
  exact ⟨⟨cur[i]'(by omega), by simp [World.cell?, h1, h2, hi]⟩, fun i => by simp [World.frozen?, h1], lt_of_block h1⟩
theorem PrTo.step {w : World} {R n : Nat} {S : Nat → Prop} {V : List (List UInt8)} {D : List UInt8 → List UInt8} {k t j : Nat} (h : PrTo w S R n V D k t j) (hj : j < n) {v : List UInt8} (hv : V[j]? = some v) {a1 : Option Addr} {c1 : Nat} {a2 : Option Addr} {c2 : Nat} (b1 : Bs w a1 k c1 v) (b2 : Bs w a2 t c2 (D v)) (p1 : Apt S (.slice (some ⟨R, 0, none⟩) n n) a1) (p2 : Apt S (.slice (some ⟨R, 0, none⟩) n n) a2) :
    PrTo ((w.setCell ⟨R, j * 2, none⟩ (.slice a1 k c1)).setCell ⟨R, j * 2 + 1, none⟩ (.slice a2 t c2)) S R n V D k t (j + 1) ∧ GrB w R ((w.setCell ⟨R, j * 2, none⟩ (.slice a1 k c1)).setCell ⟨R, j * 2 + 1, none⟩ (.slice a2 t c2)) := by
  obtain ⟨cur, h1, h2, h3, h4⟩ := h
  refine ⟨?_, ((GrB.refl w R).set (.inl rfl) _).set (.inl rfl) _⟩
  have hw : (w.setCell ⟨R, j * 2, none⟩ (.slice a1 k c1)).setCell ⟨R, j * 2 + 1, none⟩ (.slice a2 t c2) = w.setRow R ((cur.setIfInBounds (j * 2) (.slice a1 k c1)).setIfInBounds (j * 2 + 1) (.slice a2 t c2)) := by
    rw [setCell_eq_setRow w R (j * 2) cur _ _ _ h1, setCell_eq_setRow _ R (j * 2 + 1) _ _ _ _ (setRow_heap w R cur _ _ _ h1), setRow_setRow]
  rw [hw]
  have hb : ∀ b, b ≠ R → (w.setRow R ((cur.setIfInBounds (j * 2) (.slice a1 k c1)).setIfInBounds (j * 2 + 1) (.slice a2 t c2))).heap[b]? = w.heap[b]? := fun b hb => setRow_other _ _ _ _ hb
  refine ⟨_, setRow_heap w R cur _ _ _ h1, by simpa using h2, h3, fun i u hi hu => ?_⟩
  by_cases e : i = j
  · subst e
    rw [hv] at hu; cases hu
    exact ⟨a1, c1, a2, c2, by rw [Array.getElem?_setIfInBounds_ne (by omega), Array.getElem?_setIfInBounds_self_of_lt (by omega)], by rw [Array.getElem?_setIfInBounds_self_of_lt (by rw [Array.size_setIfInBounds]; omega)], b1.apart p1 rfl hb, b2.apart p2 rfl hb, p1, p2⟩
  · obtain ⟨a1', c1', a2', c2', e1, e2, q1, q2, r1, r2⟩ := h4 i u (by omega) hu
    exact ⟨a1', c1', a2', c2', by rw [Array.getElem?_setIfInBounds_ne (by omega), Array.getElem?_setIfInBounds_ne (by omega)]; exact e1, by rw [Array.getElem?_setIfInBounds_ne (by omega), Array.getElem?_setIfInBounds_ne (by omega)]; exact e2, q1.apart r1 rfl hb, q2.apart r2 rfl hb, r1, r2⟩
theorem PrTo.all {w : World} {R n : Nat} {S : Nat → Prop} {V : List (List UInt8)} {D : List UInt8 → List UInt8} {k t : Nat} (h : PrTo w S R n V D k t n) (hl : V.length = n) (hm : n ≤ maxLen) : PrV w S (.slice (some ⟨R, 0, none⟩) n n) V D k t := by
  obtain ⟨cur, h1, h2, h3, h4⟩ := h
  refine ⟨cur.toList, ⟨by rw [Array.length_toList, hl, h2], .inr ⟨R, n, cur, by rw [hl], Nat.zero_le _, h1, by omega, hm, h2, by rw [hl, List.take_of_length_le (by rw [Array.length_toList, h2]; omega)]⟩⟩, fun b hb => by cases hb; exact h3, fun j v hv => ?_⟩
  obtain ⟨a1, c1, a2, c2, e1, e2, r⟩ := h4 j v (by have := (List.getElem?_eq_some_iff.1 hv).1; omega) hv
  exact ⟨a1, c1, a2, c2, by rw [Array.getElem?_toList]; exact e1, by rw [Array.getElem?_toList]; exact e2, r⟩

set_option maxRecDepth 100000 in
set_option maxHeartbeats 4000000 in
theorem elimRows_ok (E k t : Nat) (S : Nat → Prop) (V : List (List UInt8)) (D : List UInt8 → List UInt8) (hV4 : V.length ≤ 4096) (w : World) (hE : ElimAt w E S k t V D) (hk : k ≤ 1000000) (ht : t ≤ 1000000) :
    Calls Tryz.prog 44 #[.pointer (some ⟨E, 0, none⟩)] w fun e w' => ∃ rv, e = .returned rv ∧ PrV w' (fun b => w.heap.size ≤ b) rv V D k t ∧ Gr w w' := by
  obtain ⟨i0, hi0, hz0, hz1, hz2⟩ := info_parts infoRow
  obtain ⟨rv, hc, hp, hne⟩ := hE
  obtain ⟨ar, cr, rfl, hcr, hcm⟩ := hp.val
  have hcr9 : V.length ≤ 9223372036854775807 := by omega
  have HE := Lib.hid hc
  have HP := Lib.hid hp
  obtain ⟨e0, e1, e2, ef⟩ := three_all hc
  clear hc hp hne
  go_enter Tryz.func44, Tryz.ntmps44
  go_wp2_with (with_reducible refine wpList_hold (o := ⟨some 13, _, _, _, _, _⟩) ?_)
  change wpList _ _ _ _ _ _
  refine wpList_make_full _ rfl (.tmp 12) (.tmp 12) 54 rfl w.heap.size 113 i0 (.agg #[.slice none 0 0, .slice none 0 0]) 2 Tryz.underlying54 hi0 hz0 hz1 .i64 .i64 (V.length : Int) (V.length : Int) V.length rfl rfl rfl rfl (by rw [hz2]; omega) (by unfold maxLen; omega) (Nat.le_refl _) ?_
  intro w2 hown hgrow
  have hR : PrTo w2 (fun b => w.heap.size ≤ b) w.heap.size V.length V D k t 0 := PrTo.made hown (Nat.le_refl _)
  have hG : Gr w w2 := (Gr.refl w).grown hgrow (fun k hk => by cases hk)
  have HR := Lib.hid hR
  have HG := Lib.hid hG
  clear hown hgrow hR e0 e1 e2 ef
  obtain ⟨e0, e1, e2, ef⟩ := three_all (hG.heap HE.out)
  clear hG
  obtain ⟨R, eR⟩ : ∃ R, w.heap.size = R := ⟨_, rfl⟩
  rw [eR] at HR ⊢
  have ER := Lib.hid eR
  clear eR
  go_wp2
  go_loopw [19] (fun i wr => ∃ j : Nat, j ≤ V.length ∧ i = .int .i64 j ∧ PrTo wr (fun b => R ≤ b) R V.length V D k t j ∧ Gr w wr) (fun i _ => V.length - (intOf i).toNat)
  case atStart => exact ⟨0, Nat.zero_le _, rfl, HR.out, HG.out⟩
  case round =>
    obtain ⟨j, hj, rfl, hrow, hgr⟩ := hrel
    have HROW := Lib.hid hrow
    have HGR := Lib.hid hgr
    clear hrow hgr e0 e1 e2 ef
    by_cases hlt : j < V.length
    · obtain ⟨B, cap, b1, d1, b2, d2, erv, hRb, hRl, r0, r1, hb1, hb2⟩ := (HP.out.gr HGR.out).get hlt
      simp at erv
      obtain ⟨rfl, rfl⟩ := erv
      have hvj : V[j]? = some V[j] := by simp
      obtain ⟨ROW, eROW⟩ : ∃ x, V[j] = x := ⟨_, rfl⟩
      rw [eROW] at hb1 hb2 hvj
      clear eROW
      have HVJ := Lib.hid hvj
      have HC := Lib.hid fun w h1 h2 => rowClone_any b1 b2 k d1 t d2 ROW (D ROW) w h1 h2 (by omega) (by omega)
      have hal := (Gr.refl wr).alloc (.cells #[.slice b1 k d1, .slice b2 t d2] 113)
      obtain ⟨z0, z1, zf⟩ := two_cells (heap_alloc_new wr (.cells #[.slice b1 k d1, .slice b2 t d2] 113))
      have HB1 := Lib.hid (hb1.below hal)
      have HB2 := Lib.hid (hb2.below hal)
      have HAL := Lib.hid hal
      clear hb1 hb2 hvj hal
      go_wp2_with fail
      refine (HC.out _ HB1.out HB2.out).mono ?_
      rintro e w3 ⟨a3, c3, a4, c4, rfl, f3, f4, hg3⟩
      have hrow3 := HROW.out.gr (HAL.out.trans hg3)
      obtain ⟨⟨v0, hv0⟩, hf0, hS3⟩ := hrow3.at_ (i := j * 2) (by omega)
      obtain ⟨⟨v1, hv1⟩, -, -⟩ := hrow3.at_ (i := j * 2 + 1) (by omega)
      have hSr := (HROW.out.at_ (i := j * 2) (by omega)).2.2
      have hap : ∀ {a : Option Addr} {n c : Nat} {l : List UInt8}, Fr w3 (wr.alloc (.cells #[.slice b1 k d1, .slice b2 t d2] 113)).heap.size a n c l → Apt (fun b => R ≤ b) (.slice (some ⟨R, 0, none⟩) V.length V.length) a := fun h x hx => by
        have := h.2 x hx
        rw [World.size_alloc] at this
        exact ⟨fun e => by have e2 : R = x.block := by simpa [Value.ownBlock] using e
                           omega, by omega⟩
      obtain ⟨hrow4, hgb4⟩ := hrow3.step hlt HVJ.out f3.1 f4.1 (hap f3) (hap f4)
      have HR4 := Lib.hid hrow4
      have HG4 := Lib.hid ((HGR.out.trans (HAL.out.trans hg3)).grb hgb4 (by rw [ER.out]; exact Nat.le_refl _))
      clear hrow3 hrow4 hgb4 hg3 z0 z1 zf r0 r1 f3 f4 hap
      go_wp2
      go_roundw
      case rel => exact ⟨j + 1, by omega, by go_num, HR4.out, HG4.out⟩
      case measure => simp [intOf]; omega
    · have hjl : j = V.length := by omega
      have hge : (V.length : Int) ≤ (j : Int) := by omega
      subst hjl
      have HFIN := Lib.hid (HROW.out.all rfl (by unfold maxLen; omega))
      go_wp2
      first | go_ret | go_ret2
      exact ⟨_, rfl, by rw [ER.out]; exact HFIN.out, HGR.out⟩

set_option maxRecDepth 100000 in
set_option maxHeartbeats 4000000 in
theorem elimSolve_ok (E k t : Nat) (S : Nat → Prop) (V : List (List UInt8)) (D : List UInt8 → List UInt8) (hVk : V.length = k) (hk : k ≤ 4096) (ht : t ≤ 1000000) (w : World) (hE : ElimAt w E S k t V D) :
    Calls Tryz.prog 56 #[.pointer (some ⟨E, 0, none⟩)] w fun e w' => ∃ X, e = .returned (.tuple #[.slice (some ⟨X, 0, none⟩) k k, .int .i64 0]) ∧ Bss w' (some ⟨X, 0, none⟩) k k (V.map D) ∧ Gr w w' := by
  obtain ⟨i0, hi0, hz0, hz1, hz2⟩ := info_parts infoSl
  obtain ⟨rv, hc, hp, hne⟩ := hE
  obtain ⟨ar, cr, rfl, hcr, hcm⟩ := hp.val
  have HE := Lib.hid hc
  have HP := Lib.hid hp
  have HVK := Lib.hid hVk
  obtain ⟨e0, e1, e2, ef⟩ := three_all hc
  rw [hVk] at e2
  have hlt0 : ¬ ((k : Int) < (k : Int)) := by omega
  have hml : (V.map D).length = k := by rw [List.length_map, hVk]
  have HML := Lib.hid hml
  clear hc hp hne hVk hml
  go_enter Tryz.func56, Tryz.ntmps56
  go_wp2
  go_quiet (fail)
  obtain ⟨W0, eW⟩ : ∃ W, w.drewN nq = W := ⟨_, rfl⟩
  have hd := (Gr.refl w).drewN nq
  rw [eW] at hd ⊢
  clear eW e0 e1 e2 ef
  have hE0 := hd.heap HE.out
  rw [HVK.out] at hE0
  obtain ⟨e0, e1, e2, ef⟩ := three_all hE0
  have HE0 := Lib.hid hE0
  have HD := Lib.hid hd
  clear hE0
  go_wp2_with (with_reducible refine wpList_hold (o := ⟨some 23, _, _, _, _, _⟩) ?_)
  change wpList _ _ _ _ _ _
  refine wpList_make_full _ rfl (.tmp 22) (.tmp 22) 25 rfl w.heap.size 22 i0 (.slice none 0 0) 1 Tryz.underlying25 hi0 hz0 hz1 .i64 .i64 (k : Int) (k : Int) k rfl rfl rfl rfl (by rw [hz2]; omega) (by unfold maxLen; omega) hd.size ?_
  intro w2 hown hgrow
  have hR := Lib.hid (RowsTo.made (ls := V.map D) hown)
  have hG : Gr W0 w2 := (Gr.refl W0).grown hgrow (fun k hk => by cases hk)
  clear hown hgrow e0 e1 e2 ef
  obtain ⟨e0, e1, e2, ef⟩ := three_all (hG.heap HE0.out)
  have HG := Lib.hid (hd.trans hG)
  have hWs := hd.size
  obtain ⟨X, hXe⟩ : ∃ S, W0.heap.size = S := ⟨_, rfl⟩
  rw [hXe] at hR hWs ⊢
  clear hXe hG hd
  go_wp2
  go_loopw [29] (fun i wr => ∃ j : Nat, j ≤ k ∧ i = .int .i64 j ∧ RowsTo wr X k (V.map D) j ∧ Gr w wr) (fun i _ => k - (intOf i).toNat)
  case atStart => exact ⟨0, Nat.zero_le _, rfl, hR.out, HG.out⟩
  case round =>
    obtain ⟨j, hj, rfl, hrow, hgr⟩ := hrel
    have HRW := Lib.hid hrow
    have HGR := Lib.hid hgr
    clear hrow hgr e0 e1 e2 ef
    by_cases hlt : j < k
    · have hltV : j < V.length := by rw [HVK.out]; exact hlt
      obtain ⟨B, cap, b1, d1, b2, d2, erv, hRb, hRl, r0, r1, hb1, hb2⟩ := (HP.out.gr HGR.out).get hltV
      simp at erv
      obtain ⟨rfl, rfl⟩ := erv
      have hvj : (V.map D)[j]? = some (D V[j]) := by simp [hltV]
      obtain ⟨DR, eDR⟩ : ∃ x, D V[j] = x := ⟨_, rfl⟩
      rw [eDR] at hb2 hvj
      clear eDR hb1
      have HVJ := Lib.hid hvj
      have HC := Lib.hid fun w h => sliceClone_own b2 t d2 DR w h (by omega)
      have hal := (Gr.refl wr).alloc (.cells #[.slice b1 k d1, .slice b2 t d2] 113)
      obtain ⟨z0, z1, zf⟩ := two_cells (heap_alloc_new wr (.cells #[.slice b1 k d1, .slice b2 t d2] 113))
      have HB2 := Lib.hid (hb2.below hal)
      have HAL := Lib.hid hal
      clear hb2 hvj hal
      go_wp2_with fail
      refine (HC.out _ HB2.out).mono ?_
      rintro e w3 ⟨vv, rfl, hown, hg3⟩
      obtain ⟨a3, c3, rfl, hb3⟩ := hown.slice
      have ha3 := hown.bs2.2
      have hl3 := hown.bs2.1.1
      have hrow3 := HRW.out.gr (HAL.out.trans hg3)
      obtain ⟨⟨v0, hv0⟩, hf0, hS3⟩ := hrow3.at_ (i := j) (by omega)
      have hSr := (HRW.out.at_ (i := j) (by omega)).2.2
      obtain ⟨hrow4, hgb4⟩ := hrow3.step (by omega) HVJ.out hb3 (fun y hy => by have := ha3 y hy; simp only [World.size_alloc] at this; omega)
      have HR4 := Lib.hid hrow4
      have HG4 := Lib.hid ((HGR.out.trans (HAL.out.trans hg3)).grb hgb4 hWs)
      clear hown hb3 ha3 hl3 hrow3 hrow4 hgb4 hg3 z0 z1 zf r0 r1
      go_wp2
      go_roundw
      case rel => exact ⟨j + 1, by omega, by go_num, HR4.out, HG4.out⟩
      case measure => simp [intOf]; omega
    · obtain rfl : j = k := by omega
      have hfin : Bss wr (some ⟨X, 0, none⟩) j j (V.map D) := HRW.out.all HML.out (by unfold maxLen; omega)
      have HFIN := Lib.hid hfin
      clear hfin
      go_wp2
      first | go_ret | go_ret2
      exact ⟨X, rfl, HFIN.out, HGR.out⟩
end Go.Proofs.YtddopoojmadpjaaGreatDoor
