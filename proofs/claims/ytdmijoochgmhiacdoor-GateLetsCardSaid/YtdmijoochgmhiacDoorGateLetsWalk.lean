/-
  The walk of law GateLets.
-/
import Derived.Test.YtdmijoochgmhiacDoorGateAwake
import Derived.Test.YtdmijoochgmhiacDoorPacketPlain
import Derived.Test.YtdmijoochgmhiacDoorPacketAll
import Derived.Test.YtdmijoochgmhiacDoorSame
namespace Go.Proofs.YtdmijoochgmhiacDoor
open Go.RowKit Go.Maps
set_option linter.unusedVariables false

/-- bytes do not lie in a block that holds none. -/
theorem Bs.gap {w w' : World} {b : Nat} {a : Option Addr} {n c : Nat} {l : List UInt8} {cs : Array Value} {t : TypeId} (h : Bs w a n c l) (g : GrB w b w') (hb : w.heap[b]? = some (.cells cs t)) (hcs : ∀ (j : Nat) (u : Int), cs[j]? ≠ some (.int .u8 u)) : Bs w' a n c l := by
  refine ⟨h.1, h.2.1, h.2.2.1, h.2.2.2.1, fun x hx i u hu => ?_⟩
  have hc := h.2.2.2.2 x hx i u hu
  by_cases hbk : (x.add i).block = b
  · exfalso
    simp [World.cell?, hbk, hb] at hc
    exact hcs _ _ (by first | exact hc | exact hc.2)
  · rw [World.cell?_of_block (w := w) (g.block _ (World.block_lt_of_cell? w _ hc) (by simpa using hbk))]; exact hc

/-- all counts below j together. -/
def cntTo (es : List Nat) : Nat → Nat
  | 0 => 0
  | j + 1 => cntTo es j + es.count j
theorem cntTo_cons (e : Nat) (es : List Nat) : ∀ j, cntTo (e :: es) j = cntTo es j + if e < j then 1 else 0
  | 0 => by simp [cntTo]
  | j + 1 => by
    have ih := cntTo_cons e es j
    rcases Nat.lt_trichotomy e j with h | h | h
    · rw [if_pos h] at ih
      rw [cntTo, cntTo, ih, List.count_cons_of_ne (by omega), if_pos (by omega)]; omega
    · subst h
      rw [if_neg (by omega)] at ih
      rw [cntTo, cntTo, ih, List.count_cons_self, if_pos (by omega)]; omega
    · rw [if_neg (by omega)] at ih
      rw [cntTo, cntTo, ih, List.count_cons_of_ne (by omega), if_neg (by omega)]; omega
theorem cntTo_all : ∀ (es : List Nat), (∀ e ∈ es, e < 40) → cntTo es 40 = es.length
  | [], _ => rfl
  | e :: es, h => by
    rw [cntTo_cons, cntTo_all es fun x hx => h x (.tail _ hx), if_pos (h e (.head _)), List.length_cons]
theorem cntTo_le : ∀ (es : List Nat) (j : Nat), cntTo es j ≤ es.length
  | [], j => by induction j with
    | zero => exact Nat.le_refl _
    | succ j ih => simpa [cntTo] using ih
  | e :: es, j => by
    rw [cntTo_cons, List.length_cons]
    have := cntTo_le es j
    split <;> omega

set_option maxRecDepth 100000 in
set_option maxHeartbeats 4000000 in
theorem gateLets_walk (w : World) (htab : Tab w) (n : Int) (hlo : -9223372036854775808 ≤ n) (hm : n ≤ 9223372036854775807) (s : Int) (hsl : -9223372036854775808 ≤ s) (hsm : s ≤ 9223372036854775807) (q : Int) (hq1 : -9223372036854775808 ≤ q) (hq2 : q ≤ 9223372036854775807) (id : Nat) (hid : id < 4294967296)
    (a : Option Addr) (len cap : Nat) (ls : List (List UInt8)) (hb : Bss w a len cap ls) :
    Calls Tryd.prog 3 #[.agg #[.int .i64 n, .int .i64 s, .int .i64 q, .int .u32 (id : Int)], .slice a len cap] w fun e w' => e = .returned (.bool true) ∧ Gr w w' := by
  have hmx : len ≤ 9223372036854775807 := by have h1 := hb.2.1; have h2 := hb.2.2.1; unfold maxLen at h2; omega
  have HT := Lib.hid htab
  have HB := Lib.hid hb
  have hL := hb.1
  have CF := Lib.hid fun (w : World) (h : Bss w a len cap ls) => gateFew_any a len cap ls w h
  have CS := packSmall_any n s q id hlo hm hsl hsm
  by_cases hf : fewG ls = true
  case neg =>
    have hf' : fewG ls = false := by simpa using hf
    rw [hf'] at CF
    clear hf hf' hb htab CS
    go_enter Tryd.func3, Tryd.ntmps3
    go_wp2_with fail
    refine (gateAwake _ (HT.out.below ((Gr.refl w).alloc _))).mono ?_
    rintro e w1 ⟨rfl, hg1⟩
    have hgw := ((Gr.refl w).alloc _).trans hg1
    clear hg1
    go_wp2_with fail
    refine (CF.out _ (HB.out.below hgw)).mono ?_
    rintro e w2 ⟨rfl, rfl⟩
    go_wp2
    go_ret
    exact ⟨rfl, hgw⟩
  rw [hf] at CF
  have hfew := fewG_of hf
  have HALL := Lib.hid hfew.1
  have hl30 : len ≤ 30 := by rw [← hL]; exact hfew.2
  have HL := Lib.hid hL
  clear hfew hf hb htab hL hmx
  by_cases hS : pSmall n s q = true
  case neg =>
    have hS' : pSmall n s q = false := by simpa using hS
    rw [hS'] at CS
    have HCS := Lib.hid CS
    clear CS hS hS'
    go_enter Tryd.func3, Tryd.ntmps3
    go_wp2_with fail
    refine (gateAwake _ (HT.out.below ((Gr.refl w).alloc _))).mono ?_
    rintro e w1 ⟨rfl, hg1⟩
    obtain ⟨p0, p1, p2, p3⟩ := p_four_cells (hg1.heap (heap_alloc_new w _))
    have hgw := ((Gr.refl w).alloc _).trans hg1
    clear hg1
    go_wp2_with fail
    refine (CF.out _ (HB.out.below hgw)).mono ?_
    rintro e w2 ⟨rfl, rfl⟩
    go_wp2_with fail
    refine (HCS.out _).mono ?_
    rintro e w2 ⟨rfl, hg2⟩
    have hgw2 := hgw.trans hg2
    clear hg2 hgw
    go_wp2
    go_ret
    exact ⟨rfl, hgw2⟩
  rw [hS] at CS
  have HCS := Lib.hid CS
  clear CS hS
  have CN := Lib.hid (gateNew_any n s q id hlo hm hsl hsm)
  have CL := Lib.hid (gateLook_any n s q id hlo hm hsl hsm)
  have CW := Lib.hid fun (m o nn md sd : Nat) (l lp : List UInt8) w ht a k c a' k' c' h1 h2 hk hk' hn => packWrite_all n s q id m o nn md k k' sd hid hn hlo hm hsl hsm a a' c c' l lp w ht h1 h2 hk hk'
  obtain ⟨E0, eE0⟩ : ∃ E, planErr n s q = E := ⟨_, rfl⟩
  rw [eE0] at CN
  clear eE0 hlo hm hsl hsm hq1 hq2 hid
  by_cases hP : E0 = 0
  case neg =>
    rw [if_neg hP] at CN
    have ht : ((E0 : Int) != 0) = true := by rw [bne_iff_ne]; omega
    clear hP
    go_enter Tryd.func3, Tryd.ntmps3
    go_wp2_with fail
    refine (gateAwake _ (HT.out.below ((Gr.refl w).alloc _))).mono ?_
    rintro e w1 ⟨rfl, hg1⟩
    have HA1 := Lib.hid (hg1.heap (heap_alloc_new w _))
    have hgw := ((Gr.refl w).alloc _).trans hg1
    clear hg1
    obtain ⟨p0, p1, p2, p3⟩ := p_four_cells HA1.out
    go_wp2_with fail
    refine (CF.out _ (HB.out.below hgw)).mono ?_
    rintro e w2 ⟨rfl, rfl⟩
    go_wp2_with fail
    refine (HCS.out _).mono ?_
    rintro e w2 ⟨rfl, hg2⟩
    have HA2 := Lib.hid (hg2.heap HA1.out)
    have hgw2 := hgw.trans hg2
    clear hg2 hgw HA1 p0 p1 p2 p3
    obtain ⟨p0, p1, p2, p3⟩ := p_four_cells HA2.out
    go_wp2_with fail
    refine (CN.out _).mono ?_
    rintro e w3 ⟨rfl, hg3⟩
    have HA3 := Lib.hid (hg3.heap HA2.out)
    have hgw3 := hgw2.trans hg3
    have hs2 := hgw2.size
    clear hg3 hgw2 HA2 p0 p1 p2 p3
    go_wp2
    go_ret
    exact ⟨rfl, hgw3.alloc _⟩
  subst hP
  rw [if_pos rfl] at CN
  · skip
    go_enter Tryd.func3, Tryd.ntmps3
    go_wp2_with fail
    refine (gateAwake _ (HT.out.below ((Gr.refl w).alloc _))).mono ?_
    rintro e w1 ⟨rfl, hg1⟩
    have HA1 := Lib.hid (hg1.heap (heap_alloc_new w _))
    have hgw := ((Gr.refl w).alloc _).trans hg1
    clear hg1
    obtain ⟨p0, p1, p2, p3⟩ := p_four_cells HA1.out
    go_wp2_with fail
    refine (CF.out _ (HB.out.below hgw)).mono ?_
    rintro e w2 ⟨rfl, rfl⟩
    go_wp2_with fail
    refine (HCS.out _).mono ?_
    rintro e w2 ⟨rfl, hg2⟩
    have HA2 := Lib.hid (hg2.heap HA1.out)
    have hgw2 := hgw.trans hg2
    clear hg2 hgw HA1 p0 p1 p2 p3
    obtain ⟨p0, p1, p2, p3⟩ := p_four_cells HA2.out
    go_wp2_with fail
    refine (CN.out _).mono ?_
    rintro e w3 ⟨rfl, hg3⟩
    have HA3 := Lib.hid (hg3.heap HA2.out)
    have hgw3 := hgw2.trans hg3
    have hs2 := hgw2.size
    clear hg3 hgw2 HA2 p0 p1 p2 p3
    have hG4 := heap_alloc_new w3 (.cells #[.int .i64 n, .int .i64 s, .int .i64 q, .int .u32 (id : Int), .map none] 31)
    have hal := (Gr.refl w3).alloc (.cells #[.int .i64 n, .int .i64 s, .int .i64 q, .int .u32 (id : Int), .map none] 31)
    have hA4 := hal.heap HA3.out
    have hgw4 := hgw3.trans hal
    have hsA := lt_of_block HA3.out
    go_wp2
    obtain ⟨W0, eW⟩ : ∃ W, w3.alloc (.cells #[.int .i64 n, .int .i64 s, .int .i64 q, .int .u32 (id : Int), .map none] 31) = W := ⟨_, rfl⟩
    rw [eW] at hG4 hA4 hgw4 ⊢
    have HG0 := Lib.hid hgw4
    have HG0g := Lib.hid hG4
    have HG0a := Lib.hid hA4
    have hs0 := lt_of_block hG4
    obtain ⟨b5, eb5⟩ : ∃ b, w3.heap.size = b := ⟨_, rfl⟩
    rw [eb5] at HG0g hs0 hsA
    rw [eb5]
    have hw5 : w.heap.size ≤ b5 := by omega
    clear eW eb5 hG4 hA4 hgw4 hal hgw3 HA3
    go_loopw [7, 36] (fun v i wr => ∃ (k : Nat) (g : Option Nat) (es : List Nat), k ≤ len ∧ i = .int .i64 k ∧ v = .int .i64 (es.count 0 : Nat) ∧ es.length = k ∧ Hid (∀ e ∈ es, e ≤ 19) ∧ (wr.heap[b5]? = some (.cells #[.int .i64 n, .int .i64 s, .int .i64 q, .int .u32 (id : Int), .map g] 31)) ∧ GateAt wr g es ∧ GrB W0 b5 wr) (fun _ i _ => len - (intOf i).toNat)
    case atStart => exact ⟨0, none, [], Nat.zero_le _, rfl, rfl, rfl, Lib.hid (fun _ h => by cases h), HG0g.out, GateAt.none _, GrB.refl _ _⟩
    case round =>
      obtain ⟨k, g, es, hk, rfl, rfl, hes, hle, hgt, hga, hgc⟩ := hrel
      have hgw : Gr w wr := HG0.out.grb hgc hw5
      have hcl : es.count 0 ≤ es.length := List.count_le_length
      by_cases hlt : k < len
      · have hbw := HB.out.below hgw
        obtain ⟨b, off, ha, _⟩ := hbw.at_ (by omega)
        rw [ha] at hbw ⊢
        obtain ⟨l, a', n', c', hl, hc, hbs⟩ := hbw.get hlt
        have hn8 : n' ≤ 800 := by rw [← hbs.1]; exact HALL.out l (List.mem_of_getElem? hl)
        have CL2 := CL.out a' n' c' l g es (by omega) wr (HT.out.below hgw) hbs (by omega) hga
        have hE := packErr_le n s q id l
        have HRT := Lib.hid fun (h : packErr n s q id l = 0) => read_text h
        have hgl := packGot_le n s q id l
        rw [hbs.1] at hgl
        have hcons : ∀ E : Nat, (E :: es).count 0 = es.count 0 + if E = 0 then 1 else 0 := fun E => by rw [List.count_cons]; simp
        obtain ⟨E, eE⟩ : ∃ E, packErr n s q id l = E := ⟨_, rfl⟩
        obtain ⟨⟨gm, go, gn, gd, gs, lb, lp⟩, eG⟩ : ∃ G, packGot n s q id l = G := ⟨_, rfl⟩
        rw [eE, eG] at CL2 HRT
        rw [eG] at hgl
        rw [eE] at hE
        obtain ⟨c0, ec0⟩ : ∃ c, es.count 0 = c := ⟨_, rfl⟩
        rw [ec0] at hcl hcons ⊢
        have HCONS := Lib.hid (hcons E)
        have CL3 := Lib.hid CL2
        have HGC := Lib.hid hgc
        have HGT := Lib.hid hgt
        have HBS := Lib.hid hbs
        have HES := Lib.hid hes
        have HGL := Lib.hid hgl
        have HGW := Lib.hid hgw
        have hle2 : Hid (∀ e ∈ E :: es, e ≤ 19) := by
          show ∀ e ∈ E :: es, e ≤ 19
          intro e he
          rcases List.mem_cons.1 he with rfl | he
          · exact hE
          · exact hle.out e he
        have hc30 : (c0 : Int) ≤ 1000 := by omega
        clear CL2 eE eG hl hgc hga hbw ha ec0 hcons hgl hle hcl hes
        obtain ⟨x0, x1, x2, x3, x4, _⟩ := five_cells hgt
        clear hgt
        go_wp2_with fail
        refine CL3.out.mono ?_
        rintro e w6 ⟨g', a1, k1, c1, a2, k2, c2, rfl, hga6, hb1, hb2, hg6⟩
        go_wp2_with (with_reducible refine wpList_hold (o := ⟨none, .store 42 _ _, _, _, _, _⟩) ?_)
        change wpList _ _ _ _ _ _
        go_step
        go_step
        go_step
        have hl6 := ((Gr.refl w6).alloc (.cells #[.int .i64 n, .int .i64 s, .int .i64 q, .int .u32 (id : Int), .map (some g')] 31)).alloc (.cells #[.int .u8 (gm : Int), .int .u32 (go : Int), .int .u32 (gn : Int), .int .u8 (gd : Int), .slice a1 k1 c1, .int .u64 (gs : Int), .slice a2 k2 c2] 42)
        have h66 := hg6.trans hl6
        have h13 := Gr.heap ((Gr.refl _).alloc (.cells #[.int .u8 (gm : Int), .int .u32 (go : Int), .int .u32 (gn : Int), .int .u8 (gd : Int), .slice a1 k1 c1, .int .u64 (gs : Int), .slice a2 k2 c2] 42)) (heap_alloc_new w6 (.cells #[.int .i64 n, .int .i64 s, .int .i64 q, .int .u32 (id : Int), .map (some g')] 31))
        have h14 := heap_alloc_new (w6.alloc (.cells #[.int .i64 n, .int .i64 s, .int .i64 q, .int .u32 (id : Int), .map (some g')] 31)) (.cells #[.int .u8 (gm : Int), .int .u32 (go : Int), .int .u32 (gn : Int), .int .u8 (gd : Int), .slice a1 k1 c1, .int .u64 (gs : Int), .slice a2 k2 c2] 42)
        rw [World.size_alloc] at h14
        obtain ⟨W6, eW⟩ : ∃ W, (w6.alloc (.cells #[.int .i64 n, .int .i64 s, .int .i64 q, .int .u32 (id : Int), .map (some g')] 31)).alloc (.cells #[.int .u8 (gm : Int), .int .u32 (go : Int), .int .u32 (gn : Int), .int .u8 (gd : Int), .slice a1 k1 c1, .int .u64 (gs : Int), .slice a2 k2 c2] 42) = W := ⟨_, rfl⟩
        rw [eW] at hl6 h66 h13 h14 ⊢
        have hgt6 := h66.heap HGT.out
        have hga6' := hga6.gr hl6
        have hb1' := hb1.below hl6
        have hb2' := hb2.below hl6
        have hsz := lt_of_block (hg6.heap HGT.out)
        obtain ⟨z0, z1, z2, z3, z4, _⟩ := five_cells h13
        obtain ⟨x0, x1, x2, x3, x4, xf⟩ := five_cells hgt6
        obtain ⟨hgb, hh⟩ := five_set hgt6 (.int .i64 n) (.int .i64 s) (.int .i64 q) (.int .u32 (id : Int)) (.map (some g'))
        have hne1 : b5 ≠ w6.heap.size + 1 := by omega
        have h14' := hgb.heap h14 (Ne.symm hne1)
        have hA7 := hgb.heap ((HGC.out.gr h66).heap HG0a.out (by omega)) (by omega)
        have hfin := Lib.hid (show _ ∧ _ ∧ _ from ⟨hh, hga6'.grb hgb (hga6'.ne hgt6), (HGC.out.gr h66).trans hgb⟩)
        have hb17 := hb1'.gap hgb hgt6 (fun j u => by match j with | 0 => simp | 1 => simp | 2 => simp | 3 => simp | 4 => simp | j + 5 => simp)
        have hb27 := hb2'.gap hgb hgt6 (fun j u => by match j with | 0 => simp | 1 => simp | 2 => simp | 3 => simp | 4 => simp | j + 5 => simp)
        have hx7 := (HBS.out.below h66).gap hgb hgt6 (fun j u => by match j with | 0 => simp | 1 => simp | 2 => simp | 3 => simp | 4 => simp | j + 5 => simp)
        have hgw7 := (HGW.out.trans h66).grb hgb hw5
        clear eW hl6 h66 hg6 h13 h14 hgt6 hga6 hga6' hb1 hb2 hb1' hb2' hgb hh
        by_cases hE0 : E = 0
        · obtain ⟨hft, htx⟩ := HRT.out hE0
          try simp only at hft htx
          have hwt : wText n s q id gm go gn gd lb gs lp = l := by unfold wText; rw [if_pos hft]; exact htx
          have hgo : go = id := (fitErr_zero hft).2.2.1
          rw [hb17.1, hb27.1] at hft
          have hlb := hb17.1
          have hlp := hb27.1
          have HGL3 := HGL.out
          try simp only at HGL3
          rw [hlb, hlp] at HGL3
          have CW2 := CW.out gm go gn gd gs lb lp _ (HT.out.below hgw7) a1 k1 c1 a2 k2 c2 hb17 hb27 (by omega) (by omega) HGL3.2.2
          rw [hft, hwt] at CW2
          subst hgo
          have hcc : (E :: es).count 0 = c0 + 1 := by rw [HCONS.out, if_pos hE0]
          have HCC := Lib.hid hcc
          have HCW := Lib.hid CW2
          have hst := sameB_self l
          have hx8 := Lib.hid hx7
          have HH14 := Lib.hid h14'
          have HA7 := Lib.hid hA7
          have HGW7 := Lib.hid hgw7
          have hgne : ((go : Int) != (go : Int)) = false := by simp
          have hEt : ((E : Int) != 0) = false := by rw [hE0]; rfl
          obtain ⟨y0, y1, y2, y3, y4, y5, y6, _⟩ := seven_cells h14'
          obtain ⟨q0, q1, q2, q3⟩ := p_four_cells hA7
          clear hft htx hwt hlb hlp HGL3 CW2 hcc hx7 h14' hA7 hgw7 hb17 hb27
          go_wp2_with fail
          refine HCW.out.mono ?_
          rintro e w8 ⟨a8, k8, c8, rfl, ho8, hg8⟩
          obtain ⟨a9, c9, he9, hb9, _⟩ := ho8.bs
          injection he9 with e1 e2 e3
          have hx9 := hx8.out.below hg8
          have h88 := hg8.heap HH14.out
          have hA8 := hg8.heap HA7.out
          have hfin8 := Lib.hid (show _ ∧ _ ∧ _ from ⟨hg8.heap hfin.out.1, hfin.out.2.1.gr hg8, hfin.out.2.2.gr hg8⟩)
          rw [← e1, ← e2, ← e3] at hb9
          clear e1 e2 e3 ho8 hg8 y0 y1 y2 y3 y4 y5 y6 q0 q1 q2 q3 hfin HGW7
          go_wp2_with fail
          refine (same_any _ _ _ _ _ _ l l _ hb9 hx9).mono ?_
          rintro e w9 ⟨rfl, hg9⟩
          obtain ⟨y0, y1, y2, y3, y4, y5, y6, _⟩ := seven_cells (hg9.heap h88)
          obtain ⟨q0, q1, q2, q3⟩ := p_four_cells (hg9.heap hA8)
          have hfin9 := Lib.hid (show _ ∧ _ ∧ _ from ⟨hg9.heap hfin8.out.1, hfin8.out.2.1.gr hg9, hfin8.out.2.2.gr hg9⟩)
          clear hg9 hfin8 h88 hA8 hb9 hx9 hE0
          go_wp2
          go_roundw
          case rel => exact ⟨k + 1, some g', E :: es, by omega, by go_num, by rw [HCC.out]; go_num, by rw [List.length_cons, HES.out], hle2, hfin9.out.1, hfin9.out.2.1, hfin9.out.2.2⟩
          case measure => simp [intOf]; omega
        · have hEt : ((E : Int) != 0) = true := by rw [bne_iff_ne]; omega
          have hcc : (E :: es).count 0 = c0 := by rw [HCONS.out, if_neg hE0]; rfl
          have HCC := Lib.hid hcc
          clear hE0 hcc h14' hA7 hb17 hb27 hx7 hgw7
          go_wp2
          go_roundw
          case rel => exact ⟨k + 1, some g', E :: es, by omega, by go_num, by rw [HCC.out], by rw [List.length_cons, HES.out], hle2, hfin.out.1, hfin.out.2.1, hfin.out.2.2⟩
          case measure => simp [intOf]; omega
      · have hnl : (len : Int) ≤ (k : Int) := by omega
        have hkl : es.length = len := by omega
        have hall := cntTo_all es fun e he => Nat.lt_of_le_of_lt (hle.out e he) (by decide)
        rw [hkl] at hall hcl
        have hct := cntTo_le es
        rw [hkl] at hct
        have CC := Lib.hid fun (j : Nat) (hj : j ≤ 1000000) (w : World) h => gateCount_any n s q id g es j hj w h
        have CS := Lib.hid fun (w : World) h => gateSeen_any n s q id g es w h (by omega)
        rw [hkl] at CS
        obtain ⟨c0, ec0⟩ : ∃ c, es.count 0 = c := ⟨_, rfl⟩
        obtain ⟨F, eF⟩ : ∃ F, cntTo es = F := ⟨_, rfl⟩
        have hstep : ∀ j, F (j + 1) = F j + es.count j := fun j => by rw [← eF]; rfl
        have hF0 : F 0 = 0 := by rw [← eF]; rfl
        rw [eF] at hall hct
        have HF0 := Lib.hid hF0
        have HSTEP := Lib.hid hstep
        have HALLC := Lib.hid hall
        have HCT := Lib.hid hct
        have HC0 := Lib.hid ec0
        rw [ec0]
        have HGT := Lib.hid hgt
        have HGA := Lib.hid hga
        have HGW := Lib.hid hgw
        clear hall hct hstep hF0 eF hgt hga hgc hgw hlt hle hcl ec0
        go_wp2
        obtain ⟨wa, ewa⟩ : ∃ wa, wr = wa := ⟨_, rfl⟩
        rw [ewa] at HGA HGT HGW ⊢
        clear ewa
        have hdk : decide (k < len) = false := decide_eq_false (by omega)
        rw [hdk]
        go_loopw [15, 75] (fun v i wr => ∃ j : Nat, j ≤ 40 ∧ i = .int .i64 j ∧ v = .int .i64 (F j : Nat) ∧ Gr wa wr) (fun _ i _ => 40 - (intOf i).toNat)
        case atStart => exact ⟨0, by omega, rfl, by rw [HF0.out]; rfl, Gr.refl _⟩
        case round =>
          obtain ⟨j, hj, rfl, rfl, hgj⟩ := hrel
          have hFj := HCT.out j
          by_cases hlt : j < 40
          · have hFs := HSTEP.out j
            have hFj1 := HCT.out (j + 1)
            obtain ⟨x0, x1, x2, x3, x4, _⟩ := five_cells (hgj.heap HGT.out)
            have CC1 := CC.out j (by omega) wr (HGA.out.gr hgj)
            obtain ⟨cj, ecj⟩ : ∃ c, es.count j = c := ⟨_, rfl⟩
            obtain ⟨fj, efj⟩ : ∃ c, F j = c := ⟨_, rfl⟩
            rw [ecj] at CC1 hFs
            rw [efj] at hFs hFj ⊢
            have HFS := Lib.hid hFs
            have HCC1 := Lib.hid CC1
            have HGJ := Lib.hid hgj
            have hsum : (fj : Int) + (cj : Int) ≤ 1000 := by rw [hFs] at hFj1; omega
            have hjt : (j : Int) < 40 := by omega
            clear CC1 ecj efj hFs hFj1 hgj
            go_wp2_with fail
            refine HCC1.out.mono ?_
            rintro e w9 ⟨rfl, hg9⟩
            have hgf := HGJ.out.trans hg9
            clear hg9 HGJ
            go_wp2
            go_roundw
            case rel => exact ⟨j + 1, by omega, by go_num, by rw [HFS.out]; go_num, hgf⟩
            case measure => simp [intOf]; omega
          · have hj40 : (40 : Int) ≤ (j : Int) := by omega
            obtain rfl : j = 40 := by omega
            rw [HALLC.out]
            have hga1 := HGA.out.gr hgj
            have hgt1 := hgj.heap HGT.out
            have hgf := HGW.out.trans hgj
            have CC1 := CC.out 0 (by decide) wr hga1
            rw [HC0.out] at CC1
            have HCC1 := Lib.hid CC1
            have he0 : ((c0 : Int) == (c0 : Int)) = true := by simp
            have he1 : ((len : Int) == (len : Int)) = true := by simp
            obtain ⟨x0, x1, x2, x3, x4, _⟩ := five_cells hgt1
            clear hgj hlt CC1 hFj
            go_wp2_with fail
            refine HCC1.out.mono ?_
            rintro e w9 ⟨rfl, hg9⟩
            obtain ⟨x0, x1, x2, x3, x4, _⟩ := five_cells (hg9.heap hgt1)
            have hgf9 := hgf.trans hg9
            have CS1 := Lib.hid (CS.out w9 (hga1.gr hg9))
            clear hg9 hgf hga1 hgt1
            go_wp2_with fail
            refine CS1.out.mono ?_
            rintro e w10 ⟨rfl, hg10⟩
            have hgf10 := hgf9.trans hg10
            clear hg10 hgf9
            go_wp2
            go_ret
            exact ⟨rfl, hgf10⟩
end Go.Proofs.YtdmijoochgmhiacDoor
