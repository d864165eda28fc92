/-
  The walk of law DrawsTakes.
-/
import Derived.Test.YtdmijoochgmhiaaDrawsAwake
namespace Go.Proofs.Ytdmijoochgmhiaa
open Go.RowKit
set_option linter.unusedVariables false

theorem Bs.dropAt {w : World} {b off len cap : Nat} {l : List UInt8} (h : Bs w (some ⟨b, off, none⟩) len cap l) {k : Nat} (hk : k ≤ len) : Bs w (if cap = k then some ⟨b, off, none⟩ else some ⟨b, off + k, none⟩) (len - k) (cap - k) (l.drop k) := by
  by_cases hc : cap = k
  · rw [if_pos hc]
    have h2 := h.2.1
    have hl : l.drop k = [] := List.drop_eq_nil_of_le (by rw [h.1]; omega)
    rw [hl, show len - k = 0 by omega, show cap - k = 0 by omega]
    exact Bs.empty w _ (by simp) 0 (Nat.zero_le _)
  · rw [if_neg hc]; exact h.drop hk
theorem flat200 : ∀ {ls : List (List UInt8)}, (∀ l ∈ ls, l.length ≤ 200) → ls.flatten.length ≤ 200 * ls.length
  | [], _ => by simp
  | l :: ls, h => by
    have h1 := h l (by simp)
    have h2 := flat200 (ls := ls) fun x hx => h x (by simp [hx])
    rw [List.flatten_cons, List.length_append, List.length_cons]; omega
theorem take_snoc {α : Type} {ls : List (List α)} {k : Nat} {l : List α} (h : ls[k]? = some l) : (ls.take (k + 1)).flatten = (ls.take k).flatten ++ l := by
  rw [List.take_add_one, h]; simp
/-- bytes do not lie where a string lies. -/
theorem Bs.gr1 {w w' : World} {b : Nat} {a : Option Addr} {n c : Nat} {l : List UInt8} {S : ByteArray} {t : TypeId} (h : Bs w a n c l) (g : GrB w b w') (hb : w.heap[b]? = some (.cells #[.string S] t)) : Bs w' a n c l := by
  refine ⟨h.1, h.2.1, h.2.2.1, h.2.2.2.1, fun x hx i u hu => ?_⟩
  have hc := h.2.2.2.2 x hx i u hu
  by_cases hbk : (x.add i).block = b
  · exfalso
    have hs := World.cell?_spot hc
    have hc' : w.cell? ⟨b, (x.add i).off, none⟩ = some (.int .u8 (u.toNat : Int)) := by rw [← hbk, ← hs]; exact hc
    simp [World.cell?, hb] at hc'
    match (x.add i).off, hc' with
    | 0, h => simp at h
    | k + 1, h => simp at h
  · rw [World.cell?_of_block (w := w) (g.block _ (World.block_lt_of_cell? w _ hc) (by simpa using hbk))]; exact hc
/-- where what is left lies. -/
def Plain (a : Option Addr) : Prop := a = none ∨ ∃ b off, a = some ⟨b, off, none⟩
theorem OwnV.plain {w : World} {base : Nat} {v : Value} {l : List UInt8} (h : OwnV w base v l) : ∃ a cap, v = .slice a l.length cap ∧ Bs w a l.length cap l ∧ Plain a := by
  obtain ⟨a, cap, rfl, hb, _⟩ := h.bs
  refine ⟨a, cap, rfl, hb, ?_⟩
  rcases h.2 with ⟨h1, _⟩ | ⟨g, cap', cur, h1, _⟩
  · injection h1 with e1; exact .inl e1
  · injection h1 with e1; exact .inr ⟨g, 0, e1⟩

set_option maxRecDepth 100000 in
set_option maxHeartbeats 4000000 in
theorem drawsTakes_walk (w : World) (a : Option Addr) (len cap : Nat) (ls : List (List UInt8)) (hb : Bss w a len cap ls) (a2 : Option Addr) (len2 cap2 : Nat) (ns : List Int) (hi : Ints w a2 len2 cap2 ns) (hlen : len ≤ 1048576) :
    Calls Try.prog 6 #[.slice a len cap, .slice a2 len2 cap2] w fun e w' => e = .returned (.bool true) ∧ Gr w w' := by
  have hm2 : len2 ≤ 9223372036854775807 := by have h1 := hi.2.1; have h2 := hi.2.2.1; unfold maxLen at h2; omega
  have HB := Lib.hid hb
  have HI := Lib.hid hi
  have HL := Lib.hid hb.1
  clear hb hi
  go_enter Try.func6, Try.ntmps6
  go_wp2_with fail
  refine (drawsAwake w).mono ?_
  rintro e w1 ⟨rfl, hg1⟩
  have HG1 := Lib.hid hg1
  clear hg1
  go_wp2
  go_loopw [5, 19] (fun v i wr => ∃ k : Nat, k ≤ len ∧ i = .int .i64 k ∧ Hid (∀ j l, j < k → ls[j]? = some l → l.length ≤ 200) ∧ OwnV wr w.heap.size v (ls.take k).flatten ∧ Gr w wr) (fun _ i _ => len - (intOf i).toNat)
  case atStart => exact ⟨0, Nat.zero_le _, rfl, Lib.hid (fun _ _ h => by omega), OwnV.nil _ _, HG1.out⟩
  case round =>
    obtain ⟨k, hk, rfl, hall, hown, hgr⟩ := hrel
    by_cases hlt : k < len
    · have hbw := HB.out.below hgr
      obtain ⟨b, off, rfl, _⟩ := hbw.at_ (by omega)
      obtain ⟨l, a', n', c', hl, hc, hbs⟩ := hbw.get hlt
      have hl' : l.length = n' := hbs.1
      have hn' : n' ≤ 9223372036854775807 := by have h1 := hbs.2.1; have h2 := hbs.2.2.1; unfold maxLen at h2; omega
      clear hbw
      by_cases hbig : 200 < n'
      · have hbig' : (200 : Int) < (n' : Int) := by omega
        clear hall hown hl' hbs
        go_wp2
        go_ret
        exact ⟨rfl, hgr⟩
      · have hbig' : ¬ (200 : Int) < (n' : Int) := by omega
        have HLL := Lib.hid hl
        have hacc : Hid ((ls.take k).flatten.length ≤ 209715200) := by
          show _ ≤ _
          have h1 := flat200 (ls := ls.take k) fun x hx => by
            obtain ⟨j, hj, e⟩ := List.getElem_of_mem hx
            have hj' : j < k := by rw [List.length_take] at hj; omega
            exact hall.out j x hj' (by rw [← e, List.getElem_take]; exact List.getElem?_eq_getElem _)
          rw [List.length_take] at h1
          omega
        obtain ⟨acc, eacc⟩ : ∃ acc, (ls.take k).flatten = acc := ⟨_, rfl⟩
        rw [eacc] at hown hacc
        have HACC := Lib.hid eacc
        clear hl eacc
        have hq : acc.length + n' ≤ 140737488355328 := by have := hacc.out; omega
        have hbase : w.heap.size ≤ wr.heap.size := hgr.size
        go_wp2_with (with_reducible refine wpList_hold (o := ⟨some 28, _, _, _, _, _⟩) ?_)
        change wpList _ _ _ _ _ _
        refine wpList_append_bytes rfl (.tmp 26) (.tmp 27) rfl w.heap.size _ acc rfl hown a' n' c' l rfl hbs hq hbase ?_
        intro v4 w4 ho4 hg4 hn4
        have hgw4 : Gr w w4 := Gr.grown hgr hg4 (fun q hq => (hown.lt q hq).1)
        clear hown hg4 hn4 hgr hbs hc
        go_wp2
        go_roundw
        case rel =>
          refine ⟨k + 1, by omega, by go_num, Lib.hid (fun j l2 hj hl2 => ?_), ?_, hgw4⟩
          · by_cases e : j = k
            · subst e; rw [HLL.out] at hl2; cases hl2; omega
            · exact hall.out j l2 (by omega) hl2
          · rw [take_snoc HLL.out, HACC.out]; exact ho4
        case measure => simp [intOf]; omega
    · have hkl : (len : Int) ≤ (k : Int) := by omega
      have hall2 : Hid (∀ l ∈ ls, l.length ≤ 200) := by
        show ∀ l ∈ ls, l.length ≤ 200
        intro l hl
        obtain ⟨j, hj, e⟩ := List.getElem_of_mem hl
        have := HL.out
        exact hall.out j l (by omega) (by rw [List.getElem?_eq_getElem hj, e])
      have hfl : (ls.take k).flatten = ls.flatten := by rw [List.take_of_length_le (by have := HL.out; omega)]
      rw [hfl] at hown
      clear hall hfl
      by_cases h20 : 20 < len
      · have h20' : (20 : Int) < (len : Int) := by omega
        clear hown
        go_wp2
        go_ret
        exact ⟨rfl, hgr⟩
      have h20' : ¬ (20 : Int) < (len : Int) := by omega
      by_cases h40 : 40 < len2
      · have h40' : (40 : Int) < (len2 : Int) := by omega
        clear hown
        go_wp2
        go_ret
        exact ⟨rfl, hgr⟩
      have h40' : ¬ (40 : Int) < (len2 : Int) := by omega
      have hfl : Hid (ls.flatten.length ≤ 4000) := by
        show _ ≤ _
        have h1 := flat200 hall2.out
        have := HL.out
        omega
      have HOF := Lib.hid (drawsOf a len cap ls wr (HB.out.below hgr) (by omega) (by have := hfl.out; omega))
      obtain ⟨L, eL⟩ : ∃ L, ls.flatten = L := ⟨_, rfl⟩
      rw [eL] at HOF hown hfl
      obtain ⟨a5, c5, rfl, hb5, hp5⟩ := hown.plain
      have HB5 := Lib.hid hb5
      have HP5 := Lib.hid hp5
      have HGR := Lib.hid hgr
      clear eL hall2 hlt h20 h40 hown hb5 hp5 hgr
      go_wp2_with fail
      refine HOF.out.mono ?_
      rintro e w4 ⟨rfl, hg4⟩
      have hgw4 := HGR.out.trans hg4
      have hb4 := HB5.out.below (hg4.alloc (.cells #[.string (str L)] 42))
      have hd4 := heap_alloc_new w4 (.cells #[.string (str L)] 42)
      have hgw5 := hgw4.alloc (.cells #[.string (str L)] 42)
      have hs4 := hgw4.size
      clear hg4 HB5 HGR HOF hgw4
      go_wp2
      obtain ⟨W0, eW⟩ : ∃ W, w4.alloc (.cells #[.string (str L)] 42) = W := ⟨_, rfl⟩
      rw [eW] at hb4 hd4 hgw5 ⊢
      obtain ⟨B, eB⟩ : ∃ b, w4.heap.size = b := ⟨_, rfl⟩
      rw [eB] at hd4 hs4 ⊢
      have HB4 := Lib.hid hb4
      have HD4 := Lib.hid hd4
      have HG5 := Lib.hid hgw5
      clear eW eB hb4 hd4 hgw5
      go_loopw [5, 42] (fun v i wr => ∃ (k : Nat) (a' : Option Addr) (n' c' : Nat) (R : List UInt8), k ≤ len2 ∧ i = .int .i64 k ∧ v = .slice a' n' c' ∧ Bs wr a' n' c' R ∧ Hid (Plain a') ∧ Hid (R.length ≤ 4000) ∧ (wr.heap[B]? = some (.cells #[.string (str R)] 42)) ∧ Gr w wr) (fun _ i _ => len2 - (intOf i).toNat)
      case atStart => exact ⟨0, a5, _, c5, L, Nat.zero_le _, rfl, rfl, HB4.out, HP5, hfl, HD4.out, HG5.out⟩
      case round =>
        obtain ⟨k2, a', n', c', R, hk2, rfl, rfl, hbr, hpl, hrl, hdr, hgr⟩ := hrel
        have hRn := hbr.1
        by_cases hlt2 : k2 < len2
        · obtain ⟨b2, off2, rfl, _⟩ := (HI.out.below hgr).at_ (by omega)
          obtain ⟨x, hx, hcx, hxl, hxh⟩ := (HI.out.below hgr).get hlt2
          have hn4 : n' ≤ 4000 := by have := hrl.out; omega
          have hal := (Gr.refl wr).alloc (.cells #[.string (str R)] 42)
          obtain ⟨x0, xf⟩ := cell1 hdr
          obtain ⟨y0, _⟩ := cell1 (hal.heap hdr)
          have HBR := Lib.hid hbr
          have HRN := Lib.hid hRn
          have hBw := lt_of_block hdr
          have HDR := Lib.hid hdr
          have HGR := Lib.hid hgr
          clear hbr hRn hdr hgr hx
          by_cases hneg : x < 0
          · go_wp2_with fail
            refine (drawsTake_neg R x hneg _).mono ?_
            rintro e w6 ⟨rfl, hg6⟩
            have h16 := hal.trans hg6
            have hd6 := h16.heap HDR.out
            obtain ⟨z0, zf⟩ := cell1 (Gr.heap ((Gr.refl w6).alloc (.cells #[.string (str R)] 42)) hd6)
            obtain ⟨hgb, hh⟩ := set1 hd6 (.string (str R))
            obtain ⟨q0, _⟩ := cell1 (Gr.heap ((Gr.refl _).alloc (.cells #[.string (str R)] 42)) hh)
            have hlt6 := lt_of_block hd6
            have h6r := HGR.out.trans h16
            have hbr6 := (HBR.out.below h16).gr1 hgb hd6
            have hfin := Lib.hid (show _ ∧ _ ∧ _ from ⟨hh, h6r.grb hgb hs4, hbr6⟩)
            clear hgb hh hd6 h6r hbr6 h16 hg6
            go_wp2_with fail
            refine (drawsLeft R _).mono ?_
            rintro e w7 ⟨rfl, hg7⟩
            have hg67 := ((Gr.refl _).alloc (.cells #[.string (str R)] 42)).trans hg7
            rw [HRN.out]
            have hne : ((n' : Int) != (n' : Int)) = false := by simp
            have hfin2 := Lib.hid (show _ ∧ _ ∧ _ from ⟨hg67.heap hfin.out.1, hfin.out.2.1.trans hg67, hfin.out.2.2.below hg67⟩)
            clear hg67 hg7 z0 zf q0 hfin x0 xf y0
            go_wp2
            go_roundw
            case rel => exact ⟨k2 + 1, a', n', c', R, by omega, by go_num, rfl, hfin2.out.2.2, hpl, hrl, hfin2.out.1, hfin2.out.2.1⟩
            case measure => simp [intOf]; omega
          by_cases hbig : (n' : Int) < x
          · have hx0 : (0 : Int) ≤ x := by omega
            go_wp2_with fail
            refine (drawsTake_short R x (by rw [HRN.out]; exact hbig) _).mono ?_
            rintro e w6 ⟨rfl, hg6⟩
            have h16 := hal.trans hg6
            have hd6 := h16.heap HDR.out
            obtain ⟨z0, zf⟩ := cell1 (Gr.heap ((Gr.refl w6).alloc (.cells #[.string (str R)] 42)) hd6)
            obtain ⟨hgb, hh⟩ := set1 hd6 (.string (str R))
            obtain ⟨q0, _⟩ := cell1 (Gr.heap ((Gr.refl _).alloc (.cells #[.string (str R)] 42)) hh)
            have hlt6 := lt_of_block hd6
            have h6r := HGR.out.trans h16
            have hbr6 := (HBR.out.below h16).gr1 hgb hd6
            have hfin := Lib.hid (show _ ∧ _ ∧ _ from ⟨hh, h6r.grb hgb hs4, hbr6⟩)
            clear hgb hh hd6 h6r hbr6 h16 hg6
            go_wp2_with fail
            refine (drawsLeft R _).mono ?_
            rintro e w7 ⟨rfl, hg7⟩
            have hg67 := ((Gr.refl _).alloc (.cells #[.string (str R)] 42)).trans hg7
            rw [HRN.out]
            have hne : ((n' : Int) != (n' : Int)) = false := by simp
            have hfin2 := Lib.hid (show _ ∧ _ ∧ _ from ⟨hg67.heap hfin.out.1, hfin.out.2.1.trans hg67, hfin.out.2.2.below hg67⟩)
            clear hg67 hg7 z0 zf q0 hfin x0 xf y0
            go_wp2
            go_roundw
            case rel => exact ⟨k2 + 1, a', n', c', R, by omega, by go_num, rfl, hfin2.out.2.2, hpl, hrl, hfin2.out.1, hfin2.out.2.1⟩
            case measure => simp [intOf]; omega
          obtain ⟨K, rfl⟩ : ∃ K : Nat, x = K := ⟨x.toNat, by omega⟩
          have hKn : K ≤ n' := by omega
          have hKi : (K : Int) ≤ (n' : Int) := by omega
          have HTK := Lib.hid (drawsTake_ok R K (by rw [HRN.out]; exact hKn) (by rw [HRN.out]; omega))
          rcases hpl.out with rfl | ⟨b', off', rfl⟩
          · have hcz := HBR.out.2.2.2.1 rfl
            have hnc := HBR.out.2.1
            obtain rfl : c' = 0 := hcz
            obtain rfl : n' = 0 := by omega
            obtain rfl : K = 0 := by omega
            have hst := sameB_self (R.take 0)
            go_wp2_with fail
            refine (HTK.out _).mono ?_
            rintro e w6 ⟨b6, c6, rfl, hb6, hg6⟩
            have h16 := hal.trans hg6
            have hl6 := (Gr.refl w6).alloc (.cells #[.string (str (R.drop 0))] 42)
            have hW6 := Lib.hid (hl6.heap (hg6.heap (heap_alloc_new wr (.cells #[.string (str R)] 42))))
            have hN6 := Lib.hid (heap_alloc_new w6 (.cells #[.string (str (R.drop 0))] 42))
            have hD6 := Lib.hid ((h16.trans hl6).heap HDR.out)
            have hB6 := Lib.hid (HBR.out.below (h16.trans hl6))
            have hG6 := Lib.hid (HGR.out.trans (h16.trans hl6))
            have hb6l := hb6.below hl6
            clear hg6 h16 hl6 hb6 x0 xf y0
            go_wp2_with fail
            refine (same_any _ _ 0 c6 0 0 (R.take 0) (R.take 0) _ hb6l ((hB6.out.take (k := 0) (by omega)))).mono ?_
            rintro e w7 ⟨rfl, hg7⟩
            obtain ⟨x0, _⟩ := cell1 (hg7.heap hW6.out)
            have hne : ((0 : Int) != (0 : Int)) = false := by simp
            go_wp2_with fail
            refine (drawsLeft R _).mono ?_
            rintro e w8 ⟨rfl, hg8⟩
            rw [HRN.out]
            have h78 := hg7.trans hg8
            have hd8 := h78.heap hD6.out
            obtain ⟨y0, yf⟩ := cell1 hd8
            obtain ⟨z0, _⟩ := cell1 (h78.heap hN6.out)
            obtain ⟨hgb, hh⟩ := set1 hd8 (.string (str (R.drop 0)))
            obtain ⟨q0, _⟩ := cell1 hh
            have hfin := Lib.hid (show _ ∧ _ ∧ _ from ⟨hh, (hG6.out.trans h78).grb hgb hs4, (hB6.out.below h78).gr1 hgb hd8⟩)
            clear hgb hh hd8 h78 hg7 hg8 hb6l x0 hW6 hN6 hD6 hB6 hG6
            go_wp2_with fail
            refine (drawsLeft (R.drop 0) _).mono ?_
            rintro e w9 ⟨rfl, hg9⟩
            have hdl : (R.drop 0).length = 0 := by rw [List.length_drop, HRN.out]
            rw [hdl]
            have hfin2 := Lib.hid (show _ ∧ _ ∧ _ from ⟨hg9.heap hfin.out.1, hfin.out.2.1.trans hg9, hfin.out.2.2.below hg9⟩)
            have hrl2 : Hid ((R.drop 0).length ≤ 4000) := by show _ ≤ _; rw [hdl]; omega
            clear hfin hg9 y0 yf z0 q0 hdl
            go_wp2
            go_roundw
            case rel => exact ⟨k2 + 1, none, 0, 0, R.drop 0, by omega, by go_num, rfl, hfin2.out.2.2, Lib.hid (.inl rfl), hrl2, hfin2.out.1, hfin2.out.2.1⟩
            case measure => simp [intOf]; omega
          · skip
            have hKc : (K : Int) ≤ (c' : Int) := by have := HBR.out.2.1; omega
            have hKc' : K ≤ c' := by omega
            have hne2 : (((n' - K : Nat) : Int) != ((n' - K : Nat) : Int)) = false := by simp
            have hne3 : (((n' : Int) - (K : Int)) != ((n' : Int) - (K : Int))) = false := by simp
            obtain ⟨A, hA⟩ : ∃ A : Option Addr, (if c' = K then some ⟨b', off', none⟩ else some ⟨b', off' + K, none⟩) = A := ⟨_, rfl⟩
            have hpA : Hid (Plain A) := by
              show Plain A
              rw [← hA]
              split
              · exact .inr ⟨_, _, rfl⟩
              · exact .inr ⟨_, _, rfl⟩
            have HAE := Lib.hid hA
            have hst := sameB_self (R.take K)
            go_wp2_with fail
            refine (HTK.out _).mono ?_
            rintro e w6 ⟨b6, c6, rfl, hb6, hg6⟩
            have h16 := hal.trans hg6
            have hl6 := (Gr.refl w6).alloc (.cells #[.string (str (R.drop K))] 42)
            have hW6 := Lib.hid (hl6.heap (hg6.heap (heap_alloc_new wr (.cells #[.string (str R)] 42))))
            have hN6 := Lib.hid (heap_alloc_new w6 (.cells #[.string (str (R.drop K))] 42))
            have hD6 := Lib.hid ((h16.trans hl6).heap HDR.out)
            have hB6 := Lib.hid (HBR.out.below (h16.trans hl6))
            have hG6 := Lib.hid (HGR.out.trans (h16.trans hl6))
            have hb6l := hb6.below hl6
            clear hg6 h16 hl6 hb6 x0 xf y0
            go_wp2_with fail
            refine (same_any _ _ K c6 K c' (R.take K) (R.take K) _ hb6l ((hB6.out.take hKn))).mono ?_
            rintro e w7 ⟨rfl, hg7⟩
            obtain ⟨x0, _⟩ := cell1 (hg7.heap hW6.out)
            have hne : ((n' : Int) != (n' : Int)) = false := by simp
            go_wp2_with fail
            refine (drawsLeft R _).mono ?_
            rintro e w8 ⟨rfl, hg8⟩
            rw [HRN.out]
            have h78 := hg7.trans hg8
            have hd8 := h78.heap hD6.out
            obtain ⟨y0, yf⟩ := cell1 hd8
            obtain ⟨z0, _⟩ := cell1 (h78.heap hN6.out)
            obtain ⟨hgb, hh⟩ := set1 hd8 (.string (str (R.drop K)))
            obtain ⟨q0, _⟩ := cell1 hh
            have hfin := Lib.hid (show _ ∧ _ ∧ _ from ⟨hh, (hG6.out.trans h78).grb hgb hs4, (hB6.out.below h78).gr1 hgb hd8⟩)
            clear hgb hh hd8 h78 hg7 hg8 hb6l x0 hW6 hN6 hD6 hB6 hG6
            go_wp2_with fail
            refine (drawsLeft (R.drop K) _).mono ?_
            rintro e w9 ⟨rfl, hg9⟩
            have hdl : (R.drop K).length = n' - K := by rw [List.length_drop, HRN.out]
            rw [hdl]
            have hfin2 := Lib.hid (show _ ∧ _ ∧ _ from ⟨hg9.heap hfin.out.1, hfin.out.2.1.trans hg9, hfin.out.2.2.below hg9⟩)
            have hrl2 : Hid ((R.drop K).length ≤ 4000) := by show _ ≤ _; rw [hdl]; omega
            clear hfin hg9 y0 yf z0 q0 hdl
            go_wp2
            go_roundw
            case rel => exact ⟨k2 + 1, A, n' - K, c' - K, R.drop K, by omega, by go_num, rfl, (by rw [← HAE.out]; exact hfin2.out.2.2.dropAt hKn), hpA, hrl2, hfin2.out.1, hfin2.out.2.1⟩
            case measure => simp [intOf]; omega
        · have hle : (len2 : Int) ≤ (k2 : Int) := by omega
          clear hbr hdr
          go_wp2
          go_ret
          exact ⟨rfl, hgr⟩
end Go.Proofs.Ytdmijoochgmhiaa
