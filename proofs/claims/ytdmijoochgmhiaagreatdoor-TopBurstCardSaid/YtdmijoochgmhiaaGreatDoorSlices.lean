/-
  The walks of slices.Clone, Grow (of nil) and Concat, of bytes.
-/
import Derived.Test.YtdmijoochgmhiaaGreatDoorAppend
import Derived.Lib.Hide
import Derived.Lib.SliceRun
import Derived.Lib.AppendZeros
namespace Go.Proofs.YtdmijoochgmhiaaGreatDoor
open Go.RowKit

theorem OwnV.fresh {w w' : World} {v : Value} {l : List UInt8} (h : OwnV w' w.heap.size v l) (hg : Gr w w') : Fresh w w' v l := by
  obtain ⟨a, cap, hv, hb, ha⟩ := h.bs
  exact ⟨a, cap, hv, hb, ha, hg⟩

set_option maxRecDepth 100000 in
set_option maxHeartbeats 400000 in
theorem sliceClone_own (a : Option Addr) (len cap : Nat) (l : List UInt8) (w : World) (hs : Bs w a len cap l) (hm : len ≤ 140737488355328) :
    Calls Tryz.prog 62 #[.slice a len cap] w fun e w' => ∃ v, e = .returned v ∧ OwnV w' w.heap.size v l ∧ Gr w w' := by
  have hnl := fun (w : World) => Lib.run_eql_slice_nil (P := Tryz.prog) w 22 5 a len cap 0 0 Tryz.underlying22
  cases a with
  | none =>
    obtain rfl : cap = 0 := hs.2.2.2.1 rfl
    obtain rfl : len = 0 := by have := hs.2.1; omega
    obtain rfl : l = [] := List.eq_nil_of_length_eq_zero hs.1
    go_enter Tryz.func62, Tryz.ntmps62
    go_wp2
    go_ret
    exact ⟨_, rfl, OwnV.nil _ _, Gr.refl _⟩
  | some ad =>
    have hown : OwnV (w.alloc (.cells #[] 5)) w.heap.size (.slice (some ⟨w.heap.size, 0, none⟩) 0 0) [] := OwnV.made (Nat.le_refl _) rfl rfl (Nat.zero_le _)
    have hsrc : Bs (w.alloc (.cells #[] 5)) (some ad) len cap l := hs.below ((Gr.refl _).alloc _)
    have hq : ([] : List UInt8).length + len ≤ 140737488355328 := by simpa using hm
    have hbase : w.heap.size ≤ (w.alloc (.cells #[] 5)).heap.size := ((Gr.refl w).alloc _).size
    go_enter Tryz.func62, Tryz.ntmps62
    go_wp2_with (at_builtin; refine wpList_append_bytes rfl (.tmp 5) (.tmp 6) rfl w.heap.size _ [] rfl hown (some ad) len cap l rfl hsrc hq hbase ?_; intro v2 w2 ho2 hg2 hn2)
    go_wp2
    go_ret
    exact ⟨_, rfl, ho2, ((Gr.refl w).alloc _).grown hg2 (fun k hk => by cases hk; exact Nat.le_refl _)⟩
theorem sliceClone_any (a : Option Addr) (len cap : Nat) (l : List UInt8) (w : World) (hs : Bs w a len cap l) (hm : len ≤ 140737488355328) :
    Calls Tryz.prog 62 #[.slice a len cap] w fun e w' => ∃ v, e = .returned v ∧ Fresh w w' v l :=
  (sliceClone_own a len cap l w hs hm).mono fun _ _ ⟨v, he, ho, hg⟩ => ⟨v, he, OwnV.fresh ho hg⟩
/-- what l[k:] is: where nothing is left behind it, the address stays. -/
theorem Bs.dropIf {w : World} {b off len cap : Nat} {l : List UInt8} (h : Bs w (some ⟨b, off, none⟩) len cap l) {k : Nat} (hk : k ≤ len) : Bs w (if cap = k then some ⟨b, off, none⟩ else some ⟨b, off + k, none⟩) (len - k) (cap - k) (l.drop k) := by
  by_cases hc : cap = k
  · rw [if_pos hc]
    have h2 := h.2.1
    have hl : l.drop k = [] := List.drop_eq_nil_of_le (by rw [h.1]; omega)
    rw [hl, show len - k = 0 by omega, show cap - k = 0 by omega]
    exact Bs.empty w _ (by simp) 0 (Nat.zero_le _)
  · rw [if_neg hc]; exact h.drop hk
theorem OwnV.mono {w : World} {b b' : Nat} {v : Value} {l : List UInt8} (h : OwnV w b v l) (hb : b' ≤ b) : OwnV w b' v l := by
  refine ⟨h.1, ?_⟩
  rcases h.2 with hn | ⟨g, cap, cur, hv, hg, r⟩
  · exact .inl hn
  · exact .inr ⟨g, cap, cur, hv, Nat.le_trans hb hg, r⟩
theorem OwnV.bs' {w : World} {b : Nat} {a : Option Addr} {n cap : Nat} {l : List UInt8} (h : OwnV w b (.slice a n cap) l) : Bs w a n cap l ∧ ∀ x, a = some x → b ≤ x.block := by
  obtain ⟨a', cap', hv, hb, ha⟩ := h.bs
  cases hv
  exact ⟨hb, ha⟩
theorem OwnV.slice {w : World} {b : Nat} {v : Value} {l : List UInt8} (h : OwnV w b v l) : ∃ a cap, v = .slice a l.length cap ∧ Bs w a l.length cap l := by
  obtain ⟨a, cap, hv, hb, _⟩ := h.bs; exact ⟨a, cap, hv, hb⟩

set_option maxRecDepth 100000 in
set_option maxHeartbeats 400000 in
theorem sliceGrow_nil (n : Nat) (h0 : 0 < n) (hm : n ≤ 140737488355328) (w : World) :
    Calls Tryz.prog 105 #[.slice none 0 0, .int .i64 (n : Int)] w fun e w' => ∃ v, e = .returned v ∧ OwnV w' w.heap.size v [] ∧ Gr w w' := by
  obtain ⟨i, hi, hz0, hz1, hz2⟩ := info_parts infoByte
  have happ := Lib.run_append_nil_zeros (P := Tryz.prog) w 22 3 22 5 i (.int .u8 0) .i64 .i64 Tryz.underlying22 Tryz.underlying3 hi hz0 n h0 (by omega) (by omega) (by rw [hz2]; omega)
  obtain ⟨c2, hc2⟩ : ∃ c2, grownCap w n 0 5 = c2 := ⟨_, rfl⟩
  have hcge : n ≤ c2 := by rw [← hc2]; exact grownCap_ge w _ 0 5
  have hcle : c2 ≤ maxLen := by rw [← hc2]; exact grownCap_le_maxLen w _ 0 5 (by unfold maxLen; omega)
  rw [hc2] at happ
  clear hc2
  obtain ⟨Z, hZ⟩ : ∃ Z, Builtin.zeroCells (Value.int .u8 0).cells n ++ Builtin.zeroCells (Value.int .u8 0).cells (c2 - n) = Z := ⟨_, rfl⟩
  rw [hZ] at happ
  have hZs : Z.size = c2 := by rw [← hZ]; simp [size_zeroCells, Value.cells]; omega
  have hcn : (c2 : Int) ≤ 9223372036854775807 := by unfold maxLen at hcle; omega
  clear hZ
  go_enter Tryz.func105, Tryz.ntmps105
  go_wp2_with (at_builtin; refine Lib.wpList_append_run _ rfl (.tmp 20) (.tmp 21) 22 3 rfl _ _ rfl rfl _ _ happ ?_)
  go_wp2
  go_ret
  refine ⟨_, rfl, ⟨rfl, .inr ⟨w.heap.size, c2, Z, rfl, Nat.le_refl _, heap_alloc_new _ _, Nat.zero_le _, hcle, by simpa using hZs, by simp [u8s]⟩⟩, ?_⟩
  exact (Gr.refl w).drew.alloc _
theorem flat_succ {ls : List (List UInt8)} {k : Nat} {l : List UInt8} (h : ls[k]? = some l) : (ls.take (k + 1)).flatten = (ls.take k).flatten ++ l := by
  rw [List.take_add_one, h, List.flatten_append]; simp
theorem flat_le (ls : List (List UInt8)) (k : Nat) : (ls.take k).flatten.length ≤ ls.flatten.length := by
  conv => rhs; rw [← List.take_append_drop k ls, List.flatten_append, List.length_append]
  omega
theorem flat_le' {ls : List (List UInt8)} {k : Nat} {l : List UInt8} (h : ls[k]? = some l) : (ls.take k).flatten.length + l.length ≤ ls.flatten.length := by
  have := flat_le ls (k + 1)
  rw [flat_succ h, List.length_append] at this; exact this

set_option maxRecDepth 100000 in
set_option maxHeartbeats 1000000 in
theorem sliceConcat_own (a : Option Addr) (len cap : Nat) (ls : List (List UInt8)) (t : Nat) (ht : ls.flatten.length = t) (h0 : 0 < t) (hmx : t ≤ 140737488355328) (w : World) (hs : Bss w a len cap ls) :
    Calls Tryz.prog 69 #[.slice a len cap] w fun e w' => ∃ v, e = .returned v ∧ OwnV w' w.heap.size v ls.flatten ∧ Gr w w' := by
  have HT := Lib.hid ht
  have hm : len ≤ 9223372036854775807 := by have h1 := hs.2.1; have h2 := hs.2.2.1; unfold maxLen at h2; omega
  have HL : Hid (ls.length = len) := hs.1
  clear ht
  go_enter Tryz.func69, Tryz.ntmps69
  go_wp2
  go_loop [3, 11] (fun s i => ∃ k q : Nat, k ≤ len ∧ i = .int .i64 k ∧ s = .int .i64 (q : Int) ∧ q = (ls.take k).flatten.length) (fun _ i => len - (intOf i).toNat)
  case atStart => exact ⟨0, 0, Nat.zero_le _, rfl, rfl, rfl⟩
  case round =>
    obtain ⟨k, q, hk, rfl, rfl, hq⟩ := hrel
    have HQ := Lib.hid hq
    have hqm : q ≤ 140737488355328 := by have := flat_le ls k; rw [HT.out] at this; omega
    clear hq
    by_cases hlt : k < len
    · obtain ⟨b, off, rfl, hb⟩ := hs.at_ (by omega)
      obtain ⟨l, a', len', cap', hl, hc, hbs⟩ := hs.get hlt
      have Hl := Lib.hid hl
      have hle : q + len' ≤ 140737488355328 := by have := flat_le' hl; rw [HT.out, hbs.1, ← HQ.out] at this; omega
      have HN : Hid (q + len' = (ls.take (k + 1)).flatten.length) := by show _ = _; rw [flat_succ hl, List.length_append, hbs.1, ← HQ.out]
      clear hl
      go_wp2
      go_round
      case rel => exact ⟨k + 1, q + len', by omega, by go_num, by go_num, HN.out⟩
      case measure => simp [intOf]; omega
    · obtain rfl : k = len := by omega
      have hqt : q = t := by rw [HQ.out, List.take_of_length_le (by rw [HL.out]; exact Nat.le_refl _), HT.out]
      subst hqt
      go_wp2_with fail
      refine (sliceGrow_nil q h0 hmx w).mono ?_
      rintro e w1 ⟨v1, rfl, ho1, hg1⟩
      go_wp2
      go_loopw [6, 27] (fun v i wr => ∃ j : Nat, j ≤ k ∧ i = .int .i64 j ∧ OwnV wr w.heap.size v (ls.take j).flatten ∧ Gr w wr) (fun _ i _ => k - (intOf i).toNat)
      case atStart => exact ⟨0, Nat.zero_le _, rfl, ho1, hg1⟩
      case round =>
        obtain ⟨j, hj, rfl, hown, hg⟩ := hrel
        by_cases hlj : j < k
        · obtain ⟨b, off, rfl, hb⟩ := hs.at_ (by omega)
          obtain ⟨l, a', len', cap', hl, hc0, hbs0⟩ := hs.get hlj
          have hc := hg.cell hc0
          have hbs := hbs0.below hg
          have HF : Hid ((ls.take (j + 1)).flatten = (ls.take j).flatten ++ l) := flat_succ hl
          have hq2 : (ls.take j).flatten.length + len' ≤ 140737488355328 := by have := flat_le' hl; rw [HT.out, hbs.1] at this; omega
          have hbase := hg.size
          obtain ⟨L, hL⟩ : ∃ L, (ls.take j).flatten = L := ⟨_, rfl⟩
          rw [hL] at hown hq2 HF
          clear hl hc0 hbs0 hL
          go_wp2_with (at_builtin; refine wpList_append_bytes rfl (.tmp 31) (.tmp 32) rfl w.heap.size _ L rfl hown a' len' cap' l rfl hbs hq2 hbase ?_; intro v2 w2 ho2 hg2 hn2)
          have hg3 : Gr w w2 := Gr.grown hg hg2 (fun q hq => (hown.lt q hq).1)
          rw [← HF.out] at ho2
          clear hg2 hn2 hown hbs hc
          go_wp2
          go_roundw
          case rel => exact ⟨j + 1, by omega, by go_num, ho2, hg3⟩
          case measure => simp [intOf]; omega
        · obtain rfl : j = k := by omega
          have HF : Hid ((ls.take j).flatten = ls.flatten) := by show _ = _; rw [List.take_of_length_le (by rw [HL.out]; exact Nat.le_refl _)]
          go_wp2
          go_ret
          exact ⟨_, rfl, by rw [← HF.out]; exact hown, hg⟩
theorem sliceConcat_any (a : Option Addr) (len cap : Nat) (ls : List (List UInt8)) (t : Nat) (ht : ls.flatten.length = t) (h0 : 0 < t) (hmx : t ≤ 140737488355328) (w : World) (hs : Bss w a len cap ls) :
    Calls Tryz.prog 69 #[.slice a len cap] w fun e w' => ∃ v, e = .returned v ∧ Fresh w w' v ls.flatten :=
  (sliceConcat_own a len cap ls t ht h0 hmx w hs).mono fun _ _ ⟨v, he, ho, hg⟩ => ⟨v, he, OwnV.fresh ho hg⟩
end Go.Proofs.YtdmijoochgmhiaaGreatDoor
