/-
  The walks of package mix.
-/
import Derived.Test.YtdmijoochgmhiaaGreatDoorRows
import Derived.Test.YtdmijoochgmhiaaGreatDoorBase
import Derived.Test.YtdmijoochgmhiaaGreatDoorMixPlain
import Derived.Test.YtdmijoochgmhiaaGreatDoorAppend
import Derived.Lib.Hide
namespace Go.Proofs.YtdmijoochgmhiaaGreatDoor
open Go.RowKit

/-- A generator at block b, of that state. -/
def MixAt (w : World) (b s : Nat) : Prop := w.heap[b]? = some (.cells #[.int .u64 (s : Int)] 189 (0, 0))

set_option maxHeartbeats 400000 in
theorem mixNew_any (s : Nat) (w : World) :
    Calls Tryz.prog 99 #[.int .u64 (s : Int)] w fun e w' => e = .returned (.pointer (some ⟨w.heap.size, 0, none⟩)) ∧ w' = w.alloc (.cells #[.int .u64 (s : Int)] 189) := by
  go_enter Tryz.func99, Tryz.ntmps99
  go_wp2
  go_ret
  exact ⟨rfl, rfl⟩

theorem u64_shx (k z : Nat) (h : z < 18446744073709551616) (d : Int) (hd : d = ((2 ^ k : Nat) : Int)) : bits .xor .u64 (z : Int) ((z : Int) / d) = ((shx k z : Nat) : Int) := by
  have h2 := u64_xor_nat z (z / 2 ^ k) h (Nat.lt_of_le_of_lt (Nat.div_le_self _ _) h)
  rw [hd, show ((z : Int) / ((2 ^ k : Nat) : Int)) = ((z / 2 ^ k : Nat) : Int) by simp, h2]; rfl
theorem u64_mulw (a c : Nat) (d : Int) (hd : d = (c : Int)) : IntKind.u64.wrap ((a : Int) * d) = ((a * c % 18446744073709551616 : Nat) : Int) := by
  rw [hd, IntKind.wrap_u64]; simp
theorem mix_next (s : Nat) : IntKind.u64.wrap ((s : Int) + 11400714819323198485) = ((mixNext s : Nat) : Int) := by
  rw [IntKind.wrap_u64, mixNext_eq]; omega
/-- what the text reckons of a state. -/
theorem mix_out (s : Nat) (h : s < 18446744073709551616) :
    bits .xor .u64 (IntKind.u64.wrap (bits .xor .u64 (IntKind.u64.wrap (bits .xor .u64 (s : Int) ((s : Int) / 1073741824) * 13787848793156543929)) (IntKind.u64.wrap (bits .xor .u64 (s : Int) ((s : Int) / 1073741824) * 13787848793156543929) / 134217728) * 10723151780598845931))
      (IntKind.u64.wrap (bits .xor .u64 (IntKind.u64.wrap (bits .xor .u64 (s : Int) ((s : Int) / 1073741824) * 13787848793156543929)) (IntKind.u64.wrap (bits .xor .u64 (s : Int) ((s : Int) / 1073741824) * 13787848793156543929) / 134217728) * 10723151780598845931) / 2147483648) = ((mixOut s : Nat) : Int) := by
  rw [mixOut_eq, u64_shx 30 s h 1073741824 (by decide), u64_mulw _ 13787848793156543929 13787848793156543929 (by decide), u64_shx 27 _ (Nat.mod_lt _ (by decide)) 134217728 (by decide), u64_mulw _ 10723151780598845931 10723151780598845931 (by decide), u64_shx 31 _ (Nat.mod_lt _ (by decide)) 2147483648 (by decide)]

set_option maxHeartbeats 1000000 in
theorem mixNext_any (b s : Nat) (w : World) (h : MixAt w b s) :
    Calls Tryz.prog 117 #[.pointer (some ⟨b, 0, none⟩)] w fun e w' => e = .returned (.int .u64 (mixOut (mixNext s) : Nat)) ∧ w' = w.setCell ⟨b, 0, none⟩ (.int .u64 (mixNext s : Nat)) := by
  have hc := cell_of_one h
  have hf := free_of_one h
  go_enter Tryz.func117, Tryz.ntmps117
  go_wp2
  go_ret
  refine ⟨?_, by rw [mix_next]⟩
  rw [← mix_out _ (mixNext_lt s), ← mix_next]
  rfl

set_option maxHeartbeats 400000 in
theorem mixNext_nil (w : World) :
    Calls Tryz.prog 117 #[.pointer none] w fun e w' => e = .returned (.int .u64 0) ∧ w = w' := by
  go_enter Tryz.func117, Tryz.ntmps117
  go_wp2
  go_ret
  exact ⟨rfl, rfl⟩
theorem MixAt.gr {w w' : World} {b s : Nat} (h : MixAt w b s) (hb : Gr w w') : MixAt w' b s := hb.heap h
theorem MixAt.grb {w w' : World} {b c s : Nat} (h : MixAt w b s) (hb : GrB w c w') (hne : b ≠ c) : MixAt w' b s := hb.heap h hne
theorem MixAt.set {w : World} {b s t : Nat} (h : MixAt w b s) : MixAt (w.setCell ⟨b, 0, none⟩ (.int .u64 (t : Int))) b t := one_setCell h
theorem MixAt.other {w : World} {b s : Nat} (h : MixAt w b s) {p : Addr} (hp : b ≠ p.block) (u : Value) : MixAt (w.setCell p u) b s := by
  unfold MixAt; rw [Below.heap_setCell _ _ _ _ hp]; exact h

set_option maxHeartbeats 400000 in
theorem mixBytes_nil (n : Int) (w : World) :
    Calls Tryz.prog 100 #[.pointer none, .int .i64 n] w fun e w' => e = .returned (.tuple #[.slice none 0 0, .int .i64 1]) ∧ w = w' := by
  go_enter Tryz.func100, Tryz.ntmps100
  go_wp2
  go_ret2
  exact ⟨rfl, rfl⟩

set_option maxHeartbeats 400000 in
theorem mixBytes_range (a : Addr) (n : Int) (h : n < 0 ∨ 65536 < n) (w : World) :
    Calls Tryz.prog 100 #[.pointer (some a), .int .i64 n] w fun e w' => e = .returned (.tuple #[.slice none 0 0, .int .i64 2]) ∧ w = w' := by
  rcases h with h | h
  · go_enter Tryz.func100, Tryz.ntmps100
    go_wp2
    go_ret2
    exact ⟨rfl, rfl⟩
  · have h' : ¬ n < 0 := by omega
    go_enter Tryz.func100, Tryz.ntmps100
    go_wp2
    go_ret2
    exact ⟨rfl, rfl⟩

set_option maxRecDepth 100000 in
set_option maxHeartbeats 2000000 in
theorem mixBytes_any (b s : Nat) (hs : s < 18446744073709551616) (n : Nat) (hn : n ≤ 65536) (w : World) (h : MixAt w b s) :
    Calls Tryz.prog 100 #[.pointer (some ⟨b, 0, none⟩), .int .i64 (n : Int)] w fun e w' =>
      ∃ g, w.heap.size ≤ g ∧ e = .returned (.tuple #[.slice (some ⟨g, 0, none⟩) n n, .int .i64 0]) ∧ GrB w b w' ∧ MixAt w' b (mixIter ((n + 7) / 8) s) ∧ Bs w' (some ⟨g, 0, none⟩) n n (mixList s n) := by
  obtain ⟨i0, hi, hz0, hz1, hz2⟩ := info_parts infoByte
  have Hs := Lib.hid hs
  clear hs
  have hbl := lt_of_block h
  go_enter Tryz.func100, Tryz.ntmps100
  go_wp2_with (at_make; refine wpList_make_full _ rfl (.tmp 18) (.tmp 18) 22 rfl w.heap.size 5 i0 (.int .u8 0) 1 Tryz.underlying22 hi hz0 hz1 .i64 .i64 (n : Int) (n : Int) n rfl rfl rfl rfl (by rw [hz2]; omega) (by unfold maxLen; omega) (Nat.le_refl _) ?_; intro w1 hown hgrow)
  have hob : OwnB w1 w.heap.size w.heap.size n n (mixPart s n 0) := by
    unfold OwnB
    have e : u8s (mixPart s n 0) = (madeCells (Value.int .u8 0).cells (n * 1)).toList := by
      rw [mixPart_zero]
      apply List.ext_getElem
      · simp [u8s, madeCells]
      · intro i h1 h2; simp [u8s, madeCells, Value.cells, Nat.mod_one]
    rw [e]; exact hown
  have hgb : GrB w b w1 := ⟨hgrow.os, hgrow.tape, hgrow.output, hgrow.size, fun j hj _ => hgrow.block j hj (by simp)⟩
  have hmb : MixAt w1 b (mixIter 0 s) := by show w1.heap[b]? = _; rw [hgrow.block b hbl (by simp)]; exact h
  clear hown hgrow h
  go_loopw [7] (fun i wr => ∃ k t : Nat, t = 8 * k ∧ t ≤ n + 7 ∧ i = .int .i64 t ∧ OwnB wr w.heap.size w.heap.size n n (mixPart s n t) ∧ MixAt wr b (mixIter k s) ∧ GrB w b wr) (fun i _ => n + 8 - (intOf i).toNat)
  case atStart => exact ⟨0, 0, rfl, by omega, rfl, hob, hmb, hgb⟩
  case round =>
    obtain ⟨k, t, ht, htn, rfl, hob1, hmb1, hgb1⟩ := hrel
    have HT := Lib.hid ht
    clear ht
    by_cases hlt : t < n
    · go_wp2_with fail
      refine (mixNext_any b _ wr hmb1).mono ?_
      rintro e w2 ⟨rfl, hw2⟩
      have hob2 : OwnB w2 w.heap.size w.heap.size n n (mixPart s n t) := by
        rw [hw2]; exact World.ownsRow.kept hob1 (GrB.set (GrB.refl wr b) (.inl rfl) _) (.inr (by simp [Value.ownBlock]; omega))
      have hmb2 : MixAt w2 b (mixIter (k + 1) s) := by rw [hw2]; exact hmb1.set
      have hgb2 : GrB w b w2 := by rw [hw2]; exact hgb1.set (.inl rfl) _
      clear hw2 hob1 hmb1 hgb1
      obtain ⟨x, hx⟩ : ∃ x, mixOut (mixNext (mixIter k s)) = x := ⟨_, rfl⟩
      rw [hx]
      have hxl : Hid (x < 18446744073709551616) := by show x < _; rw [← hx]; exact mixOut_lt _
      have HX := Lib.hid hx
      clear hx
      by_cases h8 : t + 8 ≤ n
      · obtain ⟨m, hm, hm1, hm2⟩ : ∃ m : Nat, 8 ≤ m ∧ m ≤ 8 ∧ t + m ≤ n := ⟨8, by omega, by omega, h8⟩
        go_wp2
        go_loopw [31] (fun i wr => ∃ j : Nat, j ≤ m ∧ i = .int .i64 j ∧ OwnB wr w.heap.size w.heap.size n n (mixPart s n (t + j)) ∧ MixAt wr b (mixIter (k + 1) s) ∧ GrB w b wr) (fun i _ => m - (intOf i).toNat)
        case atStart => exact ⟨0, by omega, rfl, hob2, hmb2, hgb2⟩
        case round =>
          obtain ⟨j, hj, rfl, hob3, hmb3, hgb3⟩ := hrel
          by_cases hjm : j < m
          · obtain ⟨y, hy⟩ : ∃ y, (mixPart s n (t + j))[t + j]? = some y := ⟨_, List.getElem?_eq_getElem (by rw [mixPart_length]; omega)⟩
            have hcy := hob3.cell hy
            have hfy := hob3.free (t + j)
            clear hy
            have hbyte : Hid (((mixByte s (t + j)).toNat : Int) = (x : Int) / 2 ^ (8 * j) % 256) := by
              show _ = _
              have ht := HT.out
              rw [mixByte, ht, show (8 * k + j) / 8 + 1 = k + 1 by omega, show (8 * k + j) % 8 = j by omega, show mixIter (k + 1) s = mixNext (mixIter k s) by rfl, HX.out, UInt8.toNat_ofNat']
              simp
            go_wp2
            go_roundw
            case rel =>
              refine ⟨j + 1, by omega, by go_num, ?_, hmb3.other (by show b ≠ w.heap.size; omega) _, hgb3.set (.inr (Nat.le_refl _)) _⟩
              rw [← hbyte.out, show t + (j + 1) = (t + j) + 1 by omega, ← mixPart_set]
              exact hob3.set (t + j) (mixByte s (t + j))
            case measure => simp [intOf]; omega
          · obtain rfl : j = m := by omega
            go_wp2
            go_roundw
            case rel =>
              have ht := HT.out
              refine ⟨k + 1, t + 8, by omega, by omega, by go_num, ?_, hmb3, hgb3⟩
              have e : mixPart s n (t + 8) = mixPart s n (t + j) := by
                first
                  | (rw [show t + 8 = t + j by omega])
                  | (rw [mixPart_all s n (show n ≤ t + 8 by omega), mixPart_all s n (show n ≤ t + j by omega)])
              rw [e]; exact hob3
            case measure => simp [intOf]; omega
      · obtain ⟨m, hm, hm1, hm2⟩ : ∃ m : Nat, n ≤ t + m ∧ m ≤ 8 ∧ t + m ≤ n := ⟨n - t, by omega, by omega, by omega⟩
        go_wp2
        go_loopw [31] (fun i wr => ∃ j : Nat, j ≤ m ∧ i = .int .i64 j ∧ OwnB wr w.heap.size w.heap.size n n (mixPart s n (t + j)) ∧ MixAt wr b (mixIter (k + 1) s) ∧ GrB w b wr) (fun i _ => m - (intOf i).toNat)
        case atStart => exact ⟨0, by omega, rfl, hob2, hmb2, hgb2⟩
        case round =>
          obtain ⟨j, hj, rfl, hob3, hmb3, hgb3⟩ := hrel
          by_cases hjm : j < m
          · obtain ⟨y, hy⟩ : ∃ y, (mixPart s n (t + j))[t + j]? = some y := ⟨_, List.getElem?_eq_getElem (by rw [mixPart_length]; omega)⟩
            have hcy := hob3.cell hy
            have hfy := hob3.free (t + j)
            clear hy
            have hbyte : Hid (((mixByte s (t + j)).toNat : Int) = (x : Int) / 2 ^ (8 * j) % 256) := by
              show _ = _
              have ht := HT.out
              rw [mixByte, ht, show (8 * k + j) / 8 + 1 = k + 1 by omega, show (8 * k + j) % 8 = j by omega, show mixIter (k + 1) s = mixNext (mixIter k s) by rfl, HX.out, UInt8.toNat_ofNat']
              simp
            go_wp2
            go_roundw
            case rel =>
              refine ⟨j + 1, by omega, by go_num, ?_, hmb3.other (by show b ≠ w.heap.size; omega) _, hgb3.set (.inr (Nat.le_refl _)) _⟩
              rw [← hbyte.out, show t + (j + 1) = (t + j) + 1 by omega, ← mixPart_set]
              exact hob3.set (t + j) (mixByte s (t + j))
            case measure => simp [intOf]; omega
          · obtain rfl : j = m := by omega
            go_wp2
            go_roundw
            case rel =>
              have ht := HT.out
              refine ⟨k + 1, t + 8, by omega, by omega, by go_num, ?_, hmb3, hgb3⟩
              have e : mixPart s n (t + 8) = mixPart s n (t + j) := by
                first
                  | (rw [show t + 8 = t + j by omega])
                  | (rw [mixPart_all s n (show n ≤ t + 8 by omega), mixPart_all s n (show n ≤ t + j by omega)])
              rw [e]; exact hob3
            case measure => simp [intOf]; omega
    · go_wp2
      go_ret2
      refine ⟨w.heap.size, Nat.le_refl _, rfl, hgb1, ?_, ?_⟩
      · have : k = (n + 7) / 8 := by have := HT.out; omega
        rw [← this]; exact hmb1
      · rw [← mixPart_all s n (show n ≤ t by omega)]; exact hob1.bs
/-- with the new block under a name. -/
theorem mixNew' (s : Nat) (w : World) :
    Calls Tryz.prog 99 #[.int .u64 (s : Int)] w fun e w' => ∃ b, w.heap.size ≤ b ∧ b < w'.heap.size ∧ e = .returned (.pointer (some ⟨b, 0, none⟩)) ∧ MixAt w' b s ∧ Gr w w' :=
  (mixNew_any s w).mono fun _ _ ⟨he, hw⟩ => ⟨w.heap.size, Nat.le_refl _, by rw [hw]; simp, he, by rw [hw]; exact heap_alloc_new _ _, by rw [hw]; exact (Gr.refl _).alloc _⟩
theorem mixNext' (b s : Nat) (w : World) (h : MixAt w b s) :
    Calls Tryz.prog 117 #[.pointer (some ⟨b, 0, none⟩)] w fun e w' => e = .returned (.int .u64 (mixOut (mixNext s) : Nat)) ∧ MixAt w' b (mixNext s) ∧ GrB w b w' :=
  (mixNext_any b s w h).mono fun _ _ ⟨he, hw⟩ => ⟨he, by rw [hw]; exact h.set, by rw [hw]; exact (GrB.refl _ _).set (.inl rfl) _⟩

set_option maxHeartbeats 400000 in
theorem mixRow_any (s : Nat) (hs : s < 18446744073709551616) (n : Nat) (hn : n ≤ 65536) (w : World) :
    Calls Tryz.prog 63 #[.int .u64 (s : Int), .int .i64 (n : Int)] w fun e w' =>
      ∃ g, w.heap.size ≤ g ∧ e = .returned (.tuple #[.slice (some ⟨g, 0, none⟩) n n, .int .i64 0]) ∧ Gr w w' ∧ Bs w' (some ⟨g, 0, none⟩) n n (mixList s n) := by
  have Hs := Lib.hid hs
  clear hs
  go_enter Tryz.func63, Tryz.ntmps63
  go_wp2_with fail
  refine (mixNew' s w).mono ?_
  rintro e w1 ⟨b, hb, hbl, rfl, hm, hg⟩
  go_wp2_with fail
  refine (mixBytes_any b s Hs.out n hn w1 hm).mono ?_
  rintro e w2 ⟨g, hg1, rfl, hgb, hm2, hbs⟩
  go_wp2
  go_ret2
  exact ⟨g, Nat.le_trans hg.size hg1, rfl, hg.grb hgb hb, hbs⟩
theorem mixRow_range (s : Nat) (n : Int) (h : n < 0 ∨ 65536 < n) (w : World) :
    Calls Tryz.prog 63 #[.int .u64 (s : Int), .int .i64 n] w fun e w' => e = .returned (.tuple #[.slice none 0 0, .int .i64 2]) ∧ Gr w w' := by
  have H := Lib.hid h
  clear h
  go_enter Tryz.func63, Tryz.ntmps63
  go_wp2_with fail
  refine (mixNew' s w).mono ?_
  rintro e w1 ⟨b, hb, hbl, rfl, hm, hg⟩
  go_wp2_with fail
  refine (mixBytes_range ⟨b, 0, none⟩ n H.out w1).mono ?_
  rintro e w2 ⟨rfl, rfl⟩
  go_wp2
  go_ret2
  exact ⟨rfl, hg⟩
end Go.Proofs.YtdmijoochgmhiaaGreatDoor
