/-
  The walk of law RowBack.
-/
import Derived.Test.YtdmijoochgmhiabRowReadsWalk
namespace Go.Proofs.Ytdmijoochgmhiab
open Go.RowKit

theorem rowErr_ok {mode len : Nat} {k : Int} (h : mode ≤ 1) (h1 : 1 ≤ k) (h2 : k ≤ 4096) (h3 : mode = 0 → (len : Int) = k) : rowErr mode len k = 0 := by
  have := widthE_ok h h1 h2
  unfold rowErr
  rw [if_neg (by simpa using this), if_neg]
  rintro ⟨a, b⟩; exact b (h3 a)
theorem readErr_ok0 {len : Nat} (h1 : 1 ≤ len) (h2 : len ≤ 4096) : readErr 0 len len = 0 := by
  have := widthE_ok (mode := 0) (k := (len : Int)) (by decide) (by omega) (by omega)
  unfold readErr
  rw [if_neg (by simpa using this), if_neg]
  unfold widthN
  rw [if_neg (by decide), if_neg (by omega), if_neg (by decide)]
  simp
theorem readErr_ok1 {k : Int} (h1 : 1 ≤ k) (h2 : k ≤ 4096) : readErr 1 8 k = 0 := by
  have := widthE_ok (mode := 1) (k := k) (by decide) (by omega) (by omega)
  unfold readErr
  rw [if_neg (by simpa using this), if_neg]
  unfold widthN
  rw [if_neg (by decide), if_neg (by omega), if_pos rfl]
  decide
theorem rowSame_self (m : Nat) (l : List UInt8) (s : Nat) : rowSame m m l l s s = true := by
  unfold rowSame; simp [sameB_self]
theorem mixList_take (s n : Nat) : (mixList s (n + 1)).take n = mixList s n := by
  rw [mixList_succ, List.take_append_of_le_length (by rw [mixList_length]; exact Nat.le_refl _), List.take_of_length_le (by rw [mixList_length]; exact Nat.le_refl _)]

set_option maxRecDepth 100000 in
set_option maxHeartbeats 8000000 in
theorem rowBack_walk (w : World) (a : Option Addr) (len cap : Nat) (l : List UInt8) (hl : Bs w a len cap l) (seed : Nat) (hseed : seed < 18446744073709551616) (k : Nat) (hk : k < 65536) :
    Calls Try.prog 10 #[.slice a len cap, .int .u64 (seed : Int), .int .u16 (k : Int)] w fun e w' => e = .returned (.bool true) ∧ Gr w w' := by
  have hmx : len ≤ 9223372036854775807 := by have h1 := hl.2.1; have h2 := hl.2.2.1; unfold maxLen at h2; omega
  have HS := Lib.hid hseed
  clear hseed
  obtain ⟨N, hN⟩ : ∃ N : Nat, (k : Int) % 300 + 1 = N := ⟨k % 300 + 1, by omega⟩
  have hN1 : (1 : Int) ≤ (N : Int) := by omega
  have hN2 : (N : Int) ≤ 300 := by omega
  by_cases hlo : len < 1
  · have h1 : (len : Int) < 1 := by omega
    go_enter Try.func10, Try.ntmps10
    go_wp2_with fail
    refine (rowAwake_any _).mono ?_
    rintro e w1 ⟨rfl, hg1⟩
    go_wp2
    go_ret
    exact ⟨rfl, hg1⟩
  by_cases hhi : 300 < len
  · have h1 : ¬ (len : Int) < 1 := by omega
    have h2 : (300 : Int) < (len : Int) := by omega
    go_enter Try.func10, Try.ntmps10
    go_wp2_with fail
    refine (rowAwake_any _).mono ?_
    rintro e w1 ⟨rfl, hg1⟩
    go_wp2
    go_ret
    exact ⟨rfl, hg1⟩
  have h1 : ¬ (len : Int) < 1 := by omega
  have h2 : ¬ (300 : Int) < (len : Int) := by omega
  have HL := Lib.hid hl.1
  have hst := sameB_self l
  have hss := rowSame_self 0 l 0
  have hss1 := rowSame_self 1 [] seed
  have hs10 : rowSame 1 0 [] l seed 0 = false := by unfold rowSame; rw [if_pos (by decide)]
  have hstN := sameB_self (mixList seed N)
  have e1 : Hid (rowText 0 l 0 = l) := rfl
  have e2 : Hid (readBytes 0 l = l ∧ readSeed 0 l = 0) := ⟨rfl, rfl⟩
  have e3 : Hid (rowVec 0 l 0 len = l) := rfl
  have e4 : Hid (rowText 1 [] seed = put8 seed) := rfl
  have e5 : Hid (readBytes 1 (put8 seed) = [] ∧ readSeed 1 (put8 seed) = seed) := ⟨rfl, seedTo_put8 seed HS.out⟩
  have e6 : Hid (rowVec 1 [] seed N = mixList seed N ∧ rowVec 1 [] seed (N + 1) = mixList seed (N + 1)) := ⟨rfl, rfl⟩
  go_enter Try.func10, Try.ntmps10
  go_wp2_with fail
  refine (rowAwake_any _).mono ?_
  rintro e w1 ⟨rfl, hg1⟩
  go_wp2_with fail
  refine (explicit_any a len cap l _ (hl.below hg1) (by omega)).mono ?_
  rintro e w2 ⟨a2, cap2, rfl, hb2, _, hg2⟩
  have hgw2 := (hg1.trans hg2).alloc (.cells #[.int .u8 0, .slice a2 len cap2, .int .u64 0] 72)
  have hb2' := hb2.below ((Gr.refl w2).alloc (.cells #[.int .u8 0, .slice a2 len cap2, .int .u64 0] 72))
  have hB2 := heap_alloc_new w2 (.cells #[.int .u8 0, .slice a2 len cap2, .int .u64 0] 72)
  obtain ⟨W2, hW2⟩ : ∃ x, x = w2.alloc (.cells #[.int .u8 0, .slice a2 len cap2, .int .u64 0] 72) := ⟨_, rfl⟩
  rw [← hW2] at hgw2 hb2' hB2
  have HW2 := Lib.hid hW2
  clear hW2 hb2 hg2
  go_wp2_with fail
  rw [← HW2.out]
  refine (rowWrite_ok 0 a2 len cap2 l 0 len W2 hb2' (by omega) (rowErr_ok (by decide) (by omega) (by omega) (fun _ => rfl))).mono ?_
  rintro e w3 ⟨v, rfl, ⟨a3, cap3, rfl, hb3, _, hg3⟩, _⟩
  rw [e1.out, HL.out] at hb3 ⊢
  have hB3 := hg3.heap hB2
  obtain ⟨c0, c1, c2, _⟩ := three_cells hB3
  go_wp2_with fail
  refine (rowRead_ok 0 len a3 len cap3 l w3 hb3 (by omega) (readErr_ok0 (by omega) (by omega))).mono ?_
  rintro e w4 ⟨a4, len4, cap4, rfl, hb4, hg4⟩
  rw [e2.out.1] at hb4
  rw [e2.out.2]
  obtain rfl : len4 = len := by rw [← hb4.1, HL.out]
  have hgw4 := (hgw2.trans hg3).trans hg4
  have hgA := hg3.trans hg4
  have hB4 := hg4.heap hB3
  clear c0 c1 c2 hg3 hg4 hB3 hb3
  go_wp2_with fail
  refine (rowVector_ok 0 a4 len4 cap4 l 0 (by decide) len4 _ (hb4.below ((Gr.refl _).alloc _)) (by omega) (rowErr_ok (by decide) (by omega) (by omega) (fun _ => rfl))).mono ?_
  rintro e w5 ⟨v, rfl, ⟨a5, cap5, rfl, hb5, _, hg5⟩, _⟩
  rw [e3.out, HL.out] at hb5 ⊢
  have hg45 := ((Gr.refl w4).alloc (.cells #[.int .u8 0, .slice a4 len4 cap4, .int .u64 0] 72)).trans hg5
  have hB5 := hg45.heap hB4
  have hB5' := hg5.heap (heap_alloc_new w4 _)
  obtain ⟨c0, c1, c2, _⟩ := three_cells hB5
  obtain ⟨d0, d1, d2, _⟩ := three_cells hB5'
  have hgw5 := hgw4.trans hg45
  have hb25 := hb2'.below (hgA.trans hg45)
  have hb45 := hb4.below hg45
  clear hb2' hb4 hgA hgw4 hg45 hg5 hB4 hB5' hB2 HW2
  go_wp2_with fail
  refine (rowSame_any 0 0 a2 a4 len4 cap2 len4 cap4 l l 0 0 w5 hb25 hb45).mono ?_
  rintro e w6 ⟨rfl, hg6⟩
  have hgw6 := hgw5.trans hg6
  go_wp2_with fail
  refine (same_any a5 a len4 cap5 len4 cap l l w6 (hb5.below hg6) (hl.below hgw6)).mono ?_
  rintro e w7 ⟨rfl, hg7⟩
  have hB7 := hg7.heap (hg6.heap hB5)
  have hb27 := (hb25.below hg6).below hg7
  have hgw7 := hgw6.trans hg7
  clear hB5 hb25 hb45 hb5 hg6 hg7 hgw5 hgw6 c0 c1 c2 d0 d1 d2
  go_wp2_with fail
  refine (seeded_any (seed : Nat) w7).mono ?_
  rintro e w8 ⟨rfl, hg8⟩
  have hg78 := hg8.alloc (.cells #[.int .u8 1, .slice none 0 0, .int .u64 (seed : Int)] 72)
  have hB8 := heap_alloc_new w8 (.cells #[.int .u8 1, .slice none 0 0, .int .u64 (seed : Int)] 72)
  go_wp2_with fail
  refine (rowWrite_ok 1 none 0 0 [] seed N _ (Bs.nil _) (by decide) (rowErr_ok (by decide) hN1 (by omega) (fun h => by cases h))).mono ?_
  rintro e w9 ⟨v, rfl, ⟨a9, cap9, rfl, hb9, _, hg9⟩, _⟩
  rw [e4.out] at hb9 ⊢
  change Bs w9 a9 8 cap9 (put8 seed) at hb9
  have hB9 := hg9.heap hB8
  have hg79 := hg78.trans hg9
  obtain ⟨c0, c1, c2, _⟩ := three_cells hB9
  clear hg9 hB8 hg78 hg8
  go_wp2_with fail
  refine (rowRead_ok 1 N a9 8 cap9 (put8 seed) w9 hb9 (by decide) (readErr_ok1 hN1 (by omega))).mono ?_
  rintro e w10 ⟨a10, len10, cap10, rfl, hb10, hg10⟩
  rw [e5.out.1] at hb10
  rw [e5.out.2]
  obtain rfl : len10 = 0 := hb10.1.symm
  have hB10 := hg10.heap hB9
  have hg710 := hg79.trans hg10
  clear hB9 hg10 hg79 hb9 c0 c1 c2
  go_wp2_with fail
  refine (rowVector_ok 1 a10 0 cap10 [] seed HS.out N _ (hb10.below ((Gr.refl _).alloc _)) (by decide) (rowErr_ok (by decide) hN1 (by omega) (fun h => by cases h))).mono ?_
  rintro e w11 ⟨v, rfl, ⟨a11, cap11, rfl, hb11, _, hg11⟩, _⟩
  rw [e6.out.1, mixList_length] at hb11 ⊢
  have hg1011 := ((Gr.refl w10).alloc (.cells #[.int .u8 1, .slice a10 0 cap10, .int .u64 (seed : Int)] 72)).trans hg11
  have hB11 := hg1011.heap hB10
  have hB11' := hg11.heap (heap_alloc_new w10 _)
  have hg711 := hg710.trans hg1011
  have hb1011 := hb10.below hg1011
  obtain ⟨c0, c1, c2, _⟩ := three_cells hB11
  clear hB10 hg1011 hg710 hg11 hb10
  go_wp2_with fail
  refine (rowVector_ok 1 none 0 0 [] seed HS.out (N + 1) _ (Bs.nil _) (by decide) (rowErr_ok (by decide) (by omega) (by omega) (fun h => by cases h))).mono ?_
  rintro e w12 ⟨v, rfl, ⟨a12, cap12, rfl, hb12, _, hg12⟩, _⟩
  rw [e6.out.2, mixList_length] at hb12 ⊢
  have hB12 := hg12.heap hB11
  have hB12' := hg12.heap hB11'
  have hg712 := hg711.trans hg12
  have hb1012 := hb1011.below hg12
  have hb1112 := hb11.below hg12
  have hB7' := hg712.heap hB7
  have hb212 := hb27.below hg712
  obtain ⟨c0, c1, c2, _⟩ := three_cells hB12
  obtain ⟨d0, d1, d2, _⟩ := three_cells hB12'
  have hgw12 := hgw7.trans hg712
  clear hB11 hB11' hg711 hg12 hb1011 hb11 hb27 hg712 hgw7
  go_wp2_with fail
  refine (rowSame_any 1 1 none a10 0 0 0 cap10 [] [] seed seed w12 (Bs.nil _) hb1012).mono ?_
  rintro e w13 ⟨rfl, hg13⟩
  obtain ⟨c0, c1, c2, _⟩ := three_cells (hg13.heap hB12)
  obtain ⟨d0, d1, d2, _⟩ := three_cells (hg13.heap hB7')
  go_wp2_with fail
  refine (rowSame_any 1 0 none a2 0 0 len4 cap2 [] l seed 0 w13 (Bs.nil _) (hb212.below hg13)).mono ?_
  rintro e w14 ⟨rfl, hg14⟩
  have hg1214 := hg13.trans hg14
  have hcapN : N + 1 ≤ cap12 := hb12.2.1
  have hcapm : (cap12 : Int) ≤ 9223372036854775807 := by have := hb12.2.2.1; unfold maxLen at this; omega
  have hcapN' : (N : Int) ≤ (cap12 : Int) := by omega
  have hbt := (hb12.below hg1214).take (k := N) (by omega)
  rw [mixList_take] at hbt
  go_wp2_with fail
  refine (same_any a11 a12 N cap11 N cap12 (mixList seed N) (mixList seed N) w14 (hb1112.below hg1214) hbt).mono ?_
  rintro e w15 ⟨rfl, hg15⟩
  go_wp2
  go_ret
  exact ⟨rfl, (hgw12.trans hg1214).trans hg15⟩
end Go.Proofs.Ytdmijoochgmhiab
