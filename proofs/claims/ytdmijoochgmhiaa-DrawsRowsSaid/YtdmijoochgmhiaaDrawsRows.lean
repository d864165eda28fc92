/-
  The walk of Rows of draws.
-/
import Derived.Test.YtdmijoochgmhiaaDrawsOf
import Derived.Test.YtdmijoochgmhiaaRowsV
namespace Go.Proofs.Ytdmijoochgmhiaa
open Go.RowKit
set_option linter.unusedVariables false

/-- rows of k bytes, as many as there are. -/
def chunk (l : List UInt8) (k j : Nat) : List UInt8 := (l.drop (j * k)).take k
def chunks (l : List UInt8) (k n : Nat) : List (List UInt8) := (List.range n).map (chunk l k)
theorem chunks_succ (l : List UInt8) (k n : Nat) : chunks l k (n + 1) = chunks l k n ++ [chunk l k n] := by simp [chunks, List.range_succ]
theorem chunks_length (l : List UInt8) (k n : Nat) : (chunks l k n).length = n := by simp [chunks]
theorem chunk_length {l : List UInt8} {k j : Nat} (h : j * k + k ≤ l.length) : (chunk l k j).length = k := by simp [chunk]; omega
theorem chunk_fits {m k j : Nat} (hj : j < m / k) : j * k + k ≤ m := by
  have h1 : (j + 1) * k ≤ m / k * k := Nat.mul_le_mul_right k hj
  have h2 := Nat.div_mul_le_self m k
  rw [Nat.succ_mul] at h1; omega

set_option maxRecDepth 100000 in
set_option maxHeartbeats 1000000 in
theorem drawsRows_none (l : List UInt8) (k : Int) (hk : k < 1) (w : World) :
    Calls Try.prog 34 #[.agg #[.string (str l)], .int .i64 k] w fun e w' => e = .returned (.slice none 0 0) ∧ Gr w w' := by
  obtain ⟨S, eS⟩ : ∃ S, str l = S := ⟨_, rfl⟩
  rw [eS]
  clear eS
  go_enter Try.func34, Try.ntmps34
  go_wp2
  go_ret
  exact ⟨rfl, (Gr.refl w).alloc _⟩

set_option maxRecDepth 100000 in
set_option maxHeartbeats 2000000 in
theorem drawsRows_ok (l : List UInt8) (k : Nat) (hk : 1 ≤ k) (hkm : k ≤ 9223372036854775807) (hm : l.length ≤ 1000) (w : World) :
    Calls Try.prog 34 #[.agg #[.string (str l)], .int .i64 (k : Int)] w fun e w' => ∃ a c, e = .returned (.slice a (l.length / k) c) ∧ Bss w' a (l.length / k) c (chunks l k (l.length / k)) ∧ Gr w w' := by
  have hz := str_size l
  have HEX := Lib.hid (str_extract l)
  have hnl : l.length / k ≤ l.length := Nat.div_le_self _ _
  have HFIT := Lib.hid fun j hj => chunk_fits (m := l.length) (k := k) (j := j) hj
  obtain ⟨n, en⟩ : ∃ n, l.length / k = n := ⟨_, rfl⟩
  have hq : (l.length : Int) / (k : Int) = (n : Int) := by rw [← en]; exact (Int.natCast_ediv _ _)
  have hq2 : (l.length : Int).tdiv (k : Int) = (n : Int) := by rw [Int.tdiv_eq_ediv_of_nonneg (by omega)]; exact hq
  rw [en] at hnl HFIT ⊢
  obtain ⟨m, em⟩ : ∃ m, l.length = m := ⟨_, rfl⟩
  rw [em] at hz hq hq2 hm hnl HFIT
  have HM := Lib.hid em
  obtain ⟨S, eS⟩ : ∃ S, str l = S := ⟨_, rfl⟩
  rw [eS] at hz HEX ⊢
  have hk1 : ¬ (k : Int) < 1 := by omega
  have hk0 : ((k : Int)) ≠ 0 := by omega
  have hk0' : ((k : Int) == 0) = false := by rw [beq_eq_false_iff_ne]; omega
  clear eS em en
  go_enter Try.func34, Try.ntmps34
  go_wp2
  have hA := heap_alloc_new w (.cells #[.string S] 42)
  have hg0 := (Gr.refl w).alloc (.cells #[.string S] 42)
  go_loopw [5, 14] (fun v i wr => ∃ j : Nat, j ≤ n ∧ i = .int .i64 j ∧ RowsV wr (w.heap.size + 1) v (chunks l k j) none ∧ Gr (w.alloc (.cells #[.string S] 42)) wr) (fun _ i _ => n - (intOf i).toNat)
  case atStart => exact ⟨0, Nat.zero_le _, rfl, RowsV.nil _ _ _, Gr.refl _⟩
  case round =>
    obtain ⟨j, hj, rfl, hrow, hgr⟩ := hrel
    by_cases hlt : j < n
    · have hfit := HFIT.out j hlt
      obtain ⟨J, eJ⟩ : ∃ J, j * k = J := ⟨_, rfl⟩
      rw [eJ] at hfit
      have hJ : (j : Int) * (k : Int) = (J : Int) := by rw [← eJ]; simp
      obtain ⟨U, eU⟩ : ∃ U, J + k = U := ⟨_, rfl⟩
      have hU : (J : Int) + (k : Int) = (U : Int) := by omega
      have hUm : (U : Int) ≤ (m : Int) := by omega
      have hJU : (J : Int) ≤ (U : Int) := by omega
      have hUm' : U ≤ m := by omega
      have hJU' : J ≤ U := by omega
      have hmi : (m : Int) ≤ 1000 := by omega
      have hck : chunk l k j = (l.drop J).take (U - J) := by rw [chunk, eJ, show U - J = k by omega]
      have hs1 : S.extract J U = str (chunk l k j) := by rw [HEX.out J U, hck]
      have hz1 := str_size (chunk l k j)
      have hcl : (chunk l k j).length = k := chunk_length (by rw [eJ, HM.out]; omega)
      rw [hcl] at hz1
      have hcv := run_bytes_of_string (P := Try.prog) wr 9 26 5 (str (chunk l k j)) Try.underlying9 Try.underlying26 Try.underlying5
      rw [hz1] at hcv
      have hge := grownCap_ge wr k 0 5
      have hle := grownCap_le_maxLen wr k 0 5 (by unfold maxLen; omega)
      obtain ⟨C, eC⟩ : ∃ C, grownCap wr k 0 5 = C := ⟨_, rfl⟩
      rw [eC] at hcv hge hle
      obtain ⟨S1, eS1⟩ : ∃ S, str (chunk l k j) = S := ⟨_, rfl⟩
      rw [eS1] at hs1 hcv
      obtain ⟨x0, _⟩ := cell1 (hgr.heap hA)
      have HCL := Lib.hid hcl
      have HS1 := Lib.hid eS1
      have HROW := Lib.hid hrow
      have HGR := Lib.hid hgr
      have HGE := Lib.hid hge
      have HLE := Lib.hid hle
      clear eC eS1 hck hcl hrow hgr hge hle eU eJ hfit
      go_wp2_with (with_reducible refine wpList_hold (o := ⟨some 31, _, _, _, _, _⟩) ?_)
      change wpList _ _ _ _ _ _
      have hg2 : Gr wr (((wr.alloc (.cells (bytesRow S1 C) 5 ((bytesRow S1 C).size, (bytesRow S1 C).size + 1))).alloc (.cells #[.slice (some ⟨wr.heap.size, 0, none⟩) k C] 26)).drew) := (((Gr.refl wr).alloc _).alloc _).drew
      have hb2 : Bs (((wr.alloc (.cells (bytesRow S1 C) 5 ((bytesRow S1 C).size, (bytesRow S1 C).size + 1))).alloc (.cells #[.slice (some ⟨wr.heap.size, 0, none⟩) k C] 26)).drew) (some ⟨wr.heap.size, 0, none⟩) k C (chunk l k j) := by
        have h1 := heap_alloc_new wr (.cells (bytesRow S1 C) 5 ((bytesRow S1 C).size, (bytesRow S1 C).size + 1))
        have h2 := Gr.heap (((Gr.refl (wr.alloc (.cells (bytesRow S1 C) 5 ((bytesRow S1 C).size, (bytesRow S1 C).size + 1)))).alloc (.cells #[.slice (some ⟨wr.heap.size, 0, none⟩) k C] 26)).drew) h1
        have hS := HS1.out
        rw [← hS] at h2 ⊢
        have := Bs.of_bytesRow h2 (by rw [HCL.out]; exact HGE.out) HLE.out
        rw [HCL.out] at this
        exact this
      have hc2 : (((wr.alloc (.cells (bytesRow S1 C) 5 ((bytesRow S1 C).size, (bytesRow S1 C).size + 1))).alloc (.cells #[.slice (some ⟨wr.heap.size, 0, none⟩) k C] 26)).drew).cell? ⟨wr.heap.size + 1, 0, none⟩ = some (.slice (some ⟨wr.heap.size, 0, none⟩) k C) := by
        have h1 := heap_alloc_new (wr.alloc (.cells (bytesRow S1 C) 5 ((bytesRow S1 C).size, (bytesRow S1 C).size + 1))) (.cells #[.slice (some ⟨wr.heap.size, 0, none⟩) k C] 26)
        rw [World.size_alloc] at h1
        exact (cell1 (Gr.heap ((Gr.refl _).drew) h1)).1
      have hrow2 := HROW.out.gr hg2
      have hbig := lt_of_block ((HGR.out.trans hg2).heap hA)
      have hsz2 : wr.heap.size + 2 = (((wr.alloc (.cells (bytesRow S1 C) 5 ((bytesRow S1 C).size, (bytesRow S1 C).size + 1))).alloc (.cells #[.slice (some ⟨wr.heap.size, 0, none⟩) k C] 26)).drew).heap.size := by simp [World.drew]
      have hg02 := HGR.out.trans hg2
      obtain ⟨W2, eW⟩ : ∃ W, ((wr.alloc (.cells (bytesRow S1 C) 5 ((bytesRow S1 C).size, (bytesRow S1 C).size + 1))).alloc (.cells #[.slice (some ⟨wr.heap.size, 0, none⟩) k C] 26)).drew = W := ⟨_, rfl⟩
      rw [eW] at hg2 hb2 hc2 hrow2 hbig hsz2 hg02 ⊢
      have hlw := HGR.out.size
      rw [World.size_alloc] at hlw
      refine wpList_append_rows rfl (.tmp 17) (.tmp 30) rfl (w.heap.size + 1) rfl hrow2 rfl hc2 hb2 (fun y hy => by
        cases hy
        refine ⟨fun e => ?_, by show wr.heap.size < _; omega⟩
        have := (HROW.out.lt _ e).2
        exact absurd this (by show ¬ wr.heap.size < wr.heap.size; omega)) (by rw [chunks_length]; omega) (by omega) ?_
      intro v4 w4 hr4 hg4 hn4
      rw [← chunks_succ] at hr4
      have hg04 : Gr (w.alloc (.cells #[.string S] 42)) w4 := Gr.grown hg02 hg4 (fun q hq => by rw [World.size_alloc]; exact (hrow2.lt q hq).1)
      clear eW hg2 hb2 hc2 hrow2 hg4 hn4 hg02 x0
      go_wp2
      go_roundw
      case rel => exact ⟨j + 1, by omega, by go_num, hr4, hg04⟩
      case measure => simp [intOf]; omega
    · obtain ⟨a, c, rfl, hbs, _⟩ := hrow.bss
      have hjn : (n : Int) ≤ (j : Int) := by omega
      have e : j = n := by omega
      rw [e, chunks_length] at hbs ⊢
      clear hrow
      go_wp2
      go_ret
      exact ⟨a, c, rfl, hbs, hg0.trans hgr⟩
end Go.Proofs.Ytdmijoochgmhiaa
