/-
  slices.Insert of one parcel into parcels of one's own: on each road.
  slices.Delete of one parcel among parcels of one's own.
  Parcels under way, many of them: one is moved.
  Parcels under way, many of them: one comes once more.
  The walk of way.play: many packets; acts that move and double.
  The walk of way.Apply: many packets; acts that move and double.
-/
import Derived.Test.YtddopoojmadpjaaGreatDoorInsert
import Derived.Test.YtddopoojmadpjaaGreatDoorWayApply
import Derived.Laws.OwnMore
import Derived.Test.YtddopoojmadpjaaGreatDoorRelay
namespace Go.Proofs.YtddopoojmadpjaaGreatDoor
open Go.RowKit
set_option linter.unusedVariables false

theorem sizeRowP : (Tryz.prog.info? 134).map (·.size) = some 2 := by kernel_rfl

set_option maxRecDepth 100000 in
set_option maxHeartbeats 4000000 in
theorem insert_shiftP (g n c i vb : Nat) (cur : Array Value) (x0 x1 : Value) (xs : List Value) (w : World) (hi : i < n) (hn : n ≤ 4096) (hroom : n + 1 ≤ c) (hcm : c ≤ maxLen) (hg : w.heap[g]? = some (.cells cur 134 (0, 0))) (hcur : cur.size = c * 2) (ht : cur.toList.take (2 * n) = xs) (hx : xs.length = 2 * n) (hvb : w.heap[vb]? = some (.cells #[x0, x1] 134)) (hne : vb ≠ g) (o0 : x0.oneCell' = true) (o1 : x1.oneCell' = true) (hxs : ∀ v ∈ xs, v.oneCell' = true) :
    Calls Tryz.prog 124 #[.slice (some ⟨g, 0, none⟩) n c, .int .i64 (i : Int), .slice (some ⟨vb, 0, none⟩) 1 1] w fun e w' =>
      e = .returned (.slice (some ⟨g, 0, none⟩) (n + 1) c) ∧ ∃ cur' : Array Value, w' = w.drew.setRow g cur' ∧ cur'.size = cur.size ∧ cur'.toList.take (2 * n + 2) = xs.take (2 * i) ++ [x0, x1] ++ xs.drop (2 * i) := by
  have hsz : ∀ w, (Go.sizeOf 134).run Tryz.prog w = .ok 2 w := fun w => by
    obtain ⟨i0, hi0, h0⟩ := Option.map_eq_some_iff.1 sizeRowP
    simp [Go.sizeOf, typeInfo, hi0, h0]
  have hov : ∀ x lb cb, (callFunc 130 #[.slice (some ⟨vb, 0, none⟩) 1 1, .slice (some ⟨g, x, none⟩) lb cb]).run Tryz.prog w = .ok (.value (.bool false)) w := fun x lb cb => by
    rw [run_callFunc_extern Tryz.func130 (by kernel_rfl) (by kernel_rfl) (by kernel_rfl) (e := Extern.SlicesOverlaps.overlaps #[131, 131] #[4]) (by kernel_rfl)]
    rw [Lib.run_overlaps_apart w 131 4 134 Tryz.underlying131 2 hsz ⟨vb, 0, none⟩ ⟨g, x, none⟩ 1 1 lb cb hne 134 134 2 cur.size (by simp [World.shape?, hvb]) (by simp [World.shape?, hg]) (by omega) (by simp [World.frozen?, hvb]) (by simp [World.frozen?, hvb])]
    rfl
  have hdl : (xs.drop (2 * i)).length = (n - i) * 2 := by rw [List.length_drop, hx]; omega
  have hw1 : IntKind.i64.wrap ((i : Int) + 1) = (i : Int) + 1 := by rw [IntKind.wrap_i64]; omega
  have htn : ((i : Int) + 1).toNat = i + 1 := by omega
  have hb1 : (0 : Int) ≤ (i : Int) + 1 := by omega
  have hb2 : ¬ (c = i + 1) := by omega
  have hb3 : (i : Int) ≤ (n : Int) + 1 := by omega
  have hb4 : ¬ (c = i) := by omega
  have hin : i ≤ n := by omega
  have mixed : Tryz.prog.follows .mixedOrders = true := by kernel_rfl
  have hcurL : 2 * n + 2 ≤ cur.toList.length := by simp [hcur]; omega
  have hSH := shift_list cur.toList xs x0 x1 n i (by omega) hx hcurL ht
  have hcp1 : ∀ ty dc sc, (Builtin.copy_ #[131, 131] ty #[.slice (some ⟨g, (i + 1) * 2, none⟩) (n - i) dc, .slice (some ⟨g, i * 2, none⟩) (n + 1 - i) sc]).run Tryz.prog w.drew = .ok (goInt ((n - i : Nat) : Int)) (w.drew.setRow g (cur.toList.take ((i + 1) * 2) ++ xs.drop (2 * i) ++ cur.toList.drop ((i + 1) * 2 + (xs.drop (2 * i)).length)).toArray) := fun ty dc sc =>
    run_copy_rowN w.drew _ _ ty 134 2 g ((i + 1) * 2) (n - i) dc ⟨g, i * 2, none⟩ (n + 1 - i) sc (n - i) cur 134 (xs.drop (2 * i)) Tryz.underlying131 sizeRowP hg (by simp only [Nat.min_def]; split <;> omega) hdl
      (fun j v hj => by
        rw [List.getElem?_drop, ← ht, List.getElem?_take] at hj
        split at hj
        · rw [Addr.add_lit]
          show w.cell? _ = _
          simp only [World.cell?, hg]
          simpa [Nat.mul_comm] using hj
        · cases hj) (by rw [hdl, hcur]; omega) (fun v hv => hxs v (List.mem_of_mem_drop hv))
  obtain ⟨C1, hC1⟩ : ∃ C1, C1 = cur.toList.take ((i + 1) * 2) ++ xs.drop (2 * i) ++ cur.toList.drop ((i + 1) * 2 + (xs.drop (2 * i)).length) := ⟨_, rfl⟩
  have hSH1 : (C1.take (2 * i) ++ [x0, x1] ++ C1.drop (2 * i + 2)).length = cur.toList.length ∧ (C1.take (2 * i) ++ [x0, x1] ++ C1.drop (2 * i + 2)).take (2 * n + 2) = xs.take (2 * i) ++ [x0, x1] ++ xs.drop (2 * i) := by
    rw [hC1, show (i + 1) * 2 = 2 * i + 2 by omega]; exact hSH
  have hC1l : C1.length = cur.size := by rw [hC1]; simp only [List.length_append, List.length_take, List.length_drop, hx, Array.length_toList]; omega
  rw [← hC1] at hcp1
  have hcp2 : ∀ (W : World), W.heap[g]? = some (.cells C1.toArray 134 (0, 0)) → W.heap[vb]? = some (.cells #[x0, x1] 134) → ∀ ty dc, (Builtin.copy_ #[131, 131] ty #[.slice (some ⟨g, i * 2, none⟩) (n + 1 - i) dc, .slice (some ⟨vb, 0, none⟩) 1 1]).run Tryz.prog W = .ok (goInt ((1 : Nat) : Int)) (W.setRow g (C1.take (i * 2) ++ [x0, x1] ++ C1.drop (i * 2 + 2)).toArray) := fun W hW hWv ty dc =>
    run_copy_rowN W _ _ ty 134 2 g (i * 2) (n + 1 - i) dc ⟨vb, 0, none⟩ 1 1 1 C1.toArray 134 [x0, x1] Tryz.underlying131 sizeRowP hW (by simp only [Nat.min_def]; split <;> omega) rfl
      (fun j v hj => by
        rw [Addr.add_lit]
        simp only [World.cell?, hWv]
        simpa using hj) (by simp [hC1l, hcur]; omega) (fun u hu => by simp at hu; rcases hu with rfl | rfl <;> assumption)
  have hW1 : (w.drew.setRow g C1.toArray).heap[g]? = some (.cells C1.toArray 134 (0, 0)) := setRow_heap w.drew g cur _ _ _ hg
  have hW1v : (w.drew.setRow g C1.toArray).heap[vb]? = some (.cells #[x0, x1] 134) := by
    unfold World.setRow
    show (w.heap.modify g _)[vb]? = _
    rw [Array.getElem?_modify, if_neg (by omega)]
    exact hvb
  have HSH := Lib.hid hSH1
  clear hSH hSH1 hC1 hC1l hdl
  go_enter Tryz.func124, Tryz.ntmps124
  go_wp2_with (simp only [hov])
  go_region_law_o (refine step_copy_runI rfl _ _ 131 131 rfl _ _ (by simp [Act.eval, Act.put]) (by simp [Act.eval, Act.put]) (hcp1 _ _ _) ?_)
  go_wp2_with (at_builtin; refine wpList_copy_runI _ rfl _ _ 131 131 rfl _ _ rfl rfl (hcp2 _ hW1 hW1v _ _) ?_)
  go_ret
  refine ⟨rfl, _, setRow_setRow _ _ _ _, ?_, ?_⟩
  · have := HSH.out.1
    rw [Nat.mul_comm 2 i] at this
    simpa using this
  · have := HSH.out.2
    rw [Nat.mul_comm 2 i] at this
    rw [Nat.mul_comm 2 i]
    simpa using this

/-- What an Insert leaves, in the words of rows of one's own. -/
def InsP (w : World) (base : Nat) (rv : Value) (n : Nat) (ys : List Value) (e : Ending) (w' : World) : Prop :=
  ∃ rv', e = .returned rv' ∧ w'.ownsRow base 134 2 rv' (n + 1) ys ∧ w.grownBy w' rv.ownBlock ∧ (rv'.ownBlock = rv.ownBlock ∨ rv'.ownBlock = some w.heap.size)

set_option maxRecDepth 100000 in
set_option maxHeartbeats 4000000 in
theorem insert_endP (base n vb : Nat) (rv x0 x1 : Value) (xs : List Value) (w : World) (hown : w.ownsRow base 134 2 rv n xs) (hn : n ≤ 4096) (hbase : base ≤ w.heap.size) (hvb : w.heap[vb]? = some (.cells #[x0, x1] 134)) (o0 : x0.oneCell' = true) (o1 : x1.oneCell' = true) :
    Calls Tryz.prog 124 #[rv, .int .i64 (n : Int), .slice (some ⟨vb, 0, none⟩) 1 1] w (InsP w base rv n (xs ++ [x0, x1])) := by
  obtain ⟨i, hi, hz0, hz1, hz2⟩ := info_parts infoParcel
  obtain ⟨h0, h1, _⟩ := two_cells hvb
  obtain ⟨v', w', hr, ho, hg, _, hb⟩ := run_append_own_at (P := Tryz.prog) w base _ 131 _ i _ 2 32 Tryz.underlying131 hi hz0 hz1 hz2 rfl (by decide) rv n xs hown ⟨vb, 0, none⟩ 1 1 [x0, x1] rfl
    (fun j u hu => by
      match j with
      | 0 => simp at hu; subst hu; rw [Addr.add_zero']; exact h0
      | 1 => simp at hu; subst hu; exact h1
      | j + 2 => simp at hu) (fun u hu => by simp at hu; rcases hu with rfl | rfl <;> assumption) (by simp only [maxLen]; omega) (by omega) hbase
  have HF : Hid (InsP w base rv n (xs ++ [x0, x1]) (.returned v') w') := ⟨v', rfl, ho, hg, hb⟩
  have hw1 : IntKind.i64.wrap ((n : Int) + 1) = (n : Int) + 1 := by rw [IntKind.wrap_i64]; omega
  have hcase := hown.2
  clear h0 h1 ho hg hb hown hvb
  rcases hcase with ⟨rfl, rfl⟩ | ⟨g, cap, cur, rfl, _, _, hnc, hcm, _, _⟩
  · go_enter Tryz.func124, Tryz.ntmps124
    go_wp2_with (at_builtin; refine Lib.wpList_append_run _ rfl _ _ 131 131 rfl _ _ rfl rfl _ _ hr ?_)
    go_wp2
    first | go_ret | go_ret2
    exact HF.out
  · have hcm' : cap ≤ 9223372036854775807 := by simp only [maxLen] at hcm; omega
    go_enter Tryz.func124, Tryz.ntmps124
    go_wp2_with (at_builtin; refine Lib.wpList_append_run _ rfl _ _ 131 131 rfl _ _ rfl rfl _ _ hr ?_)
    all_goals (go_ret; exact HF.out)

set_option maxRecDepth 100000 in
set_option maxHeartbeats 4000000 in
theorem insert_growP (g n i vb : Nat) (cur : Array Value) (x0 x1 : Value) (xs : List Value) (w : World) (hi : i < n) (hn : n ≤ 4096) (hg : w.heap[g]? = some (.cells cur 134 (0, 0))) (hcur : cur.size = n * 2) (ht : cur.toList.take (2 * n) = xs) (hx : xs.length = 2 * n) (hvb : w.heap[vb]? = some (.cells #[x0, x1] 134)) (o0 : x0.oneCell' = true) (o1 : x1.oneCell' = true) (hxs : ∀ v ∈ xs, v.oneCell' = true) :
    Calls Tryz.prog 124 #[.slice (some ⟨g, 0, none⟩) n n, .int .i64 (i : Int), .slice (some ⟨vb, 0, none⟩) 1 1] w fun e w' =>
      ∃ G cur', e = .returned (.slice (some ⟨w.heap.size, 0, none⟩) (n + 1) G) ∧ n + 1 ≤ G ∧ G ≤ maxLen ∧ w'.heap[w.heap.size]? = some (.cells cur' 134 (0, 0)) ∧ cur'.size = G * 2 ∧ cur'.toList.take (2 * n + 2) = xs.take (2 * i) ++ [x0, x1] ++ xs.drop (2 * i) ∧ w.grownBy w' none := by
  obtain ⟨i0, hi0, hz0, hzs, hzb⟩ := info_parts infoParcel
  have hik : i + (n + 1 - i) = n + 1 := by omega
  have hkk : (n : Int) + 1 - (i : Int) = ((n + 1 - i : Nat) : Int) := by omega
  have hold : (Builtin.firstCells i0.size i (.slice (some ⟨g, 0, none⟩) i n)).run Tryz.prog w.drew = .ok (xs.take (2 * i)).toArray w.drew := by
    rw [hzs]
    exact run_firstCells_some (w := w.drew) 2 i ⟨g, 0, none⟩ i n (xs.take (2 * i)) (by rw [List.length_take, hx]; omega) (fun j v hj => by
      rw [← ht, List.take_take, List.getElem?_take] at hj
      split at hj
      · rw [Addr.add_lit]
        show w.cell? _ = _
        simp only [World.cell?, hg]
        simpa using hj
      · cases hj)
  have hrz : ∀ ty, (Builtin.append_ #[131, 3] ty #[.slice (some ⟨g, 0, none⟩) i n, .int .i64 ((n : Int) + 1 - (i : Int))]).run Tryz.prog w = .ok (.slice (some ⟨w.heap.size, 0, none⟩) (n + 1) (grownCap w (n + 1) n 134))
        (w.drew.alloc (.cells ((xs.take (2 * i)).toArray ++ Builtin.zeroCells (Value.agg #[.slice none 0 0, .int .i64 0]).cells (n + 1 - i) ++ Builtin.zeroCells (Value.agg #[.slice none 0 0, .int .i64 0]).cells (grownCap w (n + 1) n 134 - (n + 1))) 134)) := fun ty => by
    have h := Lib.run_append_grow_zeros w 131 3 ty 134 i0 _ .i64 .i64 Tryz.underlying131 Tryz.underlying3 hi0 hz0 (some ⟨g, 0, none⟩) i n (xs.take (2 * i)) hold (n + 1 - i) (by omega) (by omega) (by omega) (by omega) (by rw [hzb]; omega) (by rw [hzb, hik]; exact growslice_fits (by omega) (by omega))
    rw [hik] at h
    rw [hkk]
    exact h
  have hGn : n + 1 ≤ grownCap w (n + 1) n 134 := grownCap_ge w _ _ _
  have hGm : grownCap w (n + 1) n 134 ≤ maxLen := grownCap_le_maxLen w _ _ _ (by simp only [maxLen]; omega)
  obtain ⟨G, hG⟩ : ∃ G, G = grownCap w (n + 1) n 134 := ⟨_, rfl⟩
  rw [← hG] at hrz hGn hGm
  obtain ⟨ROW, hROW⟩ : ∃ ROW : Array Value, ROW = (xs.take (2 * i)).toArray ++ Builtin.zeroCells (Value.agg #[.slice none 0 0, .int .i64 0]).cells (n + 1 - i) ++ Builtin.zeroCells (Value.agg #[.slice none 0 0, .int .i64 0]).cells (G - (n + 1)) := ⟨_, rfl⟩
  rw [← hROW] at hrz
  have hz2 : ((Value.agg #[.slice none 0 0, .int .i64 0]).cells).size = 2 := by decide
  have hRs : ROW.size = G * 2 := by
    rw [hROW]
    simp only [Array.size_append, List.size_toArray, List.length_take, hx, Builtin.zeroCells, Array.size_map, Array.size_range, hz2]
    omega
  have hRt : ROW.toList.take (2 * i) = xs.take (2 * i) := by
    rw [hROW]
    simp only [Array.toList_append, List.append_assoc]
    rw [List.take_append_of_le_length (by rw [List.length_take, hx]; omega), List.take_take, Nat.min_self]
  have hGL := grow_list ROW.toList xs x0 x1 n i (by omega) hx (by rw [Array.length_toList, hRs]; omega) hRt (Nat.mul_comm _ _)
  obtain ⟨C1, hC1⟩ : ∃ C1, C1 = ROW.toList.take (i * 2) ++ [x0, x1] ++ ROW.toList.drop (i * 2 + 2) := ⟨_, rfl⟩
  obtain ⟨C2, hC2⟩ : ∃ C2, C2 = C1.take ((i + 1) * 2) ++ xs.drop (2 * i) ++ C1.drop ((i + 1) * 2 + (xs.drop (2 * i)).length) := ⟨_, rfl⟩
  have hGL' : C1.length = ROW.toList.length ∧ C2.length = ROW.toList.length ∧ C2.take (2 * n + 2) = xs.take (2 * i) ++ [x0, x1] ++ xs.drop (2 * i) := by rw [hC2, hC1]; exact hGL
  obtain ⟨hl1, hl2, htk⟩ := hGL'
  have hRl : ROW.toList.length = G * 2 := by rw [Array.length_toList]; exact hRs
  rw [hRl] at hl1 hl2
  have hdl : (xs.drop (2 * i)).length = (n - i) * 2 := by rw [List.length_drop, hx]; omega
  have hcpA : ∀ (W : World), W.heap[w.heap.size]? = some (.cells ROW 134 (0, 0)) → W.heap[vb]? = some (.cells #[x0, x1] 134) → ∀ ty dc, (Builtin.copy_ #[131, 131] ty #[.slice (some ⟨w.heap.size, i * 2, none⟩) (n + 1 - i) dc, .slice (some ⟨vb, 0, none⟩) 1 1]).run Tryz.prog W = .ok (goInt ((1 : Nat) : Int)) (W.setRow w.heap.size C1.toArray) := fun W hW hWv ty dc => by
    rw [hC1]
    exact run_copy_rowN W _ _ ty 134 2 w.heap.size (i * 2) (n + 1 - i) dc ⟨vb, 0, none⟩ 1 1 1 ROW 134 [x0, x1] Tryz.underlying131 sizeRowP hW (by simp only [Nat.min_def]; split <;> omega) rfl
      (fun j v hj => by
        rw [Addr.add_lit]
        simp only [World.cell?, hWv]
        simpa using hj) (by simp [hRs]; omega) (fun u hu => by simp at hu; rcases hu with rfl | rfl <;> assumption)
  have hcpB : ∀ (W : World), W.heap[w.heap.size]? = some (.cells C1.toArray 134 (0, 0)) → W.heap[g]? = some (.cells cur 134 (0, 0)) → ∀ ty dc sc, (Builtin.copy_ #[131, 131] ty #[.slice (some ⟨w.heap.size, (i + 1) * 2, none⟩) (n - i) dc, .slice (some ⟨g, i * 2, none⟩) (n - i) sc]).run Tryz.prog W = .ok (goInt ((n - i : Nat) : Int)) (W.setRow w.heap.size C2.toArray) := fun W hW hWg ty dc sc => by
    rw [hC2]
    exact run_copy_rowN W _ _ ty 134 2 w.heap.size ((i + 1) * 2) (n - i) dc ⟨g, i * 2, none⟩ (n - i) sc (n - i) C1.toArray 134 (xs.drop (2 * i)) Tryz.underlying131 sizeRowP hW (by simp only [Nat.min_def]; split <;> omega) hdl
      (fun j v hj => by
        rw [List.getElem?_drop, ← ht, List.getElem?_take] at hj
        split at hj
        · rw [Addr.add_lit]
          simp only [World.cell?, hWg]
          simpa [Nat.mul_comm] using hj
        · cases hj) (by rw [hdl]; simp [hl1]; omega) (fun v hv => hxs v (List.mem_of_mem_drop hv))
  have hG63 : G ≤ 9223372036854775807 := by simp only [maxLen] at hGm; omega
  have hGi : ¬ (G = i) := by omega
  have hGim : ¬ (G = i + 1) := by omega
  have hni : ¬ (n = i) := by omega
  have hw1 : IntKind.i64.wrap ((i : Int) + 1) = (i : Int) + 1 := by rw [IntKind.wrap_i64]; omega
  have hw2 : IntKind.i64.wrap ((n : Int) + 1) = (n : Int) + 1 := by rw [IntKind.wrap_i64]; omega
  have htn : ((i : Int) + 1).toNat = i + 1 := by omega
  have hb1 : (0 : Int) ≤ (i : Int) + 1 := by omega
  have hb3 : (i : Int) ≤ (n : Int) := by omega
  have hin : i ≤ n := by omega
  have mixed : Tryz.prog.follows .mixedOrders = true := by kernel_rfl
  have hvl : vb < w.heap.size := lt_of_block hvb
  have hgl : g < w.heap.size := lt_of_block hg
  have hA1 : ((w.alloc (.cells ROW 134)).drew).heap[w.heap.size]? = some (.cells ROW 134 (0, 0)) := heap_alloc_new w (.cells ROW 134)
  have hA2 : ((w.alloc (.cells ROW 134)).drew).heap[vb]? = some (.cells #[x0, x1] 134) := ((Gr.refl w).alloc _).heap hvb
  have hA3 : ((w.alloc (.cells ROW 134)).drew).heap[g]? = some (.cells cur 134 (0, 0)) := ((Gr.refl w).alloc _).heap hg
  have hB1 : ((((w.alloc (.cells ROW 134)).drew).setRow w.heap.size C1.toArray).drew).heap[w.heap.size]? = some (.cells C1.toArray 134 (0, 0)) := setRow_heap _ _ _ _ _ _ hA1
  have hB2 : ((((w.alloc (.cells ROW 134)).drew).setRow w.heap.size C1.toArray).drew).heap[g]? = some (.cells cur 134 (0, 0)) := (setRow_other _ _ _ _ (by omega)).trans hA3
  clear hold hROW hG hC1 hC2 hRt hGL hik hkk
  go_enter Tryz.func124, Tryz.ntmps124
  go_wp2_with (at_builtin; refine Lib.wpList_append_run _ rfl _ _ _ _ rfl _ _ rfl rfl _ _ (hrz _) ?_)
  have hcA := fun ty dc => hcpA _ hA1 hA2 ty dc
  rw [hcA]
  go_wp2
  go_region_law_o (refine step_copy_runI rfl _ _ 131 131 rfl (.slice (some ⟨w.heap.size, (i + 1) * 2, none⟩) (n - i) (G - (i + 1))) (.slice (some ⟨g, i * 2, none⟩) (n - i) (n - i)) (by simp [Act.eval, Act.put]) (by simp [Act.eval, Act.put]) (hcpB _ hB1 hB2 _ _ _) ?_)
  go_wp2
  go_ret
  refine ⟨G, C2.toArray, rfl, hGn, hGm, setRow_heap _ _ _ _ _ _ hB1, by simpa using hl2, by simpa using htk, rfl, rfl, rfl, by simp, fun j hj _ => ?_⟩
  refine (setRow_other _ _ _ _ (by omega)).trans ((setRow_other _ _ _ _ (by omega)).trans ?_)
  exact ((Gr.refl w).alloc (.cells ROW 134)).block hj

/-- INSERT, on every road. -/
theorem insert_rowP (base n i vb : Nat) (rv x0 x1 : Value) (xs : List Value) (w : World) (hown : w.ownsRow base 134 2 rv n xs) (hi : i ≤ n) (hn : n ≤ 4096) (hbase : base ≤ w.heap.size) (hvb : w.heap[vb]? = some (.cells #[x0, x1] 134)) (hne : rv.ownBlock ≠ some vb) (o0 : x0.oneCell' = true) (o1 : x1.oneCell' = true) (hxs : ∀ v ∈ xs, v.oneCell' = true) :
    Calls Tryz.prog 124 #[rv, .int .i64 (i : Int), .slice (some ⟨vb, 0, none⟩) 1 1] w (InsP w base rv n (xs.take (2 * i) ++ [x0, x1] ++ xs.drop (2 * i))) := by
  have hx : xs.length = 2 * n := by have := hown.1; omega
  rcases Nat.lt_or_eq_of_le hi with hlt | rfl
  · rcases hown.2 with ⟨_, h0⟩ | ⟨g, c, cur, rfl, hgb, hg, hnc, hcm, hcur, ht⟩
    · omega
    · have hgn : vb ≠ g := fun h => hne (by subst h; rfl)
      have hlen : (xs.take (2 * i) ++ [x0, x1] ++ xs.drop (2 * i)).length = (n + 1) * 2 := by
        simp only [List.length_append, List.length_take, List.length_drop, List.length_cons, List.length_nil, hx]; omega
      rw [Nat.mul_comm] at ht
      by_cases hroom : n + 1 ≤ c
      · refine (insert_shiftP g n c i vb cur x0 x1 xs w hlt hn hroom hcm hg hcur ht hx hvb hgn o0 o1 hxs).mono ?_
        rintro e w' ⟨rfl, cur', rfl, hs, htk⟩
        refine ⟨_, rfl, ⟨hlen, .inr ⟨g, c, cur', rfl, hgb, setRow_heap _ _ _ _ _ _ hg, hroom, hcm, by omega, by rw [show (n + 1) * 2 = 2 * n + 2 by omega]; exact htk⟩⟩, ⟨rfl, rfl, rfl, by simp, fun j hj hjr => setRow_other _ _ _ _ (fun h => hjr (by subst h; rfl))⟩, .inl rfl⟩
      · obtain rfl : c = n := by omega
        refine (insert_growP g c i vb cur x0 x1 xs w hlt hn hg hcur ht hx hvb o0 o1 hxs).mono ?_
        rintro e w' ⟨G, cur', rfl, h1, h2, hh, hs, htk, hgr⟩
        refine ⟨_, rfl, ⟨hlen, .inr ⟨w.heap.size, G, cur', rfl, hbase, hh, h1, h2, hs, by rw [show (c + 1) * 2 = 2 * c + 2 by omega]; exact htk⟩⟩, ⟨hgr.os, hgr.tape, hgr.output, hgr.size, fun j hj _ => hgr.block j hj (by simp)⟩, .inr rfl⟩
  · rw [List.take_of_length_le (by omega), List.drop_eq_nil_of_le (by omega), List.append_nil]
    exact insert_endP base i vb rv x0 x1 xs w hown hn hbase hvb o0 o1
end Go.Proofs.YtddopoojmadpjaaGreatDoor

namespace Go.Proofs.YtddopoojmadpjaaGreatDoor
open Go.RowKit
set_option linter.unusedVariables false

theorem step_append_run {ops : Array Oper} {o : Oper} {a : Act} {w : World} {K : Act → World → Prop} {Q : Exit → Act → World → Prop} {E : Prop}
    (hg : o.guard = none) (d x : Operand) (dT sT : TypeId) (hop : o.op = Op.call { callee := Callee.builtin Builtin.append, args := #[d, x], argTypes := #[dT, sT] })
    (v u : Value) (hd : a.eval d = v) (hx : a.eval x = u) {v' : Value} {w' : World} (hr : (Builtin.append_ #[dT, sT] o.type #[v, u]).run Tryz.prog w = .ok v' w') (hK : K (a.put o.dst v') w') :
    if Region.wanted o (yielded ops a.tmps) = true then Oper.wp Tryz.prog o a w K Q else E := by
  have hw : Region.wanted o (yielded ops a.tmps) = true := by simp [Region.wanted, hg]
  rw [if_pos hw]
  unfold Oper.wp
  simp [execOp, hop, resolve, invoke, builtin, hd, hx, hr, Result.andThen]
  exact hK
theorem wpList_clear_run (w : World) {ops : Array Oper} {rest : List Oper} {o : Oper} {a : Act} {Q : Exit → Act → World → Prop} (hgd : o.guard = none) (d : Operand) (t : TypeId)
    (ho : o.op = .call { callee := .builtin .clear, args := #[d], argTypes := #[t] }) (v : Value) (hd : a.eval d = v) {v' : Value} {w' : World}
    (hr : (Builtin.clear_ #[t] o.type #[v]).run Tryz.prog w = .ok v' w') (h : wpList Tryz.prog ops Q rest (a.put o.dst v') w') : wpList Tryz.prog ops Q (o :: rest) a w :=
  wpList_plain hgd fun _ hK => by
    unfold Oper.wp execOp
    simp only [ho, resolve, invoke, builtin, Sem.run_bind, Sem.run_pure, Result.andThen_ok, List.map_toArray, List.map_cons, List.map_nil, hd, hr]
    exact hK _ _ h
/-- what is cleared: one parcel. -/
theorem run_clear_one (w : World) (ty : TypeId) (g o dc : Nat) (cur : Array Value) (hg : w.heap[g]? = some (.cells cur 134 (0, 0))) (ho : o + 2 ≤ cur.size) :
    (Builtin.clear_ #[131] ty #[.slice (some ⟨g, o, none⟩) 1 dc]).run Tryz.prog w = .ok (.tuple #[]) (w.setRow g (cur.toList.take o ++ [Value.slice none 0 0, Value.int .i64 0] ++ cur.toList.drop (o + 2)).toArray) := by
  obtain ⟨i, hi, hz0, hz1, hz2⟩ := info_parts infoParcel
  have hz : (Builtin.zeroCells (Value.agg #[.slice none 0 0, .int .i64 0]).cells 1).toList = [.slice none 0 0, .int .i64 0] := by
    simp [Builtin.zeroCells, Value.cells, List.range, List.range.loop]
  have hst := run_storeCells_at Tryz.prog g o 134 [.slice none 0 0, .int .i64 0] 0 cur w hg (by simpa using ho) (fun v hv => by simp at hv; rcases hv with rfl | rfl <;> rfl)
  simp only [Nat.add_zero, List.length_cons, List.length_nil] at hst
  simp [Builtin.clear_, run_underlying Tryz.underlying131, zeroValue, typeInfo, hi, hz0, hz, hst]

set_option maxRecDepth 100000 in
set_option maxHeartbeats 2000000 in
theorem deleteP_ok (g k c i : Nat) (cur : Array Value) (xs : List Value) (w : World) (hi : i ≤ k) (hn : k + 1 ≤ 4096) (hnc : k + 1 ≤ c) (hcm : c ≤ maxLen) (hg : w.heap[g]? = some (.cells cur 134 (0, 0))) (hcur : cur.size = c * 2) (ht : cur.toList.take (2 * (k + 1)) = xs) (hx : xs.length = 2 * (k + 1)) (hxs : ∀ v ∈ xs, v.oneCell' = true) :
    Calls Tryz.prog 123 #[.slice (some ⟨g, 0, none⟩) (k + 1) c, .int .i64 (i : Int), .int .i64 ((i : Int) + 1)] w fun e w' =>
      e = .returned (.slice (some ⟨g, 0, none⟩) k c) ∧ ∃ cur' : Array Value, w' = w.drew.setRow g cur' ∧ cur'.size = cur.size ∧ cur'.toList.take (2 * k) = xs.take (2 * i) ++ xs.drop (2 * i + 2) := by
  obtain ⟨i0, hi0, hz0, hz1, hz2⟩ := info_parts infoParcel
  have hdl : (xs.drop (2 * i + 2)).length = (k - i) * 2 := by rw [List.length_drop, hx]; omega
  have hap : ∀ ty dc, (Builtin.append_ #[131, 131] ty #[.slice (some ⟨g, 0, none⟩) i c, .slice (some (if c = i + 1 then ⟨g, 0, none⟩ else ⟨g, (i + 1) * 2, none⟩)) (k - i) dc]).run Tryz.prog w.drew = .ok (.slice (some ⟨g, 0, none⟩) k c) (w.drew.setRow g (cur.toList.take (i * 2) ++ xs.drop (2 * i + 2) ++ cur.toList.drop (i * 2 + (xs.drop (2 * i + 2)).length)).toArray) := fun ty dc => by
    have h := run_append_room (P := Tryz.prog) w.drew 131 ty 134 i0 Tryz.underlying131 hi0 g i c cur hg (if c = i + 1 then ⟨g, 0, none⟩ else ⟨g, (i + 1) * 2, none⟩) (k - i) dc (xs.drop (2 * i + 2)) (by rw [hz1]; exact hdl)
      (fun j v hj => by
        by_cases hce : c = i + 1
        · have : (xs.drop (2 * i + 2)).length = 0 := by rw [hdl]; omega
          rw [List.eq_nil_of_length_eq_zero this] at hj
          simp at hj
        · rw [if_neg hce]
          rw [List.getElem?_drop, ← ht, List.getElem?_take] at hj
          split at hj
          · rw [Addr.add_lit]
            show w.cell? _ = _
            simp only [World.cell?, hg]
            rw [show (i + 1) * 2 + j = 2 * i + 2 + j by omega]
            simpa using hj
          · cases hj) (fun u hu => hxs u (List.mem_of_mem_drop hu)) (by omega) (by rw [hz1, hdl, hcur]; omega)
    rw [hz1, show i + (k - i) = k by omega] at h
    exact h
  obtain ⟨C1, hC1⟩ : ∃ C1, C1 = cur.toList.take (i * 2) ++ xs.drop (2 * i + 2) ++ cur.toList.drop (i * 2 + (xs.drop (2 * i + 2)).length) := ⟨_, rfl⟩
  have hC1l : C1.length = cur.size := by rw [hC1]; simp only [List.length_append, List.length_take, List.length_drop, hx, Array.length_toList, hcur]; omega
  have hC1t : C1.take (2 * k) = xs.take (2 * i) ++ xs.drop (2 * i + 2) := by
    have e0 : cur.toList.take (i * 2) = xs.take (2 * i) := by rw [← ht, List.take_take, Nat.mul_comm i 2]; congr 1; omega
    have hl : (xs.take (2 * i) ++ xs.drop (2 * i + 2)).length = 2 * k := by simp only [List.length_append, List.length_take, hdl, hx]; omega
    rw [hC1, e0, List.take_append_of_le_length (by omega), List.take_of_length_le (by omega)]
  rw [← hC1] at hap
  have hg1 : (w.drew.setRow g C1.toArray).heap[g]? = some (.cells C1.toArray 134 (0, 0)) := setRow_heap w.drew g cur _ _ _ hg
  have hcl : ∀ ty dc, (Builtin.clear_ #[131] ty #[.slice (some ⟨g, k * 2, none⟩) 1 dc]).run Tryz.prog (w.drew.setRow g C1.toArray) = .ok (.tuple #[]) ((w.drew.setRow g C1.toArray).setRow g (C1.take (k * 2) ++ [Value.slice none 0 0, Value.int .i64 0] ++ C1.drop (k * 2 + 2)).toArray) := fun ty dc => by
    have h := run_clear_one (w.drew.setRow g C1.toArray) ty g (k * 2) dc C1.toArray hg1 (by simp [hC1l, hcur]; omega)
    exact h
  have hFIN : Hid ((C1.take (k * 2) ++ [Value.slice none 0 0, Value.int .i64 0] ++ C1.drop (k * 2 + 2)).length = cur.size ∧ (C1.take (k * 2) ++ [Value.slice none 0 0, Value.int .i64 0] ++ C1.drop (k * 2 + 2)).take (2 * k) = xs.take (2 * i) ++ xs.drop (2 * i + 2)) := by
    show _ ∧ _
    refine ⟨by simp only [List.length_append, List.length_take, List.length_drop, List.length_cons, List.length_nil, hC1l, hcur]; omega, ?_⟩
    rw [List.append_assoc, List.take_append_of_le_length (by rw [List.length_take, hC1l, hcur]; omega), List.take_take, Nat.mul_comm k 2, Nat.min_self]
    exact hC1t
  have mixed : Tryz.prog.follows .mixedOrders = true := by kernel_rfl
  have hcm9 : c ≤ 9223372036854775807 := by unfold maxLen at hcm; exact hcm
  have hci : (c : Int) ≤ 9223372036854775807 := by omega
  have hb1 : (i : Int) + 1 ≤ (k : Int) + 1 := by omega
  have hb0 : (0 : Int) ≤ (i : Int) + 1 := by omega
  have hne : ((i : Int) == (i : Int) + 1) = false := by rw [beq_eq_false_iff_ne]; omega
  have htn : ((i : Int) + 1).toNat = i + 1 := by omega
  have hck : ¬ c = k := by omega
  have hself : k = i → w.drew.setRow g C1.toArray = w.drew := fun e => by
    have h0 : xs.drop (2 * i + 2) = [] := List.eq_nil_of_length_eq_zero (by rw [hdl]; omega)
    have : C1 = cur.toList := by rw [hC1, h0]; simp
    rw [this, Array.toArray_toList]
    exact setRow_self w.drew g cur _ _ hg
  clear hC1 hC1l hC1t hdl
  have fin : ∀ (A : Addr), (if c = i + 1 then (⟨g, 0, none⟩ : Addr) else ⟨g, (i + 1) * 2, none⟩) = A → ∀ ty dc, (Builtin.append_ #[131, 131] ty #[.slice (some ⟨g, 0, none⟩) i c, .slice (some A) (k - i) dc]).run Tryz.prog w.drew = .ok (.slice (some ⟨g, 0, none⟩) k c) (w.drew.setRow g C1.toArray) := fun A hA => by rw [← hA]; exact hap
  have hic : i ≤ c := by omega
  clear hap
  by_cases hce : c = i + 1
  · have hap := fin _ (if_pos hce)
    clear fin
    obtain rfl : k = i := by omega
    subst hce
    rw [Nat.sub_self] at hap
    rw [hself rfl] at hap hcl
    clear hself
    have hii : (k : Int) ≤ (k : Int) + 1 := by omega
    go_enter Tryz.func123, Tryz.ntmps123
    go_wp2
    go_region_law_o (refine step_append_run rfl _ _ 131 131 rfl _ _ (by simp [Act.eval, Act.put]) (by simp [Act.eval, Act.put]) (hap _ _) ?_)
    go_wp2_with (at_builtin; refine wpList_clear_run _ rfl _ 131 rfl _ rfl (hcl _ _) ?_)
    go_wp2
    go_ret
    exact ⟨rfl, _, rfl, by simpa using hFIN.out.1, by simpa using hFIN.out.2⟩
  · have hap := fin _ (if_neg hce)
    clear fin
    go_enter Tryz.func123, Tryz.ntmps123
    go_wp2
    go_region_law_o (refine step_append_run rfl _ _ 131 131 rfl _ _ (by simp [Act.eval, Act.put]) (by simp [Act.eval, Act.put]) (hap _ (c - (i + 1))) ?_)
    go_wp2_with (at_builtin; refine wpList_clear_run _ rfl _ 131 rfl _ rfl (hcl _ _) ?_)
    go_wp2
    go_ret
    exact ⟨rfl, _, setRow_setRow _ _ _ _, by simpa using hFIN.out.1, by simpa using hFIN.out.2⟩
end Go.Proofs.YtddopoojmadpjaaGreatDoor

namespace Go.Proofs.YtddopoojmadpjaaGreatDoor
open Go.RowKit
set_option linter.unusedVariables false

/-- a parcel: its bytes, its two cells. -/
abbrev Pcl := List UInt8 × Value × Value
def flatT (ts : List Pcl) : List Value := ts.flatMap fun t => [t.2.1, t.2.2]
theorem flatT_length (ts : List Pcl) : (flatT ts).length = 2 * ts.length := by
  induction ts with
  | nil => rfl
  | cons t r ih => simp only [flatT, List.flatMap_cons, List.length_append, List.length_cons, List.length_nil] at ih ⊢; rw [ih]; omega
theorem flatT_append (a b : List Pcl) : flatT (a ++ b) = flatT a ++ flatT b := by simp [flatT]
theorem flatT_split (ts : List Pcl) (i : Nat) : flatT ts = flatT (ts.take i) ++ flatT (ts.drop i) := by rw [← flatT_append, List.take_append_drop]
theorem flatT_take (ts : List Pcl) (i : Nat) (hi : i ≤ ts.length) : flatT (ts.take i) = (flatT ts).take (2 * i) := by
  rw [flatT_split ts i]
  exact (List.take_left' (by rw [flatT_length, List.length_take]; omega)).symm
theorem flatT_drop (ts : List Pcl) (i : Nat) (hi : i ≤ ts.length) : flatT (ts.drop i) = (flatT ts).drop (2 * i) := by
  rw [flatT_split ts i]
  exact (List.drop_left' (by rw [flatT_length, List.length_take]; omega)).symm
theorem flatT_get {ts : List Pcl} {i : Nat} {t : Pcl} (h : ts[i]? = some t) : (flatT ts)[2 * i]? = some t.2.1 ∧ (flatT ts)[2 * i + 1]? = some t.2.2 := by
  induction ts generalizing i with
  | nil => simp at h
  | cons a r ih =>
    cases i with
    | zero => simp at h; subst h; exact ⟨rfl, rfl⟩
    | succ i =>
      simp at h
      obtain ⟨h1, h2⟩ := ih h
      simp only [flatT, List.flatMap_cons] at h1 h2 ⊢
      rw [show 2 * (i + 1) = 2 * i + 2 by omega]
      exact ⟨by simpa using h1, by rw [show 2 * i + 2 + 1 = (2 * i + 1) + 2 by omega]; simpa using h2⟩

def PGood (w : World) (U : Nat) (t : Pcl) : Prop :=
  ∃ (a : Option Addr) (n c : Nat) (f : Int), t.2.1 = .slice a n c ∧ t.2.2 = .int .i64 f ∧ Bs w a n c t.1 ∧ ∀ y, a = some y → y.block ≠ U ∧ y.block < w.heap.size
theorem PGood.gr {w w' : World} {U : Nat} {t : Pcl} (h : PGood w U t) (hg : Gr w w') : PGood w' U t := by
  obtain ⟨a, n, c, f, h1, h2, h3, h4⟩ := h
  exact ⟨a, n, c, f, h1, h2, h3.below hg, fun y hy => ⟨(h4 y hy).1, Nat.lt_of_lt_of_le (h4 y hy).2 hg.size⟩⟩
theorem PGood.grb {w w' : World} {U U' : Nat} {t : Pcl} (h : PGood w U t) (hg : GrB w U w') (hU : U' = U ∨ w.heap.size ≤ U') : PGood w' U' t := by
  obtain ⟨a, n, c, f, h1, h2, h3, h4⟩ := h
  refine ⟨a, n, c, f, h1, h2, h3.grb hg (fun y hy => (h4 y hy).1), fun y hy => ⟨?_, Nat.lt_of_lt_of_le (h4 y hy).2 hg.size⟩⟩
  have := h4 y hy
  rcases hU with rfl | hU
  · exact this.1
  · omega
/-- PARCELS in a block of one's own. -/
def Parcs (w : World) (base : Nat) (u : Value) (U : Nat) (ts : List Pcl) : Prop :=
  u.ownBlock = some U ∧ w.ownsRow base 134 2 u ts.length (flatT ts) ∧ ∀ t, t ∈ ts → PGood w U t
theorem Parcs.val {w : World} {base U : Nat} {u : Value} {ts : List Pcl} (h : Parcs w base u U ts) : ∃ cap cur, u = .slice (some ⟨U, 0, none⟩) ts.length cap ∧ base ≤ U ∧ w.heap[U]? = some (.cells cur 134 (0, 0)) ∧ ts.length ≤ cap ∧ cap ≤ maxLen ∧ cur.size = cap * 2 ∧ cur.toList.take (2 * ts.length) = flatT ts := by
  obtain ⟨h1, h2, h3⟩ := h
  rcases h2.2 with ⟨rfl, hn⟩ | ⟨g, cap, cur, rfl, hb, hg, hn, hm, hs, ht⟩
  · cases h1
  · cases h1
    exact ⟨cap, cur, rfl, hb, hg, hn, hm, hs, by rw [Nat.mul_comm]; exact ht⟩
theorem Parcs.gr {w w' : World} {base U : Nat} {u : Value} {ts : List Pcl} (h : Parcs w base u U ts) (hg : Gr w w') : Parcs w' base u U ts := by
  obtain ⟨h1, h2, h3⟩ := h
  have hg' : w.grownBy w' none := ⟨hg.os, hg.tape, hg.output, hg.size, fun i hi _ => hg.block hi⟩
  exact ⟨h1, h2.kept hg' (by cases u.ownBlock <;> simp), fun t ht => (h3 t ht).gr hg⟩
theorem flatT_one {ts : List Pcl} {w : World} {U : Nat} (h : ∀ t, t ∈ ts → PGood w U t) : ∀ v ∈ flatT ts, v.oneCell' = true := fun v hv => by
  obtain ⟨t, ht, hv⟩ := List.mem_flatMap.1 hv
  obtain ⟨a, n, c, f, h1, h2, _⟩ := h t ht
  simp at hv
  rcases hv with rfl | rfl
  · rw [h1]; rfl
  · rw [h2]; rfl

/-- one taken out; put in again at j. -/
def outT (ts : List Pcl) (i : Nat) : List Pcl := ts.take i ++ ts.drop (i + 1)
def moveT (ts : List Pcl) (i j : Nat) (t : Pcl) : List Pcl := (outT ts i).take (min j (outT ts i).length) ++ [t] ++ (outT ts i).drop (min j (outT ts i).length)
theorem outT_length {ts : List Pcl} {i : Nat} (hi : i < ts.length) : (outT ts i).length + 1 = ts.length := by simp [outT]; omega
theorem mem_outT {ts : List Pcl} {i : Nat} {t : Pcl} (h : ts[i]? = some t) (x : Pcl) : (x = t ∨ x ∈ outT ts i) ↔ x ∈ ts := by
  have hi := (List.getElem?_eq_some_iff.1 h).1
  have e : ts = ts.take i ++ t :: ts.drop (i + 1) := by
    have : t = ts[i] := (Option.some.inj ((List.getElem?_eq_getElem hi).symm.trans h)).symm
    rw [this, List.getElem_cons_drop, List.take_append_drop]
  unfold outT
  conv => rhs; rw [e]
  simp only [List.mem_append, List.mem_cons]
  constructor
  · rintro (h | h | h)
    · exact .inr (.inl h)
    · exact .inl h
    · exact .inr (.inr h)
  · rintro (h | h | h)
    · exact .inr (.inl h)
    · exact .inl h
    · exact .inr (.inr h)
theorem mem_moveT {ts : List Pcl} {i j : Nat} {t : Pcl} (h : ts[i]? = some t) (x : Pcl) : x ∈ moveT ts i j t ↔ x ∈ ts := by
  rw [← mem_outT h x]
  unfold moveT
  conv => rhs; rw [← List.take_append_drop (min j (outT ts i).length) (outT ts i)]
  simp only [List.mem_append, List.mem_singleton]
  constructor
  · rintro ((h | h) | h)
    · exact .inr (.inl h)
    · exact .inl h
    · exact .inr (.inr h)
  · rintro (h | h | h)
    · exact .inl (.inr h)
    · exact .inl (.inl h)
    · exact .inr h
theorem moveT_length {ts : List Pcl} {i j : Nat} {t : Pcl} (h : ts[i]? = some t) : (moveT ts i j t).length = ts.length := by
  have := outT_length (List.getElem?_eq_some_iff.1 h).1
  simp only [moveT, List.length_append, List.length_take, List.length_drop, List.length_singleton]; omega

set_option maxRecDepth 100000 in
set_option maxHeartbeats 2000000 in
theorem moveP_ok (d I J pb : Nat) (ab : Option Addr) (lb cb : Nat) (base U : Nat) (u : Value) (ts : List Pcl) (t : Pcl) (ht : ts[I]? = some t) (hJ : J ≤ 1000) (hts : ts.length ≤ 4000) (w : World) (h : Parcs w base u U ts) :
    Calls Tryz.prog 101 #[.agg #[.int .i64 (d : Int), .int .i64 (I : Int), .int .i64 (J : Int), .int .u32 (pb : Int), .slice ab lb cb], u] w fun e w' => ∃ u' U', e = .returned u' ∧ Parcs w' base u' U' (moveT ts I J t) ∧ GrB w U w' := by
  have hIl := (List.getElem?_eq_some_iff.1 ht).1
  obtain ⟨k, hk⟩ : ∃ k, ts.length = k + 1 := ⟨ts.length - 1, by omega⟩
  obtain ⟨cap, cur, rfl, hbU, hg, hnc, hcm, hcur, htk⟩ := h.val
  obtain ⟨g1, g2⟩ := flatT_get ht
  obtain ⟨at', nt, ct, f, e1, e2, hbt, hby⟩ := h.2.2 t (List.mem_of_getElem? ht)
  have hol := outT_length hIl
  have hol' : (outT ts I).length = k := by omega
  have hfo : flatT (outT ts I) = (flatT ts).take (2 * I) ++ (flatT ts).drop (2 * I + 2) := by
    unfold outT
    rw [flatT_append, flatT_take _ _ (by omega), flatT_drop _ _ (by omega), show 2 * (I + 1) = 2 * I + 2 by omega]
  have hfl := flatT_length ts
  have hone := flatT_one h.2.2
  rw [hk] at hnc htk hts hfl ⊢
  have hA := heap_alloc_new w (.cells #[.int .i64 (d : Int), .int .i64 (I : Int), .int .i64 (J : Int), .int .u32 (pb : Int), .slice ab lb cb] 73)
  have hal := (Gr.refl w).alloc (.cells #[.int .i64 (d : Int), .int .i64 (I : Int), .int .i64 (J : Int), .int .u32 (pb : Int), .slice ab lb cb] 73)
  have hc0 : w.cell? ⟨U, I * 2, none⟩ = some (.slice at' nt ct) := by
    rw [← htk, List.getElem?_take] at g1
    split at g1
    · simp only [World.cell?, hg]; rw [Nat.mul_comm]; rw [← e1]; simpa using g1
    · cases g1
  have hc1 : w.cell? ⟨U, I * 2 + 1, none⟩ = some (.int .i64 f) := by
    rw [← htk, List.getElem?_take] at g2
    split at g2
    · simp only [World.cell?, hg]; rw [Nat.mul_comm]; rw [← e2]; simpa using g2
    · cases g2
  have hc0' := hal.cell hc0
  have hc1' := hal.cell hc1
  obtain ⟨x0, x1, x2, x3, x4, xf⟩ := five_cells hA
  have HA := Lib.hid hA
  have hIi : (I : Int) < (k : Int) + 1 := by omega
  have HPA := Lib.hid h
  have HAL := Lib.hid hal
  have HG := Lib.hid hg
  clear hA hal g1 g2 hc0 hc1 h
  go_enter Tryz.func101, Tryz.ntmps101
  have hal2 := HAL.out.alloc (.cells #[.slice at' nt ct, .int .i64 f] 134)
  have hP := heap_alloc_new (w.alloc (.cells #[.int .i64 (d : Int), .int .i64 (I : Int), .int .i64 (J : Int), .int .u32 (pb : Int), .slice ab lb cb] 73)) (.cells #[.slice at' nt ct, .int .i64 f] 134)
  rw [World.size_alloc] at hP
  have hA2 := Gr.heap ((Gr.refl _).alloc (.cells #[.slice at' nt ct, .int .i64 f] 134)) HA.out
  have hUw := lt_of_block HG.out
  have HD := Lib.hid fun (W : World) hg => deleteP_ok U k cap I cur (flatT ts) W (by omega) (by omega) hnc hcm hg hcur htk hfl hone
  have HP2 := Lib.hid hP
  have HA2 := Lib.hid hA2
  have HAL2 := Lib.hid hal2
  have HFO := Lib.hid hfo
  have HK := Lib.hid hk
  clear hP hA2 hal2 hone hfo htk hfl hk
  go_wp2_with fail
  refine (HD.out _ (HAL2.out.heap HG.out)).mono ?_
  rintro e w1 ⟨rfl, cur', rfl, hcs, hct⟩
  obtain ⟨W0, eW0⟩ : ∃ W, (w.alloc (.cells #[.int .i64 (d : Int), .int .i64 (I : Int), .int .i64 (J : Int), .int .u32 (pb : Int), .slice ab lb cb] 73)).alloc (.cells #[.slice at' nt ct, .int .i64 f] 134) = W := ⟨_, rfl⟩
  rw [eW0] at HAL2 HP2 HA2 ⊢
  have hg0 : W0.drew.heap[U]? = some (.cells cur 134 (0, 0)) := HAL2.out.heap HG.out
  obtain ⟨s1, s2⟩ := setRow_grb (cs := cur') hg0
  have hgr1 := (GrB.of_gr (b := U) HAL2.out.drew).trans s1
  have hA3 := s1.heap (show W0.drew.heap[w.heap.size]? = _ from HA2.out) (by omega)
  have hP3 := s1.heap (show W0.drew.heap[w.heap.size + 1]? = _ from HP2.out) (by omega)
  obtain ⟨W1, eW1⟩ : ∃ W, W0.drew.setRow U cur' = W := ⟨_, rfl⟩
  rw [eW1] at s2 hgr1 hA3 hP3 ⊢
  rw [← HFO.out] at hct
  have hown1 : W1.ownsRow base 134 2 (.slice (some ⟨U, 0, none⟩) k cap) k (flatT (outT ts I)) := ⟨by rw [flatT_length, hol']; omega, .inr ⟨U, cap, cur', rfl, hbU, s2, by omega, hcm, by rw [hcs]; exact hcur, by rw [Nat.mul_comm]; exact hct⟩⟩
  have HOW := Lib.hid hown1
  have HGR1 := Lib.hid hgr1
  have HP3 := Lib.hid hP3
  obtain ⟨x0, x1, x2, x3, x4, xf⟩ := five_cells hA3
  obtain ⟨y0, y1, yf⟩ := two_cells hP3
  have hgd : ∀ t', t' ∈ ts → PGood W1 U t' := fun t' ht' => (HPA.out.2.2 t' ht').grb HGR1.out (.inl rfl)
  have HGD := Lib.hid hgd
  have hsz1 := hgr1.size
  have hW1s : w.heap.size + 1 < W1.heap.size := lt_of_block hP3
  have hone' := flatT_one (w := W1) (U := U) (fun t' ht' => hgd t' ((mem_outT ht t').1 (.inr ht')))
  have HONE := Lib.hid hone'
  clear eW0 eW1 s1 s2 hgr1 hA3 hP3 hown1 hct hcs hg0 HD hgd hone' HG HAL HA HP2 HA2
  have hkc : (cap : Int) ≤ 9223372036854775807 := by unfold maxLen at hcm; omega
  -- where it is put
  obtain ⟨M, eM⟩ : ∃ M, min J k = M := ⟨_, rfl⟩
  have hMk : M ≤ k := by omega
  have HM := Lib.hid eM
  have hal4 := (Gr.refl W1).alloc (.cells #[.slice at' nt ct, .int .i64 f] 134)
  have hvb := heap_alloc_new W1 (.cells #[.slice at' nt ct, .int .i64 f] 134)
  have hown4 : (W1.alloc (.cells #[.slice at' nt ct, .int .i64 f] 134)).ownsRow base 134 2 (.slice (some ⟨U, 0, none⟩) k cap) k (flatT (outT ts I)) := HOW.out.kept (row := none) ⟨rfl, rfl, rfl, hal4.size, fun j hj _ => hal4.block hj⟩ (.inr (fun e => by cases e))
  have HIN := Lib.hid (insert_rowP base k M W1.heap.size (.slice (some ⟨U, 0, none⟩) k cap) (.slice at' nt ct) (.int .i64 f) (flatT (outT ts I)) _ hown4 hMk (by omega) (Nat.le_trans (show base ≤ W1.heap.size by omega) hal4.size) hvb (fun e => by have e2 : U = W1.heap.size := Option.some.inj e; omega) rfl rfl HONE.out)
  have HAL4 := Lib.hid hal4
  clear hown4 hal4 hvb
  have hmin : min (J : Int) (k : Int) = (M : Int) := by omega
  go_wp2_with fail
  refine HIN.out.mono ?_
  rintro e w9 ⟨rv, rfl, how, hgb, hnb⟩
  have hlt : ∃ U', rv.ownBlock = some U' ∧ (U' = U ∨ (W1.alloc (.cells #[.slice at' nt ct, .int .i64 f] 134)).heap.size ≤ U') := by
    rcases hnb with h | h
    · exact ⟨U, h, .inl rfl⟩
    · exact ⟨_, h, .inr (Nat.le_refl _)⟩
  obtain ⟨U', hU1, hU2⟩ := hlt
  have hmv : flatT (moveT ts I J t) = (flatT (outT ts I)).take (2 * M) ++ [.slice at' nt ct, .int .i64 f] ++ (flatT (outT ts I)).drop (2 * M) := by
    unfold moveT
    rw [hol', HM.out, flatT_append, flatT_append, flatT_take _ _ (by omega), flatT_drop _ _ (by omega)]
    show _ ++ [t.2.1, t.2.2] ++ _ = _
    rw [e1, e2]
  have hgrb9 : GrB (W1.alloc (.cells #[.slice at' nt ct, .int .i64 f] 134)) U w9 := ⟨hgb.os, hgb.tape, hgb.output, hgb.size, fun j hj hne => hgb.block j hj (fun e => by cases e; exact hne rfl)⟩
  have hml := moveT_length (j := J) ht
  have HF : Hid (Parcs w9 base rv U' (moveT ts I J t) ∧ GrB w U w9) := by
    show _ ∧ _
    refine ⟨⟨hU1, ?_, fun t' ht' => ?_⟩, (HGR1.out.gr HAL4.out).trans hgrb9⟩
    · rw [hmv, hml, HK.out]; exact how
    · exact ((HGD.out t' ((mem_moveT ht t').1 ht')).gr HAL4.out).grb hgrb9 hU2
  clear how hgb hnb hU1 hU2 hmv hgrb9 hml x0 x1 x2 x3 x4 xf y0 y1 yf
  go_wp2
  first | go_ret | go_ret2
  exact ⟨rv, U', rfl, HF.out.1, HF.out.2⟩
end Go.Proofs.YtddopoojmadpjaaGreatDoor

namespace Go.Proofs.YtddopoojmadpjaaGreatDoor
open Go.RowKit
set_option linter.unusedVariables false

theorem rgAt_append {o : Oper} {a : Act} {w : World} {R : Value → World → Prop} (s x : Operand) (t : TypeId) (ho : o.op = .call { callee := .builtin .append, args := #[s, x], argTypes := #[t, t] }) {v u : Value} (hs : a.eval s = v) (hx : a.eval x = u) {v' : Value} {w' : World}
    (hr : (Builtin.append_ #[t, t] o.type #[v, u]).run Tryz.prog w = .ok v' w') (h : R v' w') : rgAt Tryz.prog o a w R := by
  unfold rgAt execOp
  simp only [ho, resolve, invoke, builtin, Sem.run_bind, Sem.run_pure, Result.andThen_ok, List.map_toArray, List.map_cons, List.map_nil, hs, hx, hr]
  exact h

/-- one more, behind all. -/
theorem run_append_pcl {w : World} (ty : TypeId) (base U : Nat) {u : Value} {ts : List Pcl} (h : Parcs w base u U ts) {b : Nat} {t : Pcl} (hc : w.cell? ⟨b, 0, none⟩ = some t.2.1) (hc' : w.cell? ⟨b, 1, none⟩ = some t.2.2) (hg : PGood w U t) (hlen : ts.length ≤ 4000) :
    ∃ u' U' w', (Builtin.append_ #[131, 131] ty #[u, .slice (some ⟨b, 0, none⟩) 1 1]).run Tryz.prog w = .ok u' w' ∧ Parcs w' base u' U' (ts ++ [t]) ∧ GrB w U w' := by
  obtain ⟨i, hi, hz0, hz1, hz2⟩ := info_parts infoParcel
  obtain ⟨h1, h2, h3⟩ := h
  have hbase : base ≤ w.heap.size := by have := World.ownsRow.lt h2 U h1; omega
  obtain ⟨a, n, c, f, e1, e2, e3, e4⟩ := hg
  obtain ⟨v', w', hr, ho, hgb, hn, hb⟩ := run_append_own_at (P := Tryz.prog) w base _ ty _ i _ 2 32 Tryz.underlying131 hi hz0 hz1 hz2 rfl (by decide) u ts.length (flatT ts) h2 ⟨b, 0, none⟩ 1 1 [t.2.1, t.2.2] rfl
    (fun j x hx => by
      match j, hx with
      | 0, hx => simp at hx; subst hx; rw [Addr.add_zero']; exact hc
      | 1, hx => simp at hx; subst hx; exact hc'
      | j + 2, hx => simp at hx) (fun x hx => by simp at hx; rcases hx with rfl | rfl; rw [e1]; rfl; rw [e2]; rfl) (by unfold maxLen; omega) (by omega) hbase
  have hgrb : GrB w U w' := ⟨hgb.os, hgb.tape, hgb.output, hgb.size, fun j hj hne => hgb.block j hj (fun e => by rw [h1] at e; cases e; exact hne rfl)⟩
  have hU : ∃ U', v'.ownBlock = some U' ∧ (U' = U ∨ w.heap.size ≤ U') := by
    rcases hb with hb | hb
    · exact ⟨U, hb.trans h1, .inl rfl⟩
    · exact ⟨_, hb, .inr (Nat.le_refl _)⟩
  obtain ⟨U', hU1, hU2⟩ := hU
  refine ⟨v', U', w', hr, ⟨hU1, ?_, fun t' ht' => ?_⟩, hgrb⟩
  · rw [flatT_append, List.length_append]; exact ho
  · rcases List.mem_append.1 ht' with ht' | ht'
    · exact (h3 t' ht').grb hgrb hU2
    · rw [List.mem_singleton.1 ht']
      exact PGood.grb ⟨a, n, c, f, e1, e2, e3, e4⟩ hgrb hU2

set_option maxRecDepth 100000 in
set_option maxHeartbeats 2000000 in
theorem doubleP_ok (d I J pb : Nat) (ab : Option Addr) (lb cb : Nat) (base U : Nat) (u : Value) (ts : List Pcl) (t : Pcl) (ht : ts[I]? = some t) (htl : t.1.length ≤ 1000000) (hts : ts.length ≤ 4000) (w : World) (h : Parcs w base u U ts) :
    Calls Tryz.prog 100 #[.agg #[.int .i64 (d : Int), .int .i64 (I : Int), .int .i64 (J : Int), .int .u32 (pb : Int), .slice ab lb cb], u] w fun e w' => ∃ u' U' t', e = .returned u' ∧ t'.1 = t.1 ∧ Parcs w' base u' U' (ts ++ [t']) ∧ GrB w U w' := by
  have hIl := (List.getElem?_eq_some_iff.1 ht).1
  obtain ⟨cap, cur, rfl, hbU, hg, hnc, hcm, hcur, htk⟩ := h.val
  obtain ⟨g1, g2⟩ := flatT_get ht
  obtain ⟨at', nt, ct, f, e1, e2, hbt, hby⟩ := h.2.2 t (List.mem_of_getElem? ht)
  have hA := heap_alloc_new w (.cells #[.int .i64 (d : Int), .int .i64 (I : Int), .int .i64 (J : Int), .int .u32 (pb : Int), .slice ab lb cb] 73)
  have hal := (Gr.refl w).alloc (.cells #[.int .i64 (d : Int), .int .i64 (I : Int), .int .i64 (J : Int), .int .u32 (pb : Int), .slice ab lb cb] 73)
  have hc0 : w.cell? ⟨U, I * 2, none⟩ = some (.slice at' nt ct) := by
    rw [← htk, List.getElem?_take] at g1
    split at g1
    · simp only [World.cell?, hg]; rw [Nat.mul_comm]; rw [← e1]; simpa using g1
    · cases g1
  have hc1 : w.cell? ⟨U, I * 2 + 1, none⟩ = some (.int .i64 f) := by
    rw [← htk, List.getElem?_take] at g2
    split at g2
    · simp only [World.cell?, hg]; rw [Nat.mul_comm]; rw [← e2]; simpa using g2
    · cases g2
  have hnt : nt ≤ 1000000 := by rw [← hbt.1]; exact htl
  have HCL := Lib.hid fun W h => byteClone_own at' nt ct t.1 W h (by omega)
  have HBT := Lib.hid hbt
  have HPA := Lib.hid h
  have HAL := Lib.hid hal
  have hIi : (I : Int) < (ts.length : Int) := by omega
  have hlm : (ts.length : Int) < 4096 := by omega
  obtain ⟨x0, x1, x2, x3, x4, xf⟩ := five_cells hA
  have hc0' := hal.cell hc0
  have hc1' := hal.cell hc1
  have hUw := lt_of_block hg
  obtain ⟨N, eN⟩ : ∃ N, ts.length = N := ⟨_, rfl⟩
  rw [eN] at hIi hlm ⊢
  have HN := Lib.hid eN
  clear hA hal hbt htk hg g1 g2 hc0 hc1 eN
  go_enter Tryz.func100, Tryz.ntmps100
  go_wp2
  obtain ⟨W0, eW⟩ : ∃ W, w.alloc (.cells #[.int .i64 (d : Int), .int .i64 (I : Int), .int .i64 (J : Int), .int .u32 (pb : Int), .slice ab lb cb] 73) = W := ⟨_, rfl⟩
  rw [eW] at HAL x0 x1 x2 x3 x4 hc0' hc1' ⊢
  clear eW xf
  have hup : Nonempty (Up Gr W0.drew) := ⟨⟨_, Gr.refl _⟩⟩
  have u1 : ∀ x : Up Gr W0.drew, x.w.cell? ⟨w.heap.size, 1, none⟩ = some (.int .i64 (I : Int)) := fun x => gr_st x.rel x1
  have u2 : ∀ x : Up Gr W0.drew, x.w.cell? ⟨U, I * 2, none⟩ = some (.slice at' nt ct) := fun x => gr_st x.rel hc0'
  have u3 : ∀ x : Up Gr W0.drew, x.w.cell? ⟨U, I * 2 + 1, none⟩ = some (.int .i64 f) := fun x => gr_st x.rel hc1'
  clear x0 x1 x2 x3 x4 hc0' hc1'
  refine wp_region_rgF [.reck, .reck, .reck, .reck, .reck, .reck, .reck, .any (Option Addr × Nat) (none, 0) (fun x => .slice x.1 nt x.2) (fun x W => Bs W x.1 nt x.2 t.1 ∧ ∀ y, x.1 = some y → y.block ≠ U ∧ y.block < W.heap.size), .reck, .reck, .reck, .reck, .reck, .reck, .reck,
    .any (Nat × Option Addr × Nat) (0, none, 0) (fun x => .slice (some ⟨x.1, 0, none⟩) 1 1) (fun x W => W.heap[x.1]? = some (.cells #[.slice x.2.1 nt x.2.2, .int .i64 f] 134) ∧ Bs W x.2.1 nt x.2.2 t.1 ∧ ∀ y, x.2.1 = some y → y.block ≠ U ∧ y.block < W.heap.size)] Gr (by kernel_rfl) (by kernel_rfl) Gr.refl (fun _ _ _ => Gr.trans) ?_
  (refine wpRG_reck rfl (fun K hK => ?_); go_big_quiet_op; refine hK _ ?_; clear hK K)
  (refine wpRG_reck rfl (fun K hK => ?_); go_big_quiet_op; refine hK _ ?_; clear hK K)
  (refine wpRG_reck rfl (fun K hK => ?_); go_big_quiet_op; refine hK _ ?_; clear hK K)
  (refine wpRG_reck rfl (fun K hK => ?_); go_big_quiet_op; refine hK _ ?_; clear hK K)
  (refine wpRG_reck rfl (fun K hK => ?_); go_big_quiet_op; refine hK _ ?_; clear hK K)
  (refine wpRG_reck rfl (fun K hK => ?_); go_big_quiet_op; refine hK _ ?_; clear hK K)
  (refine wpRG_reck rfl (fun K hK => ?_); go_big_quiet_op; refine hK _ ?_; clear hK K)
  refine wpRG_any rfl (fun x w w' hg h => ⟨h.1.below hg, fun y hy => ⟨(h.2 y hy).1, Nat.lt_of_lt_of_le (h.2 y hy).2 hg.size⟩⟩) (fun W hw hF R hR => ?_) ?_
  · (have HF := Lib.hid hF; clear hF; unfold rgAt; go_simp)
    show Calls _ _ _ _ _
    have hb := HAL.out.trans ((Gr.refl W0).drew.trans hw)
    have hsz := hb.size
    refine (HCL.out W (HBT.out.below hb)).mono ?_
    rintro e w6 ⟨v, rfl, ho6, hg6⟩
    obtain ⟨a6, c6, rfl, hb6, hf6⟩ := ho6.bs
    have hlt6 := ho6.lt
    rw [HBT.out.1] at hb6 hlt6 ⊢
    exact ⟨_, rfl, hR (a6, c6) _ hg6 ⟨hb6, fun y hy => ⟨fun e => by have := hf6 y hy; omega, by subst hy; exact (hlt6 y.block rfl).2⟩⟩⟩
  rintro ⟨a6, c6⟩
  (simp only [Act.put, List.setIfInBounds_toArray, List.set_cons_zero, List.set_cons_succ])
  (refine wpRG_reck rfl (fun K hK => ?_); go_big_quiet_op; refine hK _ ?_; clear hK K)
  (refine wpRG_reck rfl (fun K hK => ?_); go_big_quiet_op; refine hK _ ?_; clear hK K)
  (refine wpRG_reck rfl (fun K hK => ?_); go_big_quiet_op; refine hK _ ?_; clear hK K)
  (refine wpRG_reck rfl (fun K hK => ?_); go_big_quiet_op; refine hK _ ?_; clear hK K)
  (refine wpRG_reck rfl (fun K hK => ?_); go_big_quiet_op; refine hK _ ?_; clear hK K)
  (refine wpRG_reck rfl (fun K hK => ?_); go_big_quiet_op; refine hK _ ?_; clear hK K)
  (refine wpRG_reck rfl (fun K hK => ?_); go_big_quiet_op; refine hK _ ?_; clear hK K)
  refine wpRG_any rfl (fun x w w' hg h => ⟨hg.heap h.1, h.2.1.below hg, fun y hy => ⟨(h.2.2 y hy).1, Nat.lt_of_lt_of_le (h.2.2 y hy).2 hg.size⟩⟩) (fun W hw hF R hR => ?_) ?_
  · have h7 : Bs W a6 nt c6 t.1 ∧ ∀ y, a6 = some y → y.block ≠ U ∧ y.block < W.heap.size := hF 7 (by kernel_rfl)
    (have HF := Lib.hid hF; clear hF; unfold rgAt; go_simp)
    have hga := (Gr.refl W).alloc (.cells #[.slice a6 nt c6, .int .i64 f] 134)
    exact hR (W.heap.size, a6, c6) _ hga ⟨heap_alloc_new _ _, h7.1.below hga, fun y hy => ⟨(h7.2 y hy).1, Nat.lt_of_lt_of_le (h7.2 y hy).2 hga.size⟩⟩
  rintro ⟨b7, a7, c7⟩
  (simp only [Act.put, List.setIfInBounds_toArray, List.set_cons_zero, List.set_cons_succ])
  refine wpRG_end fun W hw hF => ?_
  have h15 : W.heap[b7]? = some (.cells #[.slice a7 nt c7, .int .i64 f] 134) ∧ Bs W a7 nt c7 t.1 ∧ ∀ y, a7 = some y → y.block ≠ U ∧ y.block < W.heap.size := hF 15
  have hgW := HAL.out.trans ((Gr.refl W0).drew.trans hw)
  obtain ⟨z0, z1, zf⟩ := two_cells h15.1
  obtain ⟨u', U', w9, hr, hp9, hg9⟩ := run_append_pcl 131 base U (HPA.out.gr hgW) (b := b7) (t := (t.1, .slice a7 nt c7, .int .i64 f)) z0 z1 ⟨a7, nt, c7, f, rfl, rfl, h15.2.1, h15.2.2⟩ hts
  rw [HN.out] at hr
  have HF : Hid (Parcs w9 base u' U' (ts ++ [(t.1, .slice a7 nt c7, .int .i64 f)]) ∧ GrB w U w9) := ⟨hp9, (GrB.of_gr hgW).trans hg9⟩
  refine wpTl_cons rfl (fun KK hKK => ?_)
  refine rgAt_append (.tmp 9) (.tmp 24) 131 rfl rfl rfl hr (hKK _ _ ?_)
  clear hr hp9 hg9 hgW h15 z0 z1 zf hF hw u1 u2 u3 hup hKK
  (simp only [Act.put, List.setIfInBounds_toArray, List.set_cons_zero, List.set_cons_succ])
  refine wpTl_cons rfl (fun KK hKK => ?_)
  unfold rgAt
  go_simp
  refine hKK _ _ ?_
  clear hKK
  (simp only [Act.put, List.setIfInBounds_toArray, List.set_cons_zero, List.set_cons_succ])
  refine wpTl_nil ?_
  go_wp2
  first | go_ret | go_ret2
  exact ⟨u', U', (t.1, .slice a7 nt c7, .int .i64 f), rfl, rfl, HF.out.1, HF.out.2⟩
end Go.Proofs.YtddopoojmadpjaaGreatDoor

namespace Go.Proofs.YtddopoojmadpjaaGreatDoor
open Go.RowKit
set_option linter.unusedVariables false

/-- acts that move, or double. -/
def ActsV (w : World) (a : Option Addr) (n c : Nat) (acs : List (Nat × Nat × Nat)) : Prop :=
  acs.length = n ∧ n ≤ c ∧ c ≤ maxLen ∧ (a = none → n = 0) ∧ ∀ x, a = some x → ∀ (i d I J : Nat), acs[i]? = some (d, I, J) → w.cell? (x.add (i * 5)) = some (.int .i64 (d : Int)) ∧ w.cell? ((x.add (i * 5)).add 1) = some (.int .i64 (I : Int)) ∧ w.cell? ((x.add (i * 5)).add 2) = some (.int .i64 (J : Int)) ∧ w.cell? ((x.add (i * 5)).add 3) = some (.int .u32 0) ∧ w.cell? ((x.add (i * 5)).add 4) = some (.slice none 0 0) ∧ (d = 1 ∨ d = 2) ∧ I ≤ 100 ∧ J ≤ 100
theorem ActsV.below {w w' : World} {a : Option Addr} {n c : Nat} {acs : List (Nat × Nat × Nat)} (h : ActsV w a n c acs) (g : Gr w w') : ActsV w' a n c acs :=
  ⟨h.1, h.2.1, h.2.2.1, h.2.2.2.1, fun x hx i d I J hs => by obtain ⟨h1, h2, h3, h4, h5, h6⟩ := h.2.2.2.2 x hx i d I J hs; exact ⟨g.cell h1, g.cell h2, g.cell h3, g.cell h4, g.cell h5, h6⟩⟩
theorem ActsV.at_ {w : World} {a : Option Addr} {n c : Nat} {acs : List (Nat × Nat × Nat)} (h : ActsV w a n c acs) (hl : 0 < n) : ∃ b off, a = some ⟨b, off, none⟩ ∧ b < w.heap.size := by
  obtain ⟨h1, _, _, h3, h4⟩ := h
  cases a with
  | none => have := h3 rfl; omega
  | some x =>
    obtain ⟨h0, _⟩ := h4 x rfl 0 (acs[0]'(by omega)).1 (acs[0]'(by omega)).2.1 (acs[0]'(by omega)).2.2 (List.getElem?_eq_getElem _)
    rw [show 0 * 5 = 0 from rfl, Addr.add_zero'] at h0
    have hs := World.cell?_spot h0
    obtain ⟨b, off, spot⟩ := x
    simp at hs; subst hs
    exact ⟨b, off, rfl, World.block_lt_of_cell? w _ h0⟩
theorem ActsV.get {w : World} {b off n c : Nat} {acs : List (Nat × Nat × Nat)} (h : ActsV w (some ⟨b, off, none⟩) n c acs) {i : Nat} (hi : i < n) :
    ∃ d I J : Nat, w.cell? ⟨b, off + i * 5, none⟩ = some (.int .i64 (d : Int)) ∧ w.cell? ⟨b, off + i * 5 + 1, none⟩ = some (.int .i64 (I : Int)) ∧ w.cell? ⟨b, off + i * 5 + 2, none⟩ = some (.int .i64 (J : Int)) ∧ w.cell? ⟨b, off + i * 5 + 3, none⟩ = some (.int .u32 0) ∧ w.cell? ⟨b, off + i * 5 + 4, none⟩ = some (.slice none 0 0) ∧ (d = 1 ∨ d = 2) ∧ I ≤ 100 ∧ J ≤ 100 := by
  obtain ⟨h0, h1, h2, h3, h4, r⟩ := h.2.2.2.2 _ rfl i (acs[i]'(by have := h.1; omega)).1 (acs[i]'(by have := h.1; omega)).2.1 (acs[i]'(by have := h.1; omega)).2.2 (List.getElem?_eq_getElem _)
  rw [Addr.add_lit] at h0 h1 h2 h3 h4
  rw [Addr.add_lit] at h1 h2 h3 h4
  exact ⟨_, _, _, h0, h1, h2, h3, h4, r⟩

/-- the first parcels, stored. -/
def PclTo (w : World) (U n j : Nat) (ts : List Pcl) : Prop :=
  ∃ cur : Array Value, w.heap[U]? = some (.cells cur 134 (0, 0)) ∧ cur.size = n * 2 ∧ cur.toList.take (2 * j) = flatT ts ∧ ts.length = j ∧ ∀ t, t ∈ ts → PGood w U t
theorem PclTo.made {w : World} {base U n : Nat} {xs : List Value} (h : w.ownsRow base 134 2 (.slice (some ⟨U, 0, none⟩) n n) n xs) : PclTo w U n 0 [] := by
  rcases h.2 with ⟨h', _⟩ | ⟨g, cap, cur, h', _, hh, _, _, hs, _⟩
  · cases h'
  · cases h'
    exact ⟨cur, hh, hs, by simp [flatT], rfl, fun t h => by cases h⟩
theorem PclTo.gr {w w' : World} {U n j : Nat} {ts : List Pcl} (h : PclTo w U n j ts) (hg : Gr w w') : PclTo w' U n j ts := by
  obtain ⟨cur, h1, h2, h3, h4, h5⟩ := h
  exact ⟨cur, hg.heap h1, h2, h3, h4, fun t ht => (h5 t ht).gr hg⟩
theorem PclTo.at_ {w : World} {U n j i : Nat} {ts : List Pcl} (h : PclTo w U n j ts) (hi : i < n * 2) : (∃ v, w.cell? ⟨U, i, none⟩ = some v) ∧ (∀ i, w.frozen? ⟨U, i, none⟩ = false) ∧ U < w.heap.size := by
  obtain ⟨cur, h1, h2, _⟩ := h
  exact ⟨⟨cur[i]'(by omega), by simp [World.cell?, h1, h2, hi]⟩, fun i => by simp [World.frozen?, h1], lt_of_block h1⟩
theorem set_two {α : Type} (l : List α) (a b : α) (m : Nat) (hm : m + 2 ≤ l.length) : ((l.set m a).set (m + 1) b).take (m + 2) = l.take m ++ [a, b] := by
  apply List.ext_getElem?
  intro k
  rw [List.getElem?_take]
  by_cases h1 : k < m
  · rw [if_pos (by omega), List.getElem?_set_ne (by omega), List.getElem?_set_ne (by omega), List.getElem?_append_left (by rw [List.length_take]; omega), List.getElem?_take, if_pos h1]
  · by_cases h2 : k = m
    · subst h2
      rw [if_pos (by omega), List.getElem?_set_ne (by omega), List.getElem?_set_self (by omega), List.getElem?_append_right (by rw [List.length_take]; omega), List.length_take, Nat.min_eq_left (by omega), Nat.sub_self]
      rfl
    · by_cases h3 : k = m + 1
      · subst h3
        rw [if_pos (by omega), List.getElem?_set_self (by rw [List.length_set]; omega), List.getElem?_append_right (by rw [List.length_take]; omega), List.length_take, Nat.min_eq_left (by omega), Nat.add_sub_cancel_left]
        rfl
      · rw [if_neg (by omega), List.getElem?_eq_none (by simp; omega)]
theorem PclTo.step {w : World} {U n j : Nat} {ts : List Pcl} (h : PclTo w U n j ts) (hj : j < n) (t : Pcl) (ht : PGood w U t) :
    PclTo ((w.setCell ⟨U, j * 2, none⟩ t.2.1).setCell ⟨U, j * 2 + 1, none⟩ t.2.2) U n (j + 1) (ts ++ [t]) ∧ GrB w U ((w.setCell ⟨U, j * 2, none⟩ t.2.1).setCell ⟨U, j * 2 + 1, none⟩ t.2.2) := by
  obtain ⟨cur, h1, h2, h3, h4, h5⟩ := h
  have hgr : GrB w U ((w.setCell ⟨U, j * 2, none⟩ t.2.1).setCell ⟨U, j * 2 + 1, none⟩ t.2.2) := ((GrB.refl w U).set (.inl rfl) _).set (.inl rfl) _
  refine ⟨⟨(cur.setIfInBounds (j * 2) t.2.1).setIfInBounds (j * 2 + 1) t.2.2, ?_, by simpa using h2, ?_, by simp [h4], fun t' ht' => ?_⟩, hgr⟩
  · rw [setCell_eq_setRow w U (j * 2) cur _ _ _ h1, setCell_eq_setRow _ U (j * 2 + 1) _ _ _ _ (setRow_heap w U cur _ _ _ h1), setRow_setRow]
    exact setRow_heap w U cur _ _ _ h1
  · rw [Array.toList_setIfInBounds, Array.toList_setIfInBounds, show 2 * (j + 1) = j * 2 + 2 by omega, set_two _ _ _ _ (by rw [Array.length_toList]; omega), Nat.mul_comm j 2, h3, flatT_append]
    rfl
  · rcases List.mem_append.1 ht' with ht' | ht'
    · exact (h5 t' ht').grb hgr (.inl rfl)
    · rw [List.mem_singleton.1 ht']; exact ht.grb hgr (.inl rfl)
theorem PclTo.all {w : World} {base U n : Nat} {ts : List Pcl} (h : PclTo w U n n ts) (hb : base ≤ U) (hm : n ≤ maxLen) : Parcs w base (.slice (some ⟨U, 0, none⟩) n n) U ts := by
  obtain ⟨cur, h1, h2, h3, h4, h5⟩ := h
  refine ⟨rfl, ?_, h5⟩
  rw [h4]
  exact ⟨by rw [flatT_length, h4]; omega, .inr ⟨U, n, cur, rfl, hb, h1, Nat.le_refl _, hm, h2, by rw [Nat.mul_comm]; exact h3⟩⟩

theorem Parcs.mono {w : World} {base base' U : Nat} {u : Value} {ts : List Pcl} (h : Parcs w base u U ts) (hb : base' ≤ base) : Parcs w base' u U ts := by
  obtain ⟨h1, h2, h3⟩ := h
  refine ⟨h1, ⟨h2.1, ?_⟩, h3⟩
  rcases h2.2 with hn | ⟨g, cap, cur, hv, hg, r⟩
  · exact .inl hn
  · exact .inr ⟨g, cap, cur, hv, Nat.le_trans hb hg, r⟩

set_option maxRecDepth 100000 in
set_option maxHeartbeats 2000000 in
theorem play_ok (a : Option Addr) (la cl : Nat) (LA : List (List UInt8)) (aa : Option Addr) (na ca : Nat) (acs : List (Nat × Nat × Nat)) (hla : la ≤ 1000) (hna : na ≤ 1000) (hl : ∀ l, l ∈ LA → l.length ≤ 1000000) (w : World) (hs : Bss w a la cl LA) (hA : ActsV w aa na ca acs) :
    Calls Tryz.prog 58 #[.slice a la cl, .slice aa na ca] w fun e w' => ∃ u U ts, e = .returned u ∧ Parcs w' w.heap.size u U ts ∧ ts.length ≤ la + na ∧ (∀ l, l ∈ LA ↔ ∃ t, t ∈ ts ∧ t.1 = l) ∧ Gr w w' := by
  obtain ⟨i0, hi0, hz0, hz1, hz2⟩ := info_parts infoParcel
  have HS := Lib.hid hs
  have HACT := Lib.hid hA
  have HLL := Lib.hid hl
  have HLA : Hid (LA.length = la) := hs.1
  clear hs hA hl
  go_enter Tryz.func58, Tryz.ntmps58
  have hZ := heap_alloc_new w (.cells #[.nilFunc, .nilFunc, .nilFunc, .nilFunc, .nilFunc, .nilFunc] 179)
  go_wp2_with (with_reducible refine wpList_hold (o := ⟨none, .store 179 _ _, _, _, _, _⟩) ?_)
  change wpList _ _ _ _ _ _
  refine wpList_store_row rfl 179 (.tmp 5) (.tmp 11) rfl w.heap.size #[.func (.func 99) #[] #[], .func (.func 100) #[] #[], .func (.func 101) #[] #[], .func (.func 102) #[] #[], .func (.func 103) #[] #[], .func (.func 104) #[] #[]] rfl rfl _ _ hZ (by kernel_rfl) rfl (by simp [Value.oneCell']) ?_
  obtain ⟨hs1, hs2⟩ := setRow_grb (cs := #[.func (.func 99) #[] #[], .func (.func 100) #[] #[], .func (.func 101) #[] #[], .func (.func 102) #[] #[], .func (.func 103) #[] #[], .func (.func 104) #[] #[]]) hZ
  have hal := ((Gr.refl w).alloc (.cells #[.nilFunc, .nilFunc, .nilFunc, .nilFunc, .nilFunc, .nilFunc] 179)).grb hs1 (Nat.le_refl _)
  obtain ⟨W0, eW⟩ : ∃ W, (w.alloc (.cells #[.nilFunc, .nilFunc, .nilFunc, .nilFunc, .nilFunc, .nilFunc] 179)).setRow w.heap.size #[.func (.func 99) #[] #[], .func (.func 100) #[] #[], .func (.func 101) #[] #[], .func (.func 102) #[] #[], .func (.func 103) #[] #[], .func (.func 104) #[] #[]] = W := ⟨_, rfl⟩
  rw [eW] at hs2 hal ⊢
  clear eW hs1 hZ
  have HDD := Lib.hid hs2
  have HAL := Lib.hid hal
  have HWL := Lib.hid (lt_of_block hs2)
  clear hs2
  go_wp2_with (with_reducible refine wpList_hold (o := ⟨some 14, _, _, _, _, _⟩) ?_)
  change wpList _ _ _ _ _ _
  refine wpList_make_full _ rfl (.tmp 13) (.tmp 13) 131 rfl W0.heap.size 134 i0 (.agg #[.slice none 0 0, .int .i64 0]) 2 Tryz.underlying131 hi0 hz0 hz1 .i64 .i64 (la : Int) (la : Int) la rfl rfl rfl rfl (by rw [hz2]; omega) (by unfold maxLen; omega) (Nat.le_refl _) ?_
  intro w2 hown hgrow
  have hR := PclTo.made hown
  have hG : Gr W0 w2 := (Gr.refl W0).grown hgrow (fun k hk => by cases hk)
  clear hown hgrow
  obtain ⟨U, eU⟩ : ∃ U, W0.heap.size = U := ⟨_, rfl⟩
  rw [eU] at hR ⊢
  have hUw : w.heap.size < U := by have h := HWL.out; omega
  have HR := Lib.hid hR
  have HG2 := Lib.hid hG
  clear hG hal hR
  go_wp2
  go_loopw [17] (fun i wr => ∃ (j : Nat) (ts : List Pcl), j ≤ la ∧ i = .int .i64 j ∧ PclTo wr U la j ts ∧ ts.map (·.1) = LA.take j ∧ Gr W0 wr) (fun i _ => la - (intOf i).toNat)
  case atStart => exact ⟨0, [], Nat.zero_le _, rfl, HR.out, rfl, HG2.out⟩
  case round =>
    obtain ⟨j, ts, hj, rfl, hto, htm, hgr⟩ := hrel
    have HTO := Lib.hid hto
    have HTM := Lib.hid htm
    have HGR := Lib.hid hgr
    clear hto htm hgr HR HG2
    by_cases hlt : j < la
    · obtain ⟨b, off, rfl, _⟩ := HS.out.at_ (by omega)
      obtain ⟨l, a', n', c', hlj, hc, hb⟩ := (HS.out.below (HAL.out.trans HGR.out)).get hlt
      have hlm : n' ≤ 1000000 := by rw [← hb.1]; exact HLL.out l (List.mem_of_getElem? hlj)
      have HCL := Lib.hid fun W h => byteClone_own a' n' c' l W h (by omega)
      have HB := Lib.hid hb
      have HLJ := Lib.hid hlj
      clear hb hlj
      go_wp2_with fail
      refine (HCL.out wr HB.out).mono ?_
      rintro e w4 ⟨v, rfl, hown, hg⟩
      obtain ⟨a6, c6, rfl, hb6, hf6⟩ := hown.bs
      have hlt6 := hown.lt
      rw [HB.out.1] at hb6 hlt6 ⊢
      have hto4 := HTO.out.gr hg
      obtain ⟨⟨v0, hv0⟩, hfz, hUl⟩ := hto4.at_ (i := j * 2) (by omega)
      obtain ⟨⟨v1, hv1⟩, _, _⟩ := hto4.at_ (i := j * 2 + 1) (by omega)
      have hUr : U < wr.heap.size := (HTO.out.at_ (i := j * 2) (by omega)).2.2
      obtain ⟨hst, hgb⟩ := hto4.step hlt (l, .slice a6 n' c6, .int .i64 (j : Int)) ⟨a6, n', c6, (j : Int), rfl, rfl, hb6, fun y hy => ⟨by have := hf6 y hy; omega, by subst hy; exact (hlt6 y.block rfl).2⟩⟩
      have HST := Lib.hid hst
      have HGS := Lib.hid ((HGR.out.trans hg).grb hgb (by omega))
      have hmap : (ts ++ [((l, .slice a6 n' c6, .int .i64 (j : Int)) : Pcl)]).map (·.1) = LA.take (j + 1) := by rw [List.map_append, HTM.out, List.take_add_one, HLJ.out]; rfl
      have HMAP := Lib.hid hmap
      clear hown hg hb6 hf6 hlt6 hto4 hst hgb hmap hc
      go_wp2
      go_roundw
      case rel => exact ⟨j + 1, _, by omega, by go_num, HST.out, HMAP.out, HGS.out⟩
      case measure => first | (simp [intOf]; done) | (simp [intOf]; omega)
    · have hjl : j = la := by omega
      have hge : (la : Int) ≤ (j : Int) := by omega
      subst hjl
      have hpc := HTO.out.all (base := W0.heap.size) (by omega) (by unfold maxLen; omega)
      have htl : ts.length = j := by obtain ⟨_, _, _, _, h, _⟩ := HTO.out; exact h
      have hmem : ∀ l, l ∈ LA ↔ ∃ t, t ∈ ts ∧ t.1 = l := fun l => by
        have := HTM.out
        rw [List.take_of_length_le (by rw [HLA.out]; exact Nat.le_refl _)] at this
        rw [← this, List.mem_map]
      have HPC := Lib.hid hpc
      have HMEM := Lib.hid hmem
      have HGR1 := Lib.hid HGR.out
      clear hpc hmem HTO HTM
      go_wp2
      go_loopw [6, 32] (fun un i wq => ∃ (m U' : Nat) (u : Value) (ts : List Pcl), m ≤ na ∧ i = .int .i64 m ∧ u = un ∧ Parcs wq W0.heap.size u U' ts ∧ W0.heap.size ≤ U' ∧ ts.length ≤ j + m ∧ (∀ l, l ∈ LA ↔ ∃ t, t ∈ ts ∧ t.1 = l) ∧ Gr W0 wq) (fun _ i _ => na - (intOf i).toNat)
      case atStart => exact ⟨0, U, _, ts, Nat.zero_le _, rfl, rfl, HPC.out, by omega, by omega, HMEM.out, HGR1.out⟩
      case round =>
        clear HPC HMEM HGR1 htl HGR
        obtain ⟨m, U', u, ts, hm, rfl, rfl, hpc, hU', htl, hmem, hgr⟩ := hrel
        have HPC := Lib.hid hpc
        have HMEM := Lib.hid hmem
        have HGR := Lib.hid hgr
        obtain ⟨pcap, pcur, hu, _, _, hpn, hpm, _, _⟩ := hpc.val
        have hUr := (World.ownsRow.lt hpc.2.1 U' hpc.1).2
        clear hpc hmem hgr
        by_cases hltm : m < na
        · obtain ⟨b, off, rfl, _⟩ := HACT.out.at_ (by omega)
          obtain ⟨d, I, J, q0, q1, q2, q3, q4, hd, hI, hJ⟩ := (HACT.out.below (HAL.out.trans HGR.out)).get hltm
          have hal := (Gr.refl wr).alloc (.cells #[.int .i64 (d : Int), .int .i64 (I : Int), .int .i64 (J : Int), .int .u32 0, .slice none 0 0] 73)
          have hAB := heap_alloc_new wr (.cells #[.int .i64 (d : Int), .int .i64 (I : Int), .int .i64 (J : Int), .int .u32 0, .slice none 0 0] 73)
          obtain ⟨x0, x1, x2, x3, x4, xf⟩ := five_cells hAB
          have hd6 : (d : Int) < 6 := by rcases hd with h | h <;> omega
          have hd5 : ((d : Int) != 5) = true := by rw [bne_iff_ne]; rcases hd with h | h <;> omega
          have HD := Lib.hid hd
          have hpm9 : (pcap : Int) ≤ 9223372036854775807 := by unfold maxLen at hpm; omega
          clear hd
          by_cases hIt : I < ts.length
          · obtain ⟨t, ht⟩ : ∃ t, ts[I]? = some t := ⟨_, List.getElem?_eq_getElem hIt⟩
            have htl1 : t.1.length ≤ 1000000 := HLL.out _ ((HMEM.out t.1).2 ⟨t, List.mem_of_getElem? ht, rfl⟩)
            have hMV := Lib.hid fun W h => moveP_ok d I J 0 none 0 0 W0.heap.size U' u ts t ht (by omega) (by omega) W h
            have hDB := Lib.hid fun W h => doubleP_ok d I J 0 none 0 0 W0.heap.size U' u ts t ht htl1 (by omega) W h
            have HT := Lib.hid ht
            clear ht
            subst hu
            obtain ⟨TN, eTN⟩ : ∃ x, ts.length = x := ⟨_, rfl⟩
            rw [eTN] at hMV hDB hIt htl HPC ⊢
            have hIi : (I : Int) < (TN : Int) := by omega
            have hIj : ¬ (TN : Int) ≤ (I : Int) := by omega
            go_wp2
            obtain ⟨W1, eW⟩ : ∃ W, wr.alloc (.cells #[.int .i64 (d : Int), .int .i64 (I : Int), .int .i64 (J : Int), .int .u32 0, .slice none 0 0] 73) = W := ⟨_, rfl⟩
            rw [eW] at hal x0 x1 x2 x3 x4 ⊢
            have hDW : W1.heap[w.heap.size]? = _ := (HGR.out.trans hal).heap HDD.out
            have HG1 := Lib.hid (HGR.out.trans hal)
            have HPC1 := Lib.hid (HPC.out.gr hal.drew)
            rcases HD.out with rfl | rfl
            · have hDc : W1.cell? ⟨w.heap.size, 1, none⟩ = some (.func (.func 100) #[] #[]) := by simp [World.cell?, hDW]
              clear eW hal hAB xf hDW q0 q1 q2 q3 q4
              go_still_tail 6, (by kernel_rfl)
              change wpList _ _ _ _ _ W1.drew
              go_wp2_with fail
              refine (hDB.out W1.drew HPC1.out).mono ?_
              rintro e w6 ⟨u', U2, t', rfl, ht1, hp6, hg6⟩
              have hU2 : W0.heap.size ≤ U2 := by obtain ⟨_, _, _, h, _⟩ := hp6.val; exact h
              have HP6 := Lib.hid hp6
              have HG6 := Lib.hid (HG1.out.drew.grb hg6 hU')
              have hmem6 : ∀ l, l ∈ LA ↔ ∃ t, t ∈ ts ++ [t'] ∧ t.1 = l := fun l => by
                rw [HMEM.out l]
                constructor
                · rintro ⟨t0, h0, rfl⟩; exact ⟨t0, List.mem_append.2 (.inl h0), rfl⟩
                · rintro ⟨t0, h0, rfl⟩
                  rcases List.mem_append.1 h0 with h0 | h0
                  · exact ⟨t0, h0, rfl⟩
                  · rw [List.mem_singleton.1 h0, ht1]; exact ⟨t, List.mem_of_getElem? HT.out, rfl⟩
              have HM6 := Lib.hid hmem6
              clear hp6 hg6 hmem6
              go_wp2
              go_roundw
              case rel => exact ⟨m + 1, U2, u', _, by omega, by go_num, rfl, HP6.out, hU2, by rw [List.length_append, List.length_singleton]; omega, HM6.out, HG6.out⟩
              case measure => first | (simp [intOf]; done) | (simp [intOf]; omega)
            · have hDc : W1.cell? ⟨w.heap.size, 2, none⟩ = some (.func (.func 101) #[] #[]) := by simp [World.cell?, hDW]
              clear eW hal hAB xf hDW q0 q1 q2 q3 q4
              go_still_tail 6, (by kernel_rfl)
              change wpList _ _ _ _ _ W1.drew
              go_wp2_with fail
              refine (hMV.out W1.drew HPC1.out).mono ?_
              rintro e w6 ⟨u', U2, rfl, hp6, hg6⟩
              have hU2 : W0.heap.size ≤ U2 := by obtain ⟨_, _, _, h, _⟩ := hp6.val; exact h
              have HP6 := Lib.hid hp6
              have HG6 := Lib.hid (HG1.out.drew.grb hg6 hU')
              have hmem6 : ∀ l, l ∈ LA ↔ ∃ t', t' ∈ moveT ts I J t ∧ t'.1 = l := fun l => by
                rw [HMEM.out l]
                exact exists_congr fun t0 => and_congr_left' (mem_moveT HT.out t0).symm
              have HM6 := Lib.hid hmem6
              have hml := moveT_length (j := J) HT.out
              clear hp6 hg6 hmem6
              go_wp2
              go_roundw
              case rel => exact ⟨m + 1, U2, u', _, by omega, by go_num, rfl, HP6.out, hU2, by rw [hml]; omega, HM6.out, HG6.out⟩
              case measure => first | (simp [intOf]; done) | (simp [intOf]; omega)
          · subst hu
            obtain ⟨TN, eTN⟩ : ∃ x, ts.length = x := ⟨_, rfl⟩
            rw [eTN] at hIt HPC ⊢
            have hIi : ¬ (I : Int) < (TN : Int) := by omega
            have hIj : (TN : Int) ≤ (I : Int) := by omega
            have HPC1 := Lib.hid (HPC.out.gr hal)
            have HG6 := Lib.hid (HGR.out.trans hal)
            go_wp2
            go_roundw
            case rel => exact ⟨m + 1, U', _, ts, by omega, by go_num, rfl, HPC1.out, hU', by omega, HMEM.out, HG6.out⟩
            case measure => first | (simp [intOf]; done) | (simp [intOf]; omega)
        · have hge : (na : Int) ≤ (m : Int) := by omega
          have HGF := Lib.hid (HAL.out.trans HGR.out)
          go_wp2
          first | go_ret | go_ret2
          exact ⟨u, U', ts, rfl, HPC.out.mono (Nat.le_of_lt HWL.out), by omega, HMEM.out, HGF.out⟩
end Go.Proofs.YtddopoojmadpjaaGreatDoor

namespace Go.Proofs.YtddopoojmadpjaaGreatDoor
open Go.RowKit
set_option linter.unusedVariables false

set_option maxRecDepth 100000 in
set_option maxHeartbeats 2000000 in
theorem applyAll_ok (a : Option Addr) (la cl : Nat) (LA : List (List UInt8)) (aa : Option Addr) (na ca : Nat) (acs : List (Nat × Nat × Nat)) (hla : la ≤ 1000) (hna : na ≤ 1000) (hl : ∀ l, l ∈ LA → l.length ≤ 1000000) (w : World) (hs : Bss w a la cl LA) (hA : ActsV w aa na ca acs) :
    Calls Tryz.prog 26 #[.slice a la cl, .slice aa na ca] w fun e w' => ∃ (a' : Option Addr) (n' c' : Nat) (LB : List (List UInt8)), e = .returned (.slice a' n' c') ∧ Bss w' a' n' c' LB ∧ n' ≤ la + na ∧ (∀ l, l ∈ LA ↔ l ∈ LB) ∧ (∀ y, a' = some y → w.heap.size ≤ y.block) ∧ Gr w w' := by
  have HP := Lib.hid (play_ok a la cl LA aa na ca acs hla hna hl w hs hA)
  clear hs hA hl
  go_enter Tryz.func26, Tryz.ntmps26
  go_wp2_with fail
  refine HP.out.mono ?_
  rintro e w1 ⟨u, U, ts, rfl, hpc, htn, hmem, hg⟩
  obtain ⟨pcap, pcur, hu, _, _, hpn, hpm, _, _⟩ := hpc.val
  have HPC := Lib.hid hpc
  have HMEM := Lib.hid hmem
  have HG := Lib.hid hg
  subst hu
  obtain ⟨TN, eTN⟩ : ∃ x, ts.length = x := ⟨_, rfl⟩
  rw [eTN] at HPC htn hpn ⊢
  have HTN := Lib.hid eTN
  clear hpc hmem hg HP eTN
  go_wp2
  go_loopw [5, 12] (fun o i wr => ∃ (j : Nat) (v : Value), j ≤ TN ∧ i = .int .i64 j ∧ v = o ∧ RowsB w1 wr v ((ts.take j).map (·.1)) ∧ Gr w1 wr) (fun _ i _ => TN - (intOf i).toNat)
  case atStart => exact ⟨0, _, Nat.zero_le _, rfl, rfl, RowsB.nil _ _, Gr.refl _⟩
  case round =>
    obtain ⟨j, v, hj, rfl, rfl, hrow, hgr⟩ := hrel
    have HROW := Lib.hid hrow
    have HGR := Lib.hid hgr
    clear hrow hgr
    by_cases hlt : j < TN
    · obtain ⟨t, ht⟩ : ∃ t, ts[j]? = some t := ⟨_, List.getElem?_eq_getElem (by rw [HTN.out]; exact hlt)⟩
      obtain ⟨a', n', c', f, e1, e2, hbt, hby⟩ := HPC.out.2.2 t (List.mem_of_getElem? ht)
      obtain ⟨cap, cur, hv, _, hgU, hcn, hcm, hcs, hct⟩ := HPC.out.val
      obtain ⟨g1, g2⟩ := flatT_get ht
      have hc0 : w1.cell? ⟨U, j * 2, none⟩ = some (.slice a' n' c') := by
        rw [← hct, List.getElem?_take] at g1
        split at g1
        · simp only [World.cell?, hgU]; rw [Nat.mul_comm]; rw [← e1]; simpa using g1
        · cases g1
      have hc1 : w1.cell? ⟨U, j * 2 + 1, none⟩ = some (.int .i64 f) := by
        rw [← hct, List.getElem?_take] at g2
        split at g2
        · simp only [World.cell?, hgU]; rw [Nat.mul_comm]; rw [← e2]; simpa using g2
        · cases g2
      replace hc0 := HGR.out.cell hc0
      replace hc1 := HGR.out.cell hc1
      have hal := (Gr.refl wr).alloc (.cells #[.slice a' n' c', .int .i64 f] 134)
      obtain ⟨z0, z1, zf⟩ := two_cells (heap_alloc_new wr (.cells #[.slice a' n' c', .int .i64 f] 134))
      have htk : (ts.take (j + 1)).map (·.1) = (ts.take j).map (·.1) ++ [t.1] := by rw [List.take_add_one, ht]; simp
      have HTK := Lib.hid htk
      have HBT := Lib.hid hbt
      have HBY := Lib.hid hby
      have hlr : ((ts.take j).map (·.1)).length = j := by rw [List.length_map, List.length_take, HTN.out]; omega
      clear g1 g2 hct hgU hv hbt hby htk ht
      have hrow0 := HROW.out.gr hal
      have hgr0 := HGR.out.trans hal
      have hal2 := (Gr.refl (wr.alloc (.cells #[.slice a' n' c', .int .i64 f] 134))).alloc (.cells #[.slice a' n' c'] 22)
      have hcl2 := one_cell (heap_alloc_new (wr.alloc (.cells #[.slice a' n' c', .int .i64 f] 134)) (.cells #[.slice a' n' c'] 22))
      rw [World.size_alloc] at hcl2
      go_wp2_with (with_reducible refine wpList_hold (o := ⟨some 20, _, _, _, _, _⟩) ?_)
      change wpList _ _ _ _ _ _
      obtain ⟨W4, eW⟩ : ∃ W, (wr.alloc (.cells #[.slice a' n' c', .int .i64 f] 134)).alloc (.cells #[.slice a' n' c'] 22) = W := ⟨_, rfl⟩
      rw [eW] at hal2 hcl2 ⊢
      clear eW z0 z1 zf hc0 hc1
      have hgr4 := hgr0.trans hal2
      refine wpList_append_rowsB rfl (.tmp 16) (.tmp 19) rfl rfl (hrow0.gr hal2) rfl hcl2 HBT.out (fun y hy => (HBY.out y hy).2) (by rw [hlr]; omega) hgr4.size ?_
      intro v4 w4 hr4 hg4 hn4
      rw [← HTK.out] at hr4
      have HR4 := Lib.hid hr4
      have HG4 := Lib.hid (hgr4.grown hg4 fun k hk => (HROW.out.lt k hk).1)
      clear hr4 hg4 hn4 hrow0 hgr0 hal hal2 hcl2 hgr4
      go_wp2
      go_roundw
      case rel => exact ⟨j + 1, v4, by omega, by go_num, rfl, HR4.out, HG4.out⟩
      case measure => first | (simp [intOf]; done) | (simp [intOf]; omega)
    · have hjl : j = TN := by omega
      have hge : (TN : Int) ≤ (j : Int) := by omega
      have hrl := HROW.out.lt
      obtain ⟨a', c', rfl, hb⟩ := HROW.out.bss HGR.out
      have hay : ∀ y, a' = some y → w.heap.size ≤ y.block := fun y hy => by
        subst hy
        exact Nat.le_trans HG.out.size (hrl y.block rfl).1
      have HAY := Lib.hid hay
      have hlr : ((ts.take j).map (·.1)).length = TN := by rw [List.length_map, List.length_take, HTN.out]; omega
      rw [hlr] at hb ⊢
      have hfull : (ts.take j).map (·.1) = ts.map (·.1) := by rw [List.take_of_length_le (by rw [HTN.out]; omega)]
      rw [hfull] at hb
      have HB := Lib.hid hb
      have HGF := Lib.hid (HG.out.trans HGR.out)
      have hmm : ∀ l, l ∈ LA ↔ l ∈ ts.map (·.1) := fun l => by rw [HMEM.out l, List.mem_map]
      have HMM := Lib.hid hmm
      clear hb hmm hfull hlr hay hrl
      go_wp2
      first | go_ret | go_ret2
      exact ⟨a', TN, c', ts.map (·.1), rfl, HB.out, htn, HMM.out, HAY.out, HGF.out⟩
end Go.Proofs.YtddopoojmadpjaaGreatDoor
