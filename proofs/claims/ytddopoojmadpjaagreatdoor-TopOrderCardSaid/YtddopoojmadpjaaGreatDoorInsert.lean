/-
  slices.Insert of one row into rows of one's own: on each road.
-/
import Derived.Test.YtddopoojmadpjaaGreatDoorElimSearch
import Derived.Shelf.Spec.SlicesInsertGrow
namespace Go.Proofs.YtddopoojmadpjaaGreatDoor
open Go.RowKit
set_option linter.unusedVariables false

/-- copy at an element of any size, into a row whose block is known. -/
theorem run_copy_rowN {P : Program} (w : World) (dT sT ty elem : TypeId) (size g o dLen dCap : Nat) (a : Addr) (sLen sCap m : Nat) (cur : Array Value) (t : TypeId) (cs : List Value)
    (hu : P.underlying dT = some (.slice elem)) (hs : (P.info? elem).map (·.size) = some size) (hg : w.heap[g]? = some (.cells cur t (0, 0))) (hm : Nat.min sLen dLen = m) (hn : cs.length = m * size)
    (hsrc : ∀ j v, cs[j]? = some v → w.cell? (a.add j) = some v) (hfit : o + cs.length ≤ cur.size) (h1 : ∀ v ∈ cs, v.oneCell' = true) :
    (Builtin.copy_ #[dT, sT] ty #[.slice (some ⟨g, o, none⟩) dLen dCap, .slice (some a) sLen sCap]).run P w =
      .ok (goInt m) (w.setRow g (cur.toList.take o ++ cs ++ cur.toList.drop (o + cs.length)).toArray) := by
  have hl := run_loadCells_list (P := P) w a cs hsrc
  have hst := run_storeCells_at P g o t cs 0 cur w hg (by simpa using hfit) h1
  cases hq : P.info? elem with
  | none => simp [hq] at hs
  | some i =>
    have hi : i.size = size := by simpa [hq] using hs
    simp [Builtin.copy_, run_underlying hu, Builtin.lenOf, Builtin.firstCells, sizeOf, typeInfo, hq, hi, ← hn, hm, hl, hst]

/-- What the two copies of a shift leave. -/
theorem shift_list {α : Type} (cur xs : List α) (x0 x1 : α) (n i : Nat) (hi : i ≤ n) (hx : xs.length = 2 * n) (hcur : 2 * n + 2 ≤ cur.length) (ht : cur.take (2 * n) = xs) :
    let c1 := cur.take (2 * i + 2) ++ xs.drop (2 * i) ++ cur.drop (2 * i + 2 + (xs.drop (2 * i)).length)
    let c2 := c1.take (2 * i) ++ [x0, x1] ++ c1.drop (2 * i + 2)
    c2.length = cur.length ∧ c2.take (2 * n + 2) = xs.take (2 * i) ++ [x0, x1] ++ xs.drop (2 * i) := by
  intro c1 c2
  have l1 : c1.length = cur.length := by
    show (cur.take (2 * i + 2) ++ xs.drop (2 * i) ++ cur.drop (2 * i + 2 + (xs.drop (2 * i)).length)).length = _
    simp only [List.length_append, List.length_take, List.length_drop, hx]; omega
  have l2 : c2.length = cur.length := by
    show (c1.take (2 * i) ++ [x0, x1] ++ c1.drop (2 * i + 2)).length = _
    simp only [List.length_append, List.length_take, List.length_drop, List.length_cons, List.length_nil, l1]; omega
  refine ⟨l2, ?_⟩
  have e1 : c1.take (2 * i) = xs.take (2 * i) := by
    show (cur.take (2 * i + 2) ++ xs.drop (2 * i) ++ cur.drop (2 * i + 2 + (xs.drop (2 * i)).length)).take (2 * i) = _
    rw [List.append_assoc, List.take_append_of_le_length (by rw [List.length_take]; omega), List.take_take, ← ht, List.take_take]
    congr 1; omega
  have e2 : (c1.drop (2 * i + 2)).take (2 * n - 2 * i) = xs.drop (2 * i) := by
    show ((cur.take (2 * i + 2) ++ xs.drop (2 * i) ++ cur.drop (2 * i + 2 + (xs.drop (2 * i)).length)).drop (2 * i + 2)).take (2 * n - 2 * i) = _
    have hlt : (cur.take (2 * i + 2)).length = 2 * i + 2 := by rw [List.length_take]; omega
    rw [List.append_assoc, List.drop_append_of_le_length (by omega), List.drop_eq_nil_of_le (by omega), List.nil_append, List.take_append_of_le_length (by rw [List.length_drop, hx]; omega), List.take_of_length_le (by rw [List.length_drop, hx]; omega)]
  show (c1.take (2 * i) ++ [x0, x1] ++ c1.drop (2 * i + 2)).take (2 * n + 2) = _
  have hl0 : (xs.take (2 * i) ++ [x0, x1]).length = 2 * i + 2 := by simp only [List.length_append, List.length_take, List.length_cons, List.length_nil]; omega
  rw [e1, List.take_append, List.take_of_length_le (by omega), hl0, show 2 * n + 2 - (2 * i + 2) = 2 * n - 2 * i by omega, e2]

theorem sizeRow : (Tryz.prog.info? 113).map (·.size) = some 2 := by kernel_rfl

set_option maxRecDepth 100000 in
set_option maxHeartbeats 4000000 in
theorem insert_shift (g n c i vb : Nat) (cur : Array Value) (x0 x1 : Value) (xs : List Value) (w : World) (hi : i < n) (hn : n ≤ 4096) (hroom : n + 1 ≤ c) (hcm : c ≤ maxLen) (hg : w.heap[g]? = some (.cells cur 113 (0, 0))) (hcur : cur.size = c * 2) (ht : cur.toList.take (2 * n) = xs) (hx : xs.length = 2 * n) (hvb : w.heap[vb]? = some (.cells #[x0, x1] 113)) (hne : vb ≠ g) (o0 : x0.oneCell' = true) (o1 : x1.oneCell' = true) (hxs : ∀ v ∈ xs, v.oneCell' = true) :
    Calls Tryz.prog 79 #[.slice (some ⟨g, 0, none⟩) n c, .int .i64 (i : Int), .slice (some ⟨vb, 0, none⟩) 1 1] w fun e w' =>
      e = .returned (.slice (some ⟨g, 0, none⟩) (n + 1) c) ∧ ∃ cur' : Array Value, w' = w.drew.setRow g cur' ∧ cur'.size = cur.size ∧ cur'.toList.take (2 * n + 2) = xs.take (2 * i) ++ [x0, x1] ++ xs.drop (2 * i) := by
  have hsz : ∀ w, (Go.sizeOf 113).run Tryz.prog w = .ok 2 w := fun w => by
    obtain ⟨i0, hi0, h0⟩ := Option.map_eq_some_iff.1 sizeRow
    simp [Go.sizeOf, typeInfo, hi0, h0]
  have hov : ∀ x lb cb, (callFunc 115 #[.slice (some ⟨vb, 0, none⟩) 1 1, .slice (some ⟨g, x, none⟩) lb cb]).run Tryz.prog w = .ok (.value (.bool false)) w := fun x lb cb => by
    rw [run_callFunc_extern Tryz.func115 (by kernel_rfl) (by kernel_rfl) (by kernel_rfl) (e := Extern.SlicesOverlaps.overlaps #[54, 54] #[4]) (by kernel_rfl)]
    rw [Lib.run_overlaps_apart w 54 4 113 Tryz.underlying54 2 hsz ⟨vb, 0, none⟩ ⟨g, x, none⟩ 1 1 lb cb hne 113 113 2 cur.size (by simp [World.shape?, hvb]) (by simp [World.shape?, hg]) (by omega) (by simp [World.frozen?, hvb]) (by simp [World.frozen?, hvb])]
    rfl
  have hdl : (xs.drop (2 * i)).length = (n - i) * 2 := by rw [List.length_drop, hx]; omega
  have hw1 : IntKind.i64.wrap ((i : Int) + 1) = (i : Int) + 1 := by rw [IntKind.wrap_i64]; omega
  have htn : ((i : Int) + 1).toNat = i + 1 := by omega
  have hb1 : (0 : Int) ≤ (i : Int) + 1 := by omega
  have hb2 : ¬ (c = i + 1) := by omega
  have hb3 : (i : Int) ≤ (n : Int) + 1 := by omega
  have hb4 : ¬ (c = i) := by omega
  have hin : i ≤ n := by omega
  have mixed : Tryz.prog.follows .mixedOrders = true := by kernel_rfl
  have hcurL : 2 * n + 2 ≤ cur.toList.length := by simp [hcur]; omega
  have hSH := shift_list cur.toList xs x0 x1 n i (by omega) hx hcurL ht
  have hcp1 : ∀ ty dc sc, (Builtin.copy_ #[54, 54] ty #[.slice (some ⟨g, (i + 1) * 2, none⟩) (n - i) dc, .slice (some ⟨g, i * 2, none⟩) (n + 1 - i) sc]).run Tryz.prog w.drew = .ok (goInt ((n - i : Nat) : Int)) (w.drew.setRow g (cur.toList.take ((i + 1) * 2) ++ xs.drop (2 * i) ++ cur.toList.drop ((i + 1) * 2 + (xs.drop (2 * i)).length)).toArray) := fun ty dc sc =>
    run_copy_rowN w.drew _ _ ty 113 2 g ((i + 1) * 2) (n - i) dc ⟨g, i * 2, none⟩ (n + 1 - i) sc (n - i) cur 113 (xs.drop (2 * i)) Tryz.underlying54 sizeRow hg (by simp only [Nat.min_def]; split <;> omega) hdl
      (fun j v hj => by
        rw [List.getElem?_drop, ← ht, List.getElem?_take] at hj
        split at hj
        · rw [Addr.add_lit]
          show w.cell? _ = _
          simp only [World.cell?, hg]
          simpa [Nat.mul_comm] using hj
        · cases hj) (by rw [hdl, hcur]; omega) (fun v hv => hxs v (List.mem_of_mem_drop hv))
  obtain ⟨C1, hC1⟩ : ∃ C1, C1 = cur.toList.take ((i + 1) * 2) ++ xs.drop (2 * i) ++ cur.toList.drop ((i + 1) * 2 + (xs.drop (2 * i)).length) := ⟨_, rfl⟩
  have hSH1 : (C1.take (2 * i) ++ [x0, x1] ++ C1.drop (2 * i + 2)).length = cur.toList.length ∧ (C1.take (2 * i) ++ [x0, x1] ++ C1.drop (2 * i + 2)).take (2 * n + 2) = xs.take (2 * i) ++ [x0, x1] ++ xs.drop (2 * i) := by
    rw [hC1, show (i + 1) * 2 = 2 * i + 2 by omega]; exact hSH
  have hC1l : C1.length = cur.size := by rw [hC1]; simp only [List.length_append, List.length_take, List.length_drop, hx, Array.length_toList]; omega
  rw [← hC1] at hcp1
  have hcp2 : ∀ (W : World), W.heap[g]? = some (.cells C1.toArray 113 (0, 0)) → W.heap[vb]? = some (.cells #[x0, x1] 113) → ∀ ty dc, (Builtin.copy_ #[54, 54] ty #[.slice (some ⟨g, i * 2, none⟩) (n + 1 - i) dc, .slice (some ⟨vb, 0, none⟩) 1 1]).run Tryz.prog W = .ok (goInt ((1 : Nat) : Int)) (W.setRow g (C1.take (i * 2) ++ [x0, x1] ++ C1.drop (i * 2 + 2)).toArray) := fun W hW hWv ty dc =>
    run_copy_rowN W _ _ ty 113 2 g (i * 2) (n + 1 - i) dc ⟨vb, 0, none⟩ 1 1 1 C1.toArray 113 [x0, x1] Tryz.underlying54 sizeRow hW (by simp only [Nat.min_def]; split <;> omega) rfl
      (fun j v hj => by
        rw [Addr.add_lit]
        simp only [World.cell?, hWv]
        simpa using hj) (by simp [hC1l, hcur]; omega) (fun u hu => by simp at hu; rcases hu with rfl | rfl <;> assumption)
  have hW1 : (w.drew.setRow g C1.toArray).heap[g]? = some (.cells C1.toArray 113 (0, 0)) := setRow_heap w.drew g cur _ _ _ hg
  have hW1v : (w.drew.setRow g C1.toArray).heap[vb]? = some (.cells #[x0, x1] 113) := by
    unfold World.setRow
    show (w.heap.modify g _)[vb]? = _
    rw [Array.getElem?_modify, if_neg (by omega)]
    exact hvb
  have HSH := Lib.hid hSH1
  clear hSH hSH1 hC1 hC1l hdl
  go_enter Tryz.func79, Tryz.ntmps79
  go_wp2_with (simp only [hov])
  go_region_law_o (refine step_copy_runI rfl _ _ 54 54 rfl _ _ (by simp [Act.eval, Act.put]) (by simp [Act.eval, Act.put]) (hcp1 _ _ _) ?_)
  go_wp2_with (at_builtin; refine wpList_copy_runI _ rfl _ _ 54 54 rfl _ _ rfl rfl (hcp2 _ hW1 hW1v _ _) ?_)
  go_ret
  refine ⟨rfl, _, setRow_setRow _ _ _ _, ?_, ?_⟩
  · have := HSH.out.1
    rw [Nat.mul_comm 2 i] at this
    simpa using this
  · have := HSH.out.2
    rw [Nat.mul_comm 2 i] at this
    rw [Nat.mul_comm 2 i]
    simpa using this

/-- What an Insert leaves, in the words of rows of one's own. -/
def Ins (w : World) (base : Nat) (rv : Value) (n : Nat) (ys : List Value) (e : Ending) (w' : World) : Prop :=
  ∃ rv', e = .returned rv' ∧ w'.ownsRow base 113 2 rv' (n + 1) ys ∧ w.grownBy w' rv.ownBlock ∧ (rv'.ownBlock = rv.ownBlock ∨ rv'.ownBlock = some w.heap.size)

set_option maxRecDepth 100000 in
set_option maxHeartbeats 4000000 in
theorem insert_end (base n vb : Nat) (rv x0 x1 : Value) (xs : List Value) (w : World) (hown : w.ownsRow base 113 2 rv n xs) (hn : n ≤ 4096) (hbase : base ≤ w.heap.size) (hvb : w.heap[vb]? = some (.cells #[x0, x1] 113)) (o0 : x0.oneCell' = true) (o1 : x1.oneCell' = true) :
    Calls Tryz.prog 79 #[rv, .int .i64 (n : Int), .slice (some ⟨vb, 0, none⟩) 1 1] w (Ins w base rv n (xs ++ [x0, x1])) := by
  obtain ⟨i, hi, hz0, hz1, hz2⟩ := info_parts infoRow
  obtain ⟨h0, h1, _⟩ := two_cells hvb
  obtain ⟨v', w', hr, ho, hg, _, hb⟩ := run_append_own_at (P := Tryz.prog) w base _ 54 _ i _ 2 48 Tryz.underlying54 hi hz0 hz1 hz2 rfl (by decide) rv n xs hown ⟨vb, 0, none⟩ 1 1 [x0, x1] rfl
    (fun j u hu => by
      match j with
      | 0 => simp at hu; subst hu; rw [Addr.add_zero']; exact h0
      | 1 => simp at hu; subst hu; exact h1
      | j + 2 => simp at hu) (fun u hu => by simp at hu; rcases hu with rfl | rfl <;> assumption) (by simp only [maxLen]; omega) (by omega) hbase
  have HF : Hid (Ins w base rv n (xs ++ [x0, x1]) (.returned v') w') := ⟨v', rfl, ho, hg, hb⟩
  have hw1 : IntKind.i64.wrap ((n : Int) + 1) = (n : Int) + 1 := by rw [IntKind.wrap_i64]; omega
  have hcase := hown.2
  clear h0 h1 ho hg hb hown hvb
  rcases hcase with ⟨rfl, rfl⟩ | ⟨g, cap, cur, rfl, _, _, hnc, hcm, _, _⟩
  · go_enter Tryz.func79, Tryz.ntmps79
    go_wp2_with (at_builtin; refine Lib.wpList_append_run _ rfl _ _ 54 54 rfl _ _ rfl rfl _ _ hr ?_)
    go_wp2
    first | go_ret | go_ret2
    exact HF.out
  · have hcm' : cap ≤ 9223372036854775807 := by simp only [maxLen] at hcm; omega
    go_enter Tryz.func79, Tryz.ntmps79
    go_wp2_with (at_builtin; refine Lib.wpList_append_run _ rfl _ _ 54 54 rfl _ _ rfl rfl _ _ hr ?_)
    all_goals (go_ret; exact HF.out)

theorem grow_list {α : Type} (row xs : List α) (x0 x1 : α) (n i : Nat) (hi : i ≤ n) (hx : xs.length = 2 * n) (hrow : 2 * n + 2 ≤ row.length) (ht : row.take (2 * i) = xs.take (2 * i)) (hh : i * 2 = 2 * i) :
    let c1 := row.take (i * 2) ++ [x0, x1] ++ row.drop (i * 2 + 2)
    let c2 := c1.take ((i + 1) * 2) ++ xs.drop (2 * i) ++ c1.drop ((i + 1) * 2 + (xs.drop (2 * i)).length)
    c1.length = row.length ∧ c2.length = row.length ∧ c2.take (2 * n + 2) = xs.take (2 * i) ++ [x0, x1] ++ xs.drop (2 * i) := by
  intro c1 c2
  have l1 : c1.length = row.length := by
    show (row.take (i * 2) ++ [x0, x1] ++ row.drop (i * 2 + 2)).length = _
    simp only [List.length_append, List.length_take, List.length_drop, List.length_cons, List.length_nil]; omega
  have l2 : c2.length = row.length := by
    show (c1.take ((i + 1) * 2) ++ xs.drop (2 * i) ++ c1.drop ((i + 1) * 2 + (xs.drop (2 * i)).length)).length = _
    simp only [List.length_append, List.length_take, List.length_drop, hx, l1]; omega
  refine ⟨l1, l2, ?_⟩
  have e1 : c1.take ((i + 1) * 2) = xs.take (2 * i) ++ [x0, x1] := by
    show (row.take (i * 2) ++ [x0, x1] ++ row.drop (i * 2 + 2)).take ((i + 1) * 2) = _
    rw [List.take_append_of_le_length (by simp only [List.length_append, List.length_take, List.length_cons, List.length_nil]; omega), List.take_of_length_le (by simp only [List.length_append, List.length_take, List.length_cons, List.length_nil]; omega), hh, ht]
  show (c1.take ((i + 1) * 2) ++ xs.drop (2 * i) ++ c1.drop ((i + 1) * 2 + (xs.drop (2 * i)).length)).take (2 * n + 2) = _
  rw [e1, List.take_append_of_le_length (by simp only [List.length_append, List.length_take, List.length_drop, List.length_cons, List.length_nil, hx]; omega), List.take_of_length_le (by simp only [List.length_append, List.length_take, List.length_drop, List.length_cons, List.length_nil, hx]; omega)]

set_option maxRecDepth 100000 in
set_option maxHeartbeats 4000000 in
theorem insert_grow (g n i vb : Nat) (cur : Array Value) (x0 x1 : Value) (xs : List Value) (w : World) (hi : i < n) (hn : n ≤ 4096) (hg : w.heap[g]? = some (.cells cur 113 (0, 0))) (hcur : cur.size = n * 2) (ht : cur.toList.take (2 * n) = xs) (hx : xs.length = 2 * n) (hvb : w.heap[vb]? = some (.cells #[x0, x1] 113)) (o0 : x0.oneCell' = true) (o1 : x1.oneCell' = true) (hxs : ∀ v ∈ xs, v.oneCell' = true) :
    Calls Tryz.prog 79 #[.slice (some ⟨g, 0, none⟩) n n, .int .i64 (i : Int), .slice (some ⟨vb, 0, none⟩) 1 1] w fun e w' =>
      ∃ G cur', e = .returned (.slice (some ⟨w.heap.size, 0, none⟩) (n + 1) G) ∧ n + 1 ≤ G ∧ G ≤ maxLen ∧ w'.heap[w.heap.size]? = some (.cells cur' 113 (0, 0)) ∧ cur'.size = G * 2 ∧ cur'.toList.take (2 * n + 2) = xs.take (2 * i) ++ [x0, x1] ++ xs.drop (2 * i) ∧ w.grownBy w' none := by
  obtain ⟨i0, hi0, hz0, hzs, hzb⟩ := info_parts infoRow
  have hik : i + (n + 1 - i) = n + 1 := by omega
  have hkk : (n : Int) + 1 - (i : Int) = ((n + 1 - i : Nat) : Int) := by omega
  have hold : (Builtin.firstCells i0.size i (.slice (some ⟨g, 0, none⟩) i n)).run Tryz.prog w.drew = .ok (xs.take (2 * i)).toArray w.drew := by
    rw [hzs]
    exact run_firstCells_some (w := w.drew) 2 i ⟨g, 0, none⟩ i n (xs.take (2 * i)) (by rw [List.length_take, hx]; omega) (fun j v hj => by
      rw [← ht, List.take_take, List.getElem?_take] at hj
      split at hj
      · rw [Addr.add_lit]
        show w.cell? _ = _
        simp only [World.cell?, hg]
        simpa using hj
      · cases hj)
  have hrz : ∀ ty, (Builtin.append_ #[54, 3] ty #[.slice (some ⟨g, 0, none⟩) i n, .int .i64 ((n : Int) + 1 - (i : Int))]).run Tryz.prog w = .ok (.slice (some ⟨w.heap.size, 0, none⟩) (n + 1) (grownCap w (n + 1) n 113))
        (w.drew.alloc (.cells ((xs.take (2 * i)).toArray ++ Builtin.zeroCells (Value.agg #[.slice none 0 0, .slice none 0 0]).cells (n + 1 - i) ++ Builtin.zeroCells (Value.agg #[.slice none 0 0, .slice none 0 0]).cells (grownCap w (n + 1) n 113 - (n + 1))) 113)) := fun ty => by
    have h := Lib.run_append_grow_zeros w 54 3 ty 113 i0 _ .i64 .i64 Tryz.underlying54 Tryz.underlying3 hi0 hz0 (some ⟨g, 0, none⟩) i n (xs.take (2 * i)) hold (n + 1 - i) (by omega) (by omega) (by omega) (by omega) (by rw [hzb]; omega) (by rw [hzb, hik]; exact growslice_fits (by omega) (by omega))
    rw [hik] at h
    rw [hkk]
    exact h
  have hGn : n + 1 ≤ grownCap w (n + 1) n 113 := grownCap_ge w _ _ _
  have hGm : grownCap w (n + 1) n 113 ≤ maxLen := grownCap_le_maxLen w _ _ _ (by simp only [maxLen]; omega)
  obtain ⟨G, hG⟩ : ∃ G, G = grownCap w (n + 1) n 113 := ⟨_, rfl⟩
  rw [← hG] at hrz hGn hGm
  obtain ⟨ROW, hROW⟩ : ∃ ROW : Array Value, ROW = (xs.take (2 * i)).toArray ++ Builtin.zeroCells (Value.agg #[.slice none 0 0, .slice none 0 0]).cells (n + 1 - i) ++ Builtin.zeroCells (Value.agg #[.slice none 0 0, .slice none 0 0]).cells (G - (n + 1)) := ⟨_, rfl⟩
  rw [← hROW] at hrz
  have hz2 : ((Value.agg #[.slice none 0 0, .slice none 0 0]).cells).size = 2 := by decide
  have hRs : ROW.size = G * 2 := by
    rw [hROW]
    simp only [Array.size_append, List.size_toArray, List.length_take, hx, Builtin.zeroCells, Array.size_map, Array.size_range, hz2]
    omega
  have hRt : ROW.toList.take (2 * i) = xs.take (2 * i) := by
    rw [hROW]
    simp only [Array.toList_append, List.append_assoc]
    rw [List.take_append_of_le_length (by rw [List.length_take, hx]; omega), List.take_take, Nat.min_self]
  have hGL := grow_list ROW.toList xs x0 x1 n i (by omega) hx (by rw [Array.length_toList, hRs]; omega) hRt (Nat.mul_comm _ _)
  obtain ⟨C1, hC1⟩ : ∃ C1, C1 = ROW.toList.take (i * 2) ++ [x0, x1] ++ ROW.toList.drop (i * 2 + 2) := ⟨_, rfl⟩
  obtain ⟨C2, hC2⟩ : ∃ C2, C2 = C1.take ((i + 1) * 2) ++ xs.drop (2 * i) ++ C1.drop ((i + 1) * 2 + (xs.drop (2 * i)).length) := ⟨_, rfl⟩
  have hGL' : C1.length = ROW.toList.length ∧ C2.length = ROW.toList.length ∧ C2.take (2 * n + 2) = xs.take (2 * i) ++ [x0, x1] ++ xs.drop (2 * i) := by rw [hC2, hC1]; exact hGL
  obtain ⟨hl1, hl2, htk⟩ := hGL'
  have hRl : ROW.toList.length = G * 2 := by rw [Array.length_toList]; exact hRs
  rw [hRl] at hl1 hl2
  have hdl : (xs.drop (2 * i)).length = (n - i) * 2 := by rw [List.length_drop, hx]; omega
  have hcpA : ∀ (W : World), W.heap[w.heap.size]? = some (.cells ROW 113 (0, 0)) → W.heap[vb]? = some (.cells #[x0, x1] 113) → ∀ ty dc, (Builtin.copy_ #[54, 54] ty #[.slice (some ⟨w.heap.size, i * 2, none⟩) (n + 1 - i) dc, .slice (some ⟨vb, 0, none⟩) 1 1]).run Tryz.prog W = .ok (goInt ((1 : Nat) : Int)) (W.setRow w.heap.size C1.toArray) := fun W hW hWv ty dc => by
    rw [hC1]
    exact run_copy_rowN W _ _ ty 113 2 w.heap.size (i * 2) (n + 1 - i) dc ⟨vb, 0, none⟩ 1 1 1 ROW 113 [x0, x1] Tryz.underlying54 sizeRow hW (by simp only [Nat.min_def]; split <;> omega) rfl
      (fun j v hj => by
        rw [Addr.add_lit]
        simp only [World.cell?, hWv]
        simpa using hj) (by simp [hRs]; omega) (fun u hu => by simp at hu; rcases hu with rfl | rfl <;> assumption)
  have hcpB : ∀ (W : World), W.heap[w.heap.size]? = some (.cells C1.toArray 113 (0, 0)) → W.heap[g]? = some (.cells cur 113 (0, 0)) → ∀ ty dc sc, (Builtin.copy_ #[54, 54] ty #[.slice (some ⟨w.heap.size, (i + 1) * 2, none⟩) (n - i) dc, .slice (some ⟨g, i * 2, none⟩) (n - i) sc]).run Tryz.prog W = .ok (goInt ((n - i : Nat) : Int)) (W.setRow w.heap.size C2.toArray) := fun W hW hWg ty dc sc => by
    rw [hC2]
    exact run_copy_rowN W _ _ ty 113 2 w.heap.size ((i + 1) * 2) (n - i) dc ⟨g, i * 2, none⟩ (n - i) sc (n - i) C1.toArray 113 (xs.drop (2 * i)) Tryz.underlying54 sizeRow hW (by simp only [Nat.min_def]; split <;> omega) hdl
      (fun j v hj => by
        rw [List.getElem?_drop, ← ht, List.getElem?_take] at hj
        split at hj
        · rw [Addr.add_lit]
          simp only [World.cell?, hWg]
          simpa [Nat.mul_comm] using hj
        · cases hj) (by rw [hdl]; simp [hl1]; omega) (fun v hv => hxs v (List.mem_of_mem_drop hv))
  have hG63 : G ≤ 9223372036854775807 := by simp only [maxLen] at hGm; omega
  have hGi : ¬ (G = i) := by omega
  have hGim : ¬ (G = i + 1) := by omega
  have hni : ¬ (n = i) := by omega
  have hw1 : IntKind.i64.wrap ((i : Int) + 1) = (i : Int) + 1 := by rw [IntKind.wrap_i64]; omega
  have hw2 : IntKind.i64.wrap ((n : Int) + 1) = (n : Int) + 1 := by rw [IntKind.wrap_i64]; omega
  have htn : ((i : Int) + 1).toNat = i + 1 := by omega
  have hb1 : (0 : Int) ≤ (i : Int) + 1 := by omega
  have hb3 : (i : Int) ≤ (n : Int) := by omega
  have hin : i ≤ n := by omega
  have mixed : Tryz.prog.follows .mixedOrders = true := by kernel_rfl
  have hvl : vb < w.heap.size := lt_of_block hvb
  have hgl : g < w.heap.size := lt_of_block hg
  have hA1 : ((w.alloc (.cells ROW 113)).drew).heap[w.heap.size]? = some (.cells ROW 113 (0, 0)) := heap_alloc_new w (.cells ROW 113)
  have hA2 : ((w.alloc (.cells ROW 113)).drew).heap[vb]? = some (.cells #[x0, x1] 113) := ((Gr.refl w).alloc _).heap hvb
  have hA3 : ((w.alloc (.cells ROW 113)).drew).heap[g]? = some (.cells cur 113 (0, 0)) := ((Gr.refl w).alloc _).heap hg
  have hB1 : ((((w.alloc (.cells ROW 113)).drew).setRow w.heap.size C1.toArray).drew).heap[w.heap.size]? = some (.cells C1.toArray 113 (0, 0)) := setRow_heap _ _ _ _ _ _ hA1
  have hB2 : ((((w.alloc (.cells ROW 113)).drew).setRow w.heap.size C1.toArray).drew).heap[g]? = some (.cells cur 113 (0, 0)) := (setRow_other _ _ _ _ (by omega)).trans hA3
  clear hold hROW hG hC1 hC2 hRt hGL hik hkk
  go_enter Tryz.func79, Tryz.ntmps79
  go_wp2_with (at_builtin; refine Lib.wpList_append_run _ rfl _ _ _ _ rfl _ _ rfl rfl _ _ (hrz _) ?_)
  have hcA := fun ty dc => hcpA _ hA1 hA2 ty dc
  rw [hcA]
  go_wp2
  go_region_law_o (refine step_copy_runI rfl _ _ 54 54 rfl (.slice (some ⟨w.heap.size, (i + 1) * 2, none⟩) (n - i) (G - (i + 1))) (.slice (some ⟨g, i * 2, none⟩) (n - i) (n - i)) (by simp [Act.eval, Act.put]) (by simp [Act.eval, Act.put]) (hcpB _ hB1 hB2 _ _ _) ?_)
  go_wp2
  go_ret
  refine ⟨G, C2.toArray, rfl, hGn, hGm, setRow_heap _ _ _ _ _ _ hB1, by simpa using hl2, by simpa using htk, rfl, rfl, rfl, by simp, fun j hj _ => ?_⟩
  refine (setRow_other _ _ _ _ (by omega)).trans ((setRow_other _ _ _ _ (by omega)).trans ?_)
  exact ((Gr.refl w).alloc (.cells ROW 113)).block hj

/-- INSERT, on every road. -/
theorem insert_row (base n i vb : Nat) (rv x0 x1 : Value) (xs : List Value) (w : World) (hown : w.ownsRow base 113 2 rv n xs) (hi : i ≤ n) (hn : n ≤ 4096) (hbase : base ≤ w.heap.size) (hvb : w.heap[vb]? = some (.cells #[x0, x1] 113)) (hne : rv.ownBlock ≠ some vb) (o0 : x0.oneCell' = true) (o1 : x1.oneCell' = true) (hxs : ∀ v ∈ xs, v.oneCell' = true) :
    Calls Tryz.prog 79 #[rv, .int .i64 (i : Int), .slice (some ⟨vb, 0, none⟩) 1 1] w (Ins w base rv n (xs.take (2 * i) ++ [x0, x1] ++ xs.drop (2 * i))) := by
  have hx : xs.length = 2 * n := by have := hown.1; omega
  rcases Nat.lt_or_eq_of_le hi with hlt | rfl
  · rcases hown.2 with ⟨_, h0⟩ | ⟨g, c, cur, rfl, hgb, hg, hnc, hcm, hcur, ht⟩
    · omega
    · have hgn : vb ≠ g := fun h => hne (by subst h; rfl)
      have hlen : (xs.take (2 * i) ++ [x0, x1] ++ xs.drop (2 * i)).length = (n + 1) * 2 := by
        simp only [List.length_append, List.length_take, List.length_drop, List.length_cons, List.length_nil, hx]; omega
      rw [Nat.mul_comm] at ht
      by_cases hroom : n + 1 ≤ c
      · refine (insert_shift g n c i vb cur x0 x1 xs w hlt hn hroom hcm hg hcur ht hx hvb hgn o0 o1 hxs).mono ?_
        rintro e w' ⟨rfl, cur', rfl, hs, htk⟩
        refine ⟨_, rfl, ⟨hlen, .inr ⟨g, c, cur', rfl, hgb, setRow_heap _ _ _ _ _ _ hg, hroom, hcm, by omega, by rw [show (n + 1) * 2 = 2 * n + 2 by omega]; exact htk⟩⟩, ⟨rfl, rfl, rfl, by simp, fun j hj hjr => setRow_other _ _ _ _ (fun h => hjr (by subst h; rfl))⟩, .inl rfl⟩
      · obtain rfl : c = n := by omega
        refine (insert_grow g c i vb cur x0 x1 xs w hlt hn hg hcur ht hx hvb o0 o1 hxs).mono ?_
        rintro e w' ⟨G, cur', rfl, h1, h2, hh, hs, htk, hgr⟩
        refine ⟨_, rfl, ⟨hlen, .inr ⟨w.heap.size, G, cur', rfl, hbase, hh, h1, h2, hs, by rw [show (c + 1) * 2 = 2 * c + 2 by omega]; exact htk⟩⟩, ⟨hgr.os, hgr.tape, hgr.output, hgr.size, fun j hj _ => hgr.block j hj (by simp)⟩, .inr rfl⟩
  · rw [List.take_of_length_le (by omega), List.drop_eq_nil_of_le (by omega), List.append_nil]
    exact insert_end base i vb rv x0 x1 xs w hown hn hbase hvb o0 o1
end Go.Proofs.YtddopoojmadpjaaGreatDoor
