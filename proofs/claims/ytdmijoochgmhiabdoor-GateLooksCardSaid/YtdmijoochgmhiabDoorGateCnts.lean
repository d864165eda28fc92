/-
  An array of twenty counts in a block: how often each of twenty was told.
-/
import Derived.Test.YtdmijoochgmhiabDoorGate
import Derived.Test.YtdmijoochgmhiabDoorCounts
namespace Go.Proofs.YtdmijoochgmhiabDoor
open Go.RowKit Go.Maps
set_option linter.unusedVariables false

/-- twenty counts. -/
def cnts (es : List Nat) : Array Value := ((List.range 20).map fun j => Value.int .i64 (es.count j : Nat)).toArray
theorem cnts_nil : cnts [] = #[.int .i64 0, .int .i64 0, .int .i64 0, .int .i64 0, .int .i64 0, .int .i64 0, .int .i64 0, .int .i64 0, .int .i64 0, .int .i64 0, .int .i64 0, .int .i64 0, .int .i64 0, .int .i64 0, .int .i64 0, .int .i64 0, .int .i64 0, .int .i64 0, .int .i64 0, .int .i64 0] := rfl
theorem cnts_lit (es : List Nat) : cnts es = #[.int .i64 (es.count 0 : Nat), .int .i64 (es.count 1 : Nat), .int .i64 (es.count 2 : Nat), .int .i64 (es.count 3 : Nat), .int .i64 (es.count 4 : Nat), .int .i64 (es.count 5 : Nat), .int .i64 (es.count 6 : Nat), .int .i64 (es.count 7 : Nat), .int .i64 (es.count 8 : Nat), .int .i64 (es.count 9 : Nat), .int .i64 (es.count 10 : Nat), .int .i64 (es.count 11 : Nat), .int .i64 (es.count 12 : Nat), .int .i64 (es.count 13 : Nat), .int .i64 (es.count 14 : Nat), .int .i64 (es.count 15 : Nat), .int .i64 (es.count 16 : Nat), .int .i64 (es.count 17 : Nat), .int .i64 (es.count 18 : Nat), .int .i64 (es.count 19 : Nat)] := rfl
theorem cnts_size (es : List Nat) : (cnts es).size = 20 := rfl
theorem cnts_get (es : List Nat) (j : Nat) (hj : j < 20) : (cnts es)[j]? = some (.int .i64 (es.count j : Nat)) := by
  rw [cnts, List.getElem?_toArray, List.getElem?_map, List.getElem?_range hj]; rfl
theorem cnts_set (es : List Nat) (e : Nat) (he : e < 20) : (cnts es).setIfInBounds e (.int .i64 ((es.count e : Nat) + 1 : Int)) = cnts (e :: es) := by
  apply Array.ext
  · simp [cnts_size]
  · intro j h1 h2
    have hj : j < 20 := h2
    have a := cnts_get (e :: es) j hj
    rw [Array.getElem?_eq_getElem h2] at a
    have hz : j < (cnts es).size := by rw [cnts_size]; exact hj
    rw [Option.some.inj a, Array.getElem_setIfInBounds hz]
    by_cases h : e = j
    · subst h
      rw [if_pos rfl, List.count_cons_self]; simp
    · have b := cnts_get es j hj
      rw [Array.getElem?_eq_getElem (by rw [cnts_size]; exact hj)] at b
      rw [if_neg h, Option.some.inj b, List.count_cons_of_ne h]
theorem cnts_cell {W : World} {b : Nat} {es : List Nat} {t : TypeId} (h : W.heap[b]? = some (.cells (cnts es) t)) (j : Nat) (hj : j < 20) : W.cell? ⟨b, j, none⟩ = some (.int .i64 (es.count j : Nat)) ∧ W.frozen? ⟨b, j, none⟩ = false := by
  refine ⟨?_, ?_⟩
  · have := cnts_get es j hj
    simp [World.cell?, h, this]
  · simp [World.frozen?, h]
theorem cnts_store {W : World} {b : Nat} {es : List Nat} {t : TypeId} (h : W.heap[b]? = some (.cells (cnts es) t)) (e : Nat) (he : e < 20) :
    GrB W b (W.setCell ⟨b, e, none⟩ (.int .i64 ((es.count e : Nat) + 1 : Int))) ∧ (W.setCell ⟨b, e, none⟩ (.int .i64 ((es.count e : Nat) + 1 : Int))).heap[b]? = some (.cells (cnts (e :: es)) t) := by
  refine ⟨(GrB.refl W b).set (.inl rfl) _, ?_⟩
  have := heap_set (i := e) h (.int .i64 ((es.count e : Nat) + 1 : Int))
  rw [cnts_set es e he] at this
  exact this
/-- bytes that read so do not lie in a block that holds none. -/
theorem Bs.off {w w' : World} {b : Nat} {a : Option Addr} {n c : Nat} {l : List UInt8} {cs : Array Value} {t : TypeId} (h : Bs w a n c l) (g : GrB w b w') (hb : w.heap[b]? = some (.cells cs t)) (hcs : ∀ (j : Nat) (u : Int), cs[j]? ≠ some (.int .u8 u)) : Bs w' a n c l := by
  refine ⟨h.1, h.2.1, h.2.2.1, h.2.2.2.1, fun x hx i u hu => ?_⟩
  have hc := h.2.2.2.2 x hx i u hu
  by_cases hbk : (x.add i).block = b
  · exfalso
    simp [World.cell?, hbk, hb] at hc
    exact hcs _ _ (by first | exact hc | exact hc.2)
  · rw [World.cell?_of_block (w := w) (g.block _ (World.block_lt_of_cell? w _ hc) (by simpa using hbk))]; exact hc
theorem cnts_no (es : List Nat) (j : Nat) (u : Int) : (cnts es)[j]? ≠ some (.int .u8 u) := by
  by_cases hj : j < 20
  · rw [cnts_get es j hj]; intro h; cases h
  · rw [Array.getElem?_eq_none (by rw [cnts_size]; omega)]; intro h; cases h
theorem run_index_cnts (es : List Nat) (k : Nat) (hk : k < 20) (w : World) : (Instr.index 56 (.agg (cnts es)) (.int .i64 (k : Int))).run Tryd.prog w = .ok (.int .i64 (es.count k : Nat)) w := by
  have h1 : (k : Int) < 20 := by omega
  have h2 := cnts_get es k hk
  have hs : ∀ w, (Go.sizeOf 3).run Tryd.prog w = .ok 1 w := fun w => by kernel_rfl
  have hg : ∀ w, (isAgg 3).run Tryd.prog w = .ok false w := fun w => by kernel_rfl
  simp [Instr.index, asIntOf, run_underlying Tryd.underlying56, hk, hs, hg, Result.andThen, part, h2]
  try (intro h; exact absurd h (Nat.not_le.2 hk))
end Go.Proofs.YtdmijoochgmhiabDoor
