/-
  Tables of sixteen bytes; the walk of kern.halves.
  The walk of kern.put: a row times a byte is added to a sum.
  The walk of kern.nought, where all rows are of one length.
  The walk of kern.Comb, where there is a byte for each row, and all rows are of one length.
-/
import Derived.Test.YtddopoojmadpjaaGreatDoorFieldMul
import Derived.Test.YtddopoojmadpjaaGreatDoorGate
import Derived.Test.YtddopoojmadpjaaGreatDoorHead
import Derived.Laws.Rows
import Derived.Laws.Tables
import Derived.FnLit
import Derived.Test.YtddopoojmadpjaaGreatDoorCut
namespace Go.Proofs.YtddopoojmadpjaaGreatDoor
open Go.RowKit
set_option linter.unusedVariables false

/-- sixteen bytes. -/
def arr (f : Nat → Nat) : Array Value := ((List.range 16).map fun i => Value.int .u8 (f i : Nat)).toArray
theorem arr_size (f : Nat → Nat) : (arr f).size = 16 := by simp [arr]
theorem arr_zero : arr (fun _ => 0) = #[.int .u8 0, .int .u8 0, .int .u8 0, .int .u8 0, .int .u8 0, .int .u8 0, .int .u8 0, .int .u8 0, .int .u8 0, .int .u8 0, .int .u8 0, .int .u8 0, .int .u8 0, .int .u8 0, .int .u8 0, .int .u8 0] := rfl
theorem arr_get (f : Nat → Nat) (j : Nat) (hj : j < 16) : (arr f)[j]? = some (.int .u8 (f j : Nat)) := by
  rw [arr, List.getElem?_toArray, List.getElem?_map, List.getElem?_range hj]; rfl
theorem arr_one (f : Nat → Nat) : (arr f).all (·.oneCell') = true := by
  rw [Array.all_eq_true_iff_forall_mem]
  intro v hv
  simp only [arr, List.mem_toArray, List.mem_map] at hv
  obtain ⟨j, _, rfl⟩ := hv
  rfl
/-- as far as it is filled. -/
def upto (f : Nat → Nat) (j : Nat) : Nat → Nat := fun i => if i < j then f i else 0
theorem arr_upto0 (f : Nat → Nat) : arr (upto f 0) = arr (fun _ => 0) := by
  have : upto f 0 = fun _ => 0 := by funext i; simp [upto]
  rw [this]
theorem arr_full (f : Nat → Nat) : arr (upto f 16) = arr f := by
  unfold arr
  have : ∀ i ∈ List.range 16, Value.int .u8 (upto f 16 i : Nat) = Value.int .u8 (f i : Nat) := fun i hi => by
    have : i < 16 := by simpa using hi
    simp [upto, this]
  rw [List.map_congr_left this]
theorem arr_set (f : Nat → Nat) (j : Nat) (hj : j < 16) : (arr (upto f j)).setIfInBounds j (.int .u8 (f j : Nat)) = arr (upto f (j + 1)) := by
  apply Array.ext
  · rw [Array.size_setIfInBounds, arr_size, arr_size]
  · intro i h1 h2
    have hi : i < 16 := by rw [arr_size] at h2; exact h2
    have a := arr_get (upto f (j + 1)) i hi
    rw [Array.getElem?_eq_getElem h2] at a
    have hz : i < (arr (upto f j)).size := by rw [arr_size]; exact hi
    rw [Option.some.inj a, Array.getElem_setIfInBounds hz]
    by_cases h : j = i
    · subst h
      rw [if_pos rfl]; simp [upto]
    · have b := arr_get (upto f j) i hi
      rw [Array.getElem?_eq_getElem hz] at b
      rw [if_neg h, Option.some.inj b]
      simp only [upto]
      by_cases h2 : i < j
      · rw [if_pos h2, if_pos (by omega)]
      · rw [if_neg h2, if_neg (by omega)]
theorem arr_cell {W : World} {b : Nat} {f : Nat → Nat} {t : TypeId} (h : W.heap[b]? = some (.cells (arr f) t)) (j : Nat) (hj : j < 16) : W.cell? ⟨b, j, none⟩ = some (.int .u8 (f j : Nat)) ∧ W.frozen? ⟨b, j, none⟩ = false := by
  refine ⟨?_, ?_⟩
  · have := arr_get f j hj
    simp [World.cell?, h, this]
  · simp [World.frozen?, h]
theorem arr_store {W : World} {b : Nat} {f : Nat → Nat} {t : TypeId} {j : Nat} (h : W.heap[b]? = some (.cells (arr (upto f j)) t)) (hj : j < 16) :
    GrB W b (W.setCell ⟨b, j, none⟩ (.int .u8 (f j : Nat))) ∧ (W.setCell ⟨b, j, none⟩ (.int .u8 (f j : Nat))).heap[b]? = some (.cells (arr (upto f (j + 1))) t) := by
  refine ⟨(GrB.refl W b).set (.inl rfl) _, ?_⟩
  have := heap_set (i := j) h (.int .u8 (f j : Nat))
  rw [arr_set f j hj] at this
  exact this
theorem infoArr : (Tryz.prog.info? 183).map (·.size) = some 16 := by kernel_rfl
theorem setRow_grb {W : World} {b : Nat} {old cs : Array Value} {t : TypeId} {m : Nat × Nat} (h : W.heap[b]? = some (.cells old t m)) : GrB W b (W.setRow b cs) ∧ (W.setRow b cs).heap[b]? = some (.cells cs t m) :=
  ⟨⟨rfl, rfl, rfl, by simp, fun k _ hk => setRow_other W b k cs (fun e => hk (by rw [e]))⟩, setRow_heap W b old cs t m h⟩
theorem rgAt_load_arr {o : Oper} {a : Act} {w : World} {R : Value → World → Prop} (x : Operand) (ho : o.op = .load 183 x) (g : Nat) (hx : a.eval x = .pointer (some ⟨g, 0, none⟩)) (f : Nat → Nat) (t : TypeId) (hg : w.heap[g]? = some (.cells (arr f) t)) (h : R (.agg (arr f)) w) : rgAt Tryz.prog o a w R := by
  unfold rgAt execOp
  simp only [ho, hx, Instr.loadAt, Instr.sureAddr, Sem.run_bind, Sem.run_pure, Result.andThen_ok, run_loadVar_row w g t 183 (arr f) (0, 0) _ hg Tryz.underlying183 rfl (by rw [infoArr, arr_size])]
  exact h
theorem rgAt_store_arr {o : Oper} {a : Act} {w : World} {R : Value → World → Prop} (x y : Operand) (ho : o.op = .store 183 x y) (g : Nat) (f f' : Nat → Nat) (hx : a.eval x = .pointer (some ⟨g, 0, none⟩)) (hy : a.eval y = .agg (arr f')) (t : TypeId) (hg : w.heap[g]? = some (.cells (arr f) t)) (h : R undef (w.setRow g (arr f'))) : rgAt Tryz.prog o a w R := by
  unfold rgAt execOp
  simp only [ho, hx, hy, Instr.storeAt, Instr.sureAddr, Sem.run_bind, Sem.run_pure, Result.andThen_ok, run_storeVar_row w g t 183 (arr f) (arr f') hg (by rw [infoArr, arr_size]) (by rw [arr_size, arr_size]) (arr_one f')]
  exact h

/-- the products of the lower halves of a byte, and of the upper ones. -/
def loT (c : Nat) (i : Nat) : Nat := fmul c i
def hiT (c : Nat) (i : Nat) : Nat := fmul c (i * 16)
theorem two_u8s (x y : Nat) (hx : x < 256) (hy : y < 256) : (#[Value.int .u8 (x : Int), .int .u8 (y : Int)] : Array Value).toList = u8s [UInt8.ofNat x, UInt8.ofNat y] := by
  simp only [u8s, List.map_cons, List.map_nil, UInt8.toNat_ofNat']
  rw [Nat.mod_eq_of_lt hx, Nat.mod_eq_of_lt hy]
theorem fprod_two (x y : Nat) (hx : x < 256) (hy : y < 256) : fprod [UInt8.ofNat x, UInt8.ofNat y] = fmul x y := by
  simp only [fprod, List.foldl_cons, List.foldl_nil, UInt8.toNat_ofNat']
  rw [Nat.mod_eq_of_lt (show x < 2 ^ 8 from hx), Nat.mod_eq_of_lt (show y < 2 ^ 8 from hy), one_fmul hx]
theorem mul_two (x y : Nat) (hx : x < 256) (hy : y < 256) (w : World) :
    Calls Tryz.prog 126 #[.slice (some ⟨w.heap.size, 0, none⟩) 2 2] (w.alloc (.cells #[.int .u8 (x : Int), .int .u8 (y : Int)] 5)) fun e w' => e = .returned (.int .u8 (fmul x y : Nat)) ∧ w.alloc (.cells #[.int .u8 (x : Int), .int .u8 (y : Int)] 5) = w' := by
  have := fieldMul_any (some ⟨w.heap.size, 0, none⟩) 2 2 [UInt8.ofNat x, UInt8.ofNat y] (w.alloc (.cells #[.int .u8 (x : Int), .int .u8 (y : Int)] 5)) (Bs.of_alloc (two_u8s x y hx hy) rfl (by decide) rfl)
  rw [fprod_two x y hx hy] at this
  exact this

set_option maxRecDepth 100000 in
set_option maxHeartbeats 1000000 in
theorem halves_any (c : Nat) (hc : c < 256) (w : World) :
    Calls Tryz.prog 109 #[.int .u8 (c : Int)] w fun e w' => e = .returned (.tuple #[.agg (arr (loT c)), .agg (arr (hiT c))]) ∧ Gr w w' := by
  go_enter Tryz.func109, Tryz.ntmps109
  go_wp2
  have hw4 : Gr w (((((w.alloc (.cells #[.int .u8 0, .int .u8 0, .int .u8 0, .int .u8 0, .int .u8 0, .int .u8 0, .int .u8 0, .int .u8 0, .int .u8 0, .int .u8 0, .int .u8 0, .int .u8 0, .int .u8 0, .int .u8 0, .int .u8 0, .int .u8 0] 183)).alloc (.cells #[.int .u8 0, .int .u8 0, .int .u8 0, .int .u8 0, .int .u8 0, .int .u8 0, .int .u8 0, .int .u8 0, .int .u8 0, .int .u8 0, .int .u8 0, .int .u8 0, .int .u8 0, .int .u8 0, .int .u8 0, .int .u8 0] 183)).alloc (.cells #[.int .u8 0, .int .u8 0, .int .u8 0, .int .u8 0, .int .u8 0, .int .u8 0, .int .u8 0, .int .u8 0, .int .u8 0, .int .u8 0, .int .u8 0, .int .u8 0, .int .u8 0, .int .u8 0, .int .u8 0, .int .u8 0] 183)).alloc (.cells #[.int .u8 0, .int .u8 0, .int .u8 0, .int .u8 0, .int .u8 0, .int .u8 0, .int .u8 0, .int .u8 0, .int .u8 0, .int .u8 0, .int .u8 0, .int .u8 0, .int .u8 0, .int .u8 0, .int .u8 0, .int .u8 0] 183))) := ((((Gr.refl w).alloc _).alloc _).alloc _).alloc _
  have e0 : (((((w.alloc (.cells #[.int .u8 0, .int .u8 0, .int .u8 0, .int .u8 0, .int .u8 0, .int .u8 0, .int .u8 0, .int .u8 0, .int .u8 0, .int .u8 0, .int .u8 0, .int .u8 0, .int .u8 0, .int .u8 0, .int .u8 0, .int .u8 0] 183)).alloc (.cells #[.int .u8 0, .int .u8 0, .int .u8 0, .int .u8 0, .int .u8 0, .int .u8 0, .int .u8 0, .int .u8 0, .int .u8 0, .int .u8 0, .int .u8 0, .int .u8 0, .int .u8 0, .int .u8 0, .int .u8 0, .int .u8 0] 183)).alloc (.cells #[.int .u8 0, .int .u8 0, .int .u8 0, .int .u8 0, .int .u8 0, .int .u8 0, .int .u8 0, .int .u8 0, .int .u8 0, .int .u8 0, .int .u8 0, .int .u8 0, .int .u8 0, .int .u8 0, .int .u8 0, .int .u8 0] 183)).alloc (.cells #[.int .u8 0, .int .u8 0, .int .u8 0, .int .u8 0, .int .u8 0, .int .u8 0, .int .u8 0, .int .u8 0, .int .u8 0, .int .u8 0, .int .u8 0, .int .u8 0, .int .u8 0, .int .u8 0, .int .u8 0, .int .u8 0] 183))).heap[w.heap.size]? = some (.cells (arr (fun _ => 0)) 183) := by
    have := Gr.heap ((((Gr.refl _).alloc (.cells #[.int .u8 0, .int .u8 0, .int .u8 0, .int .u8 0, .int .u8 0, .int .u8 0, .int .u8 0, .int .u8 0, .int .u8 0, .int .u8 0, .int .u8 0, .int .u8 0, .int .u8 0, .int .u8 0, .int .u8 0, .int .u8 0] 183)).alloc (.cells #[.int .u8 0, .int .u8 0, .int .u8 0, .int .u8 0, .int .u8 0, .int .u8 0, .int .u8 0, .int .u8 0, .int .u8 0, .int .u8 0, .int .u8 0, .int .u8 0, .int .u8 0, .int .u8 0, .int .u8 0, .int .u8 0] 183)).alloc (.cells #[.int .u8 0, .int .u8 0, .int .u8 0, .int .u8 0, .int .u8 0, .int .u8 0, .int .u8 0, .int .u8 0, .int .u8 0, .int .u8 0, .int .u8 0, .int .u8 0, .int .u8 0, .int .u8 0, .int .u8 0, .int .u8 0] 183)) (heap_alloc_new w (.cells #[.int .u8 0, .int .u8 0, .int .u8 0, .int .u8 0, .int .u8 0, .int .u8 0, .int .u8 0, .int .u8 0, .int .u8 0, .int .u8 0, .int .u8 0, .int .u8 0, .int .u8 0, .int .u8 0, .int .u8 0, .int .u8 0] 183))
    exact this
  have e1 : (((((w.alloc (.cells #[.int .u8 0, .int .u8 0, .int .u8 0, .int .u8 0, .int .u8 0, .int .u8 0, .int .u8 0, .int .u8 0, .int .u8 0, .int .u8 0, .int .u8 0, .int .u8 0, .int .u8 0, .int .u8 0, .int .u8 0, .int .u8 0] 183)).alloc (.cells #[.int .u8 0, .int .u8 0, .int .u8 0, .int .u8 0, .int .u8 0, .int .u8 0, .int .u8 0, .int .u8 0, .int .u8 0, .int .u8 0, .int .u8 0, .int .u8 0, .int .u8 0, .int .u8 0, .int .u8 0, .int .u8 0] 183)).alloc (.cells #[.int .u8 0, .int .u8 0, .int .u8 0, .int .u8 0, .int .u8 0, .int .u8 0, .int .u8 0, .int .u8 0, .int .u8 0, .int .u8 0, .int .u8 0, .int .u8 0, .int .u8 0, .int .u8 0, .int .u8 0, .int .u8 0] 183)).alloc (.cells #[.int .u8 0, .int .u8 0, .int .u8 0, .int .u8 0, .int .u8 0, .int .u8 0, .int .u8 0, .int .u8 0, .int .u8 0, .int .u8 0, .int .u8 0, .int .u8 0, .int .u8 0, .int .u8 0, .int .u8 0, .int .u8 0] 183))).heap[w.heap.size + 1]? = some (.cells (arr (fun _ => 0)) 183) := by
    have := Gr.heap (((Gr.refl _).alloc (.cells #[.int .u8 0, .int .u8 0, .int .u8 0, .int .u8 0, .int .u8 0, .int .u8 0, .int .u8 0, .int .u8 0, .int .u8 0, .int .u8 0, .int .u8 0, .int .u8 0, .int .u8 0, .int .u8 0, .int .u8 0, .int .u8 0] 183)).alloc (.cells #[.int .u8 0, .int .u8 0, .int .u8 0, .int .u8 0, .int .u8 0, .int .u8 0, .int .u8 0, .int .u8 0, .int .u8 0, .int .u8 0, .int .u8 0, .int .u8 0, .int .u8 0, .int .u8 0, .int .u8 0, .int .u8 0] 183)) (heap_alloc_new ((w.alloc (.cells #[.int .u8 0, .int .u8 0, .int .u8 0, .int .u8 0, .int .u8 0, .int .u8 0, .int .u8 0, .int .u8 0, .int .u8 0, .int .u8 0, .int .u8 0, .int .u8 0, .int .u8 0, .int .u8 0, .int .u8 0, .int .u8 0] 183))) (.cells #[.int .u8 0, .int .u8 0, .int .u8 0, .int .u8 0, .int .u8 0, .int .u8 0, .int .u8 0, .int .u8 0, .int .u8 0, .int .u8 0, .int .u8 0, .int .u8 0, .int .u8 0, .int .u8 0, .int .u8 0, .int .u8 0] 183))
    rw [World.size_alloc] at this
    exact this
  have e2 : (((((w.alloc (.cells #[.int .u8 0, .int .u8 0, .int .u8 0, .int .u8 0, .int .u8 0, .int .u8 0, .int .u8 0, .int .u8 0, .int .u8 0, .int .u8 0, .int .u8 0, .int .u8 0, .int .u8 0, .int .u8 0, .int .u8 0, .int .u8 0] 183)).alloc (.cells #[.int .u8 0, .int .u8 0, .int .u8 0, .int .u8 0, .int .u8 0, .int .u8 0, .int .u8 0, .int .u8 0, .int .u8 0, .int .u8 0, .int .u8 0, .int .u8 0, .int .u8 0, .int .u8 0, .int .u8 0, .int .u8 0] 183)).alloc (.cells #[.int .u8 0, .int .u8 0, .int .u8 0, .int .u8 0, .int .u8 0, .int .u8 0, .int .u8 0, .int .u8 0, .int .u8 0, .int .u8 0, .int .u8 0, .int .u8 0, .int .u8 0, .int .u8 0, .int .u8 0, .int .u8 0] 183)).alloc (.cells #[.int .u8 0, .int .u8 0, .int .u8 0, .int .u8 0, .int .u8 0, .int .u8 0, .int .u8 0, .int .u8 0, .int .u8 0, .int .u8 0, .int .u8 0, .int .u8 0, .int .u8 0, .int .u8 0, .int .u8 0, .int .u8 0] 183))).heap[w.heap.size + 2]? = some (.cells (arr (fun _ => 0)) 183) := by
    have := Gr.heap ((Gr.refl _).alloc (.cells #[.int .u8 0, .int .u8 0, .int .u8 0, .int .u8 0, .int .u8 0, .int .u8 0, .int .u8 0, .int .u8 0, .int .u8 0, .int .u8 0, .int .u8 0, .int .u8 0, .int .u8 0, .int .u8 0, .int .u8 0, .int .u8 0] 183)) (heap_alloc_new (((w.alloc (.cells #[.int .u8 0, .int .u8 0, .int .u8 0, .int .u8 0, .int .u8 0, .int .u8 0, .int .u8 0, .int .u8 0, .int .u8 0, .int .u8 0, .int .u8 0, .int .u8 0, .int .u8 0, .int .u8 0, .int .u8 0, .int .u8 0] 183)).alloc (.cells #[.int .u8 0, .int .u8 0, .int .u8 0, .int .u8 0, .int .u8 0, .int .u8 0, .int .u8 0, .int .u8 0, .int .u8 0, .int .u8 0, .int .u8 0, .int .u8 0, .int .u8 0, .int .u8 0, .int .u8 0, .int .u8 0] 183))) (.cells #[.int .u8 0, .int .u8 0, .int .u8 0, .int .u8 0, .int .u8 0, .int .u8 0, .int .u8 0, .int .u8 0, .int .u8 0, .int .u8 0, .int .u8 0, .int .u8 0, .int .u8 0, .int .u8 0, .int .u8 0, .int .u8 0] 183))
    rw [World.size_alloc, World.size_alloc] at this
    exact this
  have e3 : (((((w.alloc (.cells #[.int .u8 0, .int .u8 0, .int .u8 0, .int .u8 0, .int .u8 0, .int .u8 0, .int .u8 0, .int .u8 0, .int .u8 0, .int .u8 0, .int .u8 0, .int .u8 0, .int .u8 0, .int .u8 0, .int .u8 0, .int .u8 0] 183)).alloc (.cells #[.int .u8 0, .int .u8 0, .int .u8 0, .int .u8 0, .int .u8 0, .int .u8 0, .int .u8 0, .int .u8 0, .int .u8 0, .int .u8 0, .int .u8 0, .int .u8 0, .int .u8 0, .int .u8 0, .int .u8 0, .int .u8 0] 183)).alloc (.cells #[.int .u8 0, .int .u8 0, .int .u8 0, .int .u8 0, .int .u8 0, .int .u8 0, .int .u8 0, .int .u8 0, .int .u8 0, .int .u8 0, .int .u8 0, .int .u8 0, .int .u8 0, .int .u8 0, .int .u8 0, .int .u8 0] 183)).alloc (.cells #[.int .u8 0, .int .u8 0, .int .u8 0, .int .u8 0, .int .u8 0, .int .u8 0, .int .u8 0, .int .u8 0, .int .u8 0, .int .u8 0, .int .u8 0, .int .u8 0, .int .u8 0, .int .u8 0, .int .u8 0, .int .u8 0] 183))).heap[w.heap.size + 3]? = some (.cells (arr (fun _ => 0)) 183) := by
    have := heap_alloc_new ((((w.alloc (.cells #[.int .u8 0, .int .u8 0, .int .u8 0, .int .u8 0, .int .u8 0, .int .u8 0, .int .u8 0, .int .u8 0, .int .u8 0, .int .u8 0, .int .u8 0, .int .u8 0, .int .u8 0, .int .u8 0, .int .u8 0, .int .u8 0] 183)).alloc (.cells #[.int .u8 0, .int .u8 0, .int .u8 0, .int .u8 0, .int .u8 0, .int .u8 0, .int .u8 0, .int .u8 0, .int .u8 0, .int .u8 0, .int .u8 0, .int .u8 0, .int .u8 0, .int .u8 0, .int .u8 0, .int .u8 0] 183)).alloc (.cells #[.int .u8 0, .int .u8 0, .int .u8 0, .int .u8 0, .int .u8 0, .int .u8 0, .int .u8 0, .int .u8 0, .int .u8 0, .int .u8 0, .int .u8 0, .int .u8 0, .int .u8 0, .int .u8 0, .int .u8 0, .int .u8 0] 183))) (.cells #[.int .u8 0, .int .u8 0, .int .u8 0, .int .u8 0, .int .u8 0, .int .u8 0, .int .u8 0, .int .u8 0, .int .u8 0, .int .u8 0, .int .u8 0, .int .u8 0, .int .u8 0, .int .u8 0, .int .u8 0, .int .u8 0] 183)
    rw [World.size_alloc, World.size_alloc, World.size_alloc] at this
    exact this
  have hsz4 : (((((w.alloc (.cells #[.int .u8 0, .int .u8 0, .int .u8 0, .int .u8 0, .int .u8 0, .int .u8 0, .int .u8 0, .int .u8 0, .int .u8 0, .int .u8 0, .int .u8 0, .int .u8 0, .int .u8 0, .int .u8 0, .int .u8 0, .int .u8 0] 183)).alloc (.cells #[.int .u8 0, .int .u8 0, .int .u8 0, .int .u8 0, .int .u8 0, .int .u8 0, .int .u8 0, .int .u8 0, .int .u8 0, .int .u8 0, .int .u8 0, .int .u8 0, .int .u8 0, .int .u8 0, .int .u8 0, .int .u8 0] 183)).alloc (.cells #[.int .u8 0, .int .u8 0, .int .u8 0, .int .u8 0, .int .u8 0, .int .u8 0, .int .u8 0, .int .u8 0, .int .u8 0, .int .u8 0, .int .u8 0, .int .u8 0, .int .u8 0, .int .u8 0, .int .u8 0, .int .u8 0] 183)).alloc (.cells #[.int .u8 0, .int .u8 0, .int .u8 0, .int .u8 0, .int .u8 0, .int .u8 0, .int .u8 0, .int .u8 0, .int .u8 0, .int .u8 0, .int .u8 0, .int .u8 0, .int .u8 0, .int .u8 0, .int .u8 0, .int .u8 0] 183))).heap.size = w.heap.size + 4 := by simp
  obtain ⟨W0, eW⟩ : ∃ W, ((((w.alloc (.cells #[.int .u8 0, .int .u8 0, .int .u8 0, .int .u8 0, .int .u8 0, .int .u8 0, .int .u8 0, .int .u8 0, .int .u8 0, .int .u8 0, .int .u8 0, .int .u8 0, .int .u8 0, .int .u8 0, .int .u8 0, .int .u8 0] 183)).alloc (.cells #[.int .u8 0, .int .u8 0, .int .u8 0, .int .u8 0, .int .u8 0, .int .u8 0, .int .u8 0, .int .u8 0, .int .u8 0, .int .u8 0, .int .u8 0, .int .u8 0, .int .u8 0, .int .u8 0, .int .u8 0, .int .u8 0] 183)).alloc (.cells #[.int .u8 0, .int .u8 0, .int .u8 0, .int .u8 0, .int .u8 0, .int .u8 0, .int .u8 0, .int .u8 0, .int .u8 0, .int .u8 0, .int .u8 0, .int .u8 0, .int .u8 0, .int .u8 0, .int .u8 0, .int .u8 0] 183)).alloc (.cells #[.int .u8 0, .int .u8 0, .int .u8 0, .int .u8 0, .int .u8 0, .int .u8 0, .int .u8 0, .int .u8 0, .int .u8 0, .int .u8 0, .int .u8 0, .int .u8 0, .int .u8 0, .int .u8 0, .int .u8 0, .int .u8 0] 183)) = W := ⟨_, rfl⟩
  rw [eW] at hw4 e0 e1 e2 e3 hsz4 ⊢
  clear eW
  have E0 := Lib.hid e0
  have E1 := Lib.hid e1
  have E2 := Lib.hid e2
  have E3 := Lib.hid e3
  have HW4 := Lib.hid hw4
  clear e0 e1 e2 e3 hw4
  obtain ⟨B3, eB3⟩ : ∃ b, w.heap.size + 1 + 1 + 1 = b := ⟨_, rfl⟩
  obtain ⟨B2, eB2⟩ : ∃ b, w.heap.size + 1 + 1 = b := ⟨_, rfl⟩
  obtain ⟨B1, eB1⟩ : ∃ b, w.heap.size + 1 = b := ⟨_, rfl⟩
  obtain ⟨B0, eB0⟩ : ∃ b, w.heap.size = b := ⟨_, rfl⟩
  have hB1 : B0 < B1 := by omega
  have hB2 : B1 < B2 := by omega
  have hB3 : B2 < B3 := by omega
  have hBw : w.heap.size ≤ B0 := by omega
  rw [show w.heap.size + 3 = B3 by omega] at E3
  rw [show w.heap.size + 2 = B2 by omega] at E2
  rw [show w.heap.size + 1 = B1 by omega] at E1
  rw [eB0] at E0
  rw [eB3, eB2, eB1, eB0]
  clear eB3 eB2 eB1 eB0 hsz4
  go_loopw [7] (fun i wr => ∃ j : Nat, j ≤ 16 ∧ i = .int .i64 j ∧ (wr.heap[B2]? = some (.cells (arr (upto (loT c) j)) 183)) ∧ (wr.heap[B3]? = some (.cells (arr (upto (hiT c) j)) 183)) ∧ GrC W0 B2 B3 wr) (fun i _ => 16 - (intOf i).toNat)
  case atStart => exact ⟨0, by omega, rfl, by rw [arr_upto0]; exact E2.out, by rw [arr_upto0]; exact E3.out, GrC.refl _ _ _⟩
  case round =>
    obtain ⟨j, hj, rfl, h2, h3, hg⟩ := hrel
    by_cases hlt : j < 16
    · have H2 := Lib.hid h2
      have H3 := Lib.hid h3
      have HG := Lib.hid hg
      have hjt : (j : Int) < 16 := by omega
      have hsr := lt_of_block h3
      clear h2 h3 hg
      go_wp2_with fail
      refine (mul_two c j hc (by omega) wr).mono ?_
      rintro e w5 ⟨rfl, hw5⟩
      have hg5 : Gr wr w5 := by rw [← hw5]; exact (Gr.refl wr).alloc _
      have h25 := hg5.heap H2.out
      have h35 := hg5.heap H3.out
      obtain ⟨cc, cf⟩ := arr_cell h25 j hlt
      obtain ⟨s1, s2⟩ := arr_store h25 hlt
      have hs5 := lt_of_block h35
      rw [← show loT c j = fmul c j from rfl]
      have HS1 := Lib.hid s1
      have HS2 := Lib.hid s2
      have HG5 := Lib.hid (HG.out.trans ((GrC.of_gr hg5).trans (GrC.of_grb s1)))
      have H35 := Lib.hid (s1.heap h35 (by omega))
      obtain ⟨U, eU⟩ : ∃ U, j * 16 = U := ⟨_, rfl⟩
      have hU : (j : Int) * 16 = (U : Int) := by omega
      have hUl : U < 256 := by omega
      have hHT : Hid (hiT c j = fmul c U) := by show fmul c (j * 16) = _; rw [eU]
      have hm := mul_two c U hc hUl (w5.setCell ⟨B2, j, none⟩ (.int .u8 (loT c j : Nat)))
      have hzz : (w5.setCell ⟨B2, j, none⟩ (.int .u8 (loT c j : Nat))).heap.size = w5.heap.size := by simp [World.setCell]
      rw [hzz] at hm
      have HM := Lib.hid hm
      clear hw5 hg5 h25 h35 s1 s2 eU hm hzz
      go_wp2_with fail
      refine HM.out.mono ?_
      rintro e w6 ⟨rfl, hw6⟩
      have hg6 : Gr (w5.setCell ⟨B2, j, none⟩ (.int .u8 (loT c j : Nat))) w6 := by rw [← hw6]; exact (Gr.refl _).alloc _
      have h36 := hg6.heap H35.out
      have h26 := hg6.heap HS2.out
      obtain ⟨dc, df⟩ := arr_cell h36 j hlt
      obtain ⟨s1, s2⟩ := arr_store h36 hlt
      rw [← hHT.out]
      have hfin := Lib.hid (show _ ∧ _ ∧ _ from ⟨s1.heap h26 (by omega), s2, (HG5.out.trans (GrC.of_gr hg6)).trans (GrC.of_grb' s1)⟩)
      clear hw6 hg6 h36 h26 s1 s2 cc cf
      go_wp2
      go_roundw
      case rel => exact ⟨j + 1, by omega, by go_num, hfin.out.1, hfin.out.2.1, hfin.out.2.2⟩
      case measure => simp [intOf]; omega
    · have hj16 : j = 16 := by omega
      have hjt : (16 : Int) ≤ (j : Int) := by omega
      rw [hj16, arr_full] at h2 h3
      have hg0 : Gr w wr := GrC.gr HW4.out hg (by omega) (by omega)
      have H0 := hg.heap E0.out (by omega) (by omega)
      have H1 := hg.heap E1.out (by omega) (by omega)
      have H2 := Lib.hid h2
      have H3 := Lib.hid h3
      have HG0 := Lib.hid hg0
      clear h2 h3 hg hg0 E0 E1 E2 E3 hlt hj16 HW4
      have E0 := Lib.hid H0
      have E1 := Lib.hid H1
      clear H0 H1
      go_wp2
      refine wp_region_rg [spV (.agg (arr (loT c))), spV (.agg (arr (hiT c))), .any Unit () (fun _ => undef) (fun _ W => W.heap[B0]? = some (.cells (arr (loT c)) 183)), .any Unit () (fun _ => undef) (fun _ W => W.heap[B1]? = some (.cells (arr (hiT c)) 183))] (StC B0 B1 (.cells (arr (fun _ => 0)) 183) (.cells (arr (loT c)) 183) (.cells (arr (fun _ => 0)) 183) (.cells (arr (hiT c)) 183)) (by kernel_rfl) (by kernel_rfl) (StC.refl _ _ _ _ _ _) StC.trans ?_
      refine wpRG_any rfl (fun _ _ _ _ h => h) (fun W hw hF R hR => ?_) ?_
      · refine rgAt_load_arr (.tmp 4) rfl _ rfl (loT c) _ (hw.1.heap (H2.out) (by omega) (by omega)) ?_
        exact hR () _ (StC.refl _ _ _ _ _ _ _) trivial
      rintro ⟨⟩
      (simp only [Act.put, List.setIfInBounds_toArray, List.set_cons_zero, List.set_cons_succ])
      refine wpRG_any rfl (fun _ _ _ _ h => h) (fun W hw hF R hR => ?_) ?_
      · refine rgAt_load_arr (.tmp 5) rfl _ rfl (hiT c) _ (hw.1.heap (H3.out) (by omega) (by omega)) ?_
        exact hR () _ (StC.refl _ _ _ _ _ _ _) trivial
      rintro ⟨⟩
      (simp only [Act.put, List.setIfInBounds_toArray, List.set_cons_zero, List.set_cons_succ])
      refine wpRG_any rfl (fun x w w' hg h => hg.2.1.2 h) (fun W hw hF R hR => ?_) ?_
      · rcases hw.2.1.1 E0.out with h | h
        · skip
          refine rgAt_store_arr (.tmp 2) (.tmp 26) rfl B0 _ (loT c) rfl rfl _ h ?_
          obtain ⟨g1, g2⟩ := setRow_grb (cs := arr (loT c)) h
          exact hR () _ (StC.first g1 g2 (by omega)) g2
        · skip
          refine rgAt_store_arr (.tmp 2) (.tmp 26) rfl B0 _ (loT c) rfl rfl _ h ?_
          obtain ⟨g1, g2⟩ := setRow_grb (cs := arr (loT c)) h
          exact hR () _ (StC.first g1 g2 (by omega)) g2
      rintro ⟨⟩
      (simp only [Act.put])
      refine wpRG_any rfl (fun x w w' hg h => hg.2.2.2 h) (fun W hw hF R hR => ?_) ?_
      · rcases hw.2.2.1 E1.out with h | h
        · skip
          refine rgAt_store_arr (.tmp 3) (.tmp 27) rfl B1 _ (hiT c) rfl rfl _ h ?_
          obtain ⟨g1, g2⟩ := setRow_grb (cs := arr (hiT c)) h
          exact hR () _ (StC.second g1 g2 (by omega)) g2
        · skip
          refine rgAt_store_arr (.tmp 3) (.tmp 27) rfl B1 _ (hiT c) rfl rfl _ h ?_
          obtain ⟨g1, g2⟩ := setRow_grb (cs := arr (hiT c)) h
          exact hR () _ (StC.second g1 g2 (by omega)) g2
      rintro ⟨⟩
      (simp only [Act.put])
      refine wpRG_end fun W hw hF => ?_
      have f2 : W.heap[B0]? = some (.cells (arr (loT c)) 183) := hF 2
      have f3 : W.heap[B1]? = some (.cells (arr (hiT c)) 183) := hF 3
      have hgW : Gr w W := GrC.gr HG0.out.drew hw.1 (by omega) (by omega)
      clear hF hw
      refine wpList_nil ?_
      have r0 := run_loadVar_row (P := Tryz.prog) W B0 _ 183 (arr (loT c)) (0, 0) _ f2 Tryz.underlying183 rfl (by rw [infoArr, arr_size])
      have r1 := run_loadVar_row (P := Tryz.prog) W B1 _ 183 (arr (hiT c)) (0, 0) _ f3 Tryz.underlying183 rfl (by rw [infoArr, arr_size])
      clear f2 f3
      have R0 := Lib.hid r0
      have R1 := Lib.hid r1
      clear r0 r1
      go_wp2
      refine bodyPost_ret (v := .tuple #[.agg (arr (loT c)), .agg (arr (hiT c))]) ?_ rfl ⟨rfl, hgW⟩
      have r0 := R0.out
      have r1 := R1.out
      simp [results, Tryz.results109, asAddr, r0, r1]
end Go.Proofs.YtddopoojmadpjaaGreatDoor

namespace Go.Proofs.YtddopoojmadpjaaGreatDoor
open Go.RowKit
set_option linter.unusedVariables false

/-- a byte's product; a row's, added to a sum. -/
def mulB (c : Nat) (r : UInt8) : UInt8 := UInt8.ofNat (fmul c r.toNat)
def putL (c : Nat) (S R : List UInt8) : List UInt8 := List.zipWith (fun s r => s ^^^ mulB c r) S R
def putTo (c : Nat) (S R : List UInt8) (j : Nat) : List UInt8 := (putL c S R).take j ++ S.drop j
theorem putL_length {c : Nat} {S R : List UInt8} (h : S.length = R.length) : (putL c S R).length = S.length := by simp [putL, h]
theorem putTo_zero (c : Nat) (S R : List UInt8) : putTo c S R 0 = S := by simp [putTo]
theorem putTo_all {c : Nat} {S R : List UInt8} (h : S.length = R.length) {n : Nat} (hn : S.length = n) : putTo c S R n = putL c S R := by
  rw [putTo, List.take_of_length_le (by rw [putL_length h]; omega), List.drop_eq_nil_of_le (by omega), List.append_nil]
theorem putTo_length {c : Nat} {S R : List UInt8} (h : S.length = R.length) {j : Nat} (hj : j ≤ S.length) : (putTo c S R j).length = S.length := by
  rw [putTo, List.length_append, List.length_take, List.length_drop, putL_length h]; omega
theorem putTo_get {c : Nat} {S R : List UInt8} (h : S.length = R.length) {j : Nat} (hj : j < S.length) : (putTo c S R j)[j]? = S[j]? := by
  rw [putTo, List.getElem?_append_right (by rw [List.length_take]; omega), List.length_take, putL_length h, Nat.min_eq_left (by omega), Nat.sub_self, List.getElem?_drop, Nat.add_zero]
theorem putTo_set {c : Nat} {S R : List UInt8} (h : S.length = R.length) {j : Nat} (hj : j < S.length) {s r : UInt8} (hs : S[j]? = some s) (hr : R[j]? = some r) : (putTo c S R j).set j (s ^^^ mulB c r) = putTo c S R (j + 1) := by
  apply List.ext_getElem?
  intro i
  rw [List.getElem?_set]
  have hz : (putL c S R)[j]? = some (s ^^^ mulB c r) := by simp [putL, List.getElem?_zipWith, hs, hr]
  by_cases hi : j = i
  · subst hi
    rw [if_pos rfl, if_pos (by rw [putTo_length h (by omega)]; exact hj), putTo, List.getElem?_append_left (by rw [List.length_take, putL_length h]; omega), List.getElem?_take, if_pos (by omega), hz]
  · rw [if_neg hi]
    by_cases h2 : i < j
    · rw [putTo, putTo, List.getElem?_append_left (by rw [List.length_take, putL_length h]; omega), List.getElem?_append_left (by rw [List.length_take, putL_length h]; omega), List.getElem?_take, List.getElem?_take, if_pos h2, if_pos (by omega)]
    · rw [putTo, putTo, List.getElem?_append_right (by rw [List.length_take]; omega), List.getElem?_append_right (by rw [List.length_take]; omega), List.length_take, List.length_take, putL_length h, List.getElem?_drop, List.getElem?_drop]
      congr 1; omega
theorem halves16 : ∀ x, x < 256 → x % 16 ^^^ x / 16 * 16 = x := by decide +kernel
theorem half_mul (c x : Nat) (hx : x < 256) : loT c (x % 16) ^^^ hiT c (x / 16) = fmul c x := by
  rw [loT, hiT, ← fmul_xor', halves16 x hx]
theorem u8_and15 (x : Nat) (hx : x < 256) : bits .and .u8 (x : Int) 15 = ((x % 16 : Nat) : Int) := by
  have h := u8_and_nat x 15 hx (by decide)
  rw [show x &&& 15 = x % 16 from Nat.and_two_pow_sub_one_eq_mod x 4] at h
  exact h
theorem put_byte (c : Nat) (hc : c < 256) (s r : UInt8) : bits .xor .u8 (s.toNat : Int) (fmul c r.toNat : Nat) = ((s ^^^ mulB c r).toNat : Int) := by
  rw [u8_xor_nat _ _ s.toNat_lt (fmul_lt hc _), UInt8.toNat_xor, mulB, UInt8.toNat_ofNat', Nat.mod_eq_of_lt (fmul_lt hc _)]
theorem OwnB.mid {w w' : World} {base g len cap b : Nat} {l : List UInt8} (h : OwnB w base g len cap l) (hb : GrB w b w') (hne : g ≠ b) : OwnB w' base g len cap l := by
  refine ⟨h.1, ?_⟩
  rcases h.2 with hn | ⟨g', cap', cur, hv, hg, hh, r⟩
  · exact .inl hn
  · cases hv
    exact .inr ⟨g, cap, cur, rfl, hg, hb.heap hh hne, r⟩

set_option maxRecDepth 100000 in
set_option maxHeartbeats 2000000 in
theorem put_any (c : Nat) (hc : c < 256) (base g n cap : Nat) (S : List UInt8) (a : Option Addr) (cap' : Nat) (R : List UInt8) (w : World) (hS : OwnB w base g n cap S) (hR : Bs w a n cap' R) (hne : ∀ x, a = some x → x.block ≠ g) :
    Calls Tryz.prog 69 #[.slice (some ⟨g, 0, none⟩) n cap, .int .u8 (c : Int), .slice a n cap'] w fun e w' => e = .returned (.tuple #[]) ∧ OwnB w' base g n cap (putL c S R) ∧ GrB w g w' := by
  have hm : n ≤ 9223372036854775807 := by have h1 := hR.2.1; have h2 := hR.2.2.1; unfold maxLen at h2; omega
  have hcap : (n : Int) ≤ (cap : Int) := by have := hS.cap; omega
  have HS := Lib.hid hS
  have HR := Lib.hid hR
  have hSl := hS.len
  have hSR : S.length = R.length := by rw [hSl, hR.1]
  have HSL := Lib.hid hSl
  have HSR := Lib.hid hSR
  have hgw := hS.base_le.2
  clear hS hR hSl hSR
  go_enter Tryz.func69, Tryz.ntmps69
  go_wp2_with fail
  refine (halves_any c hc w).mono ?_
  rintro e w1 ⟨rfl, hg1⟩
  go_wp2_with (with_reducible refine wpList_hold (o := ⟨none, .store 183 _ _, _, _, _, _⟩) ?_)
  change wpList _ _ _ _ _ _
  have hl1 := ((Gr.refl w1).alloc (.cells #[.int .u8 0, .int .u8 0, .int .u8 0, .int .u8 0, .int .u8 0, .int .u8 0, .int .u8 0, .int .u8 0, .int .u8 0, .int .u8 0, .int .u8 0, .int .u8 0, .int .u8 0, .int .u8 0, .int .u8 0, .int .u8 0] 183)).alloc (.cells #[.int .u8 0, .int .u8 0, .int .u8 0, .int .u8 0, .int .u8 0, .int .u8 0, .int .u8 0, .int .u8 0, .int .u8 0, .int .u8 0, .int .u8 0, .int .u8 0, .int .u8 0, .int .u8 0, .int .u8 0, .int .u8 0] 183)
  have e0 : ((w1.alloc (.cells #[.int .u8 0, .int .u8 0, .int .u8 0, .int .u8 0, .int .u8 0, .int .u8 0, .int .u8 0, .int .u8 0, .int .u8 0, .int .u8 0, .int .u8 0, .int .u8 0, .int .u8 0, .int .u8 0, .int .u8 0, .int .u8 0] 183)).alloc (.cells #[.int .u8 0, .int .u8 0, .int .u8 0, .int .u8 0, .int .u8 0, .int .u8 0, .int .u8 0, .int .u8 0, .int .u8 0, .int .u8 0, .int .u8 0, .int .u8 0, .int .u8 0, .int .u8 0, .int .u8 0, .int .u8 0] 183)).heap[w1.heap.size]? = some (.cells (arr fun _ => 0) 183) := Gr.heap ((Gr.refl _).alloc (.cells #[.int .u8 0, .int .u8 0, .int .u8 0, .int .u8 0, .int .u8 0, .int .u8 0, .int .u8 0, .int .u8 0, .int .u8 0, .int .u8 0, .int .u8 0, .int .u8 0, .int .u8 0, .int .u8 0, .int .u8 0, .int .u8 0] 183)) (heap_alloc_new w1 (.cells #[.int .u8 0, .int .u8 0, .int .u8 0, .int .u8 0, .int .u8 0, .int .u8 0, .int .u8 0, .int .u8 0, .int .u8 0, .int .u8 0, .int .u8 0, .int .u8 0, .int .u8 0, .int .u8 0, .int .u8 0, .int .u8 0] 183))
  have e1 : ((w1.alloc (.cells #[.int .u8 0, .int .u8 0, .int .u8 0, .int .u8 0, .int .u8 0, .int .u8 0, .int .u8 0, .int .u8 0, .int .u8 0, .int .u8 0, .int .u8 0, .int .u8 0, .int .u8 0, .int .u8 0, .int .u8 0, .int .u8 0] 183)).alloc (.cells #[.int .u8 0, .int .u8 0, .int .u8 0, .int .u8 0, .int .u8 0, .int .u8 0, .int .u8 0, .int .u8 0, .int .u8 0, .int .u8 0, .int .u8 0, .int .u8 0, .int .u8 0, .int .u8 0, .int .u8 0, .int .u8 0] 183)).heap[w1.heap.size + 1]? = some (.cells (arr fun _ => 0) 183) := by
    have := heap_alloc_new (w1.alloc (.cells #[.int .u8 0, .int .u8 0, .int .u8 0, .int .u8 0, .int .u8 0, .int .u8 0, .int .u8 0, .int .u8 0, .int .u8 0, .int .u8 0, .int .u8 0, .int .u8 0, .int .u8 0, .int .u8 0, .int .u8 0, .int .u8 0] 183)) (.cells #[.int .u8 0, .int .u8 0, .int .u8 0, .int .u8 0, .int .u8 0, .int .u8 0, .int .u8 0, .int .u8 0, .int .u8 0, .int .u8 0, .int .u8 0, .int .u8 0, .int .u8 0, .int .u8 0, .int .u8 0, .int .u8 0] 183)
    rw [World.size_alloc] at this
    exact this
  have hs1 := hg1.size
  obtain ⟨W1, eW⟩ : ∃ W, (w1.alloc (.cells #[.int .u8 0, .int .u8 0, .int .u8 0, .int .u8 0, .int .u8 0, .int .u8 0, .int .u8 0, .int .u8 0, .int .u8 0, .int .u8 0, .int .u8 0, .int .u8 0, .int .u8 0, .int .u8 0, .int .u8 0, .int .u8 0] 183)).alloc (.cells #[.int .u8 0, .int .u8 0, .int .u8 0, .int .u8 0, .int .u8 0, .int .u8 0, .int .u8 0, .int .u8 0, .int .u8 0, .int .u8 0, .int .u8 0, .int .u8 0, .int .u8 0, .int .u8 0, .int .u8 0, .int .u8 0] 183) = W := ⟨_, rfl⟩
  rw [eW] at hl1 e0 e1 ⊢
  obtain ⟨B1, eB1⟩ : ∃ b, w1.heap.size + 1 = b := ⟨_, rfl⟩
  obtain ⟨B0, eB0⟩ : ∃ b, w1.heap.size = b := ⟨_, rfl⟩
  have hB01 : B0 < B1 := by omega
  have hwB : w.heap.size ≤ B0 := by omega
  rw [eB1] at e1
  rw [eB0] at e0
  rw [eB1, eB0]
  have h01 := hg1.trans hl1
  clear eW eB1 eB0 hg1 hl1 hs1
  refine wpList_store_row rfl 183 (.tmp 6) (.tmp 13) rfl B0 (arr (loT c)) rfl rfl _ _ e0 (by rw [infoArr, arr_size]) (by rw [arr_size, arr_size]) (arr_one _) ?_
  obtain ⟨s1, s2⟩ := setRow_grb (cs := arr (loT c)) e0
  have e1' := s1.heap e1 (by omega)
  obtain ⟨W2, eW⟩ : ∃ W, W1.setRow B0 (arr (loT c)) = W := ⟨_, rfl⟩
  rw [eW] at s1 s2 e1' ⊢
  refine wpList_store_row rfl 183 (.tmp 7) (.tmp 14) rfl B1 (arr (hiT c)) rfl rfl _ _ e1' (by rw [infoArr, arr_size]) (by rw [arr_size, arr_size]) (arr_one _) ?_
  obtain ⟨t1, t2⟩ := setRow_grb (cs := arr (hiT c)) e1'
  have e0' := t1.heap s2 (by omega)
  obtain ⟨W3, eW3⟩ : ∃ W, W2.setRow B1 (arr (hiT c)) = W := ⟨_, rfl⟩
  rw [eW3] at t1 t2 e0' ⊢
  have h03 : Gr w W3 := (h01.grb s1 hwB).grb t1 (by omega)
  have HLO := Lib.hid e0'
  have HHI := Lib.hid t2
  have HG3 := Lib.hid h03
  have hs3 := lt_of_block t2
  clear eW eW3 e0 e1 s1 s2 e1' t1 t2 e0' h01 h03
  go_wp2
  go_loopw [17] (fun i wr => ∃ j : Nat, j ≤ n ∧ i = .int .i64 j ∧ OwnB wr base g n cap (putTo c S R j) ∧ GrB W3 g wr) (fun i _ => n - (intOf i).toNat)
  case atStart => exact ⟨0, Nat.zero_le _, rfl, by rw [putTo_zero]; exact HS.out.gr HG3.out, GrB.refl _ _⟩
  case round =>
    obtain ⟨j, hj, rfl, hown, hgr⟩ := hrel
    by_cases hlt : j < n
    · have hRw := (HR.out.below HG3.out).grb hgr hne
      obtain ⟨b, off, rfl, _⟩ := hRw.at_ (by omega)
      obtain ⟨x, hx, hcx⟩ := hRw.get hlt
      obtain ⟨sv, hsv⟩ : ∃ s, S[j]? = some s := ⟨_, List.getElem?_eq_getElem (by have := HSL.out; omega)⟩
      have hcs := hown.cell (show (putTo c S R j)[j]? = some sv by rw [putTo_get HSR.out (by have := HSL.out; omega)]; exact hsv)
      have hfs := hown.free j
      have hset := putTo_set (c := c) HSR.out (by have := HSL.out; omega) hsv hx
      have hx8 := x.toNat_lt
      obtain ⟨l1, _⟩ := arr_cell (hgr.heap HLO.out (by omega)) (x.toNat % 16) (by omega)
      obtain ⟨l2, _⟩ := arr_cell (hgr.heap HHI.out (by omega)) (x.toNat / 16) (by omega)
      have hand := u8_and15 x.toNat hx8
      have hhalf := half_mul c x.toNat hx8
      have hput := put_byte c hc sv x
      have hlo : loT c (x.toNat % 16) < 256 := fmul_lt hc _
      have hhi : hiT c (x.toNat / 16) < 256 := fmul_lt hc _
      have hxor := u8_xor_nat (loT c (x.toNat % 16)) (hiT c (x.toNat / 16)) hlo hhi
      rw [hhalf] at hxor
      obtain ⟨new, enew⟩ : ∃ u, sv ^^^ mulB c x = u := ⟨_, rfl⟩
      rw [enew] at hput hset
      have hsto := hown.set j new
      have hgr2 := hgr.set (p := ⟨g, j, none⟩) (.inl rfl) (.int .u8 (new.toNat : Int))
      rw [hset] at hsto
      have HSTO := Lib.hid hsto
      have HGR2 := Lib.hid hgr2
      obtain ⟨xv, exv⟩ : ∃ v, x.toNat = v := ⟨_, rfl⟩
      rw [exv] at hcx hx8 l1 l2 hand hput hxor
      obtain ⟨p, ep⟩ : ∃ p, xv % 16 = p := ⟨_, rfl⟩
      obtain ⟨q, eq⟩ : ∃ q, xv / 16 = q := ⟨_, rfl⟩
      have hp : p < 16 := by omega
      have hq : q < 16 := by omega
      have hshr : (xv : Int) / 16 = (q : Int) := by omega
      rw [ep] at l1 hand hxor
      rw [eq] at l2 hxor
      obtain ⟨lv, elv⟩ : ∃ v, loT c p = v := ⟨_, rfl⟩
      obtain ⟨hv, ehv⟩ : ∃ v, hiT c q = v := ⟨_, rfl⟩
      obtain ⟨mv, emv⟩ : ∃ v, fmul c xv = v := ⟨_, rfl⟩
      rw [elv] at l1 hxor
      rw [ehv] at l2 hxor
      rw [emv] at hput hxor
      have hjn : (j : Int) < (n : Int) := by omega
      have hpi : (p : Int) < 16 := by omega
      have hqi : (q : Int) < 16 := by omega
      clear hRw hx hsv hown hgr hset hsto hgr2 exv ep eq elv ehv emv enew hhalf hlo hhi
      go_wp2
      go_region
      go_wp2
      go_roundw
      case rel => exact ⟨j + 1, by omega, by go_num, HSTO.out.gr ((Gr.refl _).drew), HGR2.out.gr ((Gr.refl _).drew)⟩
      case measure => simp [intOf]; omega
    · have hjn : j = n := by omega
      have hge : (n : Int) ≤ (j : Int) := by omega
      rw [hjn, putTo_all HSR.out HSL.out] at hown
      have hfin := (GrB.of_gr HG3.out).trans hgr
      clear hgr
      go_wp2
      first | go_ret | go_end0 | go_ret2
      exact ⟨rfl, hown, hfin⟩
end Go.Proofs.YtddopoojmadpjaaGreatDoor

namespace Go.Proofs.YtddopoojmadpjaaGreatDoor
open Go.RowKit
set_option linter.unusedVariables false

theorem one_cell {w : World} {b : Nat} {v : Value} {t : TypeId} (h : w.heap[b]? = some (.cells #[v] t)) : w.cell? ⟨b, 0, none⟩ = some v := by simp [World.cell?, h]

set_option maxRecDepth 100000 in
set_option maxHeartbeats 1000000 in
theorem indexRows_none (b off k cap n p : Nat) (ls : List (List UInt8)) (w : World) (h : Bss w (some ⟨b, off, none⟩) k cap ls) (hn : ∀ l ∈ ls, l.length = n) (hp : w.cell? ⟨p, 0, none⟩ = some (.int .i64 (n : Int))) :
    Calls Tryz.prog 89 #[.slice (some ⟨b, off, none⟩) k cap, .func (.func 108) #[] #[.pointer (some ⟨p, 0, none⟩)]] w fun e w' => e = .returned (.int .i64 (-1)) ∧ Gr w w' := by
  have hm : k ≤ 9223372036854775807 := by have h1 := h.2.1; have h2 := h.2.2.1; unfold maxLen at h2; omega
  have H := Lib.hid h
  have HN := Lib.hid hn
  have HP := Lib.hid hp
  clear h hn hp
  go_enter Tryz.func89, Tryz.ntmps89
  go_wp2
  go_loopw [8] (fun i wr => ∃ j : Nat, j ≤ k ∧ i = .int .i64 j ∧ Gr w wr) (fun i _ => k - (intOf i).toNat)
  case atStart => exact ⟨0, Nat.zero_le _, rfl, Gr.refl _⟩
  case round =>
    obtain ⟨j, hj, rfl, hgr⟩ := hrel
    by_cases hlt : j < k
    · obtain ⟨l, a', n', c', hl, hc, hb⟩ := (H.out.below hgr).get hlt
      have hn' : n' = n := by rw [← hb.1]; exact HN.out l (List.mem_of_getElem? hl)
      rw [hn'] at hc
      have hp := hgr.cell HP.out
      have hne : ((n : Int) != (n : Int)) = false := by simp
      clear hl hb hn'
      go_wp2
      go_roundw
      case rel => exact ⟨j + 1, by omega, by go_num, hgr⟩
      case measure => simp [intOf]; omega
    · have hge : (k : Int) ≤ (j : Int) := by omega
      go_wp2
      go_ret
      exact ⟨rfl, hgr⟩

set_option maxRecDepth 100000 in
set_option maxHeartbeats 1000000 in
theorem containsRows_none (b off k cap n p : Nat) (ls : List (List UInt8)) (w : World) (h : Bss w (some ⟨b, off, none⟩) k cap ls) (hn : ∀ l ∈ ls, l.length = n) (hp : w.cell? ⟨p, 0, none⟩ = some (.int .i64 (n : Int))) :
    Calls Tryz.prog 48 #[.slice (some ⟨b, off, none⟩) k cap, .func (.func 108) #[] #[.pointer (some ⟨p, 0, none⟩)]] w fun e w' => e = .returned (.bool false) ∧ Gr w w' := by
  have HC := Lib.hid (indexRows_none b off k cap n p ls w h hn hp)
  clear h hn hp
  go_enter Tryz.func48, Tryz.ntmps48
  go_wp2_with fail
  refine HC.out.mono ?_
  rintro e w1 ⟨rfl, hg⟩
  go_wp2
  go_ret
  exact ⟨rfl, hg⟩

set_option maxRecDepth 100000 in
set_option maxHeartbeats 2000000 in
theorem nought_ok (a : Option Addr) (k cap n : Nat) (ls : List (List UInt8)) (w : World) (h : Bss w a k cap ls) (hk : 1 ≤ k) (hn : ∀ l ∈ ls, l.length = n) (hn1 : 1 ≤ n) (hnm : n ≤ 1000000) :
    Calls Tryz.prog 68 #[.slice a k cap] w fun e w' => ∃ g, w.heap.size ≤ g ∧ e = .returned (.tuple #[.slice (some ⟨g, 0, none⟩) n n, .int .i64 0]) ∧ OwnB w' w.heap.size g n n (List.replicate n 0) ∧ Gr w w' := by
  have hm : k ≤ 9223372036854775807 := by have h1 := h.2.1; have h2 := h.2.2.1; unfold maxLen at h2; omega
  obtain ⟨b, off, rfl, _⟩ := h.at_ (by omega)
  obtain ⟨l0, a0, n0, c0, hl0, hc0, hb0⟩ := h.get (i := 0) (by omega)
  have hn0 : n0 = n := by rw [← hb0.1]; exact hn l0 (List.mem_of_getElem? hl0)
  rw [hn0] at hc0
  rw [Nat.add_zero] at hc0
  have hkt : ((k : Int) == 0) = false := by rw [beq_eq_false_iff_ne]; omega
  have hk0 : (0 : Int) < (k : Int) := by omega
  have H := Lib.hid h
  have HN := Lib.hid hn
  clear h hn hl0 hb0 hn0
  go_enter Tryz.func68, Tryz.ntmps68
  go_wp2_with fail
  have hal := (Gr.refl w).alloc (.cells #[.int .i64 (n : Int)] 3)
  have hP := heap_alloc_new w (.cells #[.int .i64 (n : Int)] 3)
  refine (containsRows_none b off k cap n w.heap.size ls _ (H.out.below hal) HN.out (one_cell hP)).mono ?_
  rintro e w1 ⟨rfl, hg⟩
  have hp1 := one_cell (hg.heap hP)
  have hgw := hal.trans hg
  obtain ⟨i0, hi0, hz0, hz1, hz2⟩ := info_parts infoByte
  clear hal hP hg
  go_wp2_with (at_make; refine wpList_make_full _ rfl (.tmp 17) (.tmp 17) 22 rfl w.heap.size 5 i0 (.int .u8 0) 1 Tryz.underlying22 hi0 hz0 hz1 .i64 .i64 (n : Int) (n : Int) n rfl rfl rfl rfl (by rw [hz2]; omega) (by unfold maxLen; omega) hgw.size ?_; intro w2 hown hgrow; rw [made_bytes] at hown; have hG : Gr w w2 := hgw.grown hgrow (fun k hk => by cases hk); clear hgrow)
  go_wp2
  first | go_ret | go_ret2
  exact ⟨_, hgw.size, rfl, hown, hG⟩
end Go.Proofs.YtddopoojmadpjaaGreatDoor

namespace Go.Proofs.YtddopoojmadpjaaGreatDoor
open Go.RowKit
set_option linter.unusedVariables false

/-- the rows times their bytes, added up, as far as j. -/
def combTo (C : List UInt8) (ls : List (List UInt8)) (n : Nat) : Nat → List UInt8
  | 0 => List.replicate n 0
  | j + 1 => putL (C.getD j 0).toNat (combTo C ls n j) (ls.getD j [])
def combL (C : List UInt8) (ls : List (List UInt8)) (n : Nat) : List UInt8 := combTo C ls n ls.length
theorem getD_mem {ls : List (List UInt8)} {j : Nat} (h : j < ls.length) : ls.getD j [] ∈ ls := by
  rw [List.getD_eq_getElem?_getD, List.getElem?_eq_getElem h]; exact List.getElem_mem h
theorem combTo_length {C : List UInt8} {ls : List (List UInt8)} {n : Nat} (hn : ∀ l ∈ ls, l.length = n) : ∀ j, j ≤ ls.length → (combTo C ls n j).length = n
  | 0, _ => by simp [combTo]
  | j + 1, h => by
    have ih := combTo_length (C := C) hn j (by omega)
    rw [combTo, putL_length (by rw [ih, hn _ (getD_mem (by omega))]), ih]
theorem combL_length {C : List UInt8} {ls : List (List UInt8)} {n : Nat} (hn : ∀ l ∈ ls, l.length = n) : (combL C ls n).length = n := combTo_length hn _ (Nat.le_refl _)

set_option maxRecDepth 100000 in
set_option maxHeartbeats 2000000 in
theorem comb_ok (ac : Option Addr) (cc : Nat) (C : List UInt8) (a : Option Addr) (k cap n : Nat) (ls : List (List UInt8)) (w : World) (hC : Bs w ac k cc C) (h : Bss w a k cap ls) (hk : 1 ≤ k) (hn : ∀ l ∈ ls, l.length = n) (hn1 : 1 ≤ n) (hnm : n ≤ 1000000) :
    Calls Tryz.prog 33 #[.slice ac k cc, .slice a k cap] w fun e w' => ∃ g, w.heap.size ≤ g ∧ e = .returned (.tuple #[.slice (some ⟨g, 0, none⟩) n n, .int .i64 0]) ∧ OwnB w' w.heap.size g n n (combL C ls n) ∧ Gr w w' := by
  have hm : k ≤ 9223372036854775807 := by have h1 := h.2.1; have h2 := h.2.2.1; unfold maxLen at h2; omega
  have hL := h.1
  have H := Lib.hid h
  have HC := Lib.hid hC
  have HN := Lib.hid hn
  have HL := Lib.hid hL
  have hkk : ((k : Int) != (k : Int)) = false := by simp
  clear h hC hn hL
  go_enter Tryz.func33, Tryz.ntmps33
  go_wp2_with fail
  refine (nought_ok a k cap n ls w H.out hk HN.out hn1 hnm).mono ?_
  rintro e w1 ⟨g, hgl, rfl, hown, hg1⟩
  have HG1 := Lib.hid hg1
  have HO := Lib.hid hown
  clear hown hg1
  go_wp2
  go_loopw [25] (fun i wr => ∃ j : Nat, j ≤ k ∧ i = .int .i64 j ∧ OwnB wr w.heap.size g n n (combTo C ls n j) ∧ GrB w1 g wr) (fun i _ => k - (intOf i).toNat)
  case atStart => exact ⟨0, Nat.zero_le _, rfl, HO.out, GrB.refl _ _⟩
  case round =>
    obtain ⟨j, hj, rfl, hown, hgr⟩ := hrel
    by_cases hlt : j < k
    · have hgw : Gr w wr := HG1.out.grb hgr hgl
      obtain ⟨b, off, rfl, _⟩ := (H.out.below hgw).at_ (by omega)
      obtain ⟨b2, off2, rfl, _⟩ := (HC.out.below hgw).at_ (by omega)
      obtain ⟨l, a', n', c', hl, hc, hb⟩ := (H.out.below hgw).get hlt
      obtain ⟨l2, a2, n2, c2, hl2, hc2, hb2⟩ := H.out.get hlt
      obtain ⟨x, hx, hcx⟩ := (HC.out.below hgw).get hlt
      have hcw := hgw.cell hc2
      rw [hcw] at hc
      simp only [Option.some.injEq, Value.slice.injEq] at hc
      obtain ⟨e1, e2, e3⟩ := hc
      obtain rfl : l2 = l := Option.some.inj (hl2.symm.trans hl)
      have hn2 : n2 = n := by rw [← hb2.1]; exact HN.out l2 (List.mem_of_getElem? hl2)
      rw [hn2] at hcw hb2
      obtain ⟨b3, off3, ha2, hb3, _⟩ := hb2.at_ (by omega)
      have HP := Lib.hid (put_any x.toNat x.toNat_lt w.heap.size g n n (combTo C ls n j) a2 c2 l2 wr hown (hb2.below hgw) (fun y hy => by rw [ha2] at hy; cases hy; show b3 ≠ g; omega))
      have hstep : Hid (combTo C ls n (j + 1) = putL x.toNat (combTo C ls n j) l2) := by
        show putL _ _ _ = _
        rw [List.getD_eq_getElem?_getD, hx, List.getD_eq_getElem?_getD, hl2]; rfl
      have HGR := Lib.hid hgr
      clear hb hb2 hl hl2 hx e1 e2 e3 hown hgr hgw hc2 ha2 hb3 hn2
      go_wp2_with fail
      refine HP.out.mono ?_
      rintro e w2 ⟨rfl, ho2, hg2⟩
      have hgr2 := HGR.out.trans hg2
      rw [← hstep.out] at ho2
      clear hg2
      go_wp2
      go_roundw
      case rel => exact ⟨j + 1, by omega, by go_num, ho2, hgr2⟩
      case measure => simp [intOf]; omega
    · have hjk : j = k := by omega
      have hge : (k : Int) ≤ (j : Int) := by omega
      have hfin := HG1.out.grb hgr hgl
      have hown2 : Hid (OwnB wr w.heap.size g n n (combL C ls n)) := by
        show OwnB _ _ _ _ _ _
        rw [combL, HL.out, ← hjk]; exact hown
      clear hown hgr
      go_wp2
      first | go_ret | go_ret2
      exact ⟨g, hgl, rfl, hown2.out, hfin⟩
end Go.Proofs.YtddopoojmadpjaaGreatDoor
