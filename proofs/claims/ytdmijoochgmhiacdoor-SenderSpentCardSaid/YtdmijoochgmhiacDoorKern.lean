/-
  Tables of sixteen bytes; the walk of kern.halves.
-/
import Derived.Test.YtdmijoochgmhiacDoorFieldMul
import Derived.Test.YtdmijoochgmhiacDoorStTwo
import Derived.Test.YtdmijoochgmhiacDoorHead
import Derived.Laws.Rows
import Derived.Laws.Tables
namespace Go.Proofs.YtdmijoochgmhiacDoor
open Go.RowKit
set_option linter.unusedVariables false

/-- sixteen bytes. -/
def arr (f : Nat → Nat) : Array Value := ((List.range 16).map fun i => Value.int .u8 (f i : Nat)).toArray
theorem arr_size (f : Nat → Nat) : (arr f).size = 16 := by simp [arr]
theorem arr_zero : arr (fun _ => 0) = #[.int .u8 0, .int .u8 0, .int .u8 0, .int .u8 0, .int .u8 0, .int .u8 0, .int .u8 0, .int .u8 0, .int .u8 0, .int .u8 0, .int .u8 0, .int .u8 0, .int .u8 0, .int .u8 0, .int .u8 0, .int .u8 0] := rfl
theorem arr_get (f : Nat → Nat) (j : Nat) (hj : j < 16) : (arr f)[j]? = some (.int .u8 (f j : Nat)) := by
  rw [arr, List.getElem?_toArray, List.getElem?_map, List.getElem?_range hj]; rfl
theorem arr_one (f : Nat → Nat) : (arr f).all (·.oneCell') = true := by
  rw [Array.all_eq_true_iff_forall_mem]
  intro v hv
  simp only [arr, List.mem_toArray, List.mem_map] at hv
  obtain ⟨j, _, rfl⟩ := hv
  rfl
/-- as far as it is filled. -/
def upto (f : Nat → Nat) (j : Nat) : Nat → Nat := fun i => if i < j then f i else 0
theorem arr_upto0 (f : Nat → Nat) : arr (upto f 0) = arr (fun _ => 0) := by
  have : upto f 0 = fun _ => 0 := by funext i; simp [upto]
  rw [this]
theorem arr_full (f : Nat → Nat) : arr (upto f 16) = arr f := by
  unfold arr
  have : ∀ i ∈ List.range 16, Value.int .u8 (upto f 16 i : Nat) = Value.int .u8 (f i : Nat) := fun i hi => by
    have : i < 16 := by simpa using hi
    simp [upto, this]
  rw [List.map_congr_left this]
theorem arr_set (f : Nat → Nat) (j : Nat) (hj : j < 16) : (arr (upto f j)).setIfInBounds j (.int .u8 (f j : Nat)) = arr (upto f (j + 1)) := by
  apply Array.ext
  · rw [Array.size_setIfInBounds, arr_size, arr_size]
  · intro i h1 h2
    have hi : i < 16 := by rw [arr_size] at h2; exact h2
    have a := arr_get (upto f (j + 1)) i hi
    rw [Array.getElem?_eq_getElem h2] at a
    have hz : i < (arr (upto f j)).size := by rw [arr_size]; exact hi
    rw [Option.some.inj a, Array.getElem_setIfInBounds hz]
    by_cases h : j = i
    · subst h
      rw [if_pos rfl]; simp [upto]
    · have b := arr_get (upto f j) i hi
      rw [Array.getElem?_eq_getElem hz] at b
      rw [if_neg h, Option.some.inj b]
      simp only [upto]
      by_cases h2 : i < j
      · rw [if_pos h2, if_pos (by omega)]
      · rw [if_neg h2, if_neg (by omega)]
theorem arr_cell {W : World} {b : Nat} {f : Nat → Nat} {t : TypeId} (h : W.heap[b]? = some (.cells (arr f) t)) (j : Nat) (hj : j < 16) : W.cell? ⟨b, j, none⟩ = some (.int .u8 (f j : Nat)) ∧ W.frozen? ⟨b, j, none⟩ = false := by
  refine ⟨?_, ?_⟩
  · have := arr_get f j hj
    simp [World.cell?, h, this]
  · simp [World.frozen?, h]
theorem arr_store {W : World} {b : Nat} {f : Nat → Nat} {t : TypeId} {j : Nat} (h : W.heap[b]? = some (.cells (arr (upto f j)) t)) (hj : j < 16) :
    GrB W b (W.setCell ⟨b, j, none⟩ (.int .u8 (f j : Nat))) ∧ (W.setCell ⟨b, j, none⟩ (.int .u8 (f j : Nat))).heap[b]? = some (.cells (arr (upto f (j + 1))) t) := by
  refine ⟨(GrB.refl W b).set (.inl rfl) _, ?_⟩
  have := heap_set (i := j) h (.int .u8 (f j : Nat))
  rw [arr_set f j hj] at this
  exact this
theorem infoArr : (Tryd.prog.info? 159).map (·.size) = some 16 := by kernel_rfl
theorem setRow_grb {W : World} {b : Nat} {old cs : Array Value} {t : TypeId} {m : Nat × Nat} (h : W.heap[b]? = some (.cells old t m)) : GrB W b (W.setRow b cs) ∧ (W.setRow b cs).heap[b]? = some (.cells cs t m) :=
  ⟨⟨rfl, rfl, rfl, by simp, fun k _ hk => setRow_other W b k cs (fun e => hk (by rw [e]))⟩, setRow_heap W b old cs t m h⟩
theorem rgAt_load_arr {o : Oper} {a : Act} {w : World} {R : Value → World → Prop} (x : Operand) (ho : o.op = .load 159 x) (g : Nat) (hx : a.eval x = .pointer (some ⟨g, 0, none⟩)) (f : Nat → Nat) (t : TypeId) (hg : w.heap[g]? = some (.cells (arr f) t)) (h : R (.agg (arr f)) w) : rgAt Tryd.prog o a w R := by
  unfold rgAt execOp
  simp only [ho, hx, Instr.loadAt, Instr.sureAddr, Sem.run_bind, Sem.run_pure, Result.andThen_ok, run_loadVar_row w g t 159 (arr f) (0, 0) _ hg Tryd.underlying159 rfl (by rw [infoArr, arr_size])]
  exact h
theorem rgAt_store_arr {o : Oper} {a : Act} {w : World} {R : Value → World → Prop} (x y : Operand) (ho : o.op = .store 159 x y) (g : Nat) (f f' : Nat → Nat) (hx : a.eval x = .pointer (some ⟨g, 0, none⟩)) (hy : a.eval y = .agg (arr f')) (t : TypeId) (hg : w.heap[g]? = some (.cells (arr f) t)) (h : R undef (w.setRow g (arr f'))) : rgAt Tryd.prog o a w R := by
  unfold rgAt execOp
  simp only [ho, hx, hy, Instr.storeAt, Instr.sureAddr, Sem.run_bind, Sem.run_pure, Result.andThen_ok, run_storeVar_row w g t 159 (arr f) (arr f') hg (by rw [infoArr, arr_size]) (by rw [arr_size, arr_size]) (arr_one f')]
  exact h

/-- the products of the lower halves of a byte, and of the upper ones. -/
def loT (c : Nat) (i : Nat) : Nat := fmul c i
def hiT (c : Nat) (i : Nat) : Nat := fmul c (i * 16)
theorem two_u8s (x y : Nat) (hx : x < 256) (hy : y < 256) : (#[Value.int .u8 (x : Int), .int .u8 (y : Int)] : Array Value).toList = u8s [UInt8.ofNat x, UInt8.ofNat y] := by
  simp only [u8s, List.map_cons, List.map_nil, UInt8.toNat_ofNat']
  rw [Nat.mod_eq_of_lt hx, Nat.mod_eq_of_lt hy]
theorem fprod_two (x y : Nat) (hx : x < 256) (hy : y < 256) : fprod [UInt8.ofNat x, UInt8.ofNat y] = fmul x y := by
  simp only [fprod, List.foldl_cons, List.foldl_nil, UInt8.toNat_ofNat']
  rw [Nat.mod_eq_of_lt (show x < 2 ^ 8 from hx), Nat.mod_eq_of_lt (show y < 2 ^ 8 from hy), one_fmul hx]
theorem mul_two (x y : Nat) (hx : x < 256) (hy : y < 256) (w : World) :
    Calls Tryd.prog 102 #[.slice (some ⟨w.heap.size, 0, none⟩) 2 2] (w.alloc (.cells #[.int .u8 (x : Int), .int .u8 (y : Int)] 5)) fun e w' => e = .returned (.int .u8 (fmul x y : Nat)) ∧ w.alloc (.cells #[.int .u8 (x : Int), .int .u8 (y : Int)] 5) = w' := by
  have := fieldMul_any (some ⟨w.heap.size, 0, none⟩) 2 2 [UInt8.ofNat x, UInt8.ofNat y] (w.alloc (.cells #[.int .u8 (x : Int), .int .u8 (y : Int)] 5)) (Bs.of_alloc (two_u8s x y hx hy) rfl (by decide) rfl)
  rw [fprod_two x y hx hy] at this
  exact this

set_option maxRecDepth 100000 in
set_option maxHeartbeats 1000000 in
theorem halves_any (c : Nat) (hc : c < 256) (w : World) :
    Calls Tryd.prog 98 #[.int .u8 (c : Int)] w fun e w' => e = .returned (.tuple #[.agg (arr (loT c)), .agg (arr (hiT c))]) ∧ Gr w w' := by
  go_enter Tryd.func98, Tryd.ntmps98
  go_wp2
  have hw4 : Gr w (((((w.alloc (.cells #[.int .u8 0, .int .u8 0, .int .u8 0, .int .u8 0, .int .u8 0, .int .u8 0, .int .u8 0, .int .u8 0, .int .u8 0, .int .u8 0, .int .u8 0, .int .u8 0, .int .u8 0, .int .u8 0, .int .u8 0, .int .u8 0] 159)).alloc (.cells #[.int .u8 0, .int .u8 0, .int .u8 0, .int .u8 0, .int .u8 0, .int .u8 0, .int .u8 0, .int .u8 0, .int .u8 0, .int .u8 0, .int .u8 0, .int .u8 0, .int .u8 0, .int .u8 0, .int .u8 0, .int .u8 0] 159)).alloc (.cells #[.int .u8 0, .int .u8 0, .int .u8 0, .int .u8 0, .int .u8 0, .int .u8 0, .int .u8 0, .int .u8 0, .int .u8 0, .int .u8 0, .int .u8 0, .int .u8 0, .int .u8 0, .int .u8 0, .int .u8 0, .int .u8 0] 159)).alloc (.cells #[.int .u8 0, .int .u8 0, .int .u8 0, .int .u8 0, .int .u8 0, .int .u8 0, .int .u8 0, .int .u8 0, .int .u8 0, .int .u8 0, .int .u8 0, .int .u8 0, .int .u8 0, .int .u8 0, .int .u8 0, .int .u8 0] 159))) := ((((Gr.refl w).alloc _).alloc _).alloc _).alloc _
  have e0 : (((((w.alloc (.cells #[.int .u8 0, .int .u8 0, .int .u8 0, .int .u8 0, .int .u8 0, .int .u8 0, .int .u8 0, .int .u8 0, .int .u8 0, .int .u8 0, .int .u8 0, .int .u8 0, .int .u8 0, .int .u8 0, .int .u8 0, .int .u8 0] 159)).alloc (.cells #[.int .u8 0, .int .u8 0, .int .u8 0, .int .u8 0, .int .u8 0, .int .u8 0, .int .u8 0, .int .u8 0, .int .u8 0, .int .u8 0, .int .u8 0, .int .u8 0, .int .u8 0, .int .u8 0, .int .u8 0, .int .u8 0] 159)).alloc (.cells #[.int .u8 0, .int .u8 0, .int .u8 0, .int .u8 0, .int .u8 0, .int .u8 0, .int .u8 0, .int .u8 0, .int .u8 0, .int .u8 0, .int .u8 0, .int .u8 0, .int .u8 0, .int .u8 0, .int .u8 0, .int .u8 0] 159)).alloc (.cells #[.int .u8 0, .int .u8 0, .int .u8 0, .int .u8 0, .int .u8 0, .int .u8 0, .int .u8 0, .int .u8 0, .int .u8 0, .int .u8 0, .int .u8 0, .int .u8 0, .int .u8 0, .int .u8 0, .int .u8 0, .int .u8 0] 159))).heap[w.heap.size]? = some (.cells (arr (fun _ => 0)) 159) := by
    have := Gr.heap ((((Gr.refl _).alloc (.cells #[.int .u8 0, .int .u8 0, .int .u8 0, .int .u8 0, .int .u8 0, .int .u8 0, .int .u8 0, .int .u8 0, .int .u8 0, .int .u8 0, .int .u8 0, .int .u8 0, .int .u8 0, .int .u8 0, .int .u8 0, .int .u8 0] 159)).alloc (.cells #[.int .u8 0, .int .u8 0, .int .u8 0, .int .u8 0, .int .u8 0, .int .u8 0, .int .u8 0, .int .u8 0, .int .u8 0, .int .u8 0, .int .u8 0, .int .u8 0, .int .u8 0, .int .u8 0, .int .u8 0, .int .u8 0] 159)).alloc (.cells #[.int .u8 0, .int .u8 0, .int .u8 0, .int .u8 0, .int .u8 0, .int .u8 0, .int .u8 0, .int .u8 0, .int .u8 0, .int .u8 0, .int .u8 0, .int .u8 0, .int .u8 0, .int .u8 0, .int .u8 0, .int .u8 0] 159)) (heap_alloc_new w (.cells #[.int .u8 0, .int .u8 0, .int .u8 0, .int .u8 0, .int .u8 0, .int .u8 0, .int .u8 0, .int .u8 0, .int .u8 0, .int .u8 0, .int .u8 0, .int .u8 0, .int .u8 0, .int .u8 0, .int .u8 0, .int .u8 0] 159))
    exact this
  have e1 : (((((w.alloc (.cells #[.int .u8 0, .int .u8 0, .int .u8 0, .int .u8 0, .int .u8 0, .int .u8 0, .int .u8 0, .int .u8 0, .int .u8 0, .int .u8 0, .int .u8 0, .int .u8 0, .int .u8 0, .int .u8 0, .int .u8 0, .int .u8 0] 159)).alloc (.cells #[.int .u8 0, .int .u8 0, .int .u8 0, .int .u8 0, .int .u8 0, .int .u8 0, .int .u8 0, .int .u8 0, .int .u8 0, .int .u8 0, .int .u8 0, .int .u8 0, .int .u8 0, .int .u8 0, .int .u8 0, .int .u8 0] 159)).alloc (.cells #[.int .u8 0, .int .u8 0, .int .u8 0, .int .u8 0, .int .u8 0, .int .u8 0, .int .u8 0, .int .u8 0, .int .u8 0, .int .u8 0, .int .u8 0, .int .u8 0, .int .u8 0, .int .u8 0, .int .u8 0, .int .u8 0] 159)).alloc (.cells #[.int .u8 0, .int .u8 0, .int .u8 0, .int .u8 0, .int .u8 0, .int .u8 0, .int .u8 0, .int .u8 0, .int .u8 0, .int .u8 0, .int .u8 0, .int .u8 0, .int .u8 0, .int .u8 0, .int .u8 0, .int .u8 0] 159))).heap[w.heap.size + 1]? = some (.cells (arr (fun _ => 0)) 159) := by
    have := Gr.heap (((Gr.refl _).alloc (.cells #[.int .u8 0, .int .u8 0, .int .u8 0, .int .u8 0, .int .u8 0, .int .u8 0, .int .u8 0, .int .u8 0, .int .u8 0, .int .u8 0, .int .u8 0, .int .u8 0, .int .u8 0, .int .u8 0, .int .u8 0, .int .u8 0] 159)).alloc (.cells #[.int .u8 0, .int .u8 0, .int .u8 0, .int .u8 0, .int .u8 0, .int .u8 0, .int .u8 0, .int .u8 0, .int .u8 0, .int .u8 0, .int .u8 0, .int .u8 0, .int .u8 0, .int .u8 0, .int .u8 0, .int .u8 0] 159)) (heap_alloc_new ((w.alloc (.cells #[.int .u8 0, .int .u8 0, .int .u8 0, .int .u8 0, .int .u8 0, .int .u8 0, .int .u8 0, .int .u8 0, .int .u8 0, .int .u8 0, .int .u8 0, .int .u8 0, .int .u8 0, .int .u8 0, .int .u8 0, .int .u8 0] 159))) (.cells #[.int .u8 0, .int .u8 0, .int .u8 0, .int .u8 0, .int .u8 0, .int .u8 0, .int .u8 0, .int .u8 0, .int .u8 0, .int .u8 0, .int .u8 0, .int .u8 0, .int .u8 0, .int .u8 0, .int .u8 0, .int .u8 0] 159))
    rw [World.size_alloc] at this
    exact this
  have e2 : (((((w.alloc (.cells #[.int .u8 0, .int .u8 0, .int .u8 0, .int .u8 0, .int .u8 0, .int .u8 0, .int .u8 0, .int .u8 0, .int .u8 0, .int .u8 0, .int .u8 0, .int .u8 0, .int .u8 0, .int .u8 0, .int .u8 0, .int .u8 0] 159)).alloc (.cells #[.int .u8 0, .int .u8 0, .int .u8 0, .int .u8 0, .int .u8 0, .int .u8 0, .int .u8 0, .int .u8 0, .int .u8 0, .int .u8 0, .int .u8 0, .int .u8 0, .int .u8 0, .int .u8 0, .int .u8 0, .int .u8 0] 159)).alloc (.cells #[.int .u8 0, .int .u8 0, .int .u8 0, .int .u8 0, .int .u8 0, .int .u8 0, .int .u8 0, .int .u8 0, .int .u8 0, .int .u8 0, .int .u8 0, .int .u8 0, .int .u8 0, .int .u8 0, .int .u8 0, .int .u8 0] 159)).alloc (.cells #[.int .u8 0, .int .u8 0, .int .u8 0, .int .u8 0, .int .u8 0, .int .u8 0, .int .u8 0, .int .u8 0, .int .u8 0, .int .u8 0, .int .u8 0, .int .u8 0, .int .u8 0, .int .u8 0, .int .u8 0, .int .u8 0] 159))).heap[w.heap.size + 2]? = some (.cells (arr (fun _ => 0)) 159) := by
    have := Gr.heap ((Gr.refl _).alloc (.cells #[.int .u8 0, .int .u8 0, .int .u8 0, .int .u8 0, .int .u8 0, .int .u8 0, .int .u8 0, .int .u8 0, .int .u8 0, .int .u8 0, .int .u8 0, .int .u8 0, .int .u8 0, .int .u8 0, .int .u8 0, .int .u8 0] 159)) (heap_alloc_new (((w.alloc (.cells #[.int .u8 0, .int .u8 0, .int .u8 0, .int .u8 0, .int .u8 0, .int .u8 0, .int .u8 0, .int .u8 0, .int .u8 0, .int .u8 0, .int .u8 0, .int .u8 0, .int .u8 0, .int .u8 0, .int .u8 0, .int .u8 0] 159)).alloc (.cells #[.int .u8 0, .int .u8 0, .int .u8 0, .int .u8 0, .int .u8 0, .int .u8 0, .int .u8 0, .int .u8 0, .int .u8 0, .int .u8 0, .int .u8 0, .int .u8 0, .int .u8 0, .int .u8 0, .int .u8 0, .int .u8 0] 159))) (.cells #[.int .u8 0, .int .u8 0, .int .u8 0, .int .u8 0, .int .u8 0, .int .u8 0, .int .u8 0, .int .u8 0, .int .u8 0, .int .u8 0, .int .u8 0, .int .u8 0, .int .u8 0, .int .u8 0, .int .u8 0, .int .u8 0] 159))
    rw [World.size_alloc, World.size_alloc] at this
    exact this
  have e3 : (((((w.alloc (.cells #[.int .u8 0, .int .u8 0, .int .u8 0, .int .u8 0, .int .u8 0, .int .u8 0, .int .u8 0, .int .u8 0, .int .u8 0, .int .u8 0, .int .u8 0, .int .u8 0, .int .u8 0, .int .u8 0, .int .u8 0, .int .u8 0] 159)).alloc (.cells #[.int .u8 0, .int .u8 0, .int .u8 0, .int .u8 0, .int .u8 0, .int .u8 0, .int .u8 0, .int .u8 0, .int .u8 0, .int .u8 0, .int .u8 0, .int .u8 0, .int .u8 0, .int .u8 0, .int .u8 0, .int .u8 0] 159)).alloc (.cells #[.int .u8 0, .int .u8 0, .int .u8 0, .int .u8 0, .int .u8 0, .int .u8 0, .int .u8 0, .int .u8 0, .int .u8 0, .int .u8 0, .int .u8 0, .int .u8 0, .int .u8 0, .int .u8 0, .int .u8 0, .int .u8 0] 159)).alloc (.cells #[.int .u8 0, .int .u8 0, .int .u8 0, .int .u8 0, .int .u8 0, .int .u8 0, .int .u8 0, .int .u8 0, .int .u8 0, .int .u8 0, .int .u8 0, .int .u8 0, .int .u8 0, .int .u8 0, .int .u8 0, .int .u8 0] 159))).heap[w.heap.size + 3]? = some (.cells (arr (fun _ => 0)) 159) := by
    have := heap_alloc_new ((((w.alloc (.cells #[.int .u8 0, .int .u8 0, .int .u8 0, .int .u8 0, .int .u8 0, .int .u8 0, .int .u8 0, .int .u8 0, .int .u8 0, .int .u8 0, .int .u8 0, .int .u8 0, .int .u8 0, .int .u8 0, .int .u8 0, .int .u8 0] 159)).alloc (.cells #[.int .u8 0, .int .u8 0, .int .u8 0, .int .u8 0, .int .u8 0, .int .u8 0, .int .u8 0, .int .u8 0, .int .u8 0, .int .u8 0, .int .u8 0, .int .u8 0, .int .u8 0, .int .u8 0, .int .u8 0, .int .u8 0] 159)).alloc (.cells #[.int .u8 0, .int .u8 0, .int .u8 0, .int .u8 0, .int .u8 0, .int .u8 0, .int .u8 0, .int .u8 0, .int .u8 0, .int .u8 0, .int .u8 0, .int .u8 0, .int .u8 0, .int .u8 0, .int .u8 0, .int .u8 0] 159))) (.cells #[.int .u8 0, .int .u8 0, .int .u8 0, .int .u8 0, .int .u8 0, .int .u8 0, .int .u8 0, .int .u8 0, .int .u8 0, .int .u8 0, .int .u8 0, .int .u8 0, .int .u8 0, .int .u8 0, .int .u8 0, .int .u8 0] 159)
    rw [World.size_alloc, World.size_alloc, World.size_alloc] at this
    exact this
  have hsz4 : (((((w.alloc (.cells #[.int .u8 0, .int .u8 0, .int .u8 0, .int .u8 0, .int .u8 0, .int .u8 0, .int .u8 0, .int .u8 0, .int .u8 0, .int .u8 0, .int .u8 0, .int .u8 0, .int .u8 0, .int .u8 0, .int .u8 0, .int .u8 0] 159)).alloc (.cells #[.int .u8 0, .int .u8 0, .int .u8 0, .int .u8 0, .int .u8 0, .int .u8 0, .int .u8 0, .int .u8 0, .int .u8 0, .int .u8 0, .int .u8 0, .int .u8 0, .int .u8 0, .int .u8 0, .int .u8 0, .int .u8 0] 159)).alloc (.cells #[.int .u8 0, .int .u8 0, .int .u8 0, .int .u8 0, .int .u8 0, .int .u8 0, .int .u8 0, .int .u8 0, .int .u8 0, .int .u8 0, .int .u8 0, .int .u8 0, .int .u8 0, .int .u8 0, .int .u8 0, .int .u8 0] 159)).alloc (.cells #[.int .u8 0, .int .u8 0, .int .u8 0, .int .u8 0, .int .u8 0, .int .u8 0, .int .u8 0, .int .u8 0, .int .u8 0, .int .u8 0, .int .u8 0, .int .u8 0, .int .u8 0, .int .u8 0, .int .u8 0, .int .u8 0] 159))).heap.size = w.heap.size + 4 := by simp
  obtain ⟨W0, eW⟩ : ∃ W, ((((w.alloc (.cells #[.int .u8 0, .int .u8 0, .int .u8 0, .int .u8 0, .int .u8 0, .int .u8 0, .int .u8 0, .int .u8 0, .int .u8 0, .int .u8 0, .int .u8 0, .int .u8 0, .int .u8 0, .int .u8 0, .int .u8 0, .int .u8 0] 159)).alloc (.cells #[.int .u8 0, .int .u8 0, .int .u8 0, .int .u8 0, .int .u8 0, .int .u8 0, .int .u8 0, .int .u8 0, .int .u8 0, .int .u8 0, .int .u8 0, .int .u8 0, .int .u8 0, .int .u8 0, .int .u8 0, .int .u8 0] 159)).alloc (.cells #[.int .u8 0, .int .u8 0, .int .u8 0, .int .u8 0, .int .u8 0, .int .u8 0, .int .u8 0, .int .u8 0, .int .u8 0, .int .u8 0, .int .u8 0, .int .u8 0, .int .u8 0, .int .u8 0, .int .u8 0, .int .u8 0] 159)).alloc (.cells #[.int .u8 0, .int .u8 0, .int .u8 0, .int .u8 0, .int .u8 0, .int .u8 0, .int .u8 0, .int .u8 0, .int .u8 0, .int .u8 0, .int .u8 0, .int .u8 0, .int .u8 0, .int .u8 0, .int .u8 0, .int .u8 0] 159)) = W := ⟨_, rfl⟩
  rw [eW] at hw4 e0 e1 e2 e3 hsz4 ⊢
  clear eW
  have E0 := Lib.hid e0
  have E1 := Lib.hid e1
  have E2 := Lib.hid e2
  have E3 := Lib.hid e3
  have HW4 := Lib.hid hw4
  clear e0 e1 e2 e3 hw4
  obtain ⟨B3, eB3⟩ : ∃ b, w.heap.size + 1 + 1 + 1 = b := ⟨_, rfl⟩
  obtain ⟨B2, eB2⟩ : ∃ b, w.heap.size + 1 + 1 = b := ⟨_, rfl⟩
  obtain ⟨B1, eB1⟩ : ∃ b, w.heap.size + 1 = b := ⟨_, rfl⟩
  obtain ⟨B0, eB0⟩ : ∃ b, w.heap.size = b := ⟨_, rfl⟩
  have hB1 : B0 < B1 := by omega
  have hB2 : B1 < B2 := by omega
  have hB3 : B2 < B3 := by omega
  have hBw : w.heap.size ≤ B0 := by omega
  rw [show w.heap.size + 3 = B3 by omega] at E3
  rw [show w.heap.size + 2 = B2 by omega] at E2
  rw [show w.heap.size + 1 = B1 by omega] at E1
  rw [eB0] at E0
  rw [eB3, eB2, eB1, eB0]
  clear eB3 eB2 eB1 eB0 hsz4
  go_loopw [7] (fun i wr => ∃ j : Nat, j ≤ 16 ∧ i = .int .i64 j ∧ (wr.heap[B2]? = some (.cells (arr (upto (loT c) j)) 159)) ∧ (wr.heap[B3]? = some (.cells (arr (upto (hiT c) j)) 159)) ∧ GrC W0 B2 B3 wr) (fun i _ => 16 - (intOf i).toNat)
  case atStart => exact ⟨0, by omega, rfl, by rw [arr_upto0]; exact E2.out, by rw [arr_upto0]; exact E3.out, GrC.refl _ _ _⟩
  case round =>
    obtain ⟨j, hj, rfl, h2, h3, hg⟩ := hrel
    by_cases hlt : j < 16
    · have H2 := Lib.hid h2
      have H3 := Lib.hid h3
      have HG := Lib.hid hg
      have hjt : (j : Int) < 16 := by omega
      have hsr := lt_of_block h3
      clear h2 h3 hg
      go_wp2_with fail
      refine (mul_two c j hc (by omega) wr).mono ?_
      rintro e w5 ⟨rfl, hw5⟩
      have hg5 : Gr wr w5 := by rw [← hw5]; exact (Gr.refl wr).alloc _
      have h25 := hg5.heap H2.out
      have h35 := hg5.heap H3.out
      obtain ⟨cc, cf⟩ := arr_cell h25 j hlt
      obtain ⟨s1, s2⟩ := arr_store h25 hlt
      have hs5 := lt_of_block h35
      rw [← show loT c j = fmul c j from rfl]
      have HS1 := Lib.hid s1
      have HS2 := Lib.hid s2
      have HG5 := Lib.hid (HG.out.trans ((GrC.of_gr hg5).trans (GrC.of_grb s1)))
      have H35 := Lib.hid (s1.heap h35 (by omega))
      obtain ⟨U, eU⟩ : ∃ U, j * 16 = U := ⟨_, rfl⟩
      have hU : (j : Int) * 16 = (U : Int) := by omega
      have hUl : U < 256 := by omega
      have hHT : Hid (hiT c j = fmul c U) := by show fmul c (j * 16) = _; rw [eU]
      have hm := mul_two c U hc hUl (w5.setCell ⟨B2, j, none⟩ (.int .u8 (loT c j : Nat)))
      have hzz : (w5.setCell ⟨B2, j, none⟩ (.int .u8 (loT c j : Nat))).heap.size = w5.heap.size := by simp [World.setCell]
      rw [hzz] at hm
      have HM := Lib.hid hm
      clear hw5 hg5 h25 h35 s1 s2 eU hm hzz
      go_wp2_with fail
      refine HM.out.mono ?_
      rintro e w6 ⟨rfl, hw6⟩
      have hg6 : Gr (w5.setCell ⟨B2, j, none⟩ (.int .u8 (loT c j : Nat))) w6 := by rw [← hw6]; exact (Gr.refl _).alloc _
      have h36 := hg6.heap H35.out
      have h26 := hg6.heap HS2.out
      obtain ⟨dc, df⟩ := arr_cell h36 j hlt
      obtain ⟨s1, s2⟩ := arr_store h36 hlt
      rw [← hHT.out]
      have hfin := Lib.hid (show _ ∧ _ ∧ _ from ⟨s1.heap h26 (by omega), s2, (HG5.out.trans (GrC.of_gr hg6)).trans (GrC.of_grb' s1)⟩)
      clear hw6 hg6 h36 h26 s1 s2 cc cf
      go_wp2
      go_roundw
      case rel => exact ⟨j + 1, by omega, by go_num, hfin.out.1, hfin.out.2.1, hfin.out.2.2⟩
      case measure => simp [intOf]; omega
    · have hj16 : j = 16 := by omega
      have hjt : (16 : Int) ≤ (j : Int) := by omega
      rw [hj16, arr_full] at h2 h3
      have hg0 : Gr w wr := GrC.gr HW4.out hg (by omega) (by omega)
      have H0 := hg.heap E0.out (by omega) (by omega)
      have H1 := hg.heap E1.out (by omega) (by omega)
      have H2 := Lib.hid h2
      have H3 := Lib.hid h3
      have HG0 := Lib.hid hg0
      clear h2 h3 hg hg0 E0 E1 E2 E3 hlt hj16 HW4
      have E0 := Lib.hid H0
      have E1 := Lib.hid H1
      clear H0 H1
      go_wp2
      refine wp_region_rg [spV (.agg (arr (loT c))), spV (.agg (arr (hiT c))), .any Unit () (fun _ => undef) (fun _ W => W.heap[B0]? = some (.cells (arr (loT c)) 159)), .any Unit () (fun _ => undef) (fun _ W => W.heap[B1]? = some (.cells (arr (hiT c)) 159))] (StC B0 B1 (.cells (arr (fun _ => 0)) 159) (.cells (arr (loT c)) 159) (.cells (arr (fun _ => 0)) 159) (.cells (arr (hiT c)) 159)) (by kernel_rfl) (by kernel_rfl) (StC.refl _ _ _ _ _ _) StC.trans ?_
      refine wpRG_any rfl (fun _ _ _ _ h => h) (fun W hw hF R hR => ?_) ?_
      · refine rgAt_load_arr (.tmp 4) rfl _ rfl (loT c) _ (hw.1.heap (H2.out) (by omega) (by omega)) ?_
        exact hR () _ (StC.refl _ _ _ _ _ _ _) trivial
      rintro ⟨⟩
      (simp only [Act.put, List.setIfInBounds_toArray, List.set_cons_zero, List.set_cons_succ])
      refine wpRG_any rfl (fun _ _ _ _ h => h) (fun W hw hF R hR => ?_) ?_
      · refine rgAt_load_arr (.tmp 5) rfl _ rfl (hiT c) _ (hw.1.heap (H3.out) (by omega) (by omega)) ?_
        exact hR () _ (StC.refl _ _ _ _ _ _ _) trivial
      rintro ⟨⟩
      (simp only [Act.put, List.setIfInBounds_toArray, List.set_cons_zero, List.set_cons_succ])
      refine wpRG_any rfl (fun x w w' hg h => hg.2.1.2 h) (fun W hw hF R hR => ?_) ?_
      · rcases hw.2.1.1 E0.out with h | h
        · skip
          refine rgAt_store_arr (.tmp 2) (.tmp 26) rfl B0 _ (loT c) rfl rfl _ h ?_
          obtain ⟨g1, g2⟩ := setRow_grb (cs := arr (loT c)) h
          exact hR () _ (StC.first g1 g2 (by omega)) g2
        · skip
          refine rgAt_store_arr (.tmp 2) (.tmp 26) rfl B0 _ (loT c) rfl rfl _ h ?_
          obtain ⟨g1, g2⟩ := setRow_grb (cs := arr (loT c)) h
          exact hR () _ (StC.first g1 g2 (by omega)) g2
      rintro ⟨⟩
      (simp only [Act.put])
      refine wpRG_any rfl (fun x w w' hg h => hg.2.2.2 h) (fun W hw hF R hR => ?_) ?_
      · rcases hw.2.2.1 E1.out with h | h
        · skip
          refine rgAt_store_arr (.tmp 3) (.tmp 27) rfl B1 _ (hiT c) rfl rfl _ h ?_
          obtain ⟨g1, g2⟩ := setRow_grb (cs := arr (hiT c)) h
          exact hR () _ (StC.second g1 g2 (by omega)) g2
        · skip
          refine rgAt_store_arr (.tmp 3) (.tmp 27) rfl B1 _ (hiT c) rfl rfl _ h ?_
          obtain ⟨g1, g2⟩ := setRow_grb (cs := arr (hiT c)) h
          exact hR () _ (StC.second g1 g2 (by omega)) g2
      rintro ⟨⟩
      (simp only [Act.put])
      refine wpRG_end fun W hw hF => ?_
      have f2 : W.heap[B0]? = some (.cells (arr (loT c)) 159) := hF 2
      have f3 : W.heap[B1]? = some (.cells (arr (hiT c)) 159) := hF 3
      have hgW : Gr w W := GrC.gr HG0.out.drew hw.1 (by omega) (by omega)
      clear hF hw
      refine wpList_nil ?_
      have r0 := run_loadVar_row (P := Tryd.prog) W B0 _ 159 (arr (loT c)) (0, 0) _ f2 Tryd.underlying159 rfl (by rw [infoArr, arr_size])
      have r1 := run_loadVar_row (P := Tryd.prog) W B1 _ 159 (arr (hiT c)) (0, 0) _ f3 Tryd.underlying159 rfl (by rw [infoArr, arr_size])
      clear f2 f3
      have R0 := Lib.hid r0
      have R1 := Lib.hid r1
      clear r0 r1
      go_wp2
      refine bodyPost_ret (v := .tuple #[.agg (arr (loT c)), .agg (arr (hiT c))]) ?_ rfl ⟨rfl, hgW⟩
      have r0 := R0.out
      have r1 := R1.out
      simp [results, Tryd.results98, asAddr, r0, r1]
end Go.Proofs.YtdmijoochgmhiacDoor
