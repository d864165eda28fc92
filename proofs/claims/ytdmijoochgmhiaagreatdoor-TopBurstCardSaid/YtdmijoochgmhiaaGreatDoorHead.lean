/-
  The walks of package head, and of the document's.
-/
import Derived.Test.YtdmijoochgmhiaaGreatDoorSlices
import Derived.Test.YtdmijoochgmhiaaGreatDoorPut4
import Derived.Deep.RegionHeld3
namespace Go.Proofs.YtdmijoochgmhiaaGreatDoor
open Go.RowKit

/-- a head, of whichever type. -/
def headV (m o n : Nat) : Value := .agg #[.int .u8 (m : Int), .int .u32 (o : Int), .int .u32 (n : Int)]
def headL (m o n : Nat) : List UInt8 := [1, UInt8.ofNat m] ++ (put4 o ++ put4 n)

set_option maxHeartbeats 400000 in
theorem headCheck_ok (m : Nat) (o n : Int) (hm : m ≤ 1) (w : World) :
    Calls Tryz.prog 90 #[.agg #[.int .u8 (m : Int), .int .u32 o, .int .u32 n]] w fun e w' => e = .returned (.int .i64 0) ∧ Gr w w' := by
  go_enter Tryz.func90, Tryz.ntmps90
  rcases (show m = 0 ∨ m = 1 by omega) with rfl | rfl
  · go_wp2
    go_ret
    exact ⟨rfl, (Gr.refl w).alloc _⟩
  · go_wp2
    go_ret
    exact ⟨rfl, (Gr.refl w).alloc _⟩
set_option maxHeartbeats 400000 in
theorem headCheck_not (m : Nat) (o n : Int) (hm : ¬ m ≤ 1) (w : World) :
    Calls Tryz.prog 90 #[.agg #[.int .u8 (m : Int), .int .u32 o, .int .u32 n]] w fun e w' => e = .returned (.int .i64 8) ∧ Gr w w' := by
  have h0 : ((m : Int) != 0) = true := by rw [bne_iff_ne]; omega
  have h1 : ((m : Int) != 1) = true := by rw [bne_iff_ne]; omega
  clear hm
  go_enter Tryz.func90, Tryz.ntmps90
  go_wp2
  go_ret
  exact ⟨rfl, (Gr.refl w).alloc _⟩
theorem Bss.of_alloc3 {w : World} {b : Nat} {a a' a'' : Option Addr} {n c n' c' n'' c'' : Nat} {l l' l'' : List UInt8} {t : TypeId} (h : Bs w a n c l) (h' : Bs w a' n' c' l') (h'' : Bs w a'' n'' c'' l'') (hb : b = w.heap.size) :
    Bss (w.alloc (.cells #[.slice a n c, .slice a' n' c', .slice a'' n'' c''] t)) (some ⟨b, 0, none⟩) 3 3 [l, l', l''] := by
  subst hb
  refine ⟨rfl, Nat.le_refl _, by decide, (fun h => by cases h), fun x hx i u hu => ?_⟩
  cases hx
  rw [Addr.add_lit, Nat.zero_add, World.cell?_alloc_at _ _ _ _ rfl]
  match i, hu with
  | 0, hu => simp at hu; subst hu; exact ⟨a, n, c, rfl, h.below ((Gr.refl _).alloc _)⟩
  | 1, hu => simp at hu; subst hu; exact ⟨a', n', c', rfl, h'.below ((Gr.refl _).alloc _)⟩
  | 2, hu => simp at hu; subst hu; exact ⟨a'', n'', c'', rfl, h''.below ((Gr.refl _).alloc _)⟩
theorem sumPut4_any (n : Nat) (hn : n < 4294967296) (w : World) :
    Calls Tryz.prog 70 #[.int .u32 (n : Int)] w fun e w' => ∃ a cap, e = .returned (.slice a 4 cap) ∧ Bs w' a 4 cap (put4 n) ∧ Gr w w' := by
  refine (sumPut_any n hn w).mono ?_
  rintro e w1 ⟨v, rfl, a, cap, rfl, hb, _, hg⟩
  exact ⟨a, cap, rfl, hb, hg⟩
theorem headL_flat (m o n : Nat) : [[1, UInt8.ofNat m], put4 o, put4 n].flatten = headL m o n := by simp [headL]

theorem get4_four {l : List UInt8} {x0 x1 x2 x3 : UInt8} (e0 : l[0]? = some x0) (e1 : l[1]? = some x1) (e2 : l[2]? = some x2) (e3 : l[3]? = some x3) :
    get4 l = x0.toNat + 256 * x1.toNat + 65536 * x2.toNat + 16777216 * x3.toNat := by
  simp only [get4, List.getD_eq_getElem?_getD, e0, e1, e2, e3, Option.getD_some]
/-- what is wrong with the bytes of a head. -/
def headErr (l : List UInt8) : Nat := if l.length < 10 then 6 else if (l.getD 0 0).toNat ≠ 1 then 7 else if 1 < (l.getD 1 0).toNat then 8 else 0
def headM (l : List UInt8) : Nat := (l.getD 1 0).toNat
def headO (l : List UInt8) : Nat := get4 ((l.take 6).drop 2)
def headN (l : List UInt8) : Nat := get4 ((l.take 10).drop 6)
/-- a cell of a block that is known whole is stored into. -/
theorem heap_set {w : World} {b i : Nat} {cs : Array Value} {t : TypeId} {m : Nat × Nat} (h : w.heap[b]? = some (.cells cs t m)) (v : Value) : (w.setCell ⟨b, i, none⟩ v).heap[b]? = some (.cells (cs.setIfInBounds i v) t m) := by
  have hlt := lt_of_block h
  have h' : w.heap[b] = .cells cs t m := by simpa [Array.getElem?_eq_getElem hlt] using h
  show (w.heap.modify b _)[b]? = _
  rw [Array.getElem?_eq_getElem (by simpa using hlt), Array.getElem_modify_self, h']
  rfl
theorem three_set {W : World} {R : Nat} {v0 v1 v2 : Value} {t : TypeId} {m : Nat × Nat} (h : W.heap[R]? = some (.cells #[v0, v1, v2] t m)) (u0 u1 u2 : Value) :
    GrB W R (((W.setCell ⟨R, 0, none⟩ u0).setCell ⟨R, 1, none⟩ u1).setCell ⟨R, 2, none⟩ u2) ∧ (((W.setCell ⟨R, 0, none⟩ u0).setCell ⟨R, 1, none⟩ u1).setCell ⟨R, 2, none⟩ u2).heap[R]? = some (.cells #[u0, u1, u2] t m) := by
  refine ⟨GrB.set (GrB.set (GrB.set (GrB.refl _ _) ?_ _) ?_ _) ?_ _, heap_set (i := 2) (heap_set (i := 1) (heap_set (i := 0) h u0) u1) u2⟩
  · exact .inl rfl
  · exact .inl rfl
  · exact .inl rfl
theorem three_cells {W : World} {R : Nat} {v0 v1 v2 : Value} {t : TypeId} (h : W.heap[R]? = some (.cells #[v0, v1, v2] t)) :
    W.cell? ⟨R, 0, none⟩ = some v0 ∧ W.cell? ⟨R, 1, none⟩ = some v1 ∧ W.cell? ⟨R, 2, none⟩ = some v2 ∧ ∀ i, W.frozen? ⟨R, i, none⟩ = false := by
  refine ⟨?_, ?_, ?_, fun i => ?_⟩ <;> simp [World.cell?, World.frozen?, h]
/-- what the document's number is, when the bytes from i + 1 on have been taken. -/
def fourTo (l : List UInt8) : Nat → Nat
  | 0 => 0
  | k + 1 => 256 * fourTo l k + (l.getD (3 - k) 0).toNat
theorem fourTo_lt (l : List UInt8) : ∀ k, fourTo l k < 256 ^ k
  | 0 => by show 0 < 1; decide
  | k + 1 => by
    have h := fourTo_lt l k
    have h2 := (l.getD (3 - k) 0).toNat_lt
    show 256 * fourTo l k + (l.getD (3 - k) 0).toNat < 256 ^ (k + 1)
    rw [Nat.pow_succ]; omega
theorem fourTo_get (l : List UInt8) : fourTo l 4 = get4 l := by
  simp only [fourTo, get4, Nat.sub_zero, Nat.reduceSub, Nat.sub_self]; omega

end Go.Proofs.YtdmijoochgmhiaaGreatDoor
