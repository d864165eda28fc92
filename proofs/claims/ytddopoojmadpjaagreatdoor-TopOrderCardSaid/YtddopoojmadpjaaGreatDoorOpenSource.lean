/-
  A source that comes in, opened.
-/
import Derived.Test.YtddopoojmadpjaaGreatDoorRows
import Derived.Test.YtddopoojmadpjaaGreatDoorBase
import Derived.Lib.SmallJoins
namespace Go.Proofs.YtddopoojmadpjaaGreatDoor
open Go.RowKit Go.ChangeShapes Go.WideShapes
set_option linter.unusedVariables false

section
variable {H : Type} {enc : TypeId × Value → H} {w : World} {base : Nat} {held : Bool} {n : Nat} {v : Value} {y : DataW H × List MemPlace}
theorem cell_bs (h : DataW.trod enc Tryz.prog w base (fun _ => true) held n 22 [v] = some y) : ∃ a k c l, v = .slice a k c ∧ Bs w a k c l := by
  have hv : ∃ a k c, v = .slice a k c := by
    rcases ChangeShapes.open_ints Tryz.underlying22 Tryz.underlying5 (by kernel_rfl) h with ⟨hcs, _⟩ | ⟨x, len', cap', zs, hcs, _⟩
    · exact ⟨_, _, _, by simpa using hcs⟩
    · exact ⟨_, _, _, by simpa using hcs⟩
  obtain ⟨a, k, c, rfl⟩ := hv
  obtain ⟨l, hl⟩ := Bs.of_trod Tryz.underlying22 Tryz.underlying5 (by kernel_rfl) (by simpa [Value.cells] using h)
  exact ⟨a, k, c, l, rfl, hl⟩
theorem cell_u8 (h : DataW.trod enc Tryz.prog w base (fun _ => true) held n 5 [v] = some y) : ∃ m : Nat, v = .int .u8 (m : Int) ∧ m < 256 := by
  obtain ⟨z, hz, _, hw⟩ := DataW.trod_int Tryz.underlying5 h
  obtain ⟨m, rfl, hm⟩ := u8_of_wf hw
  exact ⟨m, by simpa using hz, hm⟩
theorem cell_u32 (h : DataW.trod enc Tryz.prog w base (fun _ => true) held n 23 [v] = some y) : ∃ m : Nat, v = .int .u32 (m : Int) ∧ m < 4294967296 := by
  obtain ⟨z, hz, _, hw⟩ := DataW.trod_int Tryz.underlying23 h
  obtain ⟨m, rfl, hm⟩ := u32_of_wf hw
  exact ⟨m, by simpa using hz, hm⟩
theorem cell_u64 (h : DataW.trod enc Tryz.prog w base (fun _ => true) held n 39 [v] = some y) : ∃ m : Nat, v = .int .u64 (m : Int) ∧ m < 18446744073709551616 := by
  obtain ⟨z, hz, _, hw⟩ := DataW.trod_int Tryz.underlying39 h
  obtain ⟨m, rfl, hm⟩ := u64_of_wf hw
  exact ⟨m, by simpa using hz, hm⟩
end
theorem get_some {α : Type} {xs : List α} {n i : Nat} (h : xs.length = n) (hi : i < n) : ∃ x, xs[i]? = some x := ⟨_, List.getElem?_eq_getElem (by omega)⟩

section
variable {H : Type} {enc : TypeId × Value → H} {w : World} {base : Nat} {held : Bool} {n : Nat}
theorem cells_source {v0 v1 v2 : Value} {y : DataW H × List MemPlace} (h : DataW.trod enc Tryz.prog w base (fun _ => true) held n 41 [v0, v1, v2] = some y) :
    ∃ (m : Nat) (a : Option Addr) (k c : Nat) (l : List UInt8) (sd : Nat), v0 = .int .u8 (m : Int) ∧ v1 = .slice a k c ∧ v2 = .int .u64 (sd : Int) ∧ m < 256 ∧ Bs w a k c l ∧ sd < 18446744073709551616 := by
  obtain ⟨xs, k, _, _, _, hlen, hg⟩ := DataW.trod_struct Tryz.underlying41 h
  have c8 : Tryz.prog.cellsOf 5 = 1 := by kernel_rfl
  have cs : Tryz.prog.cellsOf 22 = 1 := by kernel_rfl
  have c64 : Tryz.prog.cellsOf 39 = 1 := by kernel_rfl
  obtain ⟨x0, h0⟩ := get_some hlen (i := 0) (by decide)
  obtain ⟨x1, h1⟩ := get_some hlen (i := 1) (by decide)
  obtain ⟨x2, h2⟩ := get_some hlen (i := 2) (by decide)
  have g0 : DataW.trod enc Tryz.prog w base (fun _ => true) held k 5 (([v0, v1, v2].drop 0).take (Tryz.prog.cellsOf 5)) = some x0 := (hg 0 _ rfl).trans h0
  rw [c8] at g0
  have g1 : DataW.trod enc Tryz.prog w base (fun _ => true) held k 22 (([v0, v1, v2].drop 1).take (Tryz.prog.cellsOf 22)) = some x1 := (hg 1 _ rfl).trans h1
  rw [cs] at g1
  have g2 : DataW.trod enc Tryz.prog w base (fun _ => true) held k 39 (([v0, v1, v2].drop 2).take (Tryz.prog.cellsOf 39)) = some x2 := (hg 2 _ rfl).trans h2
  rw [c64] at g2
  obtain ⟨m, rfl, hm⟩ := cell_u8 g0
  obtain ⟨a, k', c, l, rfl, hb⟩ := cell_bs g1
  obtain ⟨sd, rfl, hs⟩ := cell_u64 g2
  exact ⟨m, a, k', c, l, sd, rfl, rfl, rfl, hm, hb, hs⟩
theorem list3 {α : Type} : ∀ {l : List α}, l.length = 3 → ∃ a b c, l = [a, b, c]
  | [a, b, c], _ => ⟨a, b, c, rfl⟩
set_option maxRecDepth 100000 in
theorem open_source {r : Reach} {b0 : Nat} {v : Value} {d : DataW H} {p : List MemPlace} (hv : Value.okWide Tryz.prog w r b0 41 v) (h : DataW.Trod enc Tryz.prog w base (fun _ => true) held 41 v d p) :
    ∃ (m : Nat) (a : Option Addr) (k c : Nat) (l : List UInt8) (sd : Nat), v = .agg #[.int .u8 (m : Int), .slice a k c, .int .u64 (sd : Int)] ∧ m < 256 ∧ Bs w a k c l ∧ sd < 18446744073709551616 := by
  obtain ⟨cs, rfl, hsz⟩ := okWide_struct Tryz.underlying41 hv
  have h3 : Tryz.prog.cellsOf 41 = 3 := by kernel_rfl
  rw [h3] at hsz
  obtain ⟨l⟩ := cs
  have hl : l.length = 3 := hsz
  obtain ⟨c0, c1, c2, rfl⟩ := list3 hl
  clear hsz hl h3
  obtain ⟨fuel, hf⟩ := h
  obtain ⟨m, a, k, c, l, sd, rfl, rfl, rfl, hm, hb, hs⟩ := cells_source hf
  exact ⟨m, a, k, c, l, sd, rfl, hm, hb, hs⟩
end
end Go.Proofs.YtddopoojmadpjaaGreatDoor
