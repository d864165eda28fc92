/-
  A packet that comes in, opened: a struct of a head, a source and a payload.
-/
import Derived.Test.YtdmijoochgmhiacDoorRows
import Derived.Test.YtdmijoochgmhiacDoorBase
import Derived.Lib.SmallJoins
namespace Go.Proofs.YtdmijoochgmhiacDoor
open Go.RowKit Go.ChangeShapes Go.WideShapes
set_option linter.unusedVariables false

section
variable {H : Type} {enc : TypeId × Value → H} {w : World} {base : Nat} {held : Bool} {n : Nat} {v : Value} {y : DataW H × List MemPlace}
theorem cell_bs (h : DataW.trod enc Tryd.prog w base (fun _ => true) held n 35 [v] = some y) : ∃ a k c l, v = .slice a k c ∧ Bs w a k c l := by
  have hv : ∃ a k c, v = .slice a k c := by
    rcases ChangeShapes.open_ints Tryd.underlying35 Tryd.underlying5 (by kernel_rfl) h with ⟨hcs, _⟩ | ⟨x, len', cap', zs, hcs, _⟩
    · exact ⟨_, _, _, by simpa using hcs⟩
    · exact ⟨_, _, _, by simpa using hcs⟩
  obtain ⟨a, k, c, rfl⟩ := hv
  obtain ⟨l, hl⟩ := Bs.of_trod Tryd.underlying35 Tryd.underlying5 (by kernel_rfl) (by simpa [Value.cells] using h)
  exact ⟨a, k, c, l, rfl, hl⟩
theorem cell_u8 (h : DataW.trod enc Tryd.prog w base (fun _ => true) held n 5 [v] = some y) : ∃ m : Nat, v = .int .u8 (m : Int) ∧ m < 256 := by
  obtain ⟨z, hz, _, hw⟩ := DataW.trod_int Tryd.underlying5 h
  obtain ⟨m, rfl, hm⟩ := u8_of_wf hw
  exact ⟨m, by simpa using hz, hm⟩
theorem cell_u32 (h : DataW.trod enc Tryd.prog w base (fun _ => true) held n 22 [v] = some y) : ∃ m : Nat, v = .int .u32 (m : Int) ∧ m < 4294967296 := by
  obtain ⟨z, hz, _, hw⟩ := DataW.trod_int Tryd.underlying22 h
  obtain ⟨m, rfl, hm⟩ := u32_of_wf hw
  exact ⟨m, by simpa using hz, hm⟩
theorem cell_u64 (h : DataW.trod enc Tryd.prog w base (fun _ => true) held n 38 [v] = some y) : ∃ m : Nat, v = .int .u64 (m : Int) ∧ m < 18446744073709551616 := by
  obtain ⟨z, hz, _, hw⟩ := DataW.trod_int Tryd.underlying38 h
  obtain ⟨m, rfl, hm⟩ := u64_of_wf hw
  exact ⟨m, by simpa using hz, hm⟩
end
theorem get_some {α : Type} {xs : List α} {n i : Nat} (h : xs.length = n) (hi : i < n) : ∃ x, xs[i]? = some x := ⟨_, List.getElem?_eq_getElem (by omega)⟩

section
variable {H : Type} {enc : TypeId × Value → H} {w : World} {base : Nat} {held : Bool} {n : Nat}
theorem cells_head {v0 v1 v2 : Value} {y : DataW H × List MemPlace} (h : DataW.trod enc Tryd.prog w base (fun _ => true) held n 37 [v0, v1, v2] = some y) :
    ∃ m o nn : Nat, v0 = .int .u8 (m : Int) ∧ v1 = .int .u32 (o : Int) ∧ v2 = .int .u32 (nn : Int) ∧ m < 256 ∧ o < 4294967296 ∧ nn < 4294967296 := by
  obtain ⟨xs, k, _, _, _, hlen, hg⟩ := DataW.trod_struct Tryd.underlying37 h
  have c8 : Tryd.prog.cellsOf 5 = 1 := by kernel_rfl
  have c32 : Tryd.prog.cellsOf 22 = 1 := by kernel_rfl
  obtain ⟨x0, h0⟩ := get_some hlen (i := 0) (by decide)
  obtain ⟨x1, h1⟩ := get_some hlen (i := 1) (by decide)
  obtain ⟨x2, h2⟩ := get_some hlen (i := 2) (by decide)
  have g0 : DataW.trod enc Tryd.prog w base (fun _ => true) held k 5 (([v0, v1, v2].drop 0).take (Tryd.prog.cellsOf 5)) = some x0 := (hg 0 _ rfl).trans h0
  rw [c8] at g0
  have g1 : DataW.trod enc Tryd.prog w base (fun _ => true) held k 22 (([v0, v1, v2].drop 1).take (Tryd.prog.cellsOf 22)) = some x1 := (hg 1 _ rfl).trans h1
  rw [c32] at g1
  have g2 : DataW.trod enc Tryd.prog w base (fun _ => true) held k 22 (([v0, v1, v2].drop 2).take (Tryd.prog.cellsOf 22)) = some x2 := (hg 2 _ rfl).trans h2
  rw [c32] at g2
  obtain ⟨m, rfl, hm⟩ := cell_u8 g0
  obtain ⟨o, rfl, ho⟩ := cell_u32 g1
  obtain ⟨nn, rfl, hn⟩ := cell_u32 g2
  exact ⟨m, o, nn, rfl, rfl, rfl, hm, ho, hn⟩
theorem cells_source {v0 v1 v2 : Value} {y : DataW H × List MemPlace} (h : DataW.trod enc Tryd.prog w base (fun _ => true) held n 40 [v0, v1, v2] = some y) :
    ∃ (m : Nat) (a : Option Addr) (k c : Nat) (l : List UInt8) (sd : Nat), v0 = .int .u8 (m : Int) ∧ v1 = .slice a k c ∧ v2 = .int .u64 (sd : Int) ∧ m < 256 ∧ Bs w a k c l ∧ sd < 18446744073709551616 := by
  obtain ⟨xs, k, _, _, _, hlen, hg⟩ := DataW.trod_struct Tryd.underlying40 h
  have c8 : Tryd.prog.cellsOf 5 = 1 := by kernel_rfl
  have cs : Tryd.prog.cellsOf 35 = 1 := by kernel_rfl
  have c64 : Tryd.prog.cellsOf 38 = 1 := by kernel_rfl
  obtain ⟨x0, h0⟩ := get_some hlen (i := 0) (by decide)
  obtain ⟨x1, h1⟩ := get_some hlen (i := 1) (by decide)
  obtain ⟨x2, h2⟩ := get_some hlen (i := 2) (by decide)
  have g0 : DataW.trod enc Tryd.prog w base (fun _ => true) held k 5 (([v0, v1, v2].drop 0).take (Tryd.prog.cellsOf 5)) = some x0 := (hg 0 _ rfl).trans h0
  rw [c8] at g0
  have g1 : DataW.trod enc Tryd.prog w base (fun _ => true) held k 35 (([v0, v1, v2].drop 1).take (Tryd.prog.cellsOf 35)) = some x1 := (hg 1 _ rfl).trans h1
  rw [cs] at g1
  have g2 : DataW.trod enc Tryd.prog w base (fun _ => true) held k 38 (([v0, v1, v2].drop 2).take (Tryd.prog.cellsOf 38)) = some x2 := (hg 2 _ rfl).trans h2
  rw [c64] at g2
  obtain ⟨m, rfl, hm⟩ := cell_u8 g0
  obtain ⟨a, k', c, l, rfl, hb⟩ := cell_bs g1
  obtain ⟨sd, rfl, hs⟩ := cell_u64 g2
  exact ⟨m, a, k', c, l, sd, rfl, rfl, rfl, hm, hb, hs⟩
theorem list7 {α : Type} : ∀ {l : List α}, l.length = 7 → ∃ a b c d e f g, l = [a, b, c, d, e, f, g]
  | [a, b, c, d, e, f, g], _ => ⟨a, b, c, d, e, f, g, rfl⟩
theorem list3 {α : Type} : ∀ {l : List α}, l.length = 3 → ∃ a b c, l = [a, b, c]
  | [a, b, c], _ => ⟨a, b, c, rfl⟩
set_option maxRecDepth 100000 in
theorem open_one {r : Reach} {b0 : Nat} {v : Value} {d : DataW H} {p : List MemPlace} (hv : Value.okWide Tryd.prog w r b0 52 v) (h : DataW.Trod enc Tryd.prog w base (fun _ => true) held 52 v d p) :
    ∃ (m o nn md : Nat) (a : Option Addr) (k c : Nat) (l : List UInt8) (sd : Nat) (a' : Option Addr) (k' c' : Nat) (lp : List UInt8),
      v = .agg #[.int .u8 (m : Int), .int .u32 (o : Int), .int .u32 (nn : Int), .int .u8 (md : Int), .slice a k c, .int .u64 (sd : Int), .slice a' k' c'] ∧
      m < 256 ∧ o < 4294967296 ∧ nn < 4294967296 ∧ md < 256 ∧ Bs w a k c l ∧ sd < 18446744073709551616 ∧ Bs w a' k' c' lp := by
  obtain ⟨cs, rfl, hsz⟩ := okWide_struct Tryd.underlying52 hv
  have h7 : Tryd.prog.cellsOf 52 = 7 := by kernel_rfl
  rw [h7] at hsz
  obtain ⟨l⟩ := cs
  have hl : l.length = 7 := hsz
  obtain ⟨c0, c1, c2, c3, c4, c5, c6, rfl⟩ := list7 hl
  clear hsz hl h7
  obtain ⟨fuel, hf⟩ := h
  obtain ⟨xs, k, _, _, _, hlen, hg⟩ := DataW.trod_struct Tryd.underlying52 hf
  have cH : Tryd.prog.cellsOf 37 = 3 := by kernel_rfl
  have cS : Tryd.prog.cellsOf 40 = 3 := by kernel_rfl
  have cb : Tryd.prog.cellsOf 35 = 1 := by kernel_rfl
  obtain ⟨x0, h0⟩ := get_some hlen (i := 0) (by decide)
  obtain ⟨x1, h1⟩ := get_some hlen (i := 1) (by decide)
  obtain ⟨x2, h2⟩ := get_some hlen (i := 2) (by decide)
  have g0 : DataW.trod enc Tryd.prog w base (fun _ => true) held k 37 (([c0, c1, c2, c3, c4, c5, c6].drop 0).take (Tryd.prog.cellsOf 37)) = some x0 := (hg 0 _ rfl).trans h0
  rw [cH] at g0
  have g1 : DataW.trod enc Tryd.prog w base (fun _ => true) held k 40 (([c0, c1, c2, c3, c4, c5, c6].drop 3).take (Tryd.prog.cellsOf 40)) = some x1 := (hg 1 _ rfl).trans h1
  rw [cS] at g1
  have g2 : DataW.trod enc Tryd.prog w base (fun _ => true) held k 35 (([c0, c1, c2, c3, c4, c5, c6].drop 6).take (Tryd.prog.cellsOf 35)) = some x2 := (hg 2 _ rfl).trans h2
  rw [cb] at g2
  obtain ⟨m, o, nn, rfl, rfl, rfl, hm, ho, hn⟩ := cells_head g0
  obtain ⟨md, a, k1, c, l, sd, rfl, rfl, rfl, hmd, hb, hs⟩ := cells_source g1
  obtain ⟨a', k', c', lp, rfl, hb'⟩ := cell_bs g2
  exact ⟨m, o, nn, md, a, k1, c, l, sd, a', k', c', lp, rfl, hm, ho, hn, hmd, hb, hs, hb'⟩
end
end Go.Proofs.YtdmijoochgmhiacDoor
