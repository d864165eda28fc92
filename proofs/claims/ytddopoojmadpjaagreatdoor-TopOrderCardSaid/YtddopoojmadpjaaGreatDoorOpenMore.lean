/-
  What comes in, opened: slices of sources, of many rows, of pairs of bytes.
-/
import Derived.Test.YtddopoojmadpjaaGreatDoorOpenSource
import Derived.Test.YtddopoojmadpjaaGreatDoorTopSent
import Derived.Deep.Slices
namespace Go.Proofs.YtddopoojmadpjaaGreatDoor
open Go.RowKit Go.ChangeShapes Go.WideShapes
set_option linter.unusedVariables false

section
variable {H : Type} {enc : TypeId × Value → H} {W : World} {base : Nat} {held : Bool} {fuel : Nat} {a : Option Addr} {len cap : Nat} {x : DataW H × List MemPlace}
theorem Srcs.of_trod (h : DataW.trod enc Tryz.prog W base (fun _ => true) held fuel 24 (Value.slice a len cap).cells.toList = some x) : ∃ ss, Srcs W a len cap ss := by
  have cS : Tryz.prog.cellsOf 41 = 3 := by kernel_rfl
  rcases Deep.open_slice Tryz.underlying24 h with ⟨hcs, _⟩ | ⟨A, len', cap', mm, n, D, Pl, hcs, hb, hl, hm, hmm, hx, hi⟩
  · simp [Value.cells] at hcs
    obtain ⟨rfl, rfl, rfl⟩ := hcs
    exact ⟨[], rfl, Nat.le_refl _, Nat.zero_le _, fun _ => rfl, fun _ h => (by cases h)⟩
  · simp [Value.cells] at hcs
    obtain ⟨rfl, rfl, rfl⟩ := hcs
    have each : ∀ i, i < len → ∃ s : Src, SrcAt W (A.add (i * 3)) s := by
      intro i hil
      obtain ⟨cs', hc, ht'⟩ := hi i (by rw [hmm]; simp; omega)
      rw [cS] at hc
      obtain ⟨_, hcl, hat⟩ := World.cells?_some hc
      obtain ⟨c0, c1, c2, rfl⟩ := list3 hcl
      have y0 := hat 0 (by decide)
      have y1 := hat 1 (by decide)
      have y2 := hat 2 (by decide)
      obtain ⟨m, a', k', c, l, sd, rfl, rfl, rfl, hm', hbs, hs⟩ := cells_source ht'
      have hk := hbs.1
      subst hk
      exact ⟨⟨m, l, sd⟩, a', c, by rw [Addr.add_zero'] at y0; exact y0, y1, y2, hm', hbs, hs⟩
    haveI : Inhabited Src := ⟨dSrc⟩
    obtain ⟨f, hf⟩ := Go.Deep.choose_lt each
    refine ⟨(List.range len).map f, by simp, hl, hm, (fun h => by cases h), fun y hy i s hs => ?_⟩
    cases hy
    rw [List.getElem?_map] at hs
    obtain ⟨r, hr1, rfl⟩ := Option.map_eq_some_iff.1 hs
    have hlt := (List.getElem?_eq_some_iff.1 hr1).1
    have hri : r = i := by simp at hlt; rw [List.getElem?_range hlt] at hr1; simpa using hr1.symm
    subst hri
    exact hf r (by simpa using hlt)

/-- many rows of rows. -/
def Bsss (w : World) (a : Option Addr) (len cap : Nat) (lss : List (List (List UInt8))) : Prop :=
  lss.length = len ∧ len ≤ cap ∧ cap ≤ maxLen ∧ (a = none → len = 0) ∧ ∀ x, a = some x → ∀ i ls, lss[i]? = some ls → ∃ a' n c, w.cell? (x.add i) = some (.slice a' n c) ∧ Bss w a' n c ls
theorem Bsss.below {w w' : World} {a : Option Addr} {len cap : Nat} {lss : List (List (List UInt8))} (h : Bsss w a len cap lss) (g : Gr w w') : Bsss w' a len cap lss :=
  ⟨h.1, h.2.1, h.2.2.1, h.2.2.2.1, fun x hx i s hs => by obtain ⟨a', n, c, h1, h2⟩ := h.2.2.2.2 x hx i s hs; exact ⟨a', n, c, g.cell h1, h2.below g⟩⟩
theorem Bsss.at_ {w : World} {a : Option Addr} {len cap : Nat} {lss : List (List (List UInt8))} (h : Bsss w a len cap lss) (hl : 0 < len) : ∃ b off, a = some ⟨b, off, none⟩ ∧ b < w.heap.size := by
  obtain ⟨h1, _, _, h3, h4⟩ := h
  cases a with
  | none => have := h3 rfl; omega
  | some x =>
    obtain ⟨_, _, _, h0, _⟩ := h4 x rfl 0 (lss[0]'(by omega)) (by simp)
    rw [Addr.add_zero'] at h0
    have hs := World.cell?_spot h0
    obtain ⟨b, off, spot⟩ := x
    simp at hs; subst hs
    exact ⟨b, off, rfl, World.block_lt_of_cell? w _ h0⟩
theorem Bsss.get {w : World} {b off len cap : Nat} {lss : List (List (List UInt8))} (h : Bsss w (some ⟨b, off, none⟩) len cap lss) {i : Nat} (hi : i < len) :
    ∃ ls a' n c, lss[i]? = some ls ∧ w.cell? ⟨b, off + i, none⟩ = some (.slice a' n c) ∧ Bss w a' n c ls := by
  obtain ⟨a', n, c, h0, r⟩ := h.2.2.2.2 _ rfl i (lss[i]'(by have := h.1; omega)) (by simp)
  rw [Addr.add_lit] at h0
  exact ⟨_, a', n, c, by simp, h0, r⟩
theorem Bsss.of_trod (h : DataW.trod enc Tryz.prog W base (fun _ => true) held fuel 51 (Value.slice a len cap).cells.toList = some x) : ∃ lss, Bsss W a len cap lss := by
  have cS : Tryz.prog.cellsOf 25 = 1 := by kernel_rfl
  rcases Deep.open_slice Tryz.underlying51 h with ⟨hcs, _⟩ | ⟨A, len', cap', mm, n, D, Pl, hcs, hb, hl, hm, hmm, hx, hi⟩
  · simp [Value.cells] at hcs
    obtain ⟨rfl, rfl, rfl⟩ := hcs
    exact ⟨[], rfl, Nat.le_refl _, Nat.zero_le _, fun _ => rfl, fun _ h => (by cases h)⟩
  · simp [Value.cells] at hcs
    obtain ⟨rfl, rfl, rfl⟩ := hcs
    have each : ∀ i, i < len → ∃ ls : List (List UInt8), ∃ a' n c, W.cell? (A.add i) = some (.slice a' n c) ∧ Bss W a' n c ls := by
      intro i hil
      obtain ⟨cs', hc, ht'⟩ := hi i (by rw [hmm]; simp; omega)
      rw [cS] at hc
      obtain ⟨_, hcl, hat⟩ := World.cells?_some hc
      obtain ⟨c0, rfl⟩ : ∃ c0, cs' = [c0] := by
        match cs', hcl with
        | [c0], _ => exact ⟨c0, rfl⟩
      have y0 := hat 0 (by decide)
      rw [Addr.add_zero', Nat.mul_one] at y0
      have hv : ∃ a' n c, c0 = .slice a' n c := by
        rcases Deep.open_slice Tryz.underlying25 ht' with ⟨hcs, _⟩ | ⟨A, len', cap', mm, n, D, Pl, hcs, _⟩
        · exact ⟨_, _, _, by simpa using hcs⟩
        · exact ⟨_, _, _, by simpa using hcs⟩
      obtain ⟨a', n', c', rfl⟩ := hv
      obtain ⟨ls, hls⟩ := Bss.of_trod (a := a') (len := n') (cap := c') Tryz.underlying25 Tryz.underlying22 Tryz.underlying5 (by kernel_rfl) (by kernel_rfl) (by simpa [Value.cells] using ht')
      exact ⟨ls, a', n', c', y0, hls⟩
    obtain ⟨f, hf⟩ := Go.Deep.choose_lt each
    refine ⟨(List.range len).map f, by simp, hl, hm, (fun h => by cases h), fun y hy i s hs => ?_⟩
    cases hy
    rw [List.getElem?_map] at hs
    obtain ⟨r, hr1, rfl⟩ := Option.map_eq_some_iff.1 hs
    have hlt := (List.getElem?_eq_some_iff.1 hr1).1
    have hri : r = i := by simp at hlt; rw [List.getElem?_range hlt] at hr1; simpa using hr1.symm
    subst hri
    exact hf r (by simpa using hlt)

/-- pairs of bytes. -/
def Mvs (w : World) (a : Option Addr) (len cap : Nat) (ms : List (Nat × Nat)) : Prop :=
  ms.length = len ∧ len ≤ cap ∧ cap ≤ maxLen ∧ (a = none → len = 0) ∧ ∀ x, a = some x → ∀ i m, ms[i]? = some m → w.cell? (x.add (i * 2)) = some (.int .u8 (m.1 : Int)) ∧ w.cell? ((x.add (i * 2)).add 1) = some (.int .u8 (m.2 : Int)) ∧ m.1 < 256 ∧ m.2 < 256
theorem Mvs.below {w w' : World} {a : Option Addr} {len cap : Nat} {ms : List (Nat × Nat)} (h : Mvs w a len cap ms) (g : Gr w w') : Mvs w' a len cap ms :=
  ⟨h.1, h.2.1, h.2.2.1, h.2.2.2.1, fun x hx i s hs => by obtain ⟨h1, h2, h3⟩ := h.2.2.2.2 x hx i s hs; exact ⟨g.cell h1, g.cell h2, h3⟩⟩
theorem Mvs.at_ {w : World} {a : Option Addr} {len cap : Nat} {ms : List (Nat × Nat)} (h : Mvs w a len cap ms) (hl : 0 < len) : ∃ b off, a = some ⟨b, off, none⟩ ∧ b < w.heap.size := by
  obtain ⟨h1, _, _, h3, h4⟩ := h
  cases a with
  | none => have := h3 rfl; omega
  | some x =>
    obtain ⟨h0, _⟩ := h4 x rfl 0 (ms[0]'(by omega)) (by simp)
    rw [show 0 * 2 = 0 from rfl, Addr.add_zero'] at h0
    have hs := World.cell?_spot h0
    obtain ⟨b, off, spot⟩ := x
    simp at hs; subst hs
    exact ⟨b, off, rfl, World.block_lt_of_cell? w _ h0⟩
theorem Mvs.get {w : World} {b off len cap : Nat} {ms : List (Nat × Nat)} (h : Mvs w (some ⟨b, off, none⟩) len cap ms) {i : Nat} (hi : i < len) :
    ∃ m1 m2 : Nat, ms[i]? = some (m1, m2) ∧ w.cell? ⟨b, off + i * 2, none⟩ = some (.int .u8 (m1 : Int)) ∧ w.cell? ⟨b, off + i * 2 + 1, none⟩ = some (.int .u8 (m2 : Int)) ∧ m1 < 256 ∧ m2 < 256 := by
  have e : ms[i]? = some (ms[i]'(by have := h.1; omega)) := List.getElem?_eq_getElem _
  obtain ⟨h0, h1, r1, r2⟩ := h.2.2.2.2 _ rfl i _ e
  rw [Addr.add_lit] at h0 h1
  rw [Addr.add_lit] at h1
  exact ⟨_, _, e, h0, h1, r1, r2⟩
set_option maxRecDepth 100000 in
theorem Mvs.of_trod (h : DataW.trod enc Tryz.prog W base (fun _ => true) held fuel 68 (Value.slice a len cap).cells.toList = some x) : ∃ ms, Mvs W a len cap ms := by
  have cS : Tryz.prog.cellsOf 70 = 2 := by kernel_rfl
  have c8 : Tryz.prog.cellsOf 5 = 1 := by kernel_rfl
  rcases Deep.open_slice Tryz.underlying68 h with ⟨hcs, _⟩ | ⟨A, len', cap', mm, n, D, Pl, hcs, hb, hl, hm, hmm, hx, hi⟩
  · simp [Value.cells] at hcs
    obtain ⟨rfl, rfl, rfl⟩ := hcs
    exact ⟨[], rfl, Nat.le_refl _, Nat.zero_le _, fun _ => rfl, fun _ h => (by cases h)⟩
  · simp [Value.cells] at hcs
    obtain ⟨rfl, rfl, rfl⟩ := hcs
    have each : ∀ i, i < len → ∃ m : Nat × Nat, W.cell? (A.add (i * 2)) = some (.int .u8 (m.1 : Int)) ∧ W.cell? ((A.add (i * 2)).add 1) = some (.int .u8 (m.2 : Int)) ∧ m.1 < 256 ∧ m.2 < 256 := by
      intro i hil
      obtain ⟨cs', hc, ht'⟩ := hi i (by rw [hmm]; simp; omega)
      rw [cS] at hc
      obtain ⟨_, hcl, hat⟩ := World.cells?_some hc
      obtain ⟨c0, c1, rfl⟩ : ∃ c0 c1, cs' = [c0, c1] := by
        match cs', hcl with
        | [c0, c1], _ => exact ⟨c0, c1, rfl⟩
      have y0 := hat 0 (by decide)
      have y1 := hat 1 (by decide)
      rw [Addr.add_zero'] at y0
      obtain ⟨xs, k, _, _, _, hlen, hg⟩ := DataW.trod_array Tryz.underlying70 ht'
      obtain ⟨x0, h0⟩ := get_some hlen (i := 0) (by decide)
      obtain ⟨x1, h1⟩ := get_some hlen (i := 1) (by decide)
      have g0 := (hg 0 (by decide)).trans h0
      have g1 := (hg 1 (by decide)).trans h1
      rw [c8] at g0 g1
      obtain ⟨m1, rfl, hm1⟩ := cell_u8 g0
      obtain ⟨m2, rfl, hm2⟩ := cell_u8 g1
      exact ⟨(m1, m2), y0, y1, hm1, hm2⟩
    obtain ⟨f, hf⟩ := Go.Deep.choose_lt each
    refine ⟨(List.range len).map f, by simp, hl, hm, (fun h => by cases h), fun y hy i s hs => ?_⟩
    cases hy
    rw [List.getElem?_map] at hs
    obtain ⟨r, hr1, rfl⟩ := Option.map_eq_some_iff.1 hs
    have hlt := (List.getElem?_eq_some_iff.1 hr1).1
    have hri : r = i := by simp at hlt; rw [List.getElem?_range hlt] at hr1; simpa using hr1.symm
    subst hri
    exact hf r (by simpa using hlt)
end
end Go.Proofs.YtddopoojmadpjaaGreatDoor
