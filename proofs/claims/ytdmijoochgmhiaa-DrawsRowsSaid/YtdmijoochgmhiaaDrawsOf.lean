/-
  What bytes.Join hands back, of whatever parts; and draws of them.
-/
import Derived.Test.YtdmijoochgmhiaaDraws
import Derived.Shelf.Bytes.SlJoin
namespace Go.Proofs.Ytdmijoochgmhiaa
open Go.RowKit
set_option linter.unusedVariables false

def joinRen : Go.Shelf.Ren := ⟨fun | 14 => 36 | 15 => 41 | n => n, fun | 0 => 0 | 3 => 3 | 4 => 4 | 5 => 5 | 9 => 9 | 20 => 20 | 22 => 26 | 26 => 40 | n => n, fun n => n⟩
theorem joinLays : SlLaysJ.n14 Try.prog joinRen := {
  mixed := by kernel_rfl
  f14 := Try.func36.trans (congrArg some (by kernel_rfl))
  f15 := Try.func41.trans (congrArg some (by kernel_rfl))
  t0 := Try.underlying0
  a0 := Try.isAgg0
  z0 := Try.sizeOf0
  v0 := Try.zeroValue0
  t3 := Try.underlying3
  a3 := Try.isAgg3
  z3 := Try.sizeOf3
  v3 := Try.zeroValue3
  t4 := Try.underlying4
  a4 := Try.isAgg4
  z4 := Try.sizeOf4
  v4 := Try.zeroValue4
  t9 := Try.underlying9
  a9 := Try.isAgg9
  z9 := Try.sizeOf9
  v9 := Try.zeroValue9
  t20 := Try.underlying20
  a20 := Try.isAgg20
  z20 := Try.sizeOf20
  v20 := Try.zeroValue20
  t22 := Try.underlying26
  a22 := Try.isAgg26
  z22 := Try.sizeOf26
  v22 := Try.zeroValue26
  t26 := Try.underlying40
  a26 := Try.isAgg40
  z26 := Try.sizeOf40
  v26 := Try.zeroValue40
  t5 := Try.underlying5
  z5 := Try.sizeOf5
  i5 := by kernel_rfl }

/-- bytes.Join of parts, nothing between them. -/
theorem join_any (a : Option Addr) (n c : Nat) (ls : List (List UInt8)) (w : World) (h : Bss w a n c ls) (hn : n ≤ 1000) (hl : ls.flatten.length ≤ 1000000) :
    Calls Try.prog 36 #[.slice a n c, .slice none 0 0] w fun e w' => ∃ a' c', e = .returned (.slice a' ls.flatten.length c') ∧ Bs w' a' ls.flatten.length c' ls.flatten ∧ Gr w w' := by
  have hlen := h.1
  have hcap := h.2.1
  by_cases h0 : n = 0
  · subst h0
    obtain rfl : ls = [] := List.eq_nil_of_length_eq_zero hlen
    refine (Any.bytes_Join_none joinLays a c (.slice none 0 0) w).mono ?_
    rintro e w' ⟨rfl, rfl⟩
    exact ⟨_, 0, rfl, Bs.empty _ _ (by simp) 0 (Nat.zero_le _), (Gr.refl w).alloc _⟩
  · obtain ⟨b, o, rfl, _⟩ := h.at_ (by omega)
    by_cases h1 : n = 1
    · subst h1
      obtain ⟨l, a', n', c', hl0, hc, hb⟩ := h.get (i := 0) (by omega)
      rw [Nat.add_zero] at hc
      obtain ⟨x, rfl⟩ : ∃ x, ls = [x] := by
        match ls, hlen with
        | [x], _ => exact ⟨x, rfl⟩
      obtain rfl : x = l := by simpa using hl0
      have hx : [x].flatten = x := by simp
      rw [hx] at hl ⊢
      obtain ⟨rfl, h2, h3, h4, h5⟩ := hb
      by_cases hx0 : 0 < x.length
      · cases a' with
        | none => have := h4 rfl; omega
        | some ad =>
          refine (Any.bytes_Join_one joinLays b o c ad c' x (.slice none 0 0) w hc (fun i u hu => h5 ad rfl i u hu) hx0 (by omega)).mono ?_
          rintro e w' ⟨v, rfl, hf, hbel⟩
          obtain ⟨a2, c2, rfl, hb2⟩ := Bs.of_fresh hf
          exact ⟨a2, c2, rfl, hb2, hbel⟩
      · obtain rfl : x = [] := List.eq_nil_of_length_eq_zero (by omega)
        refine (Any.bytes_Join_one_empty joinLays b o c a' c' (.slice none 0 0) w hc).mono ?_
        rintro e w' ⟨rfl, rfl⟩
        exact ⟨none, 0, rfl, Bs.nil _, Gr.refl _⟩
    · obtain ⟨vs, hP⟩ := h.parts
      have hj := join_flat ls
      have hlf := lens_flat ls
      refine (Any.bytes_Join_many joinLays b o n c vs ls (.slice none 0 0) [] w hlen (by omega) hP hcap ⟨none, 0, rfl, fun _ => rfl, fun _ h => by cases h⟩ (by omega) (by rw [hlf, List.length_nil, Nat.zero_mul]; omega)).mono ?_
      rintro e w' ⟨v, rfl, hf, hbel⟩
      rw [hj] at hf
      obtain ⟨a2, c2, rfl, hb2⟩ := Bs.of_fresh hf
      exact ⟨a2, c2, rfl, hb2, hbel⟩

set_option maxRecDepth 100000 in
set_option maxHeartbeats 1000000 in
theorem drawsOf (a : Option Addr) (n c : Nat) (ls : List (List UInt8)) (w : World) (h : Bss w a n c ls) (hn : n ≤ 1000) (hl : ls.flatten.length ≤ 1000000) :
    Calls Try.prog 20 #[.slice a n c] w fun e w' => e = .returned (.agg #[.string (str ls.flatten)]) ∧ Gr w w' := by
  have HJ := Lib.hid fun w h => join_any a n c ls w h hn hl
  obtain ⟨L, eL⟩ : ∃ L, ls.flatten = L := ⟨_, rfl⟩
  have HS := Lib.hid fun (w : World) a n c h => run_string_of (P := Try.prog) (l := L) Try.underlying26 Try.underlying5 Try.underlying9 w (a := a) (n := n) (c := c) h
  obtain ⟨S, eS⟩ : ∃ S, str L = S := ⟨_, rfl⟩
  rw [eL] at HJ ⊢
  rw [eS] at HS ⊢
  have H := Lib.hid h
  clear eL eS hl h
  go_enter Try.func20, Try.ntmps20
  go_wp2_with fail
  refine (HJ.out _ (H.out.below ((Gr.refl w).alloc _))).mono ?_
  rintro e w1 ⟨a', c', rfl, hb, hg⟩
  have hcv := HS.out w1 _ _ _ hb
  have hA := hg.heap (heap_alloc_new w _)
  have hgw := ((Gr.refl w).alloc _).trans hg
  obtain ⟨x0, xf⟩ := cell1 hA
  obtain ⟨hgb, hh⟩ := set1 hA (.string S)
  have hgw2 := hgw.grb hgb (Nat.le_refl _)
  obtain ⟨y0, _⟩ := cell1 hh
  clear hb hg hA hgw hgb hh
  go_wp2
  refine bodyPost_ret (v := .agg #[.string S]) ?_ rfl ⟨rfl, hgw2⟩
  simp [results, Try.results20, go_sem, y0]
end Go.Proofs.Ytdmijoochgmhiaa
