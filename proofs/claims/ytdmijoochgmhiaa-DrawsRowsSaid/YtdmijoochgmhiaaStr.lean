/-
  Strings of bytes: what their parts are, what bytes make of them, and they of bytes.
-/
import Derived.Test.YtdmijoochgmhiaaBase
import Derived.Laws.IdiomStrings
import Derived.Laws.BytesString
import Derived.Lib.Strings
import Derived.Lib.BufferRead
import Derived.Lib.SlFresh
import Derived.Lib.SlParts
import Derived.Lib.Hide
namespace Go.Proofs.Ytdmijoochgmhiaa
open Go.RowKit
set_option linter.unusedVariables false

/-- the string of these bytes. -/
def str (l : List UInt8) : ByteArray := ⟨l.toArray⟩
theorem str_data (l : List UInt8) : (str l).data.toList = l := rfl
theorem str_size (l : List UInt8) : (str l).size = l.length := by simp [str, ByteArray.size]
theorem str_extract (l : List UInt8) (a b : Nat) : (str l).extract a b = str ((l.drop a).take (b - a)) := by
  apply ByteArray.ext
  apply Array.toList_inj.1
  rw [Lib.extract_data]
  rfl

/-- what '[]byte(s)' lays reads as the string's bytes. -/
theorem Bs.of_bytesRow {w : World} {b cap : Nat} {e : TypeId} {m : Nat × Nat} {l : List UInt8} (hb : w.heap[b]? = some (.cells (bytesRow (str l) cap) e m)) (hc : l.length ≤ cap) (hm : cap ≤ maxLen) : Bs w (some ⟨b, 0, none⟩) l.length cap l := by
  refine ⟨rfl, hc, hm, (fun h => by cases h), fun x hx i u hu => ?_⟩
  cases hx
  rw [Addr.add_lit, Nat.zero_add]
  have hi : i < l.length := (List.getElem?_eq_some_iff.1 hu).1
  have e2 : (bytesRow (str l) cap)[i]? = some (.int .u8 (u.toNat : Int)) := by
    have hz : i < ((str l).data.map (fun b => Value.int .u8 b.toNat)).size := by simp [str]; exact hi
    rw [bytesRow, Array.getElem?_append_left hz, Array.getElem?_map]
    have : (str l).data[i]? = some u := by rw [← Array.getElem?_toList]; exact hu
    rw [this]; rfl
  simp [World.cell?, hb, e2]

/-- 'string(b)' of bytes. -/
theorem run_string_of {P : Program} {src dst e : TypeId} (hs : P.underlying src = some (.slice e)) (he : P.underlying e = some (.int .u8)) (hd : P.underlying dst = some .string) (w : World) {a : Option Addr} {n c : Nat} {l : List UInt8} (h : Bs w a n c l) :
    (convert src dst (.slice a n c)).run P w = .ok (.string (str l)) w := by
  obtain ⟨rfl, h2, h3, h4, h5⟩ := h
  cases a with
  | none =>
    have := h4 rfl
    obtain rfl : l = [] := List.eq_nil_of_length_eq_zero (by omega)
    exact Lib.run_convert_nil_bytes w src dst e c hs he hd
  | some x => exact run_convert_bytes_back w src dst e x c l hs he hd (fun j hj => h5 x rfl j _ (List.getElem?_eq_getElem hj))

/-- what the shelf calls fresh bytes. -/
theorem Bs.of_fresh {B : Nat} {w : World} {v : Value} {l : List UInt8} (h : Lib.FreshBytes B w v l) : ∃ a c, v = .slice a l.length c ∧ Bs w a l.length c l := by
  obtain ⟨g, cap, zs, rfl, hg, hl, hm, hz, hr, hb, hc, hf⟩ := h
  refine ⟨_, cap, rfl, rfl, hl, hm, (fun h => by cases h), fun x hx i u hu => ?_⟩
  cases hx
  have hi : i < l.length := (List.getElem?_eq_some_iff.1 hu).1
  rw [Addr.add_lit, Nat.zero_add, hc i (by omega)]
  have h1 : (Lib.bytesOf (zs.take l.length))[i]? = some u := by rw [hb]; exact hu
  unfold Lib.bytesOf at h1
  rw [List.getElem?_map, List.getElem?_take, if_pos hi] at h1
  obtain ⟨z, hz1, hz2⟩ := Option.map_eq_some_iff.1 h1
  have hz3 := hr z (List.mem_of_getElem? hz1)
  rw [List.getD_eq_getElem?_getD, hz1]
  show some (Value.int .u8 z) = _
  subst hz2
  have : (UInt8.ofNat z.toNat).toNat = z.toNat := by simp; omega
  rw [this]
  congr 2
  omega

/-- .. and as the shelf is told of parts. -/
theorem Bs.holds {w : World} {a : Option Addr} {n c : Nat} {l : List UInt8} (h : Bs w a n c l) : Lib.HoldsBytes w (.slice a n c) l := by
  obtain ⟨rfl, h2, h3, h4, h5⟩ := h
  refine ⟨a, c, rfl, fun e => ?_, fun x hx i u hu => h5 x hx i u hu⟩
  have := h4 e
  exact List.eq_nil_of_length_eq_zero (by omega)
theorem Bss.parts {w : World} {x : Addr} {n c : Nat} {ls : List (List UInt8)} (h : Bss w (some x) n c ls) : ∃ vs, Lib.PartsAt w x vs ls := by
  obtain ⟨h1, h2, h3, h4, h5⟩ := h
  have key : ∀ i : Nat, ∃ v : Value, ∀ l, ls[i]? = some l → w.cell? (x.add i) = some v ∧ Lib.HoldsBytes w v l := by
    intro i
    cases hl : ls[i]? with
    | none => exact ⟨.int .u8 0, fun _ h => by cases h⟩
    | some l =>
      obtain ⟨a', n', c', hc, hb⟩ := h5 x rfl i l hl
      exact ⟨_, fun l' e => by cases e; exact ⟨hc, hb.holds⟩⟩
  let F : Nat → Value := fun i => Classical.choose (key i)
  have hF : ∀ i l, ls[i]? = some l → w.cell? (x.add i) = some (F i) ∧ Lib.HoldsBytes w (F i) l := fun i => Classical.choose_spec (key i)
  refine ⟨(List.range ls.length).map F, by simp, fun i v hv => ?_, fun i v l hv hl => ?_⟩
  · have hi : i < ls.length := by have := (List.getElem?_eq_some_iff.1 hv).1; simpa using this
    rw [List.getElem?_map, List.getElem?_range hi] at hv
    obtain rfl : F i = v := by simpa using hv
    exact (hF i _ (List.getElem?_eq_getElem hi)).1
  · have hi : i < ls.length := (List.getElem?_eq_some_iff.1 hl).1
    rw [List.getElem?_map, List.getElem?_range hi] at hv
    obtain rfl : F i = v := by simpa using hv
    exact (hF i _ hl).2
theorem join_flat (ls : List (List UInt8)) : Lib.join ls [] = ls.flatten := by
  cases ls with
  | nil => rfl
  | cons x r => rw [Lib.join_cons, List.flatten_cons, Lib.joinTail]; congr 1; congr 1; simp
theorem lens_flat (ls : List (List UInt8)) : Lib.lens ls = ls.flatten.length := by rw [Lib.lens, List.length_flatten]
end Go.Proofs.Ytdmijoochgmhiaa
