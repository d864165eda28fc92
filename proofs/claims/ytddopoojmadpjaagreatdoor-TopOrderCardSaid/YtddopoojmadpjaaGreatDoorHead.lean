/-
  The walks of package head, and of the document's.
  The walk of head.Head.Bytes.
  The walks of head.Read and of the document's.
  What a head is written as, and what is read: each function in one contract.
-/
import Derived.Test.YtddopoojmadpjaaGreatDoorAppend
import Derived.Deep.RegionHeld3
import Derived.Test.YtddopoojmadpjaaGreatDoorRegion
namespace Go.Proofs.YtddopoojmadpjaaGreatDoor
open Go.RowKit

/-- a head, of whichever type. -/
def headV (m o n : Nat) : Value := .agg #[.int .u8 (m : Int), .int .u32 (o : Int), .int .u32 (n : Int)]
def headL (m o n : Nat) : List UInt8 := [1, UInt8.ofNat m] ++ (put4 o ++ put4 n)

set_option maxHeartbeats 400000 in
theorem headCheck_ok (m : Nat) (o n : Int) (hm : m ≤ 1) (w : World) :
    Calls Tryz.prog 110 #[.agg #[.int .u8 (m : Int), .int .u32 o, .int .u32 n]] w fun e w' => e = .returned (.int .i64 0) ∧ Gr w w' := by
  go_enter Tryz.func110, Tryz.ntmps110
  rcases (show m = 0 ∨ m = 1 by omega) with rfl | rfl
  · go_wp2
    go_ret
    exact ⟨rfl, (Gr.refl w).alloc _⟩
  · go_wp2
    go_ret
    exact ⟨rfl, (Gr.refl w).alloc _⟩
set_option maxHeartbeats 400000 in
theorem headCheck_not (m : Nat) (o n : Int) (hm : ¬ m ≤ 1) (w : World) :
    Calls Tryz.prog 110 #[.agg #[.int .u8 (m : Int), .int .u32 o, .int .u32 n]] w fun e w' => e = .returned (.int .i64 8) ∧ Gr w w' := by
  have h0 : ((m : Int) != 0) = true := by rw [bne_iff_ne]; omega
  have h1 : ((m : Int) != 1) = true := by rw [bne_iff_ne]; omega
  clear hm
  go_enter Tryz.func110, Tryz.ntmps110
  go_wp2
  go_ret
  exact ⟨rfl, (Gr.refl w).alloc _⟩
theorem Bss.of_alloc3 {w : World} {b : Nat} {a a' a'' : Option Addr} {n c n' c' n'' c'' : Nat} {l l' l'' : List UInt8} {t : TypeId} (h : Bs w a n c l) (h' : Bs w a' n' c' l') (h'' : Bs w a'' n'' c'' l'') (hb : b = w.heap.size) :
    Bss (w.alloc (.cells #[.slice a n c, .slice a' n' c', .slice a'' n'' c''] t)) (some ⟨b, 0, none⟩) 3 3 [l, l', l''] := by
  subst hb
  refine ⟨rfl, Nat.le_refl _, by decide, (fun h => by cases h), fun x hx i u hu => ?_⟩
  cases hx
  rw [Addr.add_lit, Nat.zero_add, World.cell?_alloc_at _ _ _ _ rfl]
  match i, hu with
  | 0, hu => simp at hu; subst hu; exact ⟨a, n, c, rfl, h.below ((Gr.refl _).alloc _)⟩
  | 1, hu => simp at hu; subst hu; exact ⟨a', n', c', rfl, h'.below ((Gr.refl _).alloc _)⟩
  | 2, hu => simp at hu; subst hu; exact ⟨a'', n'', c'', rfl, h''.below ((Gr.refl _).alloc _)⟩
theorem sumPut4_any (n : Nat) (hn : n < 4294967296) (w : World) :
    Calls Tryz.prog 73 #[.int .u32 (n : Int)] w fun e w' => ∃ a cap, e = .returned (.slice a 4 cap) ∧ Bs w' a 4 cap (put4 n) ∧ Gr w w' := by
  refine (sumPut_any n hn w).mono ?_
  rintro e w1 ⟨v, rfl, a, cap, rfl, hb, _, hg⟩
  exact ⟨a, cap, rfl, hb, hg⟩
theorem headL_flat (m o n : Nat) : [[1, UInt8.ofNat m], put4 o, put4 n].flatten = headL m o n := by simp [headL]

theorem get4_four {l : List UInt8} {x0 x1 x2 x3 : UInt8} (e0 : l[0]? = some x0) (e1 : l[1]? = some x1) (e2 : l[2]? = some x2) (e3 : l[3]? = some x3) :
    get4 l = x0.toNat + 256 * x1.toNat + 65536 * x2.toNat + 16777216 * x3.toNat := by
  simp only [get4, List.getD_eq_getElem?_getD, e0, e1, e2, e3, Option.getD_some]
/-- what is wrong with the bytes of a head. -/
def headErr (l : List UInt8) : Nat := if l.length < 10 then 6 else if (l.getD 0 0).toNat ≠ 1 then 7 else if 1 < (l.getD 1 0).toNat then 8 else 0
def headM (l : List UInt8) : Nat := (l.getD 1 0).toNat
def headO (l : List UInt8) : Nat := get4 ((l.take 6).drop 2)
def headN (l : List UInt8) : Nat := get4 ((l.take 10).drop 6)
/-- a cell of a block that is known whole is stored into. -/
theorem heap_set {w : World} {b i : Nat} {cs : Array Value} {t : TypeId} {m : Nat × Nat} (h : w.heap[b]? = some (.cells cs t m)) (v : Value) : (w.setCell ⟨b, i, none⟩ v).heap[b]? = some (.cells (cs.setIfInBounds i v) t m) := by
  have hlt := lt_of_block h
  have h' : w.heap[b] = .cells cs t m := by simpa [Array.getElem?_eq_getElem hlt] using h
  show (w.heap.modify b _)[b]? = _
  rw [Array.getElem?_eq_getElem (by simpa using hlt), Array.getElem_modify_self, h']
  rfl
theorem three_set {W : World} {R : Nat} {v0 v1 v2 : Value} {t : TypeId} {m : Nat × Nat} (h : W.heap[R]? = some (.cells #[v0, v1, v2] t m)) (u0 u1 u2 : Value) :
    GrB W R (((W.setCell ⟨R, 0, none⟩ u0).setCell ⟨R, 1, none⟩ u1).setCell ⟨R, 2, none⟩ u2) ∧ (((W.setCell ⟨R, 0, none⟩ u0).setCell ⟨R, 1, none⟩ u1).setCell ⟨R, 2, none⟩ u2).heap[R]? = some (.cells #[u0, u1, u2] t m) := by
  refine ⟨GrB.set (GrB.set (GrB.set (GrB.refl _ _) ?_ _) ?_ _) ?_ _, heap_set (i := 2) (heap_set (i := 1) (heap_set (i := 0) h u0) u1) u2⟩
  · exact .inl rfl
  · exact .inl rfl
  · exact .inl rfl
theorem three_cells {W : World} {R : Nat} {v0 v1 v2 : Value} {t : TypeId} (h : W.heap[R]? = some (.cells #[v0, v1, v2] t)) :
    W.cell? ⟨R, 0, none⟩ = some v0 ∧ W.cell? ⟨R, 1, none⟩ = some v1 ∧ W.cell? ⟨R, 2, none⟩ = some v2 ∧ ∀ i, W.frozen? ⟨R, i, none⟩ = false := by
  refine ⟨?_, ?_, ?_, fun i => ?_⟩ <;> simp [World.cell?, World.frozen?, h]
/-- what the document's number is, when the bytes from i + 1 on have been taken. -/
def fourTo (l : List UInt8) : Nat → Nat
  | 0 => 0
  | k + 1 => 256 * fourTo l k + (l.getD (3 - k) 0).toNat
theorem fourTo_lt (l : List UInt8) : ∀ k, fourTo l k < 256 ^ k
  | 0 => by show 0 < 1; decide
  | k + 1 => by
    have h := fourTo_lt l k
    have h2 := (l.getD (3 - k) 0).toNat_lt
    show 256 * fourTo l k + (l.getD (3 - k) 0).toNat < 256 ^ (k + 1)
    rw [Nat.pow_succ]; omega
theorem fourTo_get (l : List UInt8) : fourTo l 4 = get4 l := by
  simp only [fourTo, get4, Nat.sub_zero, Nat.reduceSub, Nat.sub_self]; omega

end Go.Proofs.YtddopoojmadpjaaGreatDoor

namespace Go.Proofs.YtddopoojmadpjaaGreatDoor
open Go.RowKit

set_option maxRecDepth 100000 in
set_option maxHeartbeats 2000000 in
theorem headBytes_ok (m o n : Nat) (hm : m ≤ 1) (ho : o < 4294967296) (hn : n < 4294967296) (w : World) :
    Calls Tryz.prog 71 #[.agg #[.int .u8 (m : Int), .int .u32 (o : Int), .int .u32 (n : Int)]] w fun e w' => ∃ a cap, e = .returned (.tuple #[.slice a 10 cap, .int .i64 0]) ∧ OwnV w' w.heap.size (.slice a 10 cap) (headL m o n) ∧ Gr w w' := by
  have hlit : #[Value.int .u8 1, .int .u8 (m : Int)].toList = u8s [1, UInt8.ofNat m] := by
    have : ((m : Int) % 256) = (m : Int) := by omega
    simp [u8s, UInt8.toNat_ofNat', this]
  have HLIT := Lib.hid hlit
  clear hlit
  go_enter Tryz.func71, Tryz.ntmps71
  go_wp2_with fail
  refine (headCheck_ok m o n hm _).mono ?_
  rintro e w1 ⟨rfl, hg1⟩
  have hB := hg1.heap (heap_alloc_new w _)
  have hgw : Gr w w1 := ((Gr.refl w).alloc _).trans hg1
  have c0 : w1.cell? ⟨w.heap.size, 0, none⟩ = some (.int .u8 (m : Int)) := by simp [World.cell?, hB]
  have c1 : w1.cell? ⟨w.heap.size, 1, none⟩ = some (.int .u32 (o : Int)) := by simp [World.cell?, hB]
  have c2 : w1.cell? ⟨w.heap.size, 2, none⟩ = some (.int .u32 (n : Int)) := by simp [World.cell?, hB]
  clear hg1 hB
  have C0 := Lib.hid c0
  have C1 := Lib.hid c1
  have C2 := Lib.hid c2
  clear c0 c1 c2
  go_wp2
  have hup : Nonempty (Up Gr w1.drew) := ⟨⟨_, Gr.refl _⟩⟩
  have u0 : ∀ x : Up Gr w1.drew, x.w.cell? ⟨w.heap.size, 0, none⟩ = some (.int .u8 (m : Int)) := fun x => Gr.cell x.rel C0.out
  have u1 : ∀ x : Up Gr w1.drew, x.w.cell? ⟨w.heap.size, 1, none⟩ = some (.int .u32 (o : Int)) := fun x => Gr.cell x.rel C1.out
  have u2 : ∀ x : Up Gr w1.drew, x.w.cell? ⟨w.heap.size, 2, none⟩ = some (.int .u32 (n : Int)) := fun x => Gr.cell x.rel C2.out
  refine wp_region_rg [.reck, .reck, spB 2 [1, UInt8.ofNat m], .reck, .reck, spB 4 (put4 o), .reck, .reck, spB 4 (put4 n), spBss 3 [[1, UInt8.ofNat m], put4 o, put4 n], spO w.heap.size 10 (headL m o n), .reck, .reck] Gr (by kernel_rfl) (by kernel_rfl) Gr.refl (fun _ _ _ => Gr.trans) ?_
  (refine wpRG_reck rfl (fun K hK => ?_); go_big_quiet_op; refine hK _ ?_; clear hK K)
  (refine wpRG_reck rfl (fun K hK => ?_); go_big_quiet_op; refine hK _ ?_; clear hK K)
  refine wpRG_any rfl (fun x w w' hg h => h.below hg) (fun W hw hF R hR => ?_) ?_
  · (have HF := Lib.hid hF; clear hF; unfold rgAt; go_simp)
    exact hR (some ⟨W.heap.size, 0, none⟩, 2) _ ((Gr.refl _).alloc _) (Bs.of_alloc HLIT.out rfl (by decide) rfl)
  rintro ⟨a2, cap2⟩
  (simp only [Act.put, List.setIfInBounds_toArray, List.set_cons_zero, List.set_cons_succ])
  (refine wpRG_reck rfl (fun K hK => ?_); go_big_quiet_op; refine hK _ ?_; clear hK K)
  (refine wpRG_reck rfl (fun K hK => ?_); go_big_quiet_op; refine hK _ ?_; clear hK K)
  refine wpRG_any rfl (fun x w w' hg h => h.below hg) (fun W hw hF R hR => ?_) ?_
  · (have HF := Lib.hid hF; clear hF; unfold rgAt; go_simp)
    show Calls _ _ _ _ _
    refine (sumPut4_any o ho W).mono ?_
    rintro e w6 ⟨a6, cap6, rfl, hb6, hg6⟩
    exact ⟨_, rfl, hR (a6, cap6) _ hg6 hb6⟩
  rintro ⟨a5, cap5⟩
  (simp only [Act.put, List.setIfInBounds_toArray, List.set_cons_zero, List.set_cons_succ])
  (refine wpRG_reck rfl (fun K hK => ?_); go_big_quiet_op; refine hK _ ?_; clear hK K)
  (refine wpRG_reck rfl (fun K hK => ?_); go_big_quiet_op; refine hK _ ?_; clear hK K)
  refine wpRG_any rfl (fun x w w' hg h => h.below hg) (fun W hw hF R hR => ?_) ?_
  · (have HF := Lib.hid hF; clear hF; unfold rgAt; go_simp)
    show Calls _ _ _ _ _
    refine (sumPut4_any n hn W).mono ?_
    rintro e w6 ⟨a6, cap6, rfl, hb6, hg6⟩
    exact ⟨_, rfl, hR (a6, cap6) _ hg6 hb6⟩
  rintro ⟨a8, cap8⟩
  (simp only [Act.put, List.setIfInBounds_toArray, List.set_cons_zero, List.set_cons_succ])
  refine wpRG_any rfl (fun x w w' hg h => h.below hg) (fun W hw hF R hR => ?_) ?_
  · have h2 : Bs W a2 2 cap2 [1, UInt8.ofNat m] := hF 2 (by kernel_rfl)
    have h5 : Bs W a5 4 cap5 (put4 o) := hF 5 (by kernel_rfl)
    have h8 : Bs W a8 4 cap8 (put4 n) := hF 8 (by kernel_rfl)
    (have HF := Lib.hid hF; clear hF; unfold rgAt; go_simp)
    exact hR (some ⟨W.heap.size, 0, none⟩, 3) _ ((Gr.refl _).alloc _) (Bss.of_alloc3 h2 h5 h8 rfl)
  rintro ⟨a9, cap9⟩
  (simp only [Act.put, List.setIfInBounds_toArray, List.set_cons_zero, List.set_cons_succ])
  refine wpRG_any rfl (fun x w w' hg h => OwnV.gr h hg) (fun W hw hF R hR => ?_) ?_
  · have h9 : Bss W a9 3 cap9 [[1, UInt8.ofNat m], put4 o, put4 n] := hF 9 (by kernel_rfl)
    (have HF := Lib.hid hF; clear hF; unfold rgAt; go_simp)
    show Calls _ _ _ _ _
    refine (sliceConcat_own _ 3 _ [[1, UInt8.ofNat m], put4 o, put4 n] 10 rfl (by decide) (by decide) W h9).mono ?_
    rintro e w6 ⟨v, rfl, ho6, hg6⟩
    obtain ⟨a6, cap6, rfl, _⟩ := ho6.slice
    exact ⟨_, rfl, hR (a6, cap6) _ hg6 (ho6.mono (hgw.drew.trans hw).size)⟩
  rintro ⟨aa, capa⟩
  (simp only [Act.put, List.setIfInBounds_toArray, List.set_cons_zero, List.set_cons_succ])
  (refine wpRG_reck rfl (fun K hK => ?_); go_big_quiet_op; refine hK _ ?_; clear hK K)
  (refine wpRG_reck rfl (fun K hK => ?_); go_big_quiet_op; refine hK _ ?_; clear hK K)
  refine wpRG_end fun W hw hF => ?_
  have hb : OwnV W w.heap.size (.slice aa 10 capa) (headL m o n) := hF 10
  have hgW : Gr w W := hgw.drew.trans hw
  clear hF
  refine wpList_nil ?_
  go_wp2
  go_ret2
  exact ⟨aa, capa, rfl, hb, hgW⟩

set_option maxHeartbeats 400000 in
theorem headBytes_not (m : Nat) (o n : Int) (hm : ¬ m ≤ 1) (w : World) :
    Calls Tryz.prog 71 #[.agg #[.int .u8 (m : Int), .int .u32 o, .int .u32 n]] w fun e w' => e = .returned (.tuple #[.slice none 0 0, .int .i64 8]) ∧ Gr w w' := by
  go_enter Tryz.func71, Tryz.ntmps71
  go_wp2_with fail
  refine (headCheck_not m o n hm _).mono ?_
  rintro e w1 ⟨rfl, hg1⟩
  go_wp2
  go_ret2
  exact ⟨rfl, ((Gr.refl w).alloc _).trans hg1⟩
end Go.Proofs.YtddopoojmadpjaaGreatDoor

namespace Go.Proofs.YtddopoojmadpjaaGreatDoor
open Go.RowKit

/-- the two bytes that are looked at. -/
theorem head_two {w : World} {a : Option Addr} {len cap : Nat} {l : List UInt8} (hs : Bs w a len cap l) (h : ¬ len < 10) : ∃ b off, a = some ⟨b, off, none⟩ ∧ b < w.heap.size ∧ w.cell? ⟨b, off, none⟩ = some (.int .u8 ((l.getD 0 0).toNat : Int)) ∧ w.cell? ⟨b, off + 1, none⟩ = some (.int .u8 ((l.getD 1 0).toNat : Int)) := by
  obtain ⟨b, off, rfl, hb, _⟩ := hs.at_ (by omega)
  obtain ⟨x0, e0, c0⟩ := hs.get (i := 0) (by omega)
  obtain ⟨x1, e1, c1⟩ := hs.get (i := 1) (by omega)
  exact ⟨b, off, rfl, hb, by simpa [List.getD_eq_getElem?_getD, e0] using c0, by simpa [List.getD_eq_getElem?_getD, e1] using c1⟩

set_option maxRecDepth 100000 in
set_option maxHeartbeats 2000000 in
theorem headRead_bad (a : Option Addr) (len cap : Nat) (l : List UInt8) (w : World) (hs : Bs w a len cap l) (h0 : headErr l ≠ 0) :
    Calls Tryz.prog 83 #[.slice a len cap] w fun e w' => e = .returned (.tuple #[.agg #[.int .u8 0, .int .u32 0, .int .u32 0], .slice none 0 0, .int .i64 (headErr l : Nat)]) ∧ Gr w w' := by
  have hm : len ≤ 9223372036854775807 := by have h1 := hs.2.1; have h2 := hs.2.2.1; unfold maxLen at h2; omega
  have HL := Lib.hid hs.1
  have HE : Hid (headErr l = if len < 10 then 6 else if (l.getD 0 0).toNat ≠ 1 then 7 else if 1 < (l.getD 1 0).toNat then 8 else 0) := by show _ = _; rw [headErr, HL.out]
  by_cases hlen : len < 10
  · have he : Hid (headErr l = 6) := by show _ = _; rw [HE.out, if_pos hlen]
    clear h0
    go_enter Tryz.func83, Tryz.ntmps83
    go_wp2
    refine bodyPost_ret (v := .tuple #[.agg #[.int .u8 0, .int .u32 0, .int .u32 0], .slice none 0 0, .int .i64 6]) ?_ rfl ⟨?_, ?_⟩
    · simp [results, Tryz.results83, go_sem]
    · rw [he.out]; rfl
    · exact (Gr.refl w).alloc _
  obtain ⟨b, off, rfl, hb, c0, c1⟩ := head_two hs hlen
  have hx0 := (l.getD 0 0).toNat_lt
  have hx1 := (l.getD 1 0).toNat_lt
  obtain ⟨x0, e0⟩ : ∃ x, (l.getD 0 0).toNat = x := ⟨_, rfl⟩
  obtain ⟨x1, e1⟩ : ∃ x, (l.getD 1 0).toNat = x := ⟨_, rfl⟩
  rw [e0] at c0 hx0
  rw [e1] at c1 hx1
  have E0 := Lib.hid e0
  have E1 := Lib.hid e1
  have hge : ¬ (len : Int) < 10 := by omega
  have hge1 : (1 : Int) < (len : Int) := by omega
  have hge0 : (0 : Int) < (len : Int) := by omega
  by_cases h7 : x0 ≠ 1
  · have he : Hid (headErr l = 7) := by show _ = _; rw [HE.out, if_neg hlen, if_pos (by rw [E0.out]; exact h7)]
    have ht : ((x0 : Int) != 1) = true := by rw [bne_iff_ne]; omega
    clear h0 e0 e1 h7 hlen
    go_enter Tryz.func83, Tryz.ntmps83
    go_wp2
    refine bodyPost_ret (v := .tuple #[.agg #[.int .u8 0, .int .u32 0, .int .u32 0], .slice none 0 0, .int .i64 7]) ?_ rfl ⟨?_, ?_⟩
    · simp [results, Tryz.results83, go_sem]
    · rw [he.out]; rfl
    · exact (Gr.refl w).alloc _
  · have h7' : x0 = 1 := by omega
    subst h7'
    have h8 : ¬ x1 ≤ 1 := fun h => h0 (by rw [HE.out, if_neg hlen, if_neg (by rw [E0.out]; omega), if_neg (by rw [E1.out]; omega)])
    have he : Hid (headErr l = 8) := by show _ = _; rw [HE.out, if_neg hlen, if_neg (by rw [E0.out]; omega), if_pos (by rw [E1.out]; omega)]
    have H8 := Lib.hid h8
    clear h0 e0 e1 h7 hlen h8
    go_enter Tryz.func83, Tryz.ntmps83
    go_wp2_with fail
    refine (headCheck_not x1 0 0 H8.out _).mono ?_
    rintro e w1 ⟨rfl, hg1⟩
    have hB := hg1.heap ((Gr.alloc (Gr.refl _) _).heap (heap_alloc_new w _))
    have hz := lt_of_block hB
    have hgw : Gr w w1 := (((Gr.refl w).alloc _).alloc _).trans hg1
    have cc0 : w1.cell? ⟨w.heap.size, 0, none⟩ = some (.int .u8 0) := by simp [World.cell?, hB]
    have cc1 : w1.cell? ⟨w.heap.size, 1, none⟩ = some (.int .u32 0) := by simp [World.cell?, hB]
    have cc2 : w1.cell? ⟨w.heap.size, 2, none⟩ = some (.int .u32 0) := by simp [World.cell?, hB]
    have ff0 : ∀ i, w1.frozen? ⟨w.heap.size, i, none⟩ = false := fun i => by simp [World.frozen?, hB]
    have HB := Lib.hid hB
    clear hg1 hB
    go_wp2
    refine bodyPost_ret (v := .tuple #[.agg #[.int .u8 0, .int .u32 0, .int .u32 0], .slice none 0 0, .int .i64 8]) ?_ rfl ⟨?_, ?_⟩
    · simp [results, Tryz.results83, go_sem, cc0, cc1, cc2]
    · rw [he.out]; rfl
    · exact ((hgw.setCell (Nat.le_refl _) _).setCell (Nat.le_refl _) _).setCell (Nat.le_refl _) _

theorem headErr_zero {l : List UInt8} (h : headErr l = 0) : 10 ≤ l.length ∧ (l.getD 0 0).toNat = 1 ∧ (l.getD 1 0).toNat ≤ 1 := by
  unfold headErr at h
  by_cases h1 : l.length < 10
  · rw [if_pos h1] at h; cases h
  rw [if_neg h1] at h
  by_cases h2 : (l.getD 0 0).toNat ≠ 1
  · rw [if_pos h2] at h; cases h
  rw [if_neg h2] at h
  by_cases h3 : 1 < (l.getD 1 0).toNat
  · rw [if_pos h3] at h; cases h
  exact ⟨by omega, by omega, by omega⟩

set_option maxRecDepth 100000 in
set_option maxHeartbeats 4000000 in
theorem headRead_ok (a : Option Addr) (len cap : Nat) (l : List UInt8) (w : World) (hs : Bs w a len cap l) (h0 : headErr l = 0) (hmx : len ≤ 140737488355328) :
    Calls Tryz.prog 83 #[.slice a len cap] w fun e w' => ∃ a' cap', e = .returned (.tuple #[.agg #[.int .u8 (headM l : Int), .int .u32 (headO l : Int), .int .u32 (headN l : Int)], .slice a' (len - 10) cap', .int .i64 0]) ∧ Bs w' a' (len - 10) cap' (l.drop 10) ∧ Gr w w' := by
  have hm : len ≤ 9223372036854775807 := by have h1 := hs.2.1; have h2 := hs.2.2.1; unfold maxLen at h2; omega
  have hcap : len ≤ cap ∧ (cap : Int) ≤ 9223372036854775807 := ⟨hs.2.1, by have h2 := hs.2.2.1; unfold maxLen at h2; omega⟩
  obtain ⟨hcap1, hcap2⟩ := hcap
  have hz0 := headErr_zero h0
  rw [hs.1] at hz0
  obtain ⟨hlen, h1, h2⟩ := hz0
  obtain ⟨b, off, rfl, hb, c0, c1⟩ := head_two hs (by omega)
  have HM : Hid (headM l = (l.getD 1 0).toNat) := rfl
  have hs1 := (hs.take (k := 6) (by omega)).drop (k := 2) (by omega)
  have hs2 := (hs.take (k := 10) (by omega)).drop (k := 6) (by omega)
  have hs3 := hs.dropIf (k := 10) (by omega)
  obtain ⟨A3, hA3⟩ : ∃ A, (if cap = 10 then some (⟨b, off, none⟩ : Addr) else some ⟨b, off + 10, none⟩) = A := ⟨_, rfl⟩
  rw [hA3] at hs3
  have HA3 := Lib.hid hA3
  clear hA3
  have HO : Hid (headO l = get4 ((l.take 6).drop 2)) := rfl
  have HN : Hid (headN l = get4 ((l.take 10).drop 6)) := rfl
  obtain ⟨l1, e1⟩ : ∃ x, (l.take 6).drop 2 = x := ⟨_, rfl⟩
  obtain ⟨l2, e2⟩ : ∃ x, (l.take 10).drop 6 = x := ⟨_, rfl⟩
  obtain ⟨l3, e3⟩ : ∃ x, l.drop 10 = x := ⟨_, rfl⟩
  rw [e1] at hs1 HO
  rw [e2] at hs2 HN
  rw [e3] at hs3 ⊢
  clear e1 e2 e3
  rw [h1] at c0
  obtain ⟨x1, e1⟩ : ∃ x, (l.getD 1 0).toNat = x := ⟨_, rfl⟩
  rw [e1] at c1 HM h2
  have hge : ¬ (len : Int) < 10 := by omega
  have hge1 : (1 : Int) < (len : Int) := by omega
  have hge0 : (0 : Int) < (len : Int) := by omega
  have g6 : (6 : Int) ≤ (cap : Int) := by omega
  have g10 : (10 : Int) ≤ (cap : Int) := by omega
  have H2 := Lib.hid h2
  obtain ⟨o1, ho1⟩ : ∃ x, headO l = x := ⟨_, rfl⟩
  obtain ⟨n1, hn1⟩ : ∃ x, headN l = x := ⟨_, rfl⟩
  obtain ⟨m1, hm1⟩ : ∃ x, headM l = x := ⟨_, rfl⟩
  rw [ho1] at HO ⊢
  rw [hn1] at HN ⊢
  rw [hm1] at HM ⊢
  clear ho1 hn1 hm1 h0 h1 e1
  obtain rfl := HM.out
  clear h2 hlen
  go_enter Tryz.func83, Tryz.ntmps83
  go_wp2_with fail
  refine (headCheck_ok m1 0 0 H2.out _).mono ?_
  rintro e w1 ⟨rfl, hg1⟩
  have hA := hg1.heap ((Gr.alloc (Gr.refl _) _).heap (heap_alloc_new w _))
  have hB : w1.heap[w.heap.size + 1]? = some (.cells #[.int .u8 (m1 : Int), .int .u32 0, .int .u32 0] 94) := by
    have := hg1.heap (heap_alloc_new (w.alloc (.cells #[.int .u8 0, .int .u32 0, .int .u32 0] 94)) (.cells #[.int .u8 (m1 : Int), .int .u32 0, .int .u32 0] 94))
    simpa using this
  have hgw : Gr w w1 := (((Gr.refl w).alloc _).alloc _).trans hg1
  clear hg1
  go_wp2_with fail
  refine (sumGet_four _ (cap - 2) l1 _ (hs1.below hgw)).mono ?_
  rintro e w2 ⟨rfl, hg2⟩
  have hA2 := hg2.heap hA
  have hB2 := hg2.heap hB
  have hgw2 := hgw.trans hg2
  rw [← HO.out]
  have cb : w2.cell? ⟨w.heap.size + 1, 1, none⟩ = some (.int .u32 0) := by simp [World.cell?, hB2]
  have fb : w2.frozen? ⟨w.heap.size + 1, 1, none⟩ = false := by simp [World.frozen?, hB2]
  have HA2 := Lib.hid hA2
  have HB2 := Lib.hid hB2
  clear hA hB hg2 hgw hA2 hB2 hs1
  go_wp2_with fail
  have hB3 := heap_set (i := 1) HB2.out (.int .u32 (o1 : Int))
  have hA3 : (w2.setCell ⟨w.heap.size + 1, 1, none⟩ (.int .u32 (o1 : Int))).heap[w.heap.size]? = _ := (Below.heap_setCell _ _ _ _ (by show w.heap.size ≠ w.heap.size + 1; omega)).trans HA2.out
  have hgw3 := hgw2.setCell (p := ⟨w.heap.size + 1, 1, none⟩) (by show w.heap.size ≤ w.heap.size + 1; omega) (.int .u32 (o1 : Int))
  refine (sumGet_four _ (cap - 6) l2 _ (hs2.below hgw3)).mono ?_
  rintro e w4 ⟨rfl, hg4⟩
  have hA4 := hg4.heap hA3
  have hB4 := hg4.heap hB3
  have hgw4 := hgw3.trans hg4
  rw [← HN.out]
  simp only [List.setIfInBounds_toArray, List.set_cons_zero, List.set_cons_succ] at hB4
  have cb4 : w4.cell? ⟨w.heap.size + 1, 2, none⟩ = some (.int .u32 0) := by simp [World.cell?, hB4]
  have fb4 : w4.frozen? ⟨w.heap.size + 1, 2, none⟩ = false := by simp [World.frozen?, hB4]
  have HA4 := Lib.hid hA4
  have HB4 := Lib.hid hB4
  clear hA3 hB3 hg4 hgw2 hA4 hB4 hs2 hgw3 cb fb HA2 HB2
  go_wp2_with fail
  have hB5 := heap_set (i := 2) HB4.out (.int .u32 (n1 : Int))
  have hA5 : (w4.setCell ⟨w.heap.size + 1, 2, none⟩ (.int .u32 (n1 : Int))).heap[w.heap.size]? = _ := (Below.heap_setCell _ _ _ _ (by show w.heap.size ≠ w.heap.size + 1; omega)).trans HA4.out
  have hgw5 := hgw4.setCell (p := ⟨w.heap.size + 1, 2, none⟩) (by show w.heap.size ≤ w.heap.size + 1; omega) (.int .u32 (n1 : Int))
  simp only [List.setIfInBounds_toArray, List.set_cons_zero, List.set_cons_succ] at hB5
  obtain ⟨w5, hw5⟩ : ∃ x, x = w4.setCell ⟨w.heap.size + 1, 2, none⟩ (.int .u32 (n1 : Int)) := ⟨_, rfl⟩
  rw [← hw5] at hB5 hA5 hgw5 ⊢
  have hup : Nonempty (Up Gr w5.drew) := ⟨⟨_, Gr.refl _⟩⟩
  have HB5 := Lib.hid hB5
  have u0 : ∀ x : Up Gr w5.drew, x.w.cell? ⟨w.heap.size + 1, 0, none⟩ = some (.int .u8 (m1 : Int)) := fun x => Gr.cell x.rel (by simp [World.cell?, heap_drew, HB5.out])
  have u1 : ∀ x : Up Gr w5.drew, x.w.cell? ⟨w.heap.size + 1, 1, none⟩ = some (.int .u32 (o1 : Int)) := fun x => Gr.cell x.rel (by simp [World.cell?, heap_drew, HB5.out])
  have u2 : ∀ x : Up Gr w5.drew, x.w.cell? ⟨w.heap.size + 1, 2, none⟩ = some (.int .u32 (n1 : Int)) := fun x => Gr.cell x.rel (by simp [World.cell?, heap_drew, HB5.out])
  have HA5 := Lib.hid hA5
  clear hw5 hB5 hA5 cb4 fb4 HA4 HB4 hgw4
  refine wp_region_rg [.reck, .reck, .reck, spF (w.heap.size + 1) (len - 10) l3] Gr (by kernel_rfl) (by kernel_rfl) Gr.refl (fun _ _ _ => Gr.trans) ?_
  (refine wpRG_reck rfl (fun K hK => ?_); go_big_quiet_op; refine hK _ ?_; clear hK K)
  (refine wpRG_reck rfl (fun K hK => ?_); go_big_quiet_op; refine hK _ ?_; clear hK K)
  (refine wpRG_reck rfl (fun K hK => ?_); go_big_quiet_op; refine hK _ ?_; clear hK K)
  rw [HA3.out]
  refine wpRG_any rfl (fun x w w' hg h => ⟨h.1.below hg, h.2⟩) (fun W hw hF R hR => ?_) ?_
  · (have HF := Lib.hid hF; clear hF; unfold rgAt; go_simp)
    show Calls _ _ _ _ _
    refine (sliceClone_any _ _ _ l3 W (hs3.below (hgw5.drew.trans hw)) (by omega)).mono ?_
    rintro e w6 ⟨v, rfl, a6, cap6, rfl, hb6, ha6, hg6⟩
    rw [hs3.1] at hb6 ⊢
    have hsz : w.heap.size + 1 ≤ W.heap.size := by
      have h1 := lt_of_block HA5.out
      have h2 : w5.heap.size ≤ W.heap.size := hw.size
      omega
    exact ⟨_, rfl, hR (a6, cap6) _ hg6 ⟨hb6, fun y hy => Nat.le_trans hsz (ha6 y hy)⟩⟩
  rintro ⟨a3, cap3⟩
  (simp only [Act.put, List.setIfInBounds_toArray, List.set_cons_zero, List.set_cons_succ])
  refine wpRG_end fun W hw hF => ?_
  have hb3 : Bs W a3 (len - 10) cap3 l3 ∧ ∀ y, a3 = some y → w.heap.size + 1 ≤ y.block := hF 3
  obtain ⟨hb3, ha3⟩ := hb3
  have HA := Lib.hid ha3
  clear ha3
  have hgW : Gr w W := hgw5.drew.trans hw
  have hA6 : W.heap[w.heap.size]? = _ := Gr.heap hw (show w5.drew.heap[w.heap.size]? = _ from HA5.out)
  have cc0 : W.cell? ⟨w.heap.size, 0, none⟩ = some (.int .u8 0) := by simp [World.cell?, hA6]
  have cc1 : W.cell? ⟨w.heap.size, 1, none⟩ = some (.int .u32 0) := by simp [World.cell?, hA6]
  have cc2 : W.cell? ⟨w.heap.size, 2, none⟩ = some (.int .u32 0) := by simp [World.cell?, hA6]
  have ff0 : ∀ i, W.frozen? ⟨w.heap.size, i, none⟩ = false := fun i => by simp [World.frozen?, hA6]
  have hg7 : Gr w (((W.setCell ⟨w.heap.size, 0, none⟩ (.int .u8 (m1 : Int))).setCell ⟨w.heap.size, 1, none⟩ (.int .u32 (o1 : Int))).setCell ⟨w.heap.size, 2, none⟩ (.int .u32 (n1 : Int))) :=
    ((hgW.setCell (Nat.le_refl _) _).setCell (Nat.le_refl _) _).setCell (Nat.le_refl _) _
  have hgb : GrB W w.heap.size (((W.setCell ⟨w.heap.size, 0, none⟩ (.int .u8 (m1 : Int))).setCell ⟨w.heap.size, 1, none⟩ (.int .u32 (o1 : Int))).setCell ⟨w.heap.size, 2, none⟩ (.int .u32 (n1 : Int))) := by
    refine GrB.set (GrB.set (GrB.set (GrB.refl _ _) ?_ _) ?_ _) ?_ _
    · exact .inl rfl
    · exact .inl rfl
    · exact .inl rfl
  have hb7 := hb3.grb hgb (fun y hy => by have := HA.out y hy; omega)
  clear hF hw hA6 hgb
  go_wp2
  refine bodyPost_ret (v := .tuple #[.agg #[.int .u8 (m1 : Int), .int .u32 (o1 : Int), .int .u32 (n1 : Int)], .slice a3 (len - 10) cap3, .int .i64 0]) ?_ rfl ⟨a3, cap3, rfl, ?_, hg7⟩
  · simp [results, Tryz.results83, go_sem, cc0, cc1, cc2]
  · exact hb7

end Go.Proofs.YtddopoojmadpjaaGreatDoor

namespace Go.Proofs.YtddopoojmadpjaaGreatDoor
open Go.RowKit

/-- what a head is written as, and what is read. -/
theorem headBytes_all (m o n : Nat) (ho : o < 4294967296) (hn : n < 4294967296) (w : World) :
    Calls Tryz.prog 71 #[.agg #[.int .u8 (m : Int), .int .u32 (o : Int), .int .u32 (n : Int)]] w fun e w' => ∃ a k cap, e = .returned (.tuple #[.slice a k cap, .int .i64 (if m ≤ 1 then 0 else 8)]) ∧ Bs w' a k cap (if m ≤ 1 then headL m o n else []) ∧ Gr w w' := by
  by_cases hm : m ≤ 1
  · simp only [if_pos hm]
    exact (headBytes_ok m o n hm ho hn w).mono fun e w' ⟨a, cap, he, hb, hg⟩ => ⟨a, 10, cap, he, hb.bs'.1, hg⟩
  · simp only [if_neg hm]
    exact (headBytes_not m o n hm w).mono fun e w' ⟨he, hg⟩ => ⟨none, 0, 0, he, Bs.nil _, hg⟩
theorem headCheck_all (m : Nat) (o n : Int) (w : World) :
    Calls Tryz.prog 110 #[.agg #[.int .u8 (m : Int), .int .u32 o, .int .u32 n]] w fun e w' => e = .returned (.int .i64 (if m ≤ 1 then 0 else 8)) ∧ Gr w w' := by
  by_cases hm : m ≤ 1
  · simp only [if_pos hm]; exact headCheck_ok m o n hm w
  · simp only [if_neg hm]; exact headCheck_not m o n hm w
/-- what is read. -/
def readM (l : List UInt8) : Nat := if headErr l = 0 then headM l else 0
def readO (l : List UInt8) : Nat := if headErr l = 0 then headO l else 0
def readN (l : List UInt8) : Nat := if headErr l = 0 then headN l else 0
def readL (l : List UInt8) : List UInt8 := if headErr l = 0 then l.drop 10 else []
theorem headRead_all (a : Option Addr) (len cap : Nat) (l : List UInt8) (w : World) (hs : Bs w a len cap l) (hmx : len ≤ 140737488355328) :
    Calls Tryz.prog 83 #[.slice a len cap] w fun e w' => ∃ a' k cap', e = .returned (.tuple #[.agg #[.int .u8 (readM l : Int), .int .u32 (readO l : Int), .int .u32 (readN l : Int)], .slice a' k cap', .int .i64 (headErr l : Nat)]) ∧ Bs w' a' k cap' (readL l) ∧ Gr w w' := by
  by_cases h0 : headErr l = 0
  · unfold readM readO readN readL
    simp only [if_pos h0]
    rw [h0]
    exact (headRead_ok a len cap l w hs h0 hmx).mono fun e w' ⟨a', cap', he, hb, hg⟩ => ⟨a', len - 10, cap', he, hb, hg⟩
  · unfold readM readO readN readL
    simp only [if_neg h0]
    exact (headRead_bad a len cap l w hs h0).mono fun e w' ⟨he, hg⟩ => ⟨none, 0, 0, he, Bs.nil _, hg⟩
end Go.Proofs.YtddopoojmadpjaaGreatDoor
