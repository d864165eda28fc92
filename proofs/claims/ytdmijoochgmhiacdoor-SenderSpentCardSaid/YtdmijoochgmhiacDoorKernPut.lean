/-
  The walk of kern.put: a row times a byte is added to a sum.
-/
import Derived.Test.YtdmijoochgmhiacDoorKern
namespace Go.Proofs.YtdmijoochgmhiacDoor
open Go.RowKit
set_option linter.unusedVariables false

/-- a byte's product; a row's, added to a sum. -/
def mulB (c : Nat) (r : UInt8) : UInt8 := UInt8.ofNat (fmul c r.toNat)
def putL (c : Nat) (S R : List UInt8) : List UInt8 := List.zipWith (fun s r => s ^^^ mulB c r) S R
def putTo (c : Nat) (S R : List UInt8) (j : Nat) : List UInt8 := (putL c S R).take j ++ S.drop j
theorem putL_length {c : Nat} {S R : List UInt8} (h : S.length = R.length) : (putL c S R).length = S.length := by simp [putL, h]
theorem putTo_zero (c : Nat) (S R : List UInt8) : putTo c S R 0 = S := by simp [putTo]
theorem putTo_all {c : Nat} {S R : List UInt8} (h : S.length = R.length) {n : Nat} (hn : S.length = n) : putTo c S R n = putL c S R := by
  rw [putTo, List.take_of_length_le (by rw [putL_length h]; omega), List.drop_eq_nil_of_le (by omega), List.append_nil]
theorem putTo_length {c : Nat} {S R : List UInt8} (h : S.length = R.length) {j : Nat} (hj : j ≤ S.length) : (putTo c S R j).length = S.length := by
  rw [putTo, List.length_append, List.length_take, List.length_drop, putL_length h]; omega
theorem putTo_get {c : Nat} {S R : List UInt8} (h : S.length = R.length) {j : Nat} (hj : j < S.length) : (putTo c S R j)[j]? = S[j]? := by
  rw [putTo, List.getElem?_append_right (by rw [List.length_take]; omega), List.length_take, putL_length h, Nat.min_eq_left (by omega), Nat.sub_self, List.getElem?_drop, Nat.add_zero]
theorem putTo_set {c : Nat} {S R : List UInt8} (h : S.length = R.length) {j : Nat} (hj : j < S.length) {s r : UInt8} (hs : S[j]? = some s) (hr : R[j]? = some r) : (putTo c S R j).set j (s ^^^ mulB c r) = putTo c S R (j + 1) := by
  apply List.ext_getElem?
  intro i
  rw [List.getElem?_set]
  have hz : (putL c S R)[j]? = some (s ^^^ mulB c r) := by simp [putL, List.getElem?_zipWith, hs, hr]
  by_cases hi : j = i
  · subst hi
    rw [if_pos rfl, if_pos (by rw [putTo_length h (by omega)]; exact hj), putTo, List.getElem?_append_left (by rw [List.length_take, putL_length h]; omega), List.getElem?_take, if_pos (by omega), hz]
  · rw [if_neg hi]
    by_cases h2 : i < j
    · rw [putTo, putTo, List.getElem?_append_left (by rw [List.length_take, putL_length h]; omega), List.getElem?_append_left (by rw [List.length_take, putL_length h]; omega), List.getElem?_take, List.getElem?_take, if_pos h2, if_pos (by omega)]
    · rw [putTo, putTo, List.getElem?_append_right (by rw [List.length_take]; omega), List.getElem?_append_right (by rw [List.length_take]; omega), List.length_take, List.length_take, putL_length h, List.getElem?_drop, List.getElem?_drop]
      congr 1; omega
theorem halves16 : ∀ x, x < 256 → x % 16 ^^^ x / 16 * 16 = x := by decide +kernel
theorem half_mul (c x : Nat) (hx : x < 256) : loT c (x % 16) ^^^ hiT c (x / 16) = fmul c x := by
  rw [loT, hiT, ← fmul_xor', halves16 x hx]
theorem u8_and15 (x : Nat) (hx : x < 256) : bits .and .u8 (x : Int) 15 = ((x % 16 : Nat) : Int) := by
  have h := u8_and_nat x 15 hx (by decide)
  rw [show x &&& 15 = x % 16 from Nat.and_two_pow_sub_one_eq_mod x 4] at h
  exact h
theorem put_byte (c : Nat) (hc : c < 256) (s r : UInt8) : bits .xor .u8 (s.toNat : Int) (fmul c r.toNat : Nat) = ((s ^^^ mulB c r).toNat : Int) := by
  rw [u8_xor_nat _ _ s.toNat_lt (fmul_lt hc _), UInt8.toNat_xor, mulB, UInt8.toNat_ofNat', Nat.mod_eq_of_lt (fmul_lt hc _)]
theorem OwnB.mid {w w' : World} {base g len cap b : Nat} {l : List UInt8} (h : OwnB w base g len cap l) (hb : GrB w b w') (hne : g ≠ b) : OwnB w' base g len cap l := by
  refine ⟨h.1, ?_⟩
  rcases h.2 with hn | ⟨g', cap', cur, hv, hg, hh, r⟩
  · exact .inl hn
  · cases hv
    exact .inr ⟨g, cap, cur, rfl, hg, hb.heap hh hne, r⟩

set_option maxRecDepth 100000 in
set_option maxHeartbeats 2000000 in
theorem put_any (c : Nat) (hc : c < 256) (base g n cap : Nat) (S : List UInt8) (a : Option Addr) (cap' : Nat) (R : List UInt8) (w : World) (hS : OwnB w base g n cap S) (hR : Bs w a n cap' R) (hne : ∀ x, a = some x → x.block ≠ g) :
    Calls Tryd.prog 86 #[.slice (some ⟨g, 0, none⟩) n cap, .int .u8 (c : Int), .slice a n cap'] w fun e w' => e = .returned (.tuple #[]) ∧ OwnB w' base g n cap (putL c S R) ∧ GrB w g w' := by
  have hm : n ≤ 9223372036854775807 := by have h1 := hR.2.1; have h2 := hR.2.2.1; unfold maxLen at h2; omega
  have hcap : (n : Int) ≤ (cap : Int) := by have := hS.cap; omega
  have HS := Lib.hid hS
  have HR := Lib.hid hR
  have hSl := hS.len
  have hSR : S.length = R.length := by rw [hSl, hR.1]
  have HSL := Lib.hid hSl
  have HSR := Lib.hid hSR
  have hgw := hS.base_le.2
  clear hS hR hSl hSR
  go_enter Tryd.func86, Tryd.ntmps86
  go_wp2_with fail
  refine (halves_any c hc w).mono ?_
  rintro e w1 ⟨rfl, hg1⟩
  go_wp2_with (with_reducible refine wpList_hold (o := ⟨none, .store 159 _ _, _, _, _, _⟩) ?_)
  change wpList _ _ _ _ _ _
  have hl1 := ((Gr.refl w1).alloc (.cells #[.int .u8 0, .int .u8 0, .int .u8 0, .int .u8 0, .int .u8 0, .int .u8 0, .int .u8 0, .int .u8 0, .int .u8 0, .int .u8 0, .int .u8 0, .int .u8 0, .int .u8 0, .int .u8 0, .int .u8 0, .int .u8 0] 159)).alloc (.cells #[.int .u8 0, .int .u8 0, .int .u8 0, .int .u8 0, .int .u8 0, .int .u8 0, .int .u8 0, .int .u8 0, .int .u8 0, .int .u8 0, .int .u8 0, .int .u8 0, .int .u8 0, .int .u8 0, .int .u8 0, .int .u8 0] 159)
  have e0 : ((w1.alloc (.cells #[.int .u8 0, .int .u8 0, .int .u8 0, .int .u8 0, .int .u8 0, .int .u8 0, .int .u8 0, .int .u8 0, .int .u8 0, .int .u8 0, .int .u8 0, .int .u8 0, .int .u8 0, .int .u8 0, .int .u8 0, .int .u8 0] 159)).alloc (.cells #[.int .u8 0, .int .u8 0, .int .u8 0, .int .u8 0, .int .u8 0, .int .u8 0, .int .u8 0, .int .u8 0, .int .u8 0, .int .u8 0, .int .u8 0, .int .u8 0, .int .u8 0, .int .u8 0, .int .u8 0, .int .u8 0] 159)).heap[w1.heap.size]? = some (.cells (arr fun _ => 0) 159) := Gr.heap ((Gr.refl _).alloc (.cells #[.int .u8 0, .int .u8 0, .int .u8 0, .int .u8 0, .int .u8 0, .int .u8 0, .int .u8 0, .int .u8 0, .int .u8 0, .int .u8 0, .int .u8 0, .int .u8 0, .int .u8 0, .int .u8 0, .int .u8 0, .int .u8 0] 159)) (heap_alloc_new w1 (.cells #[.int .u8 0, .int .u8 0, .int .u8 0, .int .u8 0, .int .u8 0, .int .u8 0, .int .u8 0, .int .u8 0, .int .u8 0, .int .u8 0, .int .u8 0, .int .u8 0, .int .u8 0, .int .u8 0, .int .u8 0, .int .u8 0] 159))
  have e1 : ((w1.alloc (.cells #[.int .u8 0, .int .u8 0, .int .u8 0, .int .u8 0, .int .u8 0, .int .u8 0, .int .u8 0, .int .u8 0, .int .u8 0, .int .u8 0, .int .u8 0, .int .u8 0, .int .u8 0, .int .u8 0, .int .u8 0, .int .u8 0] 159)).alloc (.cells #[.int .u8 0, .int .u8 0, .int .u8 0, .int .u8 0, .int .u8 0, .int .u8 0, .int .u8 0, .int .u8 0, .int .u8 0, .int .u8 0, .int .u8 0, .int .u8 0, .int .u8 0, .int .u8 0, .int .u8 0, .int .u8 0] 159)).heap[w1.heap.size + 1]? = some (.cells (arr fun _ => 0) 159) := by
    have := heap_alloc_new (w1.alloc (.cells #[.int .u8 0, .int .u8 0, .int .u8 0, .int .u8 0, .int .u8 0, .int .u8 0, .int .u8 0, .int .u8 0, .int .u8 0, .int .u8 0, .int .u8 0, .int .u8 0, .int .u8 0, .int .u8 0, .int .u8 0, .int .u8 0] 159)) (.cells #[.int .u8 0, .int .u8 0, .int .u8 0, .int .u8 0, .int .u8 0, .int .u8 0, .int .u8 0, .int .u8 0, .int .u8 0, .int .u8 0, .int .u8 0, .int .u8 0, .int .u8 0, .int .u8 0, .int .u8 0, .int .u8 0] 159)
    rw [World.size_alloc] at this
    exact this
  have hs1 := hg1.size
  obtain ⟨W1, eW⟩ : ∃ W, (w1.alloc (.cells #[.int .u8 0, .int .u8 0, .int .u8 0, .int .u8 0, .int .u8 0, .int .u8 0, .int .u8 0, .int .u8 0, .int .u8 0, .int .u8 0, .int .u8 0, .int .u8 0, .int .u8 0, .int .u8 0, .int .u8 0, .int .u8 0] 159)).alloc (.cells #[.int .u8 0, .int .u8 0, .int .u8 0, .int .u8 0, .int .u8 0, .int .u8 0, .int .u8 0, .int .u8 0, .int .u8 0, .int .u8 0, .int .u8 0, .int .u8 0, .int .u8 0, .int .u8 0, .int .u8 0, .int .u8 0] 159) = W := ⟨_, rfl⟩
  rw [eW] at hl1 e0 e1 ⊢
  obtain ⟨B1, eB1⟩ : ∃ b, w1.heap.size + 1 = b := ⟨_, rfl⟩
  obtain ⟨B0, eB0⟩ : ∃ b, w1.heap.size = b := ⟨_, rfl⟩
  have hB01 : B0 < B1 := by omega
  have hwB : w.heap.size ≤ B0 := by omega
  rw [eB1] at e1
  rw [eB0] at e0
  rw [eB1, eB0]
  have h01 := hg1.trans hl1
  clear eW eB1 eB0 hg1 hl1 hs1
  refine wpList_store_row rfl 159 (.tmp 6) (.tmp 13) rfl B0 (arr (loT c)) rfl rfl _ _ e0 (by rw [infoArr, arr_size]) (by rw [arr_size, arr_size]) (arr_one _) ?_
  obtain ⟨s1, s2⟩ := setRow_grb (cs := arr (loT c)) e0
  have e1' := s1.heap e1 (by omega)
  obtain ⟨W2, eW⟩ : ∃ W, W1.setRow B0 (arr (loT c)) = W := ⟨_, rfl⟩
  rw [eW] at s1 s2 e1' ⊢
  refine wpList_store_row rfl 159 (.tmp 7) (.tmp 14) rfl B1 (arr (hiT c)) rfl rfl _ _ e1' (by rw [infoArr, arr_size]) (by rw [arr_size, arr_size]) (arr_one _) ?_
  obtain ⟨t1, t2⟩ := setRow_grb (cs := arr (hiT c)) e1'
  have e0' := t1.heap s2 (by omega)
  obtain ⟨W3, eW3⟩ : ∃ W, W2.setRow B1 (arr (hiT c)) = W := ⟨_, rfl⟩
  rw [eW3] at t1 t2 e0' ⊢
  have h03 : Gr w W3 := (h01.grb s1 hwB).grb t1 (by omega)
  have HLO := Lib.hid e0'
  have HHI := Lib.hid t2
  have HG3 := Lib.hid h03
  have hs3 := lt_of_block t2
  clear eW eW3 e0 e1 s1 s2 e1' t1 t2 e0' h01 h03
  go_wp2
  go_loopw [17] (fun i wr => ∃ j : Nat, j ≤ n ∧ i = .int .i64 j ∧ OwnB wr base g n cap (putTo c S R j) ∧ GrB W3 g wr) (fun i _ => n - (intOf i).toNat)
  case atStart => exact ⟨0, Nat.zero_le _, rfl, by rw [putTo_zero]; exact HS.out.gr HG3.out, GrB.refl _ _⟩
  case round =>
    obtain ⟨j, hj, rfl, hown, hgr⟩ := hrel
    by_cases hlt : j < n
    · have hRw := (HR.out.below HG3.out).grb hgr hne
      obtain ⟨b, off, rfl, _⟩ := hRw.at_ (by omega)
      obtain ⟨x, hx, hcx⟩ := hRw.get hlt
      obtain ⟨sv, hsv⟩ : ∃ s, S[j]? = some s := ⟨_, List.getElem?_eq_getElem (by have := HSL.out; omega)⟩
      have hcs := hown.cell (show (putTo c S R j)[j]? = some sv by rw [putTo_get HSR.out (by have := HSL.out; omega)]; exact hsv)
      have hfs := hown.free j
      have hset := putTo_set (c := c) HSR.out (by have := HSL.out; omega) hsv hx
      have hx8 := x.toNat_lt
      obtain ⟨l1, _⟩ := arr_cell (hgr.heap HLO.out (by omega)) (x.toNat % 16) (by omega)
      obtain ⟨l2, _⟩ := arr_cell (hgr.heap HHI.out (by omega)) (x.toNat / 16) (by omega)
      have hand := u8_and15 x.toNat hx8
      have hhalf := half_mul c x.toNat hx8
      have hput := put_byte c hc sv x
      have hlo : loT c (x.toNat % 16) < 256 := fmul_lt hc _
      have hhi : hiT c (x.toNat / 16) < 256 := fmul_lt hc _
      have hxor := u8_xor_nat (loT c (x.toNat % 16)) (hiT c (x.toNat / 16)) hlo hhi
      rw [hhalf] at hxor
      obtain ⟨new, enew⟩ : ∃ u, sv ^^^ mulB c x = u := ⟨_, rfl⟩
      rw [enew] at hput hset
      have hsto := hown.set j new
      have hgr2 := hgr.set (p := ⟨g, j, none⟩) (.inl rfl) (.int .u8 (new.toNat : Int))
      rw [hset] at hsto
      have HSTO := Lib.hid hsto
      have HGR2 := Lib.hid hgr2
      obtain ⟨xv, exv⟩ : ∃ v, x.toNat = v := ⟨_, rfl⟩
      rw [exv] at hcx hx8 l1 l2 hand hput hxor
      obtain ⟨p, ep⟩ : ∃ p, xv % 16 = p := ⟨_, rfl⟩
      obtain ⟨q, eq⟩ : ∃ q, xv / 16 = q := ⟨_, rfl⟩
      have hp : p < 16 := by omega
      have hq : q < 16 := by omega
      have hshr : (xv : Int) / 16 = (q : Int) := by omega
      rw [ep] at l1 hand hxor
      rw [eq] at l2 hxor
      obtain ⟨lv, elv⟩ : ∃ v, loT c p = v := ⟨_, rfl⟩
      obtain ⟨hv, ehv⟩ : ∃ v, hiT c q = v := ⟨_, rfl⟩
      obtain ⟨mv, emv⟩ : ∃ v, fmul c xv = v := ⟨_, rfl⟩
      rw [elv] at l1 hxor
      rw [ehv] at l2 hxor
      rw [emv] at hput hxor
      have hjn : (j : Int) < (n : Int) := by omega
      have hpi : (p : Int) < 16 := by omega
      have hqi : (q : Int) < 16 := by omega
      clear hRw hx hsv hown hgr hset hsto hgr2 exv ep eq elv ehv emv enew hhalf hlo hhi
      go_wp2
      go_region
      go_wp2
      go_roundw
      case rel => exact ⟨j + 1, by omega, by go_num, HSTO.out.gr ((Gr.refl _).drew), HGR2.out.gr ((Gr.refl _).drew)⟩
      case measure => simp [intOf]; omega
    · have hjn : j = n := by omega
      have hge : (n : Int) ≤ (j : Int) := by omega
      rw [hjn, putTo_all HSR.out HSL.out] at hown
      have hfin := (GrB.of_gr HG3.out).trans hgr
      clear hgr
      go_wp2
      first | go_ret | go_end0 | go_ret2
      exact ⟨rfl, hown, hfin⟩
end Go.Proofs.YtdmijoochgmhiacDoor
