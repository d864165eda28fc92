/-
  The walks of mix.Put, mix.Seed and of the document's Put of a state.
-/
import Derived.Test.YtdmijoochgmhiaaGreatDoorMix
namespace Go.Proofs.YtdmijoochgmhiaaGreatDoor
open Go.RowKit

set_option maxRecDepth 100000 in
set_option maxHeartbeats 1000000 in
theorem mixPut_any (s : Nat) (w : World) :
    Calls Tryz.prog 104 #[.int .u64 (s : Int)] w fun e w' => ∃ g, w.heap.size ≤ g ∧ e = .returned (.slice (some ⟨g, 0, none⟩) 8 8) ∧ Bs w' (some ⟨g, 0, none⟩) 8 8 (put8 s) ∧ Gr w w' := by
  obtain ⟨i0, hi, hz0, hz1, hz2⟩ := info_parts infoByte
  go_enter Tryz.func104, Tryz.ntmps104
  go_wp2_with (at_make; refine wpList_make_full _ rfl (.const (.int .i64 8)) (.const (.int .i64 8)) 22 rfl w.heap.size 5 i0 (.int .u8 0) 1 Tryz.underlying22 hi hz0 hz1 .i64 .i64 8 8 8 rfl rfl rfl rfl (by rw [hz2]; omega) (by decide) (Nat.le_refl _) ?_; intro w1 hown hgrow)
  have hob := OwnB.of_made (f := fun i => UInt8.ofNat (s / 2 ^ (56 - 8 * i))) hown
  have hg1 : Gr w w1 := Gr.grown (Gr.refl _) hgrow (fun k hk => by cases hk)
  clear hown hgrow
  go_loopw [6] (fun i wr => ∃ j : Nat, j ≤ 8 ∧ i = .int .i64 j ∧ OwnB wr w.heap.size w.heap.size 8 8 (fillTo (fun i => UInt8.ofNat (s / 2 ^ (56 - 8 * i))) 8 j) ∧ Gr w wr) (fun i _ => 8 - (intOf i).toNat)
  case atStart => exact ⟨0, by omega, rfl, hob, hg1⟩
  case round =>
    obtain ⟨j, hj, rfl, hob1, hgr⟩ := hrel
    by_cases hlt : j < 8
    · obtain ⟨y, hy⟩ : ∃ y, (fillTo (fun i => UInt8.ofNat (s / 2 ^ (56 - 8 * i))) 8 j)[j]? = some y := ⟨_, List.getElem?_eq_getElem (by rw [fillTo_length]; omega)⟩
      have hcy := hob1.cell hy
      have hfy := hob1.free j
      clear hy
      have hq : (56 : Int) - 8 * (j : Int) = ((56 - 8 * j : Nat) : Int) := by omega
      obtain ⟨q, hqq⟩ : ∃ q, 56 - 8 * j = q := ⟨_, rfl⟩
      rw [hqq] at hq
      have HQ := Lib.hid hqq
      have hq64 : q < 64 := by omega
      clear hqq
      go_wp2
      go_roundw
      case rel =>
        refine ⟨j + 1, by omega, by go_num, ?_, hgr.setCell (Nat.le_refl _) _⟩
        rw [← fillTo_set]
        have := hob1.set j (UInt8.ofNat (s / 2 ^ (56 - 8 * j)))
        rw [HQ.out] at this ⊢
        have e : (((UInt8.ofNat (s / 2 ^ q)).toNat : Nat) : Int) = (s : Int) / 2 ^ q % 256 := by rw [UInt8.toNat_ofNat']; simp
        rw [e] at this
        exact this
      case measure => simp [intOf]; omega
    · obtain rfl : j = 8 := by omega
      go_wp2
      go_ret
      refine ⟨w.heap.size, Nat.le_refl _, rfl, ?_, hgr⟩
      have := hob1.bs
      rw [fillTo_all _ 8 (Nat.le_refl _)] at this
      exact this

theorem u64_or_low (q x : Nat) (hx : x < 256) (h : q * 256 + x < 2 ^ 64) : bits .or .u64 ((q : Int) * 256) (x : Int) = ((q * 256 + x : Nat) : Int) := by
  have h1 := u64_or_nat (q * 256) x (Nat.lt_of_le_of_lt (Nat.le_add_right _ _) h) (Nat.lt_trans hx (by decide))
  have h2 := Nat.two_pow_add_eq_or_of_lt (i := 8) (b := x) (by omega) q
  have h3 : q * 256 ||| x = q * 256 + x := by rw [Nat.mul_comm q 256]; exact h2.symm
  have h4 : ((q * 256 : Nat) : Int) = (q : Int) * 256 := by simp
  rw [h3, h4] at h1
  exact h1
theorem u64_shl8 (q : Nat) (h : q * 256 < 2 ^ 64) : IntKind.u64.wrap ((q : Int) * 256) = ((q * 256 : Nat) : Int) := by
  rw [IntKind.wrap_u64]; simp only [Nat.reducePow] at h; omega

set_option maxHeartbeats 1000000 in
theorem mixSeed_any (a : Option Addr) (cap : Nat) (l : List UInt8) (w : World) (hs : Bs w a 8 cap l) :
    Calls Tryz.prog 95 #[.slice a 8 cap] w fun e w' => e = .returned (.tuple #[.int .u64 (seedTo l : Nat), .int .i64 0]) ∧ w = w' := by
  obtain ⟨b, off, rfl, _, _⟩ := hs.at_ (by omega)
  have L1 : Hid (l.length = 8) := hs.1
  go_enter Tryz.func95, Tryz.ntmps95
  go_wp2
  go_loop [4, 12] (fun s i => ∃ k : Nat, k ≤ 8 ∧ i = .int .i64 k ∧ s = .int .u64 (seedTo (l.take k) : Nat)) (fun _ i => 8 - (intOf i).toNat)
  case atStart => exact ⟨0, by omega, rfl, rfl⟩
  case round =>
    obtain ⟨k, hk, rfl, rfl⟩ := hrel
    obtain ⟨q, hq⟩ : ∃ q, seedTo (l.take k) = q := ⟨_, rfl⟩
    rw [hq]
    have HQ := Lib.hid hq
    clear hq
    by_cases hlt : k < 8
    · obtain ⟨x, hx, hcx⟩ := hs.get hlt
      have HX := Lib.hid hx
      clear hx
      have hxl := x.toNat_lt
      have hbd : Hid (q * 256 + x.toNat < 2 ^ 64) := by
        show q * 256 + x.toNat < _
        have h1 := seedTo_lt k (l.take k) (by rw [List.length_take, L1.out]; omega)
        rw [HQ.out] at h1
        have h2 : 256 ^ k ≤ 256 ^ 7 := Nat.pow_le_pow_right (by decide) (by omega)
        have h3 : q + 1 ≤ 256 ^ 7 := Nat.lt_of_lt_of_le h1 h2
        have h4 : (q + 1) * 256 ≤ 256 ^ 7 * 256 := Nat.mul_le_mul_right _ h3
        have h5 : (256 : Nat) ^ 7 * 256 = 2 ^ 64 := by decide
        rw [h5] at h4
        exact Nat.lt_of_lt_of_le (by omega) h4
      have h1 := u64_shl8 q (Nat.lt_of_le_of_lt (Nat.le_add_right _ _) hbd.out)
      have h2 := Lib.hid (u64_or_low q x.toNat hxl hbd.out)
      have HN : Hid (seedTo (l.take (k + 1)) = q * 256 + x.toNat) := by
        show _ = _
        rw [List.take_add_one, HX.out, ← HQ.out]; exact seedTo_snoc _ _
      go_wp2
      go_round
      case rel => exact ⟨k + 1, by omega, by go_num, by rw [HN.out]; exact congrArg _ h2.out⟩
      case measure => simp [intOf]; omega
    · obtain rfl : k = 8 := by omega
      have HE : Hid (seedTo l = q) := by show seedTo l = q; rw [← HQ.out, List.take_of_length_le (by rw [L1.out]; exact Nat.le_refl _)]
      go_wp2
      go_ret2
      exact ⟨by rw [HE.out]; rfl, rfl⟩
set_option maxHeartbeats 400000 in
theorem mixSeed_size (a : Option Addr) (len cap : Nat) (l : List UInt8) (w : World) (hs : Bs w a len cap l) (h : len ≠ 8) :
    Calls Tryz.prog 95 #[.slice a len cap] w fun e w' => e = .returned (.tuple #[.int .u64 0, .int .i64 4]) ∧ w = w' := by
  have hm : len ≤ 9223372036854775807 := by have h1 := hs.2.1; have h2 := hs.2.2.1; unfold maxLen at h2; omega
  have h' : ((len : Int) != 8) = true := by rw [bne_iff_ne]; omega
  clear h
  go_enter Tryz.func95, Tryz.ntmps95
  go_wp2
  go_ret2
  exact ⟨rfl, rfl⟩

end Go.Proofs.YtdmijoochgmhiaaGreatDoor
