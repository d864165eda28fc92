/-
  The walks of the document's Next, Bytes and Put of a state.
-/
import Derived.Test.YtdmijoochgmhiacDoorMix
namespace Go.Proofs.YtdmijoochgmhiacDoor
open Go.RowKit

set_option maxHeartbeats 1000000 in
theorem shifted_any (z : Nat) (hz : z < 18446744073709551616) (m : Nat) (hm : m ≤ 64) (w : World) :
    Calls Tryd.prog 103 #[.int .u64 (z : Int), .int .i64 (m : Int)] w fun e w' => e = .returned (.int .u64 (shx m z : Nat)) ∧ w = w' := by
  have Hz := Lib.hid hz
  clear hz
  go_enter Tryd.func103, Tryd.ntmps103
  go_wp2
  go_loop [5, 6] (fun k i => ∃ j : Nat, j ≤ m ∧ i = .int .i64 j ∧ k = .int .u64 (z / 2 ^ j : Nat)) (fun _ i => m - (intOf i).toNat)
  case atStart => exact ⟨0, Nat.zero_le _, rfl, by simp⟩
  case round =>
    obtain ⟨j, hj, rfl, rfl⟩ := hrel
    by_cases hlt : j < m
    · obtain ⟨y, hy⟩ : ∃ y, z / 2 ^ j = y := ⟨_, rfl⟩
      rw [hy]
      have HY : Hid (z / 2 ^ (j + 1) = y / 2) := by show _ = _; rw [Nat.pow_succ, ← Nat.div_div_eq_div_mul, hy]
      have HYL : Hid (y < 18446744073709551616) := by show y < _; rw [← hy]; exact Nat.lt_of_le_of_lt (Nat.div_le_self _ _) Hz.out
      clear hy
      go_wp2
      go_round
      case rel => exact ⟨j + 1, by omega, by go_num, by rw [HY.out, IntKind.wrap_u64]; have := HYL.out; congr 1; omega⟩
      case measure => simp [intOf]; omega
    · obtain rfl : j = m := by omega
      have HX : Hid (bits .xor .u64 (z : Int) ((z / 2 ^ j : Nat) : Int) = ((shx j z : Nat) : Int)) := by
        show _ = _
        rw [u64_xor_nat z (z / 2 ^ j) Hz.out (Nat.lt_of_le_of_lt (Nat.div_le_self _ _) Hz.out)]; rfl
      generalize z / 2 ^ j = y at *
      go_wp2
      go_ret
      exact ⟨by rw [← HX.out]; rfl, rfl⟩

set_option maxHeartbeats 1000000 in
theorem refNext_any (s : Nat) (w : World) :
    Calls Tryd.prog 99 #[.int .u64 (s : Int)] w fun e w' => e = .returned (.tuple #[.int .u64 (mixNext s : Nat), .int .u64 (mixOut (mixNext s) : Nat)]) ∧ w = w' := by
  go_enter Tryd.func99, Tryd.ntmps99
  go_wp2_with fail
  rw [mix_next]
  have Hs := Lib.hid (mixNext_lt s)
  obtain ⟨t, ht⟩ : ∃ t, mixNext s = t := ⟨_, rfl⟩
  rw [ht] at Hs ⊢
  have HT := Lib.hid ht
  clear ht
  refine (shifted_any t Hs.out 30 (by decide) w).mono ?_
  rintro e w1 ⟨rfl, rfl⟩
  go_wp2_with fail
  rw [u64_mulw (shx 30 t) 13787848793156543929 13787848793156543929 (by decide)]
  have H2 : Hid (shx 30 t * 13787848793156543929 % 18446744073709551616 < 18446744073709551616) := Nat.mod_lt _ (by decide)
  obtain ⟨t2, ht2⟩ : ∃ t2, shx 30 t * 13787848793156543929 % 18446744073709551616 = t2 := ⟨_, rfl⟩
  rw [ht2] at H2 ⊢
  have HT2 := Lib.hid ht2
  clear ht2
  refine (shifted_any t2 H2.out 27 (by decide) w).mono ?_
  rintro e w1 ⟨rfl, rfl⟩
  go_wp2_with fail
  rw [u64_mulw (shx 27 t2) 10723151780598845931 10723151780598845931 (by decide)]
  have H3 : Hid (shx 27 t2 * 10723151780598845931 % 18446744073709551616 < 18446744073709551616) := Nat.mod_lt _ (by decide)
  obtain ⟨t3, ht3⟩ : ∃ t3, shx 27 t2 * 10723151780598845931 % 18446744073709551616 = t3 := ⟨_, rfl⟩
  rw [ht3] at H3 ⊢
  have HT3 := Lib.hid ht3
  clear ht3
  refine (shifted_any t3 H3.out 31 (by decide) w).mono ?_
  rintro e w1 ⟨rfl, rfl⟩
  go_wp2
  go_ret2
  refine ⟨?_, rfl⟩
  have e : mixOut t = shx 31 t3 := by rw [mixOut_eq, HT2.out, HT3.out]
  rw [HT.out, e]
  rfl

/-- the state k numbers on. -/
def IterIs (k s t : Nat) : Prop := mixIter k s = t
/-- what holds at the inner loop's head. -/
def RbIn (w : World) (s n c x : Nat) (v y i : Value) (wr : World) : Prop :=
  ∃ j d z : Nat, j ≤ 8 ∧ d = min n (c + j) ∧ z = x / 2 ^ (8 * j) ∧ i = .int .i64 j ∧ y = .int .u64 z ∧ OwnV wr w.heap.size v (mixList s d) ∧ Gr w wr
/-- a slice's length, for a measure. -/
def lenOf : Value → Nat | .slice _ m _ => m | _ => 0

set_option maxHeartbeats 2000000 in
set_option maxRecDepth 100000 in
theorem refBytes_any (s n : Nat) (hn : n ≤ 65536) (w : World) :
    Calls Tryd.prog 88 #[.int .u64 (s : Int), .int .i64 (n : Int)] w fun e w' =>
      ∃ a cap, e = .returned (.tuple #[.int .u64 (mixIter ((n + 7) / 8) s : Nat), .slice a n cap]) ∧ Bs w' a n cap (mixList s n) ∧ Gr w w' := by
  go_enter Tryd.func88, Tryd.ntmps88
  go_wp2
  go_loopw [0, 6] (fun t v wr => ∃ k c : Nat, c = min n (8 * k) ∧ 8 * k ≤ n + 7 ∧ t = .int .u64 (mixIter k s : Nat) ∧ OwnV wr w.heap.size v (mixList s c) ∧ Gr w wr) (fun _ v _ => n - lenOf v)
  case atStart => exact ⟨0, 0, by omega, by omega, rfl, OwnV.nil _ _, Gr.refl _⟩
  case round =>
    obtain ⟨k, c, hc, hk, rfl, hown, hg⟩ := hrel
    obtain ⟨av, capv, hv, hbv, _⟩ := hown.bs
    rw [mixList_length] at hv hbv
    obtain ⟨t, ht⟩ : ∃ t, mixIter k s = t := ⟨_, rfl⟩
    rw [ht]
    have HT := Lib.hid ht
    clear ht
    rw [hv] at hown ⊢
    clear hv
    have hcn : c ≤ n := by omega
    by_cases hlt : c < n
    · have hc8 : c = 8 * k := by omega
      have HC := Lib.hid hc8
      clear hc hc8
      go_wp2_with fail
      refine (refNext_any t wr).mono ?_
      rintro e w1 ⟨rfl, rfl⟩
      obtain ⟨t', ht'⟩ : ∃ t', mixNext t = t' := ⟨_, rfl⟩
      rw [ht']
      have HT' : IterIs (k + 1) s t' := by show mixNext (mixIter k s) = t'; rw [HT.out, ht']
      clear ht'
      obtain ⟨x, hx⟩ : ∃ x, mixOut t' = x := ⟨_, rfl⟩
      rw [hx]
      have HX := Lib.hid hx
      have HXL : Hid (x < 18446744073709551616) := by show x < _; rw [← hx]; exact mixOut_lt _
      clear hx
      have hc8 : Hid (c = 8 * k) := HC.out
      go_wp2
      go_loopw [6, 8, 9] (fun v y i wr' => RbIn w s n c x v y i wr') (fun _ _ i _ => 8 - (intOf i).toNat)
      case atStart => exact ⟨0, c, x, by omega, by omega, by simp, rfl, rfl, hown, hg⟩
      case round =>
        obtain ⟨j, d, z, hj, hd, hz, rfl, rfl, hown1, hg1⟩ := hrel
        obtain ⟨av1, capv1, hv1, hbv1, _⟩ := hown1.bs
        rw [mixList_length] at hv1 hbv1
        have HZ := Lib.hid hz
        have HN := Lib.hid hn
        clear hn
        have hzl : Hid (z < 18446744073709551616) := by show z < _; rw [hz]; exact Nat.lt_of_le_of_lt (Nat.div_le_self _ _) HXL.out
        clear hz
        have hdn : d ≤ n := by omega
        rw [hv1] at hown1 ⊢
        clear hv1
        have hzn : Hid (IntKind.u64.wrap ((z : Int) / 256) = ((z / 256 : Nat) : Int)) := by show _ = _; rw [IntKind.wrap_u64]; have := hzl.out; omega
        have hzz : Hid (x / 2 ^ (8 * (j + 1)) = z / 256) := by show _ = _; rw [show 8 * (j + 1) = 8 * j + 8 by omega, Nat.pow_add, ← Nat.div_div_eq_div_mul, HZ.out]
        by_cases hj8 : j < 8
        · by_cases hdlt : d < n
          · have hdc : d = c + j := by omega
            have HD := Lib.hid hdc
            clear hd hdc
            have hsrc : Bs (wr.alloc (.cells #[.int .u8 ((z : Int) % 256)] 5)) (some ⟨wr.heap.size, 0, none⟩) 1 1 [UInt8.ofNat z] :=
              Bs.of_alloc (by simp [u8s, UInt8.toNat_ofNat']) rfl (by decide) rfl
            have hown2 := hown1.gr ((Gr.refl _).alloc (.cells #[.int .u8 ((z : Int) % 256)] 5))
            have hq : (mixList s d).length + 1 ≤ 140737488355328 := by have := HN.out; rw [mixList_length]; omega
            have hbase : w.heap.size ≤ (wr.alloc (.cells #[.int .u8 ((z : Int) % 256)] 5)).heap.size := (hg1.alloc _).size
            go_wp2_with (at_builtin; refine wpList_append_bytes rfl (.tmp 28) (.tmp 32) rfl w.heap.size _ (mixList s d) rfl hown2 _ 1 1 [UInt8.ofNat z] rfl hsrc hq hbase ?_; intro v2 w2 ho2 hg2 hn2)
            have hl2 : mixList s d ++ [UInt8.ofNat z] = mixList s (d + 1) := by
              rw [mixList_succ]
              have e : mixByte s d = UInt8.ofNat z := by
                have h1 := HD.out
                have h2 := HC.out
                rw [mixByte, show d / 8 + 1 = k + 1 by omega, show d % 8 = j by omega, show mixIter (k + 1) s = t' from HT', HX.out, HZ.out]
              rw [e]
            rw [hl2] at ho2
            have hg3 : Gr w w2 := Gr.grown (hg1.alloc _) hg2 (fun q hq => (hown2.lt q hq).1)
            have HD2 : Hid (d + 1 = min n (c + (j + 1))) := by show d + 1 = _; have := HD.out; omega
            clear hg2 hn2 hsrc hown2 hl2
            go_wp2
            go_roundw
            case rel => exact ⟨j + 1, d + 1, z / 256, by omega, HD2.out, hzz.out.symm, by go_num, by rw [hzn.out], ho2, hg3⟩
            case measure => simp [intOf]; omega
          · have hdd : d = n := by omega
            have HDJ : Hid (n = min n (c + (j + 1))) := by show n = _; omega
            clear hd
            subst hdd
            go_wp2
            go_roundw
            case rel => exact ⟨j + 1, d, z / 256, by omega, HDJ.out, hzz.out.symm, by go_num, by rw [hzn.out], hown1, hg1⟩
            case measure => simp [intOf]; omega
        · obtain rfl : j = 8 := by omega
          have HD : Hid (d = min n (8 * (k + 1))) := by show d = _; have := HC.out; omega
          have HK : Hid (8 * (k + 1) ≤ n + 7) := by show _ ≤ _; have := HC.out; omega
          have HM : Hid (n - d < n - c) := by show _ < _; omega
          clear hd
          go_wp2
          go_roundw
          case rel => exact ⟨k + 1, d, HD.out, HK.out, by rw [show mixIter (k + 1) s = t' from HT'], hown1, hg1⟩
          case measure => exact HM.out
    · go_wp2
      go_ret2
      have e : (n + 7) / 8 = k := by omega
      have e2 : c = n := by omega
      subst e2
      exact ⟨av, capv, by rw [e, HT.out]; rfl, hbv, hg⟩
end Go.Proofs.YtdmijoochgmhiacDoor
