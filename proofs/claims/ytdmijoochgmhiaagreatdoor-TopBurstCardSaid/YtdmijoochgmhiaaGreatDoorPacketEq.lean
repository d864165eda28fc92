/-
  The walk of packet.Packet.Equation.
-/
import Derived.Test.YtdmijoochgmhiaaGreatDoorPacketWrite
import Derived.Test.YtdmijoochgmhiaaGreatDoorVec
namespace Go.Proofs.YtdmijoochgmhiaaGreatDoor
open Go.RowKit
set_option linter.unusedVariables false

set_option maxRecDepth 100000 in
set_option maxHeartbeats 2000000 in
theorem packEq_bad (n s q : Int) (id m o md k k' : Nat) (nn sd : Int) (hlo : -9223372036854775808 ≤ n) (hm : n ≤ 9223372036854775807) (hsl : -9223372036854775808 ≤ s) (hsm : s ≤ 9223372036854775807) (hk : k ≤ 9223372036854775807) (hk' : k' ≤ 9223372036854775807) (a a' : Option Addr) (c c' : Nat) (w : World) (h0 : fitErr n s q id m o md k k' ≠ 0) :
    Calls Tryz.prog 40 #[.agg #[.int .u8 (m : Int), .int .u32 (o : Int), .int .u32 nn, .int .u8 (md : Int), .slice a k c, .int .u64 sd, .slice a' k' c'], .agg #[.int .i64 n, .int .i64 s, .int .i64 q, .int .u32 (id : Int)]] w fun e w' => e = .returned (.tuple #[.agg #[.slice none 0 0, .slice none 0 0], .int .i64 (fitErr n s q id m o md k k' : Nat)]) ∧ Gr w w' := by
  have CF := packFits_any n s q id m o md k k' nn sd hlo hm hsl hsm hk hk' a a' c c'
  obtain ⟨E, hE⟩ : ∃ E, fitErr n s q id m o md k k' = E := ⟨_, rfl⟩
  rw [hE] at CF h0 ⊢
  have HF := Lib.hid CF
  have ht : ((E : Int) != 0) = true := by rw [bne_iff_ne]; omega
  clear CF h0 hE
  go_enter Tryz.func40, Tryz.ntmps40
  go_wp2_with fail
  refine (HF.out _).mono ?_
  rintro e w1 ⟨rfl, hg⟩
  have hgw := ((((Gr.refl w).alloc _).alloc _).alloc _).trans hg
  have hB := hg.heap (heap_alloc_new _ _)
  simp only [World.alloc, Array.size_push] at hB
  obtain ⟨x0, x1, xf⟩ := two_cells hB
  obtain ⟨hgb, hh⟩ := two_set hB (.slice none 0 0) (.slice none 0 0)
  have HG := Lib.hid (hgw.grb hgb (by omega))
  obtain ⟨y0, y1, _⟩ := two_cells hh
  clear hg hB hgb hh hgw
  go_wp2
  refine bodyPost_ret (v := .tuple #[.agg #[.slice none 0 0, .slice none 0 0], .int .i64 (E : Int)]) ?_ rfl ⟨rfl, HG.out⟩
  simp [results, Tryz.results40, go_sem, y0, y1]

set_option maxRecDepth 100000 in
set_option maxHeartbeats 2000000 in
theorem packEq_ok (n s : Int) (q : Nat) (id m nn k k' seed : Nat) (hsd : seed < 18446744073709551616) (hlo : -9223372036854775808 ≤ n) (hm : n ≤ 9223372036854775807) (hsl : -9223372036854775808 ≤ s) (hsm : s ≤ 9223372036854775807) (a a' : Option Addr) (c c' : Nat) (l lp : List UInt8) (w : World)
    (hs : Bs w a k c l) (hs' : Bs w a' k' c' lp) (hk : k ≤ 1000000000) (hk' : k' ≤ 1000000000) (hq : q ≤ 1000000000) (h0 : fitErr n s q id m id m k k' = 0) :
    Calls Tryz.prog 40 #[.agg #[.int .u8 (m : Int), .int .u32 (id : Int), .int .u32 (nn : Int), .int .u8 (m : Int), .slice a k c, .int .u64 (seed : Int), .slice a' k' c'], .agg #[.int .i64 n, .int .i64 s, .int .i64 (q : Int), .int .u32 (id : Int)]] w fun e w' => ∃ a1 c1 a2 c2, e = .returned (.tuple #[.agg #[.slice a1 q c1, .slice a2 k' c2], .int .i64 0]) ∧ OwnV w' w.heap.size (.slice a1 q c1) (rowVec m l seed q) ∧ OwnV w' w.heap.size (.slice a2 k' c2) lp ∧ Gr w w' := by
  have CF := packFits_any n s q id m id m k k' nn seed hlo hm hsl hsm (by omega) (by omega) a a' c c'
  rw [h0] at CF
  have HF := Lib.hid CF
  have hrow := fitErr_row h0
  have HR := Lib.hid fun w hs => rowVector_ok m a k c l seed hsd q w hs (by omega) hrow
  have HS := Lib.hid hs
  have HS' := Lib.hid hs'
  clear CF hrow h0 hs hs'
  go_enter Tryz.func40, Tryz.ntmps40
  go_wp2_with fail
  refine (HF.out _).mono ?_
  rintro e w1 ⟨rfl, hg⟩
  have hgw := ((((Gr.refl w).alloc _).alloc _).alloc _).trans hg
  have hA := hg.heap (Gr.heap (Gr.alloc (Gr.alloc (Gr.refl _) _) _) (heap_alloc_new w _))
  have hP := hg.heap (Gr.heap (Gr.alloc (Gr.refl _) _) (heap_alloc_new _ _))
  have hB := hg.heap (heap_alloc_new _ _)
  simp only [World.alloc, Array.size_push] at hB hP
  obtain ⟨cc0, cc1, cc2, cc3, cc4, cc5, cc6, ff⟩ := seven_cells hA
  obtain ⟨p0, p1, p2, p3⟩ := p_four_cells hP
  have HA := Lib.hid hA
  have HB := Lib.hid hB
  clear hA hB hP hg
  go_wp2_with fail
  refine (HR.out _ (HS.out.below hgw)).mono ?_
  rintro e w2 ⟨v2, rfl, ⟨a2, cap2, rfl, hb2, _, hg2⟩, hl2⟩
  rw [hl2] at hb2 ⊢
  obtain ⟨V, eV⟩ : ∃ V, rowVec m l seed q = V := ⟨_, rfl⟩
  rw [eV] at hb2
  have HEV := Lib.hid eV
  obtain ⟨_, _, _, _, _, _, d6, _⟩ := seven_cells (hg2.heap HA.out)
  have hgw2 := hgw.trans hg2
  have HB2 := Lib.hid (hg2.heap HB.out)
  have HX := Lib.hid (HS'.out.below hgw2)
  have HY := Lib.hid hb2
  have hzw := hgw2.size
  clear hg2 hgw HA HB hb2 hl2 eV cc0 cc1 cc2 cc3 cc4 cc5 cc6 ff p0 p1 p2 p3
  go_wp2_with fail
  refine (vecOf_any a2 a' q cap2 k' c' _ _ w2 HY.out HX.out (by omega) (by omega)).mono ?_
  rintro e w3 ⟨a3, c3, a4, c4, rfl, ho3, ho4, hg3⟩
  have hB3 := hg3.heap HB2.out
  have hlt := lt_of_block HB2.out
  obtain ⟨x0, x1, xf⟩ := two_cells hB3
  obtain ⟨hgb, hh⟩ := two_set hB3 (.slice a3 q c3) (.slice a4 k' c4)
  have HG := Lib.hid ((hgw2.trans hg3).grb hgb (by omega))
  have HO3 := Lib.hid ((ho3.grb hgb (fun y hy => by have := ho3.bs2.2 y hy; omega)).mono (b' := w.heap.size) hzw)
  have HO4 := Lib.hid ((ho4.grb hgb (fun y hy => by have := ho4.bs2.2 y hy; omega)).mono (b' := w.heap.size) hzw)
  obtain ⟨y0, y1, _⟩ := two_cells hh
  clear hB3 hgb hh hg3 hgw2 ho3 ho4 HB2
  go_wp2
  refine bodyPost_ret (v := .tuple #[.agg #[.slice a3 q c3, .slice a4 k' c4], .int .i64 0]) ?_ rfl ⟨a3, c3, a4, c4, rfl, by rw [HEV.out]; exact HO3.out, HO4.out, HG.out⟩
  simp [results, Tryz.results40, go_sem, y0, y1]
end Go.Proofs.YtdmijoochgmhiaaGreatDoor
