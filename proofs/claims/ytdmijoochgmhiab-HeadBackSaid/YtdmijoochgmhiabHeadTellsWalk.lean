/-
  The walk of law HeadTells.
-/
import Derived.Test.YtdmijoochgmhiabHeadAwake
namespace Go.Proofs.Ytdmijoochgmhiab
open Go.RowKit

/-- what a head is written as, and what is read. -/
theorem headBytes_all (m o n : Nat) (ho : o < 4294967296) (hn : n < 4294967296) (w : World) :
    Calls Try.prog 32 #[.agg #[.int .u8 (m : Int), .int .u32 (o : Int), .int .u32 (n : Int)]] w fun e w' => ∃ a k cap, e = .returned (.tuple #[.slice a k cap, .int .i64 (if m ≤ 1 then 0 else 8)]) ∧ Bs w' a k cap (if m ≤ 1 then headL m o n else []) ∧ Gr w w' := by
  by_cases hm : m ≤ 1
  · simp only [if_pos hm]
    exact (headBytes_ok m o n hm ho hn w).mono fun e w' ⟨a, cap, he, hb, hg⟩ => ⟨a, 10, cap, he, hb.bs'.1, hg⟩
  · simp only [if_neg hm]
    exact (headBytes_not m o n hm w).mono fun e w' ⟨he, hg⟩ => ⟨none, 0, 0, he, Bs.nil _, hg⟩
theorem refHeadBytes_all (m o n : Nat) (ho : o < 4294967296) (hn : n < 4294967296) (w : World) :
    Calls Try.prog 33 #[.agg #[.int .u8 (m : Int), .int .u32 (o : Int), .int .u32 (n : Int)]] w fun e w' => ∃ a k cap, e = .returned (.tuple #[.slice a k cap, .int .i64 (if m ≤ 1 then 0 else 8)]) ∧ Bs w' a k cap (if m ≤ 1 then headL m o n else []) ∧ Gr w w' := by
  by_cases hm : m ≤ 1
  · simp only [if_pos hm]
    exact (refHeadBytes_ok m o n hm ho hn w).mono fun e w' ⟨a, cap, he, hb, hg⟩ => ⟨a, 10, cap, he, hb, hg⟩
  · simp only [if_neg hm]
    exact (refHeadBytes_not m o n hm w).mono fun e w' ⟨he, hg⟩ => ⟨none, 0, 0, he, Bs.nil _, hg⟩
theorem headCheck_all (m : Nat) (o n : Int) (w : World) :
    Calls Try.prog 36 #[.agg #[.int .u8 (m : Int), .int .u32 o, .int .u32 n]] w fun e w' => e = .returned (.int .i64 (if m ≤ 1 then 0 else 8)) ∧ Gr w w' := by
  by_cases hm : m ≤ 1
  · simp only [if_pos hm]; exact headCheck_ok m o n hm w
  · simp only [if_neg hm]; exact headCheck_not m o n hm w
/-- what is read. -/
def readM (l : List UInt8) : Nat := if headErr l = 0 then headM l else 0
def readO (l : List UInt8) : Nat := if headErr l = 0 then headO l else 0
def readN (l : List UInt8) : Nat := if headErr l = 0 then headN l else 0
def readL (l : List UInt8) : List UInt8 := if headErr l = 0 then l.drop 10 else []
theorem headRead_all (a : Option Addr) (len cap : Nat) (l : List UInt8) (w : World) (hs : Bs w a len cap l) (hmx : len ≤ 140737488355328) :
    Calls Try.prog 34 #[.slice a len cap] w fun e w' => ∃ a' k cap', e = .returned (.tuple #[.agg #[.int .u8 (readM l : Int), .int .u32 (readO l : Int), .int .u32 (readN l : Int)], .slice a' k cap', .int .i64 (headErr l : Nat)]) ∧ Bs w' a' k cap' (readL l) ∧ Gr w w' := by
  by_cases h0 : headErr l = 0
  · unfold readM readO readN readL
    simp only [if_pos h0]
    rw [h0]
    exact (headRead_ok a len cap l w hs h0 hmx).mono fun e w' ⟨a', cap', he, hb, hg⟩ => ⟨a', len - 10, cap', he, hb, hg⟩
  · unfold readM readO readN readL
    simp only [if_neg h0]
    exact (headRead_bad a len cap l w hs h0).mono fun e w' ⟨he, hg⟩ => ⟨none, 0, 0, he, Bs.nil _, hg⟩
theorem refHeadRead_all (a : Option Addr) (len cap : Nat) (l : List UInt8) (w : World) (hs : Bs w a len cap l) :
    Calls Try.prog 35 #[.slice a len cap] w fun e w' => ∃ a' k cap', e = .returned (.tuple #[.agg #[.int .u8 (readM l : Int), .int .u32 (readO l : Int), .int .u32 (readN l : Int)], .slice a' k cap', .int .i64 (headErr l : Nat)]) ∧ Bs w' a' k cap' (readL l) ∧ Gr w w' := by
  by_cases h0 : headErr l = 0
  · unfold readM readO readN readL
    simp only [if_pos h0]
    rw [h0]
    exact (refHeadRead_ok a len cap l w hs h0).mono fun e w' ⟨a', cap', he, hb, hg⟩ => ⟨a', len - 10, cap', he, hb, hg⟩
  · unfold readM readO readN readL
    simp only [if_neg h0]
    exact (refHeadRead_bad a len cap l w hs h0).mono fun e w' ⟨he, hg⟩ => ⟨none, 0, 0, he, Bs.nil _, hg⟩

set_option maxRecDepth 100000 in
set_option maxHeartbeats 4000000 in
theorem headTells_walk (w : World) (m : Nat) (_ : m < 256) (o : Nat) (ho : o < 4294967296) (n : Nat) (hn : n < 4294967296) (a : Option Addr) (len cap : Nat) (l : List UInt8) (hl : Bs w a len cap l) :
    Calls Try.prog 7 #[.agg #[.int .u8 (m : Int), .int .u32 (o : Int), .int .u32 (n : Int)], .slice a len cap] w fun e w' => e = .returned (.bool true) ∧ Gr w w' := by
  have hmx : len ≤ 9223372036854775807 := by have h1 := hl.2.1; have h2 := hl.2.2.1; unfold maxLen at h2; omega
  by_cases h300 : 300 < len
  · have h300' : (300 : Int) < (len : Int) := by omega
    go_enter Try.func7, Try.ntmps7
    go_wp2_with fail
    refine (headAwake_any _).mono ?_
    rintro e w1 ⟨rfl, hg1⟩
    go_wp2
    go_ret
    exact ⟨rfl, ((Gr.refl w).alloc _).trans hg1⟩
  have h300' : ¬ (300 : Int) < (len : Int) := by omega
  obtain ⟨E, hE⟩ : ∃ E : Int, (if m ≤ 1 then 0 else 8) = E := ⟨_, rfl⟩
  obtain ⟨HL, hHL⟩ : ∃ L, (if m ≤ 1 then headL m o n else []) = L := ⟨_, rfl⟩
  have c1 := fun w => headBytes_all m o n ho hn w
  have c2 := fun w => refHeadBytes_all m o n ho hn w
  have c3 := fun w => headCheck_all m o n w
  rw [hE, hHL] at c1 c2
  rw [hE] at c3
  have C1 := Lib.hid c1
  have C2 := Lib.hid c2
  have C3 := Lib.hid c3
  have hst := sameB_self HL
  have hst2 := sameB_self (readL l)
  clear c1 c2 c3 hE hHL
  go_enter Try.func7, Try.ntmps7
  go_wp2_with fail
  refine (headAwake_any _).mono ?_
  rintro e w1 ⟨rfl, hg1⟩
  have hB1 := hg1.heap (heap_alloc_new w _)
  have hgw1 : Gr w w1 := ((Gr.refl w).alloc _).trans hg1
  obtain ⟨cc0, cc1, cc2, _⟩ := three_cells hB1
  have HB1 := Lib.hid hB1
  clear hB1 hg1
  go_wp2_with fail
  refine (C1.out w1).mono ?_
  rintro e w2 ⟨a2, k2, cap2, rfl, hb2, hg2⟩
  have hB2 := hg2.heap HB1.out
  obtain ⟨cc0, cc1, cc2, _⟩ := three_cells hB2
  have HB2 := Lib.hid hB2
  clear hB2
  go_wp2_with fail
  refine (C2.out w2).mono ?_
  rintro e w3 ⟨a3, k3, cap3, rfl, hb3, hg3⟩
  have hgw3 := (hgw1.trans hg2).trans hg3
  go_wp2_with fail
  refine (headRead_all a len cap l w3 (hl.below hgw3) (by omega)).mono ?_
  rintro e w4 ⟨a4, k4, cap4, rfl, hb4, hg4⟩
  go_wp2_with fail
  refine (refHeadRead_all a len cap l _ (hl.below ((hgw3.trans hg4).alloc _))).mono ?_
  rintro e w5 ⟨a5, k5, cap5, rfl, hb5, hg5⟩
  have hB9 := hg5.heap (heap_alloc_new w4 _)
  have hgA : Gr w4 w5 := ((Gr.refl _).alloc _).trans hg5
  have hgB : Gr w3 (w5.alloc (.cells #[.int .u8 (readM l : Int), .int .u32 (readO l : Int), .int .u32 (readN l : Int)] 62)) := (hg4.trans hgA).alloc _
  go_wp2_with fail
  refine (same_any a2 a3 k2 cap2 k3 cap3 HL HL _ (hb2.below (hg3.trans hgB)) (hb3.below hgB)).mono ?_
  rintro e w6 ⟨rfl, hg6⟩
  have hB0 := (hgB.trans hg6).heap (hg3.heap HB2.out)
  have hB9' := hg6.heap (((Gr.refl _).alloc _).heap hB9)
  have hB12 := hg6.heap (heap_alloc_new w5 _)
  have hb4' := hb4.below ((hgA.alloc _).trans hg6)
  have hb5' := hb5.below (((Gr.refl w5).alloc _).trans hg6)
  have hgw6 := (hgw3.trans hgB).trans hg6
  obtain ⟨cc0, cc1, cc2, _⟩ := three_cells hB0
  have HB9 := Lib.hid hB9'
  have HB12 := Lib.hid hB12
  clear hB0 hB9 hB9' hB12 hg6 hgB hgA hg5 hg4 hg3 hgw3 hgw1 hb2 hb3 hb4 hb5 HB2 HB1
  go_wp2_with fail
  refine (C3.out w6).mono ?_
  rintro e w7 ⟨rfl, hg7⟩
  obtain ⟨dd0, dd1, dd2, _⟩ := three_cells (hg7.heap HB9.out)
  obtain ⟨ee0, ee1, ee2, _⟩ := three_cells (hg7.heap HB12.out)
  go_wp2_with fail
  refine (same_any a4 a5 k4 cap4 k5 cap5 (readL l) (readL l) _ (hb4'.below hg7) (hb5'.below hg7)).mono ?_
  rintro e w8 ⟨rfl, hg8⟩
  go_wp2
  go_ret
  exact ⟨rfl, (hgw6.trans hg7).trans hg8⟩
end Go.Proofs.Ytdmijoochgmhiab
