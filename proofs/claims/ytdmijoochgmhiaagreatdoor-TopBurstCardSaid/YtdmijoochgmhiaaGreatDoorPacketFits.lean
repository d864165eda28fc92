/-
  May a packet be written by a plan? The program's answer, and the document's.
-/
import Derived.Test.YtdmijoochgmhiaaGreatDoorPacketRead
namespace Go.Proofs.YtdmijoochgmhiaaGreatDoor
open Go.RowKit
set_option linter.unusedVariables false

/-- what is wrong with a packet that is to be written. -/
def fitErr (n s q : Int) (id m o md k k' : Nat) : Nat :=
  if planErr n s q ≠ 0 then planErr n s q else if ¬ m ≤ 1 then 8 else if o ≠ id then 9 else if md ≠ m then 14
  else if m = 0 ∧ (k : Int) ≠ q then 4 else if (k' : Int) ≠ s then 4 else 0
theorem fitErr_zero {n s q : Int} {id m o md k k' : Nat} (h : fitErr n s q id m o md k k' = 0) : planErr n s q = 0 ∧ m ≤ 1 ∧ o = id ∧ md = m ∧ (m = 0 → (k : Int) = q) ∧ (k' : Int) = s := by
  unfold fitErr at h
  by_cases h1 : planErr n s q ≠ 0
  · rw [if_pos h1] at h; exact absurd h h1
  rw [if_neg h1] at h
  by_cases h2 : m ≤ 1
  · rw [if_neg (by simpa using h2)] at h
    by_cases h3 : o ≠ id
    · rw [if_pos h3] at h; cases h
    rw [if_neg h3] at h
    by_cases h4 : md ≠ m
    · rw [if_pos h4] at h; cases h
    rw [if_neg h4] at h
    by_cases h5 : m = 0 ∧ (k : Int) ≠ q
    · rw [if_pos h5] at h; cases h
    rw [if_neg h5] at h
    by_cases h6 : (k' : Int) ≠ s
    · rw [if_pos h6] at h; cases h
    exact ⟨by omega, h2, by omega, by omega, fun h0 => by omega, by omega⟩
  · rw [if_pos h2] at h; cases h

set_option maxRecDepth 100000 in
set_option maxHeartbeats 2000000 in
theorem packFits_any (n s q : Int) (id m o md k k' : Nat) (nn sd : Int) (hlo : -9223372036854775808 ≤ n) (hm : n ≤ 9223372036854775807) (hsl : -9223372036854775808 ≤ s) (hsm : s ≤ 9223372036854775807) (hk : k ≤ 9223372036854775807) (hk' : k' ≤ 9223372036854775807) (a a' : Option Addr) (c c' : Nat) (w : World) :
    Calls Tryz.prog 66 #[.agg #[.int .u8 (m : Int), .int .u32 (o : Int), .int .u32 nn, .int .u8 (md : Int), .slice a k c, .int .u64 sd, .slice a' k' c'], .agg #[.int .i64 n, .int .i64 s, .int .i64 q, .int .u32 (id : Int)]] w fun e w' => e = .returned (.int .i64 (fitErr n s q id m o md k k' : Nat)) ∧ Gr w w' := by
  have CC := planCheck_any n s q id hlo hm hsl hsm
  by_cases hP : planErr n s q = 0
  · rw [hP] at CC
    have HC := Lib.hid CC
    clear CC
    have HE : Hid (fitErr n s q id m o md k k' = if ¬ m ≤ 1 then 8 else if o ≠ id then 9 else if md ≠ m then 14 else if m = 0 ∧ (k : Int) ≠ q then 4 else if (k' : Int) ≠ s then 4 else 0) := by
      show _ = _; rw [fitErr, if_neg (by simpa using hP)]
    clear hP
    have CK := headCheck_all m o nn
    by_cases h2 : m ≤ 1
    · simp only [if_pos h2] at CK
      have HK := Lib.hid CK
      by_cases h3 : o = id
      · have t3 : (((o : Int)) != ((id : Int))) = false := by rw [bne_eq_false_iff_eq]; omega
        by_cases h4 : md = m
        · have t4 : (((md : Int)) != ((m : Int))) = false := by rw [bne_eq_false_iff_eq]; omega
          by_cases h5 : m = 0
          · have t5 : (((m : Int)) == ((0 : Int))) = true := by rw [beq_iff_eq]; omega
            by_cases h6 : (k : Int) = q
            · have t6 : (((k : Int)) != (q)) = false := by rw [bne_eq_false_iff_eq]; omega
              by_cases h7 : (k' : Int) = s
              · have t7 : (((k' : Int)) != (s)) = false := by rw [bne_eq_false_iff_eq]; omega
                have HR : Hid (fitErr n s q id m o md k k' = 0) := by show _ = _; rw [HE.out]; rw [if_neg (by simpa using h2), if_neg (by simpa using h3), if_neg (by simpa using h4), if_neg (by rintro ⟨_, h⟩; exact h h6), if_neg (by simpa using h7)]
                clear HE CK h2 h3 h4 h5 h6 h7
                go_enter Tryz.func66, Tryz.ntmps66
                go_wp2_with fail
                refine (HC.out _).mono ?_
                rintro e w1 ⟨rfl, hg⟩
                have hgw := (((Gr.refl w).alloc _).alloc _).trans hg
                have hA := hg.heap (Gr.heap (Gr.alloc (Gr.refl _) _) (heap_alloc_new w _))
                have hB := hg.heap (heap_alloc_new _ _)
                simp only [World.alloc, Array.size_push] at hB
                obtain ⟨cc0, cc1, cc2, cc3, cc4, cc5, cc6, ff⟩ := seven_cells hA
                have HA := Lib.hid hA
                have HB := Lib.hid hB
                clear hA hB hg
                go_wp2_with fail
                refine (HK.out _).mono ?_
                rintro e w2 ⟨rfl, hg2⟩
                obtain ⟨cc0, cc1, cc2, cc3, cc4, cc5, cc6, ff⟩ := seven_cells (hg2.heap HA.out)
                obtain ⟨p0, p1, p2, p3⟩ := p_four_cells (hg2.heap HB.out)
                have hgw2 := hgw.trans hg2
                clear hg2 hgw HA HB
                go_wp2
                go_ret
                exact ⟨by rw [HR.out]; rfl, hgw2⟩
              · have t7 : (((k' : Int)) != (s)) = true := by rw [bne_iff_ne]; omega
                have HR : Hid (fitErr n s q id m o md k k' = 4) := by show _ = _; rw [HE.out]; rw [if_neg (by simpa using h2), if_neg (by simpa using h3), if_neg (by simpa using h4), if_neg (by rintro ⟨_, h⟩; exact h h6), if_pos h7]
                clear HE CK h2 h3 h4 h5 h6 h7
                go_enter Tryz.func66, Tryz.ntmps66
                go_wp2_with fail
                refine (HC.out _).mono ?_
                rintro e w1 ⟨rfl, hg⟩
                have hgw := (((Gr.refl w).alloc _).alloc _).trans hg
                have hA := hg.heap (Gr.heap (Gr.alloc (Gr.refl _) _) (heap_alloc_new w _))
                have hB := hg.heap (heap_alloc_new _ _)
                simp only [World.alloc, Array.size_push] at hB
                obtain ⟨cc0, cc1, cc2, cc3, cc4, cc5, cc6, ff⟩ := seven_cells hA
                have HA := Lib.hid hA
                have HB := Lib.hid hB
                clear hA hB hg
                go_wp2_with fail
                refine (HK.out _).mono ?_
                rintro e w2 ⟨rfl, hg2⟩
                obtain ⟨cc0, cc1, cc2, cc3, cc4, cc5, cc6, ff⟩ := seven_cells (hg2.heap HA.out)
                obtain ⟨p0, p1, p2, p3⟩ := p_four_cells (hg2.heap HB.out)
                have hgw2 := hgw.trans hg2
                clear hg2 hgw HA HB
                go_wp2
                go_ret
                exact ⟨by rw [HR.out]; rfl, hgw2⟩
            · have t6 : (((k : Int)) != (q)) = true := by rw [bne_iff_ne]; omega
              have HR : Hid (fitErr n s q id m o md k k' = 4) := by show _ = _; rw [HE.out]; rw [if_neg (by simpa using h2), if_neg (by simpa using h3), if_neg (by simpa using h4), if_pos ⟨h5, h6⟩]
              clear HE CK h2 h3 h4 h5 h6
              go_enter Tryz.func66, Tryz.ntmps66
              go_wp2_with fail
              refine (HC.out _).mono ?_
              rintro e w1 ⟨rfl, hg⟩
              have hgw := (((Gr.refl w).alloc _).alloc _).trans hg
              have hA := hg.heap (Gr.heap (Gr.alloc (Gr.refl _) _) (heap_alloc_new w _))
              have hB := hg.heap (heap_alloc_new _ _)
              simp only [World.alloc, Array.size_push] at hB
              obtain ⟨cc0, cc1, cc2, cc3, cc4, cc5, cc6, ff⟩ := seven_cells hA
              have HA := Lib.hid hA
              have HB := Lib.hid hB
              clear hA hB hg
              go_wp2_with fail
              refine (HK.out _).mono ?_
              rintro e w2 ⟨rfl, hg2⟩
              obtain ⟨cc0, cc1, cc2, cc3, cc4, cc5, cc6, ff⟩ := seven_cells (hg2.heap HA.out)
              obtain ⟨p0, p1, p2, p3⟩ := p_four_cells (hg2.heap HB.out)
              have hgw2 := hgw.trans hg2
              clear hg2 hgw HA HB
              go_wp2
              go_ret
              exact ⟨by rw [HR.out]; rfl, hgw2⟩
          · have t5 : (((m : Int)) == ((0 : Int))) = false := by rw [beq_eq_false_iff_ne]; omega
            by_cases h7 : (k' : Int) = s
            · have t7 : (((k' : Int)) != (s)) = false := by rw [bne_eq_false_iff_eq]; omega
              have HR : Hid (fitErr n s q id m o md k k' = 0) := by show _ = _; rw [HE.out]; rw [if_neg (by simpa using h2), if_neg (by simpa using h3), if_neg (by simpa using h4), if_neg (by rintro ⟨h, _⟩; exact h5 h), if_neg (by simpa using h7)]
              clear HE CK h2 h3 h4 h5 h7
              go_enter Tryz.func66, Tryz.ntmps66
              go_wp2_with fail
              refine (HC.out _).mono ?_
              rintro e w1 ⟨rfl, hg⟩
              have hgw := (((Gr.refl w).alloc _).alloc _).trans hg
              have hA := hg.heap (Gr.heap (Gr.alloc (Gr.refl _) _) (heap_alloc_new w _))
              have hB := hg.heap (heap_alloc_new _ _)
              simp only [World.alloc, Array.size_push] at hB
              obtain ⟨cc0, cc1, cc2, cc3, cc4, cc5, cc6, ff⟩ := seven_cells hA
              have HA := Lib.hid hA
              have HB := Lib.hid hB
              clear hA hB hg
              go_wp2_with fail
              refine (HK.out _).mono ?_
              rintro e w2 ⟨rfl, hg2⟩
              obtain ⟨cc0, cc1, cc2, cc3, cc4, cc5, cc6, ff⟩ := seven_cells (hg2.heap HA.out)
              obtain ⟨p0, p1, p2, p3⟩ := p_four_cells (hg2.heap HB.out)
              have hgw2 := hgw.trans hg2
              clear hg2 hgw HA HB
              go_wp2
              go_ret
              exact ⟨by rw [HR.out]; rfl, hgw2⟩
            · have t7 : (((k' : Int)) != (s)) = true := by rw [bne_iff_ne]; omega
              have HR : Hid (fitErr n s q id m o md k k' = 4) := by show _ = _; rw [HE.out]; rw [if_neg (by simpa using h2), if_neg (by simpa using h3), if_neg (by simpa using h4), if_neg (by rintro ⟨h, _⟩; exact h5 h), if_pos h7]
              clear HE CK h2 h3 h4 h5 h7
              go_enter Tryz.func66, Tryz.ntmps66
              go_wp2_with fail
              refine (HC.out _).mono ?_
              rintro e w1 ⟨rfl, hg⟩
              have hgw := (((Gr.refl w).alloc _).alloc _).trans hg
              have hA := hg.heap (Gr.heap (Gr.alloc (Gr.refl _) _) (heap_alloc_new w _))
              have hB := hg.heap (heap_alloc_new _ _)
              simp only [World.alloc, Array.size_push] at hB
              obtain ⟨cc0, cc1, cc2, cc3, cc4, cc5, cc6, ff⟩ := seven_cells hA
              have HA := Lib.hid hA
              have HB := Lib.hid hB
              clear hA hB hg
              go_wp2_with fail
              refine (HK.out _).mono ?_
              rintro e w2 ⟨rfl, hg2⟩
              obtain ⟨cc0, cc1, cc2, cc3, cc4, cc5, cc6, ff⟩ := seven_cells (hg2.heap HA.out)
              obtain ⟨p0, p1, p2, p3⟩ := p_four_cells (hg2.heap HB.out)
              have hgw2 := hgw.trans hg2
              clear hg2 hgw HA HB
              go_wp2
              go_ret
              exact ⟨by rw [HR.out]; rfl, hgw2⟩
        · have t4 : (((md : Int)) != ((m : Int))) = true := by rw [bne_iff_ne]; omega
          have HR : Hid (fitErr n s q id m o md k k' = 14) := by show _ = _; rw [HE.out]; rw [if_neg (by simpa using h2), if_neg (by simpa using h3), if_pos h4]
          clear HE CK h2 h3 h4
          go_enter Tryz.func66, Tryz.ntmps66
          go_wp2_with fail
          refine (HC.out _).mono ?_
          rintro e w1 ⟨rfl, hg⟩
          have hgw := (((Gr.refl w).alloc _).alloc _).trans hg
          have hA := hg.heap (Gr.heap (Gr.alloc (Gr.refl _) _) (heap_alloc_new w _))
          have hB := hg.heap (heap_alloc_new _ _)
          simp only [World.alloc, Array.size_push] at hB
          obtain ⟨cc0, cc1, cc2, cc3, cc4, cc5, cc6, ff⟩ := seven_cells hA
          have HA := Lib.hid hA
          have HB := Lib.hid hB
          clear hA hB hg
          go_wp2_with fail
          refine (HK.out _).mono ?_
          rintro e w2 ⟨rfl, hg2⟩
          obtain ⟨cc0, cc1, cc2, cc3, cc4, cc5, cc6, ff⟩ := seven_cells (hg2.heap HA.out)
          obtain ⟨p0, p1, p2, p3⟩ := p_four_cells (hg2.heap HB.out)
          have hgw2 := hgw.trans hg2
          clear hg2 hgw HA HB
          go_wp2
          go_ret
          exact ⟨by rw [HR.out]; rfl, hgw2⟩
      · have t3 : (((o : Int)) != ((id : Int))) = true := by rw [bne_iff_ne]; omega
        have HR : Hid (fitErr n s q id m o md k k' = 9) := by show _ = _; rw [HE.out]; rw [if_neg (by simpa using h2), if_pos h3]
        clear HE CK h2 h3
        go_enter Tryz.func66, Tryz.ntmps66
        go_wp2_with fail
        refine (HC.out _).mono ?_
        rintro e w1 ⟨rfl, hg⟩
        have hgw := (((Gr.refl w).alloc _).alloc _).trans hg
        have hA := hg.heap (Gr.heap (Gr.alloc (Gr.refl _) _) (heap_alloc_new w _))
        have hB := hg.heap (heap_alloc_new _ _)
        simp only [World.alloc, Array.size_push] at hB
        obtain ⟨cc0, cc1, cc2, cc3, cc4, cc5, cc6, ff⟩ := seven_cells hA
        have HA := Lib.hid hA
        have HB := Lib.hid hB
        clear hA hB hg
        go_wp2_with fail
        refine (HK.out _).mono ?_
        rintro e w2 ⟨rfl, hg2⟩
        obtain ⟨cc0, cc1, cc2, cc3, cc4, cc5, cc6, ff⟩ := seven_cells (hg2.heap HA.out)
        obtain ⟨p0, p1, p2, p3⟩ := p_four_cells (hg2.heap HB.out)
        have hgw2 := hgw.trans hg2
        clear hg2 hgw HA HB
        go_wp2
        go_ret
        exact ⟨by rw [HR.out]; rfl, hgw2⟩
    · simp only [if_neg h2] at CK
      have HK := Lib.hid CK
      have HR : Hid (fitErr n s q id m o md k k' = 8) := by show _ = _; rw [HE.out]; rw [if_pos h2]
      clear HE CK h2
      go_enter Tryz.func66, Tryz.ntmps66
      go_wp2_with fail
      refine (HC.out _).mono ?_
      rintro e w1 ⟨rfl, hg⟩
      have hgw := (((Gr.refl w).alloc _).alloc _).trans hg
      have hA := hg.heap (Gr.heap (Gr.alloc (Gr.refl _) _) (heap_alloc_new w _))
      have hB := hg.heap (heap_alloc_new _ _)
      simp only [World.alloc, Array.size_push] at hB
      obtain ⟨cc0, cc1, cc2, cc3, cc4, cc5, cc6, ff⟩ := seven_cells hA
      have HA := Lib.hid hA
      have HB := Lib.hid hB
      clear hA hB hg
      go_wp2_with fail
      refine (HK.out _).mono ?_
      rintro e w2 ⟨rfl, hg2⟩
      obtain ⟨cc0, cc1, cc2, cc3, cc4, cc5, cc6, ff⟩ := seven_cells (hg2.heap HA.out)
      obtain ⟨p0, p1, p2, p3⟩ := p_four_cells (hg2.heap HB.out)
      have hgw2 := hgw.trans hg2
      clear hg2 hgw HA HB
      go_wp2
      go_ret
      exact ⟨by rw [HR.out]; rfl, hgw2⟩
  · have hr : Hid (fitErr n s q id m o md k k' = planErr n s q) := by show _ = _; rw [fitErr, if_pos hP]
    obtain ⟨E, hE⟩ : ∃ E, planErr n s q = E := ⟨_, rfl⟩
    rw [hE] at CC hP hr
    have HC := Lib.hid CC
    have ht : ((E : Int) != 0) = true := by rw [bne_iff_ne]; omega
    clear CC hE hP
    go_enter Tryz.func66, Tryz.ntmps66
    go_wp2_with fail
    refine (HC.out _).mono ?_
    rintro e w1 ⟨rfl, hg⟩
    have hgw := (((Gr.refl w).alloc _).alloc _).trans hg
    clear hg
    go_wp2
    go_ret
    exact ⟨by rw [hr.out]; rfl, hgw⟩
end Go.Proofs.YtdmijoochgmhiaaGreatDoor
