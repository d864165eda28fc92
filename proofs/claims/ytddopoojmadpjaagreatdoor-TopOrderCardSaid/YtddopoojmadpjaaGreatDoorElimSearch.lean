/-
  sort.Search for the place of a new row.
-/
import Derived.Test.YtddopoojmadpjaaGreatDoorElim
namespace Go.Proofs.YtddopoojmadpjaaGreatDoor
open Go.RowKit
set_option linter.unusedVariables false

theorem one_cells {W : World} {R : Nat} {v0 : Value} {t : TypeId} (h : W.heap[R]? = some (.cells #[v0] t)) : W.cell? ⟨R, 0, none⟩ = some v0 := by simp [World.cell?, h]

set_option maxRecDepth 100000 in
set_option maxHeartbeats 4000000 in
theorem behind_ok (p q E k t at' : Nat) (S : Nat → Prop) (V : List (List UInt8)) (D : List UInt8 → List UInt8) (j : Nat) (hj : j < V.length) (hV4 : V.length ≤ 4096) (hk : k ≤ 1000000) (w : World) (hE : ElimAt w E S k t V D) (hl : leadL V[j] < (V[j]).length) (hp : w.cell? ⟨p, 0, none⟩ = some (.pointer (some ⟨E, 0, none⟩))) (hq : w.cell? ⟨q, 0, none⟩ = some (.int .i64 (at' : Int))) :
    Calls Tryz.prog 77 #[.int .i64 (j : Int), .pointer (some ⟨p, 0, none⟩), .pointer (some ⟨q, 0, none⟩)] w fun e w' => e = .returned (.bool (decide (at' < leadL V[j]))) ∧ Gr w w' := by
  obtain ⟨rv, hc, hpr, hne⟩ := hE
  obtain ⟨R, cap, b1, d1, b2, d2, rfl, hRb, hRl, r0, r1, hb1, hb2⟩ := hpr.get hj
  obtain ⟨e0, e1, e2, ef⟩ := three_all hc
  have HQL := Lib.hid fun nq => vecLead_any b1 k d1 V[j] (w.drewN nq) (hb1.below ((Gr.refl w).drewN nq))
  rw [leadI_of (leadL_lead hl)] at HQL
  obtain ⟨LD, eLD⟩ : ∃ x, leadL V[j] = x := ⟨_, rfl⟩
  rw [eLD] at HQL ⊢
  have HDEC : Hid (decide ((at' : Int) < (LD : Int)) = decide (at' < LD)) := by show _ = _; rw [decide_eq_decide]; omega
  obtain ⟨VL, eVL⟩ : ∃ x, V.length = x := ⟨_, rfl⟩
  rw [eVL] at e2 hj hV4
  have hji : (j : Int) < (VL : Int) := by omega
  clear hc hpr hne hb1 hb2 eLD eVL hl
  go_enter Tryz.func77, Tryz.ntmps77
  go_wp2
  go_quiet ((go_at_call 53; refine Calls.quiet_of_same ((HQL.out _).mono fun _ _ ⟨h1, h2⟩ => ⟨h1, h2.symm⟩)))
  have hg := (Gr.refl w).drewN nq
  go_wp2
  first | go_ret | go_ret2
  exact ⟨by rw [← HDEC.out]; rfl, hg⟩

/-- The place `i` parts the rows whose lead is at or ahead of `at'` from those behind. -/
def Place (V : List (List UInt8)) (at' i : Nat) : Prop := (∀ t (h : t < V.length), t < i → ¬ at' < leadL V[t])
def PlaceUp (V : List (List UInt8)) (at' i : Nat) : Prop := (∀ t (h : t < V.length), i ≤ t → at' < leadL V[t])

set_option maxRecDepth 100000 in
set_option maxHeartbeats 4000000 in
theorem search_ok (p q E k t at' : Nat) (S : Nat → Prop) (V : List (List UInt8)) (D : List UInt8 → List UInt8) (hV : Red V k) (hV4 : V.length ≤ 4096) (hk : k ≤ 1000000) (w : World) (hE : ElimAt w E S k t V D) (hp : w.cell? ⟨p, 0, none⟩ = some (.pointer (some ⟨E, 0, none⟩))) (hq : w.cell? ⟨q, 0, none⟩ = some (.int .i64 (at' : Int))) :
    Calls Tryz.prog 78 #[.int .i64 (V.length : Int), .func (.func 77) #[] #[.pointer (some ⟨p, 0, none⟩), .pointer (some ⟨q, 0, none⟩)]] w fun e w' => ∃ i : Nat, e = .returned (.int .i64 (i : Int)) ∧ i ≤ V.length ∧ Place V at' i ∧ PlaceUp V at' i ∧ Gr w w' := by
  have HBH := Lib.hid fun j hj w hE hp hq => behind_ok p q E k t at' S V D j hj hV4 hk w hE (by rw [hV.len _ (List.getElem_mem hj)]; exact hV.lt _ (List.getElem_mem hj)) hp hq
  have hinc := List.pairwise_iff_getElem.1 hV.inc
  have HUP := Lib.hid fun (h : Nat) (hh : h < V.length) (hy : at' < leadL V[h]) => show PlaceUp V at' h from fun t ht hle => by
    rcases Nat.lt_or_eq_of_le hle with h1 | rfl
    · exact Nat.lt_trans hy (hinc h t hh ht h1)
    · exact hy
  have HDN := Lib.hid fun (h : Nat) (hh : h < V.length) (hy : ¬ at' < leadL V[h]) => show Place V at' (h + 1) from fun t ht hle hlt => by
    rcases Nat.lt_or_eq_of_le (Nat.le_of_lt_succ hle) with h1 | rfl
    · exact hy (Nat.lt_trans hlt (hinc t h ht hh h1))
    · exact hy hlt
  have HTOP := Lib.hid (show PlaceUp V at' V.length from fun t h h2 => by omega)
  have HE := Lib.hid hE
  have HP := Lib.hid hp
  have HQ := Lib.hid hq
  obtain ⟨VL, eVL⟩ : ∃ x, V.length = x := ⟨_, rfl⟩
  have HVL := Lib.hid eVL
  have hVL4 : VL ≤ 4096 := by omega
  rw [eVL] at HTOP
  clear hE hp hq hinc hV hV4
  rw [eVL]
  clear eVL
  go_enter Tryz.func78, Tryz.ntmps78
  go_wp2
  go_loopw [5, 6] (fun a b wr => ∃ i j : Nat, a = .int .i64 i ∧ b = .int .i64 j ∧ i ≤ j ∧ j ≤ VL ∧ Place V at' i ∧ PlaceUp V at' j ∧ Gr w wr) (fun a b _ => (intOf b).toNat - (intOf a).toNat)
  case atStart => exact ⟨0, VL, rfl, rfl, Nat.zero_le _, Nat.le_refl _, fun _ _ h => by omega, HTOP.out, Gr.refl _⟩
  case round =>
    obtain ⟨i, j, rfl, rfl, hij, hjV, h1, h2, hgr⟩ := hrel
    have H1 := Lib.hid h1
    have H2 := Lib.hid h2
    have HG := Lib.hid hgr
    clear h1 h2 hgr
    by_cases hlt : i < j
    · obtain ⟨H, eH⟩ : ∃ H, (i + j) / 2 = H := ⟨_, rfl⟩
      have hH1 : i ≤ H := by omega
      have hH2 : H < j := by omega
      have hHi : ((i : Int) + (j : Int)) / 2 = (H : Int) := by omega
      clear eH
      go_wp2_with fail
      have hHV : H < V.length := by have := HVL.out; omega
      refine (HBH.out H hHV wr (HE.out.gr HG.out) (HG.out.cell HP.out) (HG.out.cell HQ.out)).mono ?_
      rintro e w' ⟨rfl, hg2⟩
      have HG2 := Lib.hid (HG.out.trans hg2)
      clear hg2
      obtain ⟨c, ec⟩ : ∃ c, decide (at' < leadL V[H]) = c := ⟨_, rfl⟩
      rw [ec]
      cases c
      · have HP2 := Lib.hid (HDN.out H hHV (of_decide_eq_false ec))
        clear ec
        go_wp2
        go_round
        case measure => simp only [intOf]; omega
        case rel => exact ⟨H + 1, j, rfl, rfl, by omega, hjV, HP2.out, H2.out, HG2.out⟩
      · have HP2 := Lib.hid (HUP.out H hHV (of_decide_eq_true ec))
        clear ec
        go_wp2
        go_round
        case measure => simp only [intOf]; omega
        case rel => exact ⟨i, H, rfl, rfl, by omega, by omega, H1.out, HP2.out, HG2.out⟩
    · have hje : j = i := by omega
      subst hje
      go_wp2
      first | go_ret | go_ret2
      exact ⟨j, rfl, hjV, H1.out, H2.out, HG.out⟩
end Go.Proofs.YtddopoojmadpjaaGreatDoor
