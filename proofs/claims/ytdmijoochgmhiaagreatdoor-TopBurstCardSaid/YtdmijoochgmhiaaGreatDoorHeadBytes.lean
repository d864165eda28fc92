/-
  The walk of head.Head.Bytes.
-/
import Derived.Test.YtdmijoochgmhiaaGreatDoorHead
import Derived.Test.YtdmijoochgmhiaaGreatDoorRegion
namespace Go.Proofs.YtdmijoochgmhiaaGreatDoor
open Go.RowKit

set_option maxRecDepth 100000 in
set_option maxHeartbeats 2000000 in
theorem headBytes_ok (m o n : Nat) (hm : m ≤ 1) (ho : o < 4294967296) (hn : n < 4294967296) (w : World) :
    Calls Tryz.prog 67 #[.agg #[.int .u8 (m : Int), .int .u32 (o : Int), .int .u32 (n : Int)]] w fun e w' => ∃ a cap, e = .returned (.tuple #[.slice a 10 cap, .int .i64 0]) ∧ OwnV w' w.heap.size (.slice a 10 cap) (headL m o n) ∧ Gr w w' := by
  have hlit : #[Value.int .u8 1, .int .u8 (m : Int)].toList = u8s [1, UInt8.ofNat m] := by
    have : ((m : Int) % 256) = (m : Int) := by omega
    simp [u8s, UInt8.toNat_ofNat', this]
  have HLIT := Lib.hid hlit
  clear hlit
  go_enter Tryz.func67, Tryz.ntmps67
  go_wp2_with fail
  refine (headCheck_ok m o n hm _).mono ?_
  rintro e w1 ⟨rfl, hg1⟩
  have hB := hg1.heap (heap_alloc_new w _)
  have hgw : Gr w w1 := ((Gr.refl w).alloc _).trans hg1
  have c0 : w1.cell? ⟨w.heap.size, 0, none⟩ = some (.int .u8 (m : Int)) := by simp [World.cell?, hB]
  have c1 : w1.cell? ⟨w.heap.size, 1, none⟩ = some (.int .u32 (o : Int)) := by simp [World.cell?, hB]
  have c2 : w1.cell? ⟨w.heap.size, 2, none⟩ = some (.int .u32 (n : Int)) := by simp [World.cell?, hB]
  clear hg1 hB
  have C0 := Lib.hid c0
  have C1 := Lib.hid c1
  have C2 := Lib.hid c2
  clear c0 c1 c2
  go_wp2
  have hup : Nonempty (Up Gr w1.drew) := ⟨⟨_, Gr.refl _⟩⟩
  have u0 : ∀ x : Up Gr w1.drew, x.w.cell? ⟨w.heap.size, 0, none⟩ = some (.int .u8 (m : Int)) := fun x => Gr.cell x.rel C0.out
  have u1 : ∀ x : Up Gr w1.drew, x.w.cell? ⟨w.heap.size, 1, none⟩ = some (.int .u32 (o : Int)) := fun x => Gr.cell x.rel C1.out
  have u2 : ∀ x : Up Gr w1.drew, x.w.cell? ⟨w.heap.size, 2, none⟩ = some (.int .u32 (n : Int)) := fun x => Gr.cell x.rel C2.out
  refine wp_region_rg [.reck, .reck, spB 2 [1, UInt8.ofNat m], .reck, .reck, spB 4 (put4 o), .reck, .reck, spB 4 (put4 n), spBss 3 [[1, UInt8.ofNat m], put4 o, put4 n], spO w.heap.size 10 (headL m o n), .reck, .reck] Gr (by kernel_rfl) (by kernel_rfl) Gr.refl (fun _ _ _ => Gr.trans) ?_
  (refine wpRG_reck rfl (fun K hK => ?_); go_big_quiet_op; refine hK _ ?_; clear hK K)
  (refine wpRG_reck rfl (fun K hK => ?_); go_big_quiet_op; refine hK _ ?_; clear hK K)
  refine wpRG_any rfl (fun x w w' hg h => h.below hg) (fun W hw hF R hR => ?_) ?_
  · (have HF := Lib.hid hF; clear hF; unfold rgAt; go_simp)
    exact hR (some ⟨W.heap.size, 0, none⟩, 2) _ ((Gr.refl _).alloc _) (Bs.of_alloc HLIT.out rfl (by decide) rfl)
  rintro ⟨a2, cap2⟩
  (simp only [Act.put, List.setIfInBounds_toArray, List.set_cons_zero, List.set_cons_succ])
  (refine wpRG_reck rfl (fun K hK => ?_); go_big_quiet_op; refine hK _ ?_; clear hK K)
  (refine wpRG_reck rfl (fun K hK => ?_); go_big_quiet_op; refine hK _ ?_; clear hK K)
  refine wpRG_any rfl (fun x w w' hg h => h.below hg) (fun W hw hF R hR => ?_) ?_
  · (have HF := Lib.hid hF; clear hF; unfold rgAt; go_simp)
    show Calls _ _ _ _ _
    refine (sumPut4_any o ho W).mono ?_
    rintro e w6 ⟨a6, cap6, rfl, hb6, hg6⟩
    exact ⟨_, rfl, hR (a6, cap6) _ hg6 hb6⟩
  rintro ⟨a5, cap5⟩
  (simp only [Act.put, List.setIfInBounds_toArray, List.set_cons_zero, List.set_cons_succ])
  (refine wpRG_reck rfl (fun K hK => ?_); go_big_quiet_op; refine hK _ ?_; clear hK K)
  (refine wpRG_reck rfl (fun K hK => ?_); go_big_quiet_op; refine hK _ ?_; clear hK K)
  refine wpRG_any rfl (fun x w w' hg h => h.below hg) (fun W hw hF R hR => ?_) ?_
  · (have HF := Lib.hid hF; clear hF; unfold rgAt; go_simp)
    show Calls _ _ _ _ _
    refine (sumPut4_any n hn W).mono ?_
    rintro e w6 ⟨a6, cap6, rfl, hb6, hg6⟩
    exact ⟨_, rfl, hR (a6, cap6) _ hg6 hb6⟩
  rintro ⟨a8, cap8⟩
  (simp only [Act.put, List.setIfInBounds_toArray, List.set_cons_zero, List.set_cons_succ])
  refine wpRG_any rfl (fun x w w' hg h => h.below hg) (fun W hw hF R hR => ?_) ?_
  · have h2 : Bs W a2 2 cap2 [1, UInt8.ofNat m] := hF 2 (by kernel_rfl)
    have h5 : Bs W a5 4 cap5 (put4 o) := hF 5 (by kernel_rfl)
    have h8 : Bs W a8 4 cap8 (put4 n) := hF 8 (by kernel_rfl)
    (have HF := Lib.hid hF; clear hF; unfold rgAt; go_simp)
    exact hR (some ⟨W.heap.size, 0, none⟩, 3) _ ((Gr.refl _).alloc _) (Bss.of_alloc3 h2 h5 h8 rfl)
  rintro ⟨a9, cap9⟩
  (simp only [Act.put, List.setIfInBounds_toArray, List.set_cons_zero, List.set_cons_succ])
  refine wpRG_any rfl (fun x w w' hg h => OwnV.gr h hg) (fun W hw hF R hR => ?_) ?_
  · have h9 : Bss W a9 3 cap9 [[1, UInt8.ofNat m], put4 o, put4 n] := hF 9 (by kernel_rfl)
    (have HF := Lib.hid hF; clear hF; unfold rgAt; go_simp)
    show Calls _ _ _ _ _
    refine (sliceConcat_own _ 3 _ [[1, UInt8.ofNat m], put4 o, put4 n] 10 rfl (by decide) (by decide) W h9).mono ?_
    rintro e w6 ⟨v, rfl, ho6, hg6⟩
    obtain ⟨a6, cap6, rfl, _⟩ := ho6.slice
    exact ⟨_, rfl, hR (a6, cap6) _ hg6 (ho6.mono (hgw.drew.trans hw).size)⟩
  rintro ⟨aa, capa⟩
  (simp only [Act.put, List.setIfInBounds_toArray, List.set_cons_zero, List.set_cons_succ])
  (refine wpRG_reck rfl (fun K hK => ?_); go_big_quiet_op; refine hK _ ?_; clear hK K)
  (refine wpRG_reck rfl (fun K hK => ?_); go_big_quiet_op; refine hK _ ?_; clear hK K)
  refine wpRG_end fun W hw hF => ?_
  have hb : OwnV W w.heap.size (.slice aa 10 capa) (headL m o n) := hF 10
  have hgW : Gr w W := hgw.drew.trans hw
  clear hF
  refine wpList_nil ?_
  go_wp2
  go_ret2
  exact ⟨aa, capa, rfl, hb, hgW⟩

set_option maxHeartbeats 400000 in
theorem headBytes_not (m : Nat) (o n : Int) (hm : ¬ m ≤ 1) (w : World) :
    Calls Tryz.prog 67 #[.agg #[.int .u8 (m : Int), .int .u32 o, .int .u32 n]] w fun e w' => e = .returned (.tuple #[.slice none 0 0, .int .i64 8]) ∧ Gr w w' := by
  go_enter Tryz.func67, Tryz.ntmps67
  go_wp2_with fail
  refine (headCheck_not m o n hm _).mono ?_
  rintro e w1 ⟨rfl, hg1⟩
  go_wp2
  go_ret2
  exact ⟨rfl, ((Gr.refl w).alloc _).trans hg1⟩
end Go.Proofs.YtdmijoochgmhiaaGreatDoor
