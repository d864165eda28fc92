/-
  Of the law PacketReads: packets as the document has them; two of the same.
-/
import Derived.Test.YtdmijoochgmhiabDoorPacketLaw
import Derived.Test.YtdmijoochgmhiabDoorSame
namespace Go.Proofs.YtdmijoochgmhiabDoor
open Go.RowKit
set_option linter.unusedVariables false

set_option maxRecDepth 100000 in
set_option maxHeartbeats 1000000 in
theorem packRef_any (m o n md sd : Int) (a a' : Option Addr) (k c k' c' : Nat) (w : World) :
    Calls Tryd.prog 11 #[.agg #[.int .u8 m, .int .u32 o, .int .u32 n, .int .u8 md, .slice a k c, .int .u64 sd, .slice a' k' c']] w fun e w' => e = .returned (.agg #[.int .u8 m, .int .u32 o, .int .u32 n, .int .u8 md, .slice a k c, .int .u64 sd, .slice a' k' c']) ∧ Gr w w' := by
  have hG := ((Gr.refl w).alloc (.cells #[.int .u8 m, .int .u32 o, .int .u32 n, .int .u8 md, .slice a k c, .int .u64 sd, .slice a' k' c'] 34)).alloc (.cells #[.int .u8 m, .int .u32 o, .int .u32 n, .int .u8 md, .slice a k c, .int .u64 sd, .slice a' k' c'] 40)
  go_enter Tryd.func11, Tryd.ntmps11
  go_wp2
  refine bodyPost_ret (v := .agg #[.int .u8 m, .int .u32 o, .int .u32 n, .int .u8 md, .slice a k c, .int .u64 sd, .slice a' k' c']) ?_ rfl ⟨rfl, hG⟩
  simp [results, Tryd.results11, go_sem]

set_option maxRecDepth 100000 in
set_option maxHeartbeats 2000000 in
/-- two packets of the same head, row and load are the same. -/
theorem packSame_eq (m o n md sd : Int) (a a' b b' : Option Addr) (k c k' c' j d j' d' : Nat) (l l' : List UInt8) (w : World) (h1 : Bs w a k c l) (h2 : Bs w a' k' c' l') (h3 : Bs w b j d l) (h4 : Bs w b' j' d' l') :
    Calls Tryd.prog 10 #[.agg #[.int .u8 m, .int .u32 o, .int .u32 n, .int .u8 md, .slice a k c, .int .u64 sd, .slice a' k' c'], .agg #[.int .u8 m, .int .u32 o, .int .u32 n, .int .u8 md, .slice b j d, .int .u64 sd, .slice b' j' d']] w fun e w' => e = .returned (.bool true) ∧ Gr w w' := by
  have H1 := Lib.hid h1
  have H2 := Lib.hid h2
  have H3 := Lib.hid h3
  have H4 := Lib.hid h4
  have S := sameB_self l
  have S' := sameB_self l'
  clear h1 h2 h3 h4
  go_enter Tryd.func10, Tryd.ntmps10
  go_wp2_with fail
  have hg0 : Gr w ((w.alloc (.cells #[.int .u8 m, .int .u32 o, .int .u32 n, .int .u8 md, .slice a k c, .int .u64 sd, .slice a' k' c'] 40)).alloc (.cells #[.int .u8 m, .int .u32 o, .int .u32 n, .int .u8 md, .slice b j d, .int .u64 sd, .slice b' j' d'] 40)) := ((Gr.refl w).alloc _).alloc _
  refine (same_any a b k c j d l l _ (H1.out.below hg0) (H3.out.below hg0)).mono ?_
  rintro e w1 ⟨rfl, hg1⟩
  rw [S]
  have hgw := hg0.trans hg1
  obtain ⟨p0, p1, p2, p3, p4, p5, p6, _⟩ := seven_cells (hg1.heap (Gr.heap (Gr.alloc (Gr.refl _) _) (heap_alloc_new w _)))
  have hB := hg1.heap (heap_alloc_new _ _)
  simp only [World.alloc, Array.size_push] at hB
  obtain ⟨q0, q1, q2, q3, q4, q5, q6, _⟩ := seven_cells hB
  clear hB hg1 hg0
  go_wp2_with fail
  refine (same_any a' b' k' c' j' d' l' l' _ (H2.out.below hgw) (H4.out.below hgw)).mono ?_
  rintro e w2 ⟨rfl, hg2⟩
  rw [S']
  have hgw2 := hgw.trans hg2
  clear hg2 hgw
  go_wp2
  go_ret
  exact ⟨rfl, hgw2⟩
end Go.Proofs.YtdmijoochgmhiabDoor
