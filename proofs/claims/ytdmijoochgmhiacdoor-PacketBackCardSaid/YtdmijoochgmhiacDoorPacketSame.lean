/-
  The walks of bytes.Equal (of the same bytes), and of packet.Same.
-/
import Derived.Test.YtdmijoochgmhiacDoorRowSame
import Derived.Test.YtdmijoochgmhiacDoorPacketRead
import Derived.Lib.SlBytesRow
namespace Go.Proofs.YtdmijoochgmhiacDoor
open Go.RowKit
set_option linter.unusedVariables false

theorem Bs.bytes {w : World} {b o n cap : Nat} {l : List UInt8} (h : Bs w (some ⟨b, o, none⟩) n cap l) : Lib.Bytes w b o ⟨l.toArray⟩ ∧ (⟨l.toArray⟩ : ByteArray).size = n := by
  have hz : (⟨l.toArray⟩ : ByteArray).size = n := by rw [← h.1]; simp [ByteArray.size]
  refine ⟨fun i hi => ?_, hz⟩
  have hil : i < l.length := by rw [h.1, ← hz]; exact hi
  have := h.2.2.2.2 _ rfl i (l[i]) (List.getElem?_eq_getElem hil)
  rw [Addr.add_lit] at this
  exact this

set_option maxRecDepth 100000 in
set_option maxHeartbeats 1000000 in
theorem byteEqual_eq (a a' : Option Addr) (k c c' : Nat) (l : List UInt8) (w : World) (h1 : Bs w a k c l) (h2 : Bs w a' k c' l) (hk : 0 < k) :
    Calls Tryd.prog 51 #[.slice a k c, .slice a' k c'] w fun e w' => e = .returned (.bool true) ∧ w = w' := by
  obtain ⟨b, o, rfl, _⟩ := h1.at_ hk
  obtain ⟨b', o', rfl, _⟩ := h2.at_ hk
  obtain ⟨s1, z1⟩ := h1.bytes
  obtain ⟨s2, z2⟩ := h2.bytes
  have r1 := Lib.run_convert_whole (P := Tryd.prog) w 35 5 9 Tryd.underlying35 Tryd.underlying5 Tryd.underlying9 b o _ s1 c
  have r2 := Lib.run_convert_whole (P := Tryd.prog) w 35 5 9 Tryd.underlying35 Tryd.underlying5 Tryd.underlying9 b' o' _ s2 c'
  rw [z1] at r1
  rw [z2] at r2
  obtain ⟨S, eS⟩ : ∃ S : ByteArray, (⟨l.toArray⟩ : ByteArray) = S := ⟨_, rfl⟩
  rw [eS] at r1 r2
  clear s1 s2 z1 z2 eS h1 h2
  go_enter Tryd.func51, Tryd.ntmps51
  go_wp2
  go_ret
  exact ⟨by simp, rfl⟩

set_option maxRecDepth 100000 in
set_option maxHeartbeats 2000000 in
theorem packetSame_eq (m o nn md sd sd' : Nat) (a a' b b' : Option Addr) (k c j d kp cp dp : Nat) (l l' lp : List UInt8) (w : World) (h1 : Bs w a k c l) (h2 : Bs w a' kp cp lp) (h3 : Bs w b j d l') (h4 : Bs w b' kp dp lp) (hkp : 0 < kp) (hr : rowSame md md l l' sd sd' = true) :
    Calls Tryd.prog 21 #[.agg #[.int .u8 (m : Int), .int .u32 (o : Int), .int .u32 (nn : Int), .int .u8 (md : Int), .slice a k c, .int .u64 (sd : Int), .slice a' kp cp], .agg #[.int .u8 (m : Int), .int .u32 (o : Int), .int .u32 (nn : Int), .int .u8 (md : Int), .slice b j d, .int .u64 (sd' : Int), .slice b' kp dp]] w fun e w' => e = .returned (.bool true) ∧ Gr w w' := by
  have H1 := Lib.hid h1
  have H2 := Lib.hid h2
  have H3 := Lib.hid h3
  have H4 := Lib.hid h4
  have HR := Lib.hid hr
  clear h1 h2 h3 h4 hr
  go_enter Tryd.func21, Tryd.ntmps21
  go_wp2_with fail
  have hg0 : Gr w ((w.alloc (.cells #[.int .u8 (m : Int), .int .u32 (o : Int), .int .u32 (nn : Int), .int .u8 (md : Int), .slice a k c, .int .u64 (sd : Int), .slice a' kp cp] 42)).alloc (.cells #[.int .u8 (m : Int), .int .u32 (o : Int), .int .u32 (nn : Int), .int .u8 (md : Int), .slice b j d, .int .u64 (sd' : Int), .slice b' kp dp] 42)) := ((Gr.refl w).alloc _).alloc _
  refine (rowSame_any md md a b k c j d l l' sd sd' _ (H1.out.below hg0) (H3.out.below hg0)).mono ?_
  rintro e w1 ⟨rfl, hg1⟩
  rw [HR.out]
  have hgw := hg0.trans hg1
  obtain ⟨p0, p1, p2, p3, p4, p5, p6, _⟩ := seven_cells (hg1.heap (Gr.heap (Gr.alloc (Gr.refl _) _) (heap_alloc_new w _)))
  have hB := hg1.heap (heap_alloc_new _ _)
  simp only [World.alloc, Array.size_push] at hB
  obtain ⟨q0, q1, q2, q3, q4, q5, q6, _⟩ := seven_cells hB
  clear hB hg1 hg0
  go_wp2_with fail
  refine (byteEqual_eq a' b' kp cp dp lp _ (H2.out.below hgw) (H4.out.below hgw) hkp).mono ?_
  rintro e w2 ⟨rfl, rfl⟩
  go_wp2
  go_ret
  exact ⟨rfl, hgw⟩
theorem packetSame_two (m o nn md sd sd' : Nat) (a a' b b' : Option Addr) (k c j d kp cp jp dp : Nat) (l l' lp : List UInt8) (w : World) (h1 : Bs w a k c l) (h2 : Bs w a' kp cp lp) (h3 : Bs w b j d l') (h4 : Bs w b' jp dp lp) (hkp : 0 < jp) (hr : rowSame md md l l' sd sd' = true) :
    Calls Tryd.prog 21 #[.agg #[.int .u8 (m : Int), .int .u32 (o : Int), .int .u32 (nn : Int), .int .u8 (md : Int), .slice a k c, .int .u64 (sd : Int), .slice a' kp cp], .agg #[.int .u8 (m : Int), .int .u32 (o : Int), .int .u32 (nn : Int), .int .u8 (md : Int), .slice b j d, .int .u64 (sd' : Int), .slice b' jp dp]] w fun e w' => e = .returned (.bool true) ∧ Gr w w' := by
  obtain rfl : kp = jp := h2.1.symm.trans h4.1
  exact packetSame_eq m o nn md sd sd' a a' b b' k c j d kp cp dp l l' lp w h1 h2 h3 h4 hkp hr
end Go.Proofs.YtdmijoochgmhiacDoor
