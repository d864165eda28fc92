/-
  The walk of the document's Bytes of a head.
-/
import Derived.Test.YtdmijoochgmhiacDoorHead
namespace Go.Proofs.YtdmijoochgmhiacDoor
open Go.RowKit

theorem refPut4_any (n : Nat) (hn : n < 4294967296) (w : World) :
    Calls Tryd.prog 60 #[.int .u32 (n : Int)] w fun e w' => ∃ a cap, e = .returned (.slice a 4 cap) ∧ Bs w' a 4 cap (put4 n) ∧ Gr w w' := by
  refine (refPut_any n hn w).mono ?_
  rintro e w1 ⟨v, rfl, a, cap, rfl, hb, _, hg⟩
  exact ⟨a, cap, rfl, hb, hg⟩

set_option maxRecDepth 100000 in
set_option maxHeartbeats 1000000 in
theorem refHeadBytes_own (m o n : Nat) (hm : m ≤ 1) (ho : o < 4294967296) (hn : n < 4294967296) (w : World) :
    Calls Tryd.prog 58 #[.agg #[.int .u8 (m : Int), .int .u32 (o : Int), .int .u32 (n : Int)]] w fun e w' => ∃ a cap, e = .returned (.tuple #[.slice a 10 cap, .int .i64 0]) ∧ OwnV w' w.heap.size (.slice a 10 cap) (headL m o n) ∧ Gr w w' := by
  have HLIT : Hid (#[Value.int .u8 1, .int .u8 (m : Int)].toList = u8s [1, UInt8.ofNat m]) := by
    show _ = _
    have : ((m : Int) % 256) = (m : Int) := by omega
    simp [u8s, UInt8.toNat_ofNat', this]
  go_enter Tryd.func58, Tryd.ntmps58
  go_wp2_with fail
  refine (refPut4_any o ho _).mono ?_
  rintro e w2 ⟨a2, cap2, rfl, hbs2, hg2⟩
  have hB1 := Gr.heap ((Gr.refl _).alloc (.cells #[Value.int .u8 1, .int .u8 (m : Int)] 5)) (heap_alloc_new w (.cells #[.int .u8 (m : Int), .int .u32 (o : Int), .int .u32 (n : Int)] 72))
  have hB := hg2.heap hB1
  have hgw : Gr w w2 := (((Gr.refl w).alloc _).alloc _).trans hg2
  have hown : OwnV w2 (w.heap.size + 1) (.slice (some ⟨w.heap.size + 1, 0, none⟩) 2 2) [1, UInt8.ofNat m] := (OwnV.made (by simp) (by simp) HLIT.out (by show 2 ≤ maxLen; decide)).gr hg2
  have hq2 : ([1, UInt8.ofNat m] : List UInt8).length + 4 ≤ 140737488355328 := by show 2 + 4 ≤ _; omega
  have hbase2 : w.heap.size + 1 ≤ w2.heap.size := by have := lt_of_block hB; omega
  have hC : ∀ w3, w2.grownBy w3 (Value.slice (some ⟨w.heap.size + 1, 0, none⟩) 2 2).ownBlock → w3.cell? ⟨w.heap.size, 2, none⟩ = some (.int .u32 (n : Int)) ∧ Gr w w3 ∧ w.heap.size < w3.heap.size := by
    intro w3 hg3
    have hBo : ∀ q, (Value.slice (some ⟨w.heap.size + 1, 0, none⟩) 2 2).ownBlock = some q → w.heap.size + 1 ≤ q := fun q hq => (hown.lt q hq).1
    have hB3 : w3.heap[w.heap.size]? = some (.cells #[.int .u8 (m : Int), .int .u32 (o : Int), .int .u32 (n : Int)] 72) := by
      rw [← hB]; exact hg3.block _ (lt_of_block hB) (fun e => by have := hBo _ e.symm; omega)
    exact ⟨by simp [World.cell?, hB3], hgw.grown hg3 (fun q hq => by have := hBo q hq; omega), lt_of_block hB3⟩
  go_wp2_with (at_builtin; refine wpList_append_bytes rfl (.tmp 11) (.tmp 14) rfl (w.heap.size + 1) _ [1, UInt8.ofNat m] rfl hown a2 4 cap2 (put4 o) rfl hbs2 hq2 hbase2 ?_; intro v3 w3 ho3 hg3 hn3; have c2 := (hC _ hg3).1)
  obtain ⟨_, hgw3, hl3⟩ := hC _ hg3
  clear hC
  clear hg3 hn3 hown hB hB1 hbs2 hg2 hgw
  go_wp2_with fail
  refine (refPut4_any n hn _).mono ?_
  rintro e w4 ⟨a4, cap4, rfl, hbs4, hg4⟩
  have ho4 := ho3.gr hg4
  have hq4 : ([1, UInt8.ofNat m] ++ put4 o : List UInt8).length + 4 ≤ 140737488355328 := by show 6 + 4 ≤ _; omega
  have hbase4 : w.heap.size + 1 ≤ w4.heap.size := by have := hg4.size; omega
  go_wp2_with (at_builtin; refine wpList_append_bytes rfl (.tmp 16) (.tmp 19) rfl (w.heap.size + 1) _ ([1, UInt8.ofNat m] ++ put4 o) rfl ho4 a4 4 cap4 (put4 n) rfl hbs4 hq4 hbase4 ?_; intro v5 w5 ho5 hg5 hn5)
  have hgw5 : Gr w w5 := (hgw3.trans hg4).grown hg5 (fun q hq => by have := (ho4.lt q hq).1; omega)
  obtain ⟨a5, cap5, rfl, hbs5, _⟩ := ho5.bs
  go_wp2
  go_ret2
  exact ⟨a5, cap5, rfl, ho5.mono (Nat.le_succ _), hgw5⟩
theorem refHeadBytes_ok (m o n : Nat) (hm : m ≤ 1) (ho : o < 4294967296) (hn : n < 4294967296) (w : World) :
    Calls Tryd.prog 58 #[.agg #[.int .u8 (m : Int), .int .u32 (o : Int), .int .u32 (n : Int)]] w fun e w' => ∃ a cap, e = .returned (.tuple #[.slice a 10 cap, .int .i64 0]) ∧ Bs w' a 10 cap (headL m o n) ∧ Gr w w' := by
  refine (refHeadBytes_own m o n hm ho hn w).mono ?_
  rintro e w' ⟨a, cap, he, hb, hg⟩
  exact ⟨a, cap, he, hb.bs'.1, hg⟩

set_option maxHeartbeats 400000 in
theorem refHeadBytes_not (m : Nat) (o n : Int) (hm : ¬ m ≤ 1) (w : World) :
    Calls Tryd.prog 58 #[.agg #[.int .u8 (m : Int), .int .u32 o, .int .u32 n]] w fun e w' => e = .returned (.tuple #[.slice none 0 0, .int .i64 8]) ∧ Gr w w' := by
  have h1 : (1 : Int) < (m : Int) := by omega
  clear hm
  go_enter Tryd.func58, Tryd.ntmps58
  go_wp2
  go_ret2
  exact ⟨rfl, (Gr.refl w).alloc _⟩
end Go.Proofs.YtdmijoochgmhiacDoor
