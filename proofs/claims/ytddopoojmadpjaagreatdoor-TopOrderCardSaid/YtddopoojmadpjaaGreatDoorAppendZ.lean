/-
  append of made noughts to bytes of one's own.
-/
import Derived.Test.YtddopoojmadpjaaGreatDoorAppend
import Derived.Lib.AppendZerosOnto
import Derived.Test.YtddopoojmadpjaaGreatDoorInsert
namespace Go.Proofs.YtddopoojmadpjaaGreatDoor
open Go.RowKit
set_option linter.unusedVariables false

theorem zero_u8s (n : Nat) : (Builtin.zeroCells (Value.int .u8 0).cells n).toList = u8s (List.replicate n 0) := by
  apply List.ext_getElem
  · simp [u8s, Builtin.zeroCells, Value.cells]
  · intro i h1 h2; simp [u8s, Builtin.zeroCells, Value.cells, Nat.mod_one]

theorem run_append_bytesZ {w : World} (ty : TypeId) (base : Nat) {v : Value} {l : List UInt8} (hown : OwnV w base v l) (n : Nat) (hb : l.length + n ≤ 1000000000) (hbase : base ≤ w.heap.size) :
    ∃ v' w', (Builtin.append_ #[22, 3] ty #[v, .int .i64 (n : Int)]).run Tryz.prog w = .ok v' w' ∧ OwnV w' base v' (l ++ List.replicate n 0) ∧ w.grownBy w' v.ownBlock ∧ (v'.ownBlock = v.ownBlock ∨ v'.ownBlock = some w.heap.size) := by
  obtain ⟨i0, hi0, hz0, hzs, hzb⟩ := info_parts infoByte
  have hw64 : IntKind.i64.wrap (n : Int) = n := by rw [IntKind.wrap_i64]; omega
  have hw0 : IntKind.i64.wrap 0 = 0 := by decide
  have hneg : ¬ ((n : Int) < 0) := by omega
  have h48i : ¬ (281474976710656 < (n : Int)) := by omega
  have hbytes : (i0.bytes : Int) = 1 := by rw [hzb]; rfl
  rcases hown.2 with ⟨rfl, hl0⟩ | ⟨g, cap, cur, rfl, hg, hh, hn, hm, hs, ht⟩
  · obtain rfl : l = [] := List.eq_nil_of_length_eq_zero hl0
    by_cases h0 : n = 0
    · subst h0
      refine ⟨.slice none 0 0, w, ?_, World.ownsRow_nil w base _ 1, World.grownBy.refl _ _, .inl rfl⟩
      simp [Builtin.append_, run_underlying Tryz.underlying22, run_underlying Tryz.underlying3, sizeOf, typeInfo, zeroValue, hi0, hz0, asInt, asIntOf, hw0, hzb]
    · have h := Lib.run_append_nil_zeros w 22 3 ty 5 i0 _ .i64 .i64 Tryz.underlying22 Tryz.underlying3 hi0 hz0 n (by omega) (by omega) (by omega) (by rw [hzb]; omega)
      refine ⟨_, _, h, ⟨by simp [u8s], .inr ⟨w.heap.size, grownCap w n 0 5, _, by simp, hbase, heap_alloc_new w.drew _, by simpa using grownCap_ge w n 0 _, grownCap_le_maxLen w _ _ _ (by simp only [maxLen]; omega), ?_, ?_⟩⟩, ⟨rfl, rfl, rfl, by simp, fun k hk _ => ((Gr.refl w).drew.alloc _).block hk⟩, .inr rfl⟩
      · have := grownCap_ge w n 0 5
        simp [Builtin.zeroCells, Value.cells]; omega
      · simp only [Array.toList_append, zero_u8s, List.nil_append, List.length_replicate, Nat.mul_one]
        rw [List.take_append_of_le_length (by simp [u8s]), List.take_of_length_le (by simp [u8s])]
  · have hlt := lt_of_block hh
    have hcl : cur.toList.take l.length = u8s l := by rw [← ht, Nat.mul_one]
    by_cases hfit : l.length + n ≤ cap
    · obtain ⟨cur', hcur'⟩ : ∃ c : List Value, c = cur.toList.take (l.length + 0) ++ u8s (List.replicate n 0) ++ cur.toList.drop (l.length + 0 + (u8s (List.replicate n 0)).length) := ⟨_, rfl⟩
      have hz := zero_u8s n
      have hst := run_storeCells_at (P := Tryz.prog) g l.length 5 (u8s (List.replicate n 0)) 0 cur w hh (by simp [u8s]; omega) u8s_one
      rw [← hcur'] at hst
      have hlen' : cur'.length = cap := by rw [hcur']; simp [u8s, hs]; omega
      refine ⟨.slice (some ⟨g, 0, none⟩) (l.length + n) cap, w.setRow g cur'.toArray, ?_, ⟨by simp [u8s], .inr ⟨g, cap, cur'.toArray, by simp, hg, setRow_heap w g cur _ _ _ hh, by simpa using hfit, hm, by simp [hlen'], ?_⟩⟩, ⟨rfl, rfl, rfl, by simp [World.setRow], fun k hk hne => setRow_other _ _ _ _ (fun e => hne (by rw [e]; rfl))⟩, .inl rfl⟩
      · by_cases h0 : n = 0
        · subst h0
          have e : cur' = cur.toList := by rw [hcur']; simp [u8s]
          rw [e, Array.toArray_toList, setRow_self w g cur _ _ hh]
          have hfl : l.length ≤ cap := by omega
          simp [Builtin.append_, run_underlying Tryz.underlying22, run_underlying Tryz.underlying3, sizeOf, typeInfo, zeroValue, hi0, hz0, asInt, asIntOf, hw0, hzb, storeCells, hfl]
        · have e : (⟨g, 0, none⟩ : Addr).add (l.length * 1) = ⟨g, l.length, none⟩ := by rw [Addr.add_lit]; simp
          simp [Builtin.append_, run_underlying Tryz.underlying22, run_underlying Tryz.underlying3, sizeOf, typeInfo, zeroValue, hi0, hz0, asInt, asIntOf, hw64, hneg, h48i, hfit, hzb, hzs, h0, hz, hst, Addr.add_lit]
      · simp only [List.length_append, List.length_replicate, Nat.mul_one, hcur', Nat.add_zero]
        have h1 : (cur.toList.take l.length).length = l.length := by rw [hcl]; simp [u8s]
        rw [List.take_append_of_le_length (by simp [u8s, hs]; omega), List.take_of_length_le (by simp [u8s, hs]; omega), hcl]
        simp [u8s]
    · have hold : (Builtin.firstCells i0.size l.length (.slice (some ⟨g, 0, none⟩) l.length cap)).run Tryz.prog w.drew = .ok (u8s l).toArray w.drew := by
        rw [hzs]
        exact run_firstCells_some (w := w.drew) 1 l.length ⟨g, 0, none⟩ l.length cap (u8s l) (by simp [u8s]) (fun j v hj => by
          rw [← hcl, List.getElem?_take] at hj
          split at hj
          · rw [Addr.add_lit]
            show w.cell? _ = _
            simp only [World.cell?, hh]
            simpa using hj
          · cases hj)
      have h := Lib.run_append_grow_zeros w 22 3 ty 5 i0 _ .i64 .i64 Tryz.underlying22 Tryz.underlying3 hi0 hz0 (some ⟨g, 0, none⟩) l.length cap (u8s l) hold n (by omega) (by omega) (by omega) (by omega) (by rw [hzb]; omega) (by rw [hzb]; exact growslice_fits (by omega) (by omega))
      have hge := grownCap_ge w (l.length + n) cap 5
      refine ⟨_, _, h, ⟨by simp [u8s], .inr ⟨w.heap.size, grownCap w (l.length + n) cap 5, _, by simp, hbase, heap_alloc_new w.drew _, by simpa using hge, grownCap_le_maxLen w _ _ _ (by simp only [maxLen]; omega), ?_, ?_⟩⟩, ⟨rfl, rfl, rfl, by simp, fun k hk _ => ((Gr.refl w).drew.alloc _).block hk⟩, .inr rfl⟩
      · simp [Builtin.zeroCells, Value.cells, u8s]; omega
      · simp only [Array.toList_append, zero_u8s, List.length_append, List.length_replicate, Nat.mul_one]
        rw [List.take_append_of_le_length (by simp [u8s]), List.take_of_length_le (by simp [u8s])]
        simp [u8s]
end Go.Proofs.YtddopoojmadpjaaGreatDoor
