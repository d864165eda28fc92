/-
  The walks of package cut.
-/
import Derived.Test.YtddopoojmadpjaaGreatDoorPlan
import Derived.Test.YtddopoojmadpjaaGreatDoorAppend
import Derived.Laws.CopyOwn
namespace Go.Proofs.YtddopoojmadpjaaGreatDoor
open Go.RowKit

/-- a symbol of an object; all of them. -/
def pieceL (obj : List UInt8) (s i : Nat) : List UInt8 := (obj.drop (i * s)).take s ++ List.replicate (s - ((obj.drop (i * s)).take s).length) 0
def cutL (obj : List UInt8) (s q : Nat) : List (List UInt8) := (List.range q).map (pieceL obj s)
theorem pieceL_length (obj : List UInt8) (s i : Nat) : (pieceL obj s i).length = s := by
  have : ((obj.drop (i * s)).take s).length ≤ s := List.length_take_le _ _
  unfold pieceL; rw [List.length_append, List.length_replicate]; omega
theorem cutL_length (obj : List UInt8) (s q : Nat) : (cutL obj s q).length = q := by simp [cutL]
theorem cutL_get (obj : List UInt8) (s q i : Nat) (h : i < q) : (cutL obj s q)[i]? = some (pieceL obj s i) := by simp [cutL, h]
/-- what is wrong with a plan and an object. -/
def cutErr (len size sym : Int) (n : Nat) : Nat := if planErr len size sym ≠ 0 then planErr len size sym else if (n : Int) ≠ len then 4 else 0
theorem piece_le {n s q i : Nat} (h : planErr n s q = 0) (hi : i < q) : i * s ≤ n := by
  obtain ⟨h1, h2⟩ := planErr_zero h
  obtain ⟨_, hs, _, _⟩ := planFit_zero h1
  unfold planNeed at h2
  by_cases h0 : (n : Int) = 0
  · rw [if_pos h0] at h2
    have : i = 0 := by omega
    subst this; simp
  · rw [if_neg h0] at h2
    have h3 : (i : Int) ≤ ((n : Int) - 1) / s := by omega
    have h4 := (Int.le_ediv_iff_mul_le (show (0 : Int) < s by omega)).1 h3
    have h5 : ((i * s : Nat) : Int) = (i : Int) * s := by simp
    omega
theorem plan_bounds {n s q : Nat} (h : planErr n s q = 0) : 1 ≤ s ∧ s ≤ 65535 ∧ 1 ≤ q ∧ q ≤ 4096 := by
  obtain ⟨h1, h2⟩ := planErr_zero h
  obtain ⟨h0, hs, hs2, h4⟩ := planFit_zero h1
  have := planNeed_pos h0 hs
  omega
theorem u8s_piece (obj : List UInt8) (s i : Nat) : u8s (pieceL obj s i) = Go.splice (u8s (List.replicate s 0)) 0 (u8s ((obj.drop (i * s)).take s)) := by
  unfold Go.splice pieceL u8s
  simp only [List.take_zero, List.nil_append, Nat.zero_add, List.map_append, List.map_replicate, List.length_map, List.drop_replicate]
theorem Bs.dropAny {w : World} {a : Option Addr} {len cap : Nat} {l : List UInt8} (h : Bs w a len cap l) {k : Nat} (hk : k ≤ len) : Bs w (if cap = k then a else a.map fun x => x.add k) (len - k) (cap - k) (l.drop k) := by
  obtain ⟨h1, h2, h3, h4, h5⟩ := h
  refine ⟨by simp; omega, by omega, by omega, fun ha => ?_, fun x hx i u hu => ?_⟩
  · by_cases hc : cap = k
    · omega
    · rw [if_neg hc] at ha
      have : a = none := by simpa using ha
      have := h4 this; omega
  · rw [List.getElem?_drop] at hu
    by_cases hc : cap = k
    · have hl := (List.getElem?_eq_some_iff.1 hu).1
      omega
    · rw [if_neg hc] at hx
      obtain ⟨y, hy, rfl⟩ := Option.map_eq_some_iff.1 hx
      have := h5 y hy (k + i) u hu
      have e : (y.add k).add i = y.add (k + i) := by
        unfold Addr.add
        by_cases hk0 : k = 0
        · simp [hk0]
        · by_cases hi0 : i = 0
          · simp [hi0]
          · simp [hk0, hi0, Nat.add_assoc]
      rw [e]; exact this

/-- a row that is as long as its block. -/
theorem own_whole {w : World} {base g n : Nat} {e : TypeId} {xs : List Value} (h : w.ownsRow base e 1 (.slice (some ⟨g, 0, none⟩) n n) n xs) : w.heap[g]? = some (.cells xs.toArray e (0, 0)) := by
  obtain ⟨h1, h2⟩ := h
  rcases h2 with ⟨hv, _⟩ | ⟨g', cap, cur, hv, hg, hh, hn, hm, hs, ht⟩
  · cases hv
  · cases hv
    rw [hh]
    have : cur.toList = xs := by rw [← ht, List.take_of_length_le (by simp; omega)]
    rw [← this]
theorem made_bytes (n : Nat) : (madeCells (Value.int .u8 0).cells (n * 1)).toList = u8s (List.replicate n 0) := by
  apply List.ext_getElem
  · simp [u8s, madeCells]
  · intro i h1 h2; simp [u8s, madeCells, Value.cells, Nat.mod_one]

theorem copy_src {w : World} {A : Option Addr} {n c : Nat} {x : List UInt8} (s : Nat) (hd : Bs w A n c x) :
    ∀ w1, Gr w w1 → 0 < (u8s (x.take s)).length → ∃ ad, A = some ad ∧ ∀ (j : Nat) (v : Value), (u8s (x.take s))[j]? = some v → w1.cell? (ad.add j) = some v := by
  intro w1 hG hp
  have hd1 := hd.below hG
  cases A with
  | none =>
    have h4 := hd1.2.2.2.1 rfl
    have h2 := hd1.2.1
    have hx0 : x.length = 0 := by rw [hd1.1]; omega
    obtain rfl := List.eq_nil_of_length_eq_zero hx0
    simp [u8s] at hp
  | some y =>
    refine ⟨y, rfl, fun j v hv => ?_⟩
    rw [u8s, List.getElem?_map, List.getElem?_take] at hv
    split at hv
    · obtain ⟨u, hu, rfl⟩ := Option.map_eq_some_iff.1 hv
      exact hd1.2.2.2.2 y rfl j u hu
    · cases hv

set_option maxRecDepth 100000 in
set_option maxHeartbeats 1000000 in
theorem piece_any (n s i : Nat) (sym id : Int) (hs2 : s ≤ 65535) (a : Option Addr) (cap : Nat) (obj : List UInt8) (w : World) (hb : Bs w a n cap obj) (hi : i * s ≤ n) (hm : n ≤ 140737488355328) :
    Calls Tryz.prog 64 #[.agg #[.int .i64 (n : Int), .int .i64 (s : Int), .int .i64 sym, .int .u32 id], .slice a n cap, .int .i64 (i : Int)] w fun e w' =>
      ∃ g, w.heap.size ≤ g ∧ e = .returned (.slice (some ⟨g, 0, none⟩) s s) ∧ Bs w' (some ⟨g, 0, none⟩) s s (pieceL obj s i) ∧ Gr w w' := by
  obtain ⟨i0, hi0, hz0, hz1, hz2⟩ := info_parts infoByte
  have hcap : n ≤ cap := hb.2.1
  have hcap2 : (cap : Int) ≤ 9223372036854775807 := by have h2 := hb.2.2.1; unfold maxLen at h2; omega
  have hmul : (i : Int) * (s : Int) = ((i * s : Nat) : Int) := by simp
  have hd := hb.dropAny (k := i * s) hi
  have hsz : (Tryz.prog.info? 5).map (·.size) = some 1 := by kernel_rfl
  have hpc := u8s_piece obj s i
  obtain ⟨D, hD⟩ : ∃ D, i * s = D := ⟨_, rfl⟩
  have hpl := pieceL_length obj s i
  rw [hD] at hmul hd hi hpc
  obtain ⟨L, hL⟩ : ∃ L, pieceL obj s i = L := ⟨_, rfl⟩
  rw [hL] at hpc hpl ⊢
  obtain ⟨x, hx⟩ : ∃ x, obj.drop D = x := ⟨_, rfl⟩
  rw [hx] at hd hpc
  have hDi : (D : Int) ≤ (n : Int) := by omega
  have hDc : (D : Int) ≤ (cap : Int) := by omega
  have HPL := Lib.hid hpl
  have HPC := Lib.hid hpc
  have HX := Lib.hid hx.symm
  have HSZ := Lib.hid hsz
  clear hD hL hx hpc hpl hsz
  have hcl : ((u8s (x.take s)).length = Nat.min (n - D) s) := by rw [u8s, List.length_map, List.length_take, hd.1]; exact Nat.min_comm _ _
  have HCL := Lib.hid hcl
  clear hcl
  by_cases hcD : cap = D
  · rw [if_pos hcD] at hd
    subst hcD
    have e0 : n - cap = 0 := by omega
    rw [e0, Nat.sub_self] at hd
    have HCL := HCL.out
    rw [e0] at HCL
    have HCL := Lib.hid HCL
    clear e0
    have HFIT : Hid (0 + (u8s (x.take s)).length ≤ (u8s (List.replicate s 0)).length) := by
      show _ ≤ _
      rw [HCL.out, u8s, List.length_map, List.length_replicate, Nat.zero_add]
      exact Nat.min_le_right _ _
    have HPOS := Lib.hid (copy_src s hd)
    go_enter Tryz.func64, Tryz.ntmps64
    go_wp2_with (first
      | (at_make; refine wpList_make_full _ rfl (.tmp 9) (.tmp 9) 22 rfl w.heap.size 5 i0 (.int .u8 0) 1 Tryz.underlying22 hi0 hz0 hz1 .i64 .i64 (s : Int) (s : Int) s rfl rfl rfl rfl (by rw [hz2]; omega) (by unfold maxLen; omega) ((Gr.refl w).alloc _).size ?_; intro w1 hown hgrow; rw [made_bytes] at hown; have hW := Lib.hid (own_whole hown); have hG : Gr w w1 := ((Gr.refl w).alloc _).grown hgrow (fun k hk => by cases hk); have hPl := (hgrow.block w.heap.size (by simp) (by simp)).trans (heap_alloc_new w _); have cc1 : w1.cell? ⟨w.heap.size, 1, none⟩ = some (.int .i64 (s : Int)) := (by simp [World.cell?, hPl]); simp only [World.size_alloc] at hW; clear hown hgrow hPl)
      | (with_reducible refine wpList_hold (o := ⟨some 18, _, _, _, _, _⟩) ?_))
    change wpList _ _ _ _ _ _
    refine wpList_copy_splice (o := ⟨some 18, _, _, _, _, _⟩) rfl (.tmp 11) (.tmp 17) 22 22 rfl 5 Tryz.underlying22 HSZ.out (some ⟨w.heap.size + 1, 0, none⟩) a s s 0 0 rfl rfl (w.heap.size + 1) 0 (u8s (List.replicate s 0)) 5 hW.out (u8s (x.take s)) HCL.out (fun hp => ⟨rfl, HPOS.out _ hG hp⟩) HFIT.out u8s_one w.heap.size w hG (Nat.le_succ _) ?_
    intro w2 hW2 hG2
    rw [← HPC.out] at hW2
    have hbs : Bs w2 (some ⟨w.heap.size + 1, 0, none⟩) s s L := Bs.of_heap hW2.out rfl HPL.out (by unfold maxLen; omega)
    have HBS := Lib.hid hbs
    have HG2 := Lib.hid hG2
    clear hbs hG2 hG cc1 hW
    go_wp2
    go_ret
    exact ⟨w.heap.size + 1, Nat.le_succ _, rfl, HBS.out, HG2.out⟩
  · rw [if_neg hcD] at hd
    obtain ⟨y, rfl⟩ : ∃ y, a = some y := by
      cases a with
      | none => have h4 := hb.2.2.2.1 rfl; omega
      | some y => exact ⟨y, rfl⟩
    rw [Option.map_some] at hd
    have HFIT : Hid (0 + (u8s (x.take s)).length ≤ (u8s (List.replicate s 0)).length) := by
      show _ ≤ _
      rw [HCL.out, u8s, List.length_map, List.length_replicate, Nat.zero_add]
      exact Nat.min_le_right _ _
    have HPOS := Lib.hid (copy_src s hd)
    go_enter Tryz.func64, Tryz.ntmps64
    go_wp2_with (first
      | (at_make; refine wpList_make_full _ rfl (.tmp 9) (.tmp 9) 22 rfl w.heap.size 5 i0 (.int .u8 0) 1 Tryz.underlying22 hi0 hz0 hz1 .i64 .i64 (s : Int) (s : Int) s rfl rfl rfl rfl (by rw [hz2]; omega) (by unfold maxLen; omega) ((Gr.refl w).alloc _).size ?_; intro w1 hown hgrow; rw [made_bytes] at hown; have hW := Lib.hid (own_whole hown); have hG : Gr w w1 := ((Gr.refl w).alloc _).grown hgrow (fun k hk => by cases hk); have hPl := (hgrow.block w.heap.size (by simp) (by simp)).trans (heap_alloc_new w _); have cc1 : w1.cell? ⟨w.heap.size, 1, none⟩ = some (.int .i64 (s : Int)) := (by simp [World.cell?, hPl]); simp only [World.size_alloc] at hW; clear hown hgrow hPl)
      | (with_reducible refine wpList_hold (o := ⟨some 18, _, _, _, _, _⟩) ?_))
    change wpList _ _ _ _ _ _
    refine wpList_copy_splice (o := ⟨some 18, _, _, _, _, _⟩) rfl (.tmp 11) (.tmp 17) 22 22 rfl 5 Tryz.underlying22 HSZ.out (some ⟨w.heap.size + 1, 0, none⟩) (some (y.add D)) s s (n - D) (cap - D) rfl rfl (w.heap.size + 1) 0 (u8s (List.replicate s 0)) 5 hW.out (u8s (x.take s)) HCL.out (fun hp => ⟨rfl, HPOS.out _ hG hp⟩) HFIT.out u8s_one w.heap.size w hG (Nat.le_succ _) ?_
    intro w2 hW2 hG2
    rw [← HPC.out] at hW2
    have hbs : Bs w2 (some ⟨w.heap.size + 1, 0, none⟩) s s L := Bs.of_heap hW2.out rfl HPL.out (by unfold maxLen; omega)
    have HBS := Lib.hid hbs
    have HG2 := Lib.hid hG2
    clear hbs hG2 hG cc1 hW
    go_wp2
    go_ret
    exact ⟨w.heap.size + 1, Nat.le_succ _, rfl, HBS.out, HG2.out⟩
end Go.Proofs.YtddopoojmadpjaaGreatDoor
