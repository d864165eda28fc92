/-
  The walk of grid.Grid.Rank: rows are kept, each less the kept ones before it.
-/
import Derived.Test.YtddopoojmadpjaaGreatDoorGrid
import Derived.Test.YtddopoojmadpjaaGreatDoorElim
namespace Go.Proofs.YtddopoojmadpjaaGreatDoor
open Go.RowKit
set_option linter.unusedVariables false

/-- ROWS THAT ARE KEPT, without data. -/
def Kept (w : World) (base : Nat) (rv : Value) (V : List (List UInt8)) (k : Nat) : Prop :=
  ∃ xs, w.ownsRow base 113 2 rv V.length xs ∧ ∀ j v, V[j]? = some v → ∃ (a1 : Option Addr) (c1 : Nat) (a2 : Option Addr) (c2 : Nat), xs[j * 2]? = some (.slice a1 k c1) ∧ xs[j * 2 + 1]? = some (.slice a2 0 c2) ∧ Bs w a1 k c1 v ∧ Bs w a2 0 c2 [] ∧ ∀ y, a1 = some y → rv.ownBlock ≠ some y.block ∧ y.block < w.heap.size
theorem Bs.zero_ {w w' : World} {a : Option Addr} {c : Nat} (h : Bs w a 0 c []) : Bs w' a 0 c [] := ⟨h.1, h.2.1, h.2.2.1, h.2.2.2.1, fun x hx i v hv => by simp at hv⟩
theorem Kept.nil (w : World) (base k : Nat) : Kept w base (.slice none 0 0) [] k := ⟨[], World.ownsRow_nil w base _ 2, fun j v h => by simp at h⟩
theorem Kept.lt {w : World} {base k : Nat} {rv : Value} {V : List (List UInt8)} (h : Kept w base rv V k) : ∀ b, rv.ownBlock = some b → base ≤ b ∧ b < w.heap.size := by
  obtain ⟨xs, h1, _⟩ := h; exact World.ownsRow.lt h1
theorem Kept.gr {w w' : World} {base k : Nat} {rv : Value} {V : List (List UInt8)} (h : Kept w base rv V k) (hg : Gr w w') : Kept w' base rv V k := by
  obtain ⟨xs, h1, h2⟩ := h
  have hg' : w.grownBy w' none := ⟨hg.os, hg.tape, hg.output, hg.size, fun i hi _ => hg.block hi⟩
  refine ⟨xs, h1.kept hg' (by cases rv.ownBlock <;> simp), fun j v hv => ?_⟩
  obtain ⟨a1, c1, a2, c2, e1, e2, b1, b2, p1⟩ := h2 j v hv
  exact ⟨a1, c1, a2, c2, e1, e2, b1.below hg, b2.zero_, fun y hy => ⟨(p1 y hy).1, Nat.lt_of_lt_of_le (p1 y hy).2 hg.size⟩⟩
theorem Kept.gap {w w' : World} {base k B : Nat} {rv : Value} {V : List (List UInt8)} {cs : Array Value} {ty : TypeId} (h : Kept w base rv V k) (hg : GrB w B w') (hb : w.heap[B]? = some (.cells cs ty)) (hcs : ∀ (j : Nat) (u : Int), cs[j]? ≠ some (.int .u8 u)) (hne : rv.ownBlock ≠ some B) : Kept w' base rv V k := by
  obtain ⟨xs, h1, h2⟩ := h
  refine ⟨xs, h1.kept hg (.inr hne), fun j v hv => ?_⟩
  obtain ⟨a1, c1, a2, c2, e1, e2, b1, b2, p1⟩ := h2 j v hv
  exact ⟨a1, c1, a2, c2, e1, e2, b1.gap hg hb hcs, b2.zero_, fun y hy => ⟨(p1 y hy).1, Nat.lt_of_lt_of_le (p1 y hy).2 hg.size⟩⟩
theorem Kept.val {w : World} {base k : Nat} {rv : Value} {V : List (List UInt8)} (h : Kept w base rv V k) : ∃ a c, rv = .slice a V.length c ∧ V.length ≤ c ∧ c ≤ maxLen := by
  obtain ⟨xs, h1, _⟩ := h
  rcases h1.2 with ⟨rfl, hn⟩ | ⟨g, cap, cur, rfl, hg, hh, hn, hm, _⟩
  · exact ⟨none, 0, by rw [hn], by omega, by decide⟩
  · exact ⟨_, cap, rfl, hn, hm⟩
theorem Kept.get {w : World} {base k : Nat} {rv : Value} {V : List (List UInt8)} (h : Kept w base rv V k) {j : Nat} (hj : j < V.length) :
    ∃ (R cap : Nat) (a1 : Option Addr) (c1 : Nat) (a2 : Option Addr) (c2 : Nat), rv = .slice (some ⟨R, 0, none⟩) V.length cap ∧ w.cell? ⟨R, j * 2, none⟩ = some (.slice a1 k c1) ∧ w.cell? ⟨R, j * 2 + 1, none⟩ = some (.slice a2 0 c2) ∧ Bs w a1 k c1 V[j] ∧ Bs w a2 0 c2 [] := by
  obtain ⟨xs, h1, h2⟩ := h
  obtain ⟨a1, c1, a2, c2, e1, e2, b1, b2, _⟩ := h2 j V[j] (by simp)
  have h10 := h1
  rcases h1.2 with ⟨_, hn⟩ | ⟨g, cap, cur, rfl, hg, hh, hn, hm, hs, ht⟩
  · omega
  · exact ⟨g, cap, a1, c1, a2, c2, rfl, by rw [World.ownsRow.cellAt h10 (j * 2) (by omega)]; exact e1, by rw [World.ownsRow.cellAt h10 (j * 2 + 1) (by omega)]; exact e2, b1, b2⟩

/-- one more is kept. -/
theorem run_append_kept {w : World} (ty : TypeId) (base k : Nat) {v : Value} {V : List (List UInt8)} (h : Kept w base v V k) {ad : Addr} {a1 : Option Addr} {c1 : Nat} {a2 : Option Addr} {c2 : Nat} {l : List UInt8} (hc : w.cell? ad = some (.slice a1 k c1)) (hc' : w.cell? (ad.add 1) = some (.slice a2 0 c2)) (hb : Bs w a1 k c1 l) (hb' : Bs w a2 0 c2 [])
    (ha : ∀ y, a1 = some y → v.ownBlock ≠ some y.block ∧ y.block < w.heap.size) (hlen : (V.length + 1) * 48 ≤ 140737488355328) (hbase : base ≤ w.heap.size) :
    ∃ v' w', (Builtin.append_ #[54, 54] ty #[v, .slice (some ad) 1 1]).run Tryz.prog w = .ok v' w' ∧ Kept w' base v' (V ++ [l]) k ∧ w.grownBy w' v.ownBlock ∧ (v'.ownBlock = v.ownBlock ∨ v'.ownBlock = some w.heap.size) := by
  obtain ⟨i, hi, hz0, hz1, hz2⟩ := info_parts infoRow
  obtain ⟨xs, h1, h2⟩ := h
  obtain ⟨v', w', hr, h3, h4, _, h5⟩ := run_append_own_at (P := Tryz.prog) w base _ ty _ i (.agg #[.slice none 0 0, .slice none 0 0]) 2 48 Tryz.underlying54 hi hz0 hz1 hz2 rfl (by decide) v _ _ h1 ad 1 1 [.slice a1 k c1, .slice a2 0 c2] rfl
    (fun j u hu => by
      match j, hu with
      | 0, hu => simp at hu; subst hu; rw [Addr.add_zero']; exact hc
      | 1, hu => simp at hu; subst hu; exact hc'
      | j + 2, hu => simp at hu) (fun u hu => by simp at hu; rcases hu with rfl | rfl <;> rfl) (by unfold maxLen; omega) hlen hbase
  have hxl : xs.length = V.length * 2 := h1.1
  have hkeep : ∀ (a : Option Addr) (n c : Nat) (l : List UInt8), Bs w a n c l → (∀ y, a = some y → v.ownBlock ≠ some y.block ∧ y.block < w.heap.size) → Bs w' a n c l ∧ ∀ y, a = some y → v'.ownBlock ≠ some y.block ∧ y.block < w'.heap.size := by
    intro a n c l hb ha
    refine ⟨hb.stay fun x hx i u hu => World.grownBy.cell h4 hu (by rw [Addr.add_block]; exact fun e => (ha x hx).1 e.symm), fun y hy => ⟨?_, Nat.lt_of_lt_of_le (ha y hy).2 h4.size⟩⟩
    rcases h5 with h5 | h5
    · rw [h5]; exact (ha y hy).1
    · rw [h5]; intro e; have := (ha y hy).2; have e' := Option.some.inj e; omega
  refine ⟨v', w', hr, ⟨xs ++ [.slice a1 k c1, .slice a2 0 c2], by rw [List.length_append]; exact h3, fun j l' hl' => ?_⟩, h4, h5⟩
  by_cases hj : j < V.length
  · rw [List.getElem?_append_left hj] at hl'
    obtain ⟨b1, d1, b2, d2, e1, e2, q1, q2, q3⟩ := h2 j l' hl'
    obtain ⟨k1, k2⟩ := hkeep b1 k d1 l' q1 q3
    exact ⟨b1, d1, b2, d2, by rw [List.getElem?_append_left (by omega)]; exact e1, by rw [List.getElem?_append_left (by omega)]; exact e2, k1, q2.zero_, k2⟩
  · have hj' : j = V.length := by have := (List.getElem?_eq_some_iff.1 hl').1; simp at this; omega
    subst hj'
    have : l' = l := by simpa using hl'.symm
    subst this
    obtain ⟨k1, k2⟩ := hkeep a1 k c1 l' hb ha
    exact ⟨a1, c1, a2, c2, by rw [List.getElem?_append_right (by omega), hxl, Nat.sub_self]; rfl, by rw [List.getElem?_append_right (by omega), hxl, Nat.add_sub_cancel_left]; rfl, k1, hb'.zero_, k2⟩
theorem wpList_append_kept {w : World} {ops : Array Oper} {rest : List Oper} {o : Oper} {act : Act} {Q : Exit → Act → World → Prop} (hw : Region.wanted o (yielded ops act.tmps) = true) (s x : Operand)
    (ho : o.op = .call { callee := .builtin .append, args := #[s, x], argTypes := #[54, 54] }) (base k : Nat)
    {v : Value} {V : List (List UInt8)} (hs : act.eval s = v) (h : Kept w base v V k) {ad : Addr} (hx : act.eval x = .slice (some ad) 1 1) {a1 : Option Addr} {c1 : Nat} {a2 : Option Addr} {c2 : Nat} {l : List UInt8} (hc : w.cell? ad = some (.slice a1 k c1)) (hc' : w.cell? (ad.add 1) = some (.slice a2 0 c2)) (hb : Bs w a1 k c1 l) (hb' : Bs w a2 0 c2 [])
    (ha : ∀ y, a1 = some y → v.ownBlock ≠ some y.block ∧ y.block < w.heap.size) (hlen : (V.length + 1) * 48 ≤ 140737488355328) (hbase : base ≤ w.heap.size)
    (hk : ∀ v' w', Kept w' base v' (V ++ [l]) k → w.grownBy w' v.ownBlock → (v'.ownBlock = v.ownBlock ∨ v'.ownBlock = some w.heap.size) → wpList Tryz.prog ops Q rest (act.put o.dst v') w') : wpList Tryz.prog ops Q (o :: rest) act w := by
  obtain ⟨v', w', hr, h2, h3, h4⟩ := run_append_kept o.type base k h hc hc' hb hb' ha hlen hbase
  simp only [wpList]
  rw [if_pos hw]
  refine .inl ?_
  unfold Oper.wp execOp
  simp only [ho, resolve, invoke, builtin, Sem.run_bind, Sem.run_pure, Result.andThen_ok, List.map_toArray, List.map_cons, List.map_nil, hs, hx, hr]
  exact hk v' w' h2 h3 h4

set_option maxRecDepth 100000 in
set_option maxHeartbeats 2000000 in
theorem gridRank_ok (H R : Nat) (hH : H ≤ 60) (hR1 : 1 ≤ R) (hR : R ≤ 1000) (a : Option Addr) (c : Nat) (ls : List (List UInt8)) (hls : ls.length = H) (hl : ∀ l, l ∈ ls → l.length = R) (w : World) (h : Bs w a (H * R) c ls.flatten) :
    Calls Tryz.prog 23 #[.agg #[.int .i64 (H : Int), .int .i64 (R : Int), .slice a (H * R) c]] w fun e w' => e = .returned (.int .i64 ((keepAll [] ls).length : Int)) ∧ Gr w w' := by
  have hal := (Gr.refl w).alloc (.cells #[.int .i64 (H : Int), .int .i64 (R : Int), .slice a (H * R) c] 62)
  have HG := Lib.hid (heap_alloc_new w (.cells #[.int .i64 (H : Int), .int .i64 (R : Int), .slice a (H * R) c] 62))
  have HAL := Lib.hid hal
  have H1 := Lib.hid (h.below hal)
  have HLS := Lib.hid hls
  have HLL := Lib.hid hl
  have hHR : H * R ≤ 60 * 1000 := Nat.mul_le_mul hH hR
  have HQ : Hid (∃ Q, H * R = Q) := ⟨_, rfl⟩
  obtain ⟨g0, g1, g2, gf⟩ := three_all HG.out
  clear h hls hl hal
  go_enter Tryz.func23, Tryz.ntmps23
  go_wp2
  obtain ⟨W0, eW⟩ : ∃ W, w.alloc (.cells #[.int .i64 (H : Int), .int .i64 (R : Int), .slice a (H * R) c] 62) = W := ⟨_, rfl⟩
  rw [eW] at HG HAL H1 g0 g1 g2 gf ⊢
  clear eW g0 g1 g2 gf
  have hGW : w.heap.size < W0.heap.size := lt_of_block HG.out
  go_loopw [3, 10] (fun o i wr => ∃ (j : Nat) (v : Value), j ≤ H ∧ i = .int .i64 j ∧ v = o ∧ Kept wr W0.heap.size v (keepAll [] (ls.take j)) R ∧ Gr W0 wr) (fun _ i _ => H - (intOf i).toNat)
  case atStart => exact ⟨0, _, Nat.zero_le _, rfl, rfl, Kept.nil _ _ _, Gr.refl _⟩
  case round =>
    obtain ⟨j, v, hj, rfl, rfl, hkp, hgr⟩ := hrel
    have HK := Lib.hid hkp
    have HGR := Lib.hid hgr
    obtain ⟨kk, kc, rfl, hkc1, hkc2⟩ := hkp.val
    clear hkp hgr
    obtain ⟨g0, g1, g2, gf⟩ := three_all (HGR.out.heap HG.out)
    by_cases hlt : j < H
    · obtain ⟨l, hl⟩ : ∃ l, ls[j]? = some l := ⟨_, List.getElem?_eq_getElem (by rw [HLS.out]; exact hlt)⟩
      have hle : (j + 1) * R ≤ H * R := Nat.mul_le_mul_right R (by omega)
      have hadd : (j + 1) * R = j * R + R := by rw [Nat.add_mul, Nat.one_mul]
      obtain ⟨b, off, rfl, _⟩ := H1.out.at_ (by omega)
      have hrow := flat_row HLL.out hl
      have hsub := (H1.out.below HGR.out).sub (i := j * R) (k := R) (by omega)
      rw [hrow] at hsub
      have htk : ls.take (j + 1) = ls.take j ++ [l] := by rw [List.take_add_one, hl]; rfl
      have hka : keepAll [] (ls.take (j + 1)) = keepL (keepAll [] (ls.take j)) l := by rw [htk]; unfold keepAll; rw [List.foldl_append]; rfl
      have hkst := keepAll_step (vs := ls.take j) (ech_nil R) List.Pairwise.nil (fun v hv => HLL.out v (List.mem_of_mem_take hv))
      have hK60 : (keepAll [] (ls.take j)).length ≤ R := hkst.1.rank_k
      have HECH := Lib.hid hkst.1
      have HKA := Lib.hid hka
      obtain ⟨K, eK⟩ : ∃ K, keepAll [] (ls.take j) = K := ⟨_, rfl⟩
      rw [eK] at HK HECH HKA hkc1 hK60
      have hll := HLL.out l (List.mem_of_getElem? hl)
      have HROW := Lib.hid (gridRow_ok H R j b off c (by omega) hR hR1 hlt ls.flatten wr (H1.out.below HGR.out))
      have HSUB := Lib.hid hsub
      clear hl hle hadd hrow hsub htk hka hkst
      rw [eK]
      clear eK
      go_wp2_with fail
      refine HROW.out.mono ?_
      rintro e w1 ⟨rfl, hg1⟩
      go_wp2_with fail
      refine (vecOf_any (some ⟨b, off + j * R, none⟩) none R (c - j * R) 0 0 l [] w1 (HSUB.out.below hg1) (Bs.nil _) (by omega) (by omega)).mono ?_
      rintro e w2 ⟨a1, c1, a2, c2, rfl, ho1, ho2, hg2⟩
      have hal := (Gr.refl w2).alloc (.cells #[.slice a1 R c1, .slice a2 0 c2] 113)
      have HL := Lib.hid (heap_alloc_new w2 (.cells #[.slice a1 R c1, .slice a2 0 c2] 113))
      have hw12 := Gr.size (hg1.trans hg2)
      have hW0s := HGR.out.size
      have HB1 := Lib.hid (ho1.bs'.1.below hal)
      have HB2 := Lib.hid (ho2.bs'.1.below hal)
      have HW := Lib.hid ((HGR.out.trans (hg1.trans hg2)).trans hal)
      have HK1 := Lib.hid (HK.out.gr ((hg1.trans hg2).trans hal))
      have HKL := Lib.hid HK.out.lt
      clear ho1 ho2 hg1 hg2 hal HK HGR HROW HSUB g0 g1 g2 gf
      have hKi : (K.length : Int) ≤ 9223372036854775807 := by omega
      go_wp2
      obtain ⟨L, eL⟩ : ∃ L, w2.heap.size = L := ⟨_, rfl⟩
      obtain ⟨W1, eW⟩ : ∃ W, w2.alloc (.cells #[.slice a1 R c1, .slice a2 0 c2] 113) = W := ⟨_, rfl⟩
      rw [eW] at HL HB1 HB2 HW HK1 ⊢
      rw [eL] at HL hw12 ⊢
      have hLs : L < W1.heap.size := lt_of_block HL.out
      clear eW eL
      have HOWN : Hid ((Value.slice kk K.length kc).ownBlock ≠ some L) := fun e => by have := (HKL.out L e).2; omega
      have HNU : Hid (∀ (x0 x1 : Value), (∀ u : Int, x0 ≠ .int .u8 u) → (∀ u : Int, x1 ≠ .int .u8 u) → ∀ (j : Nat) (u : Int), (#[x0, x1] : Array Value)[j]? ≠ some (.int .u8 u)) := fun x0 x1 h0 h1 j u => by
        match j with
        | 0 => simp; exact h0 u
        | 1 => simp; exact h1 u
        | j + 2 => simp
      go_loopw [19] (fun i wr => ∃ m : Nat, m ≤ K.length ∧ i = .int .i64 m ∧ (∃ (a : Option Addr) (c : Nat) (a' : Option Addr) (c' : Nat), wr.heap[L]? = some (.cells #[.slice a R c, .slice a' 0 c'] 113) ∧ Bs wr a R c (restL (K.take m) l) ∧ Bs wr a' 0 c' []) ∧ GrB W1 L wr) (fun i _ => K.length - (intOf i).toNat)
      case atStart => exact ⟨0, Nat.zero_le _, rfl, ⟨_, _, _, _, HL.out, HB1.out, HB2.out⟩, GrB.refl _ _⟩
      case round =>
        obtain ⟨m, hm, rfl, ⟨av, cv, av', cv', hL, hf1, hf2⟩, hgr⟩ := hrel
        have HLr := Lib.hid hL
        have HF1 := Lib.hid hf1
        have HF2 := Lib.hid hf2
        have HGR := Lib.hid hgr
        have hkp := HK1.out.gap hgr HL.out (HNU.out _ _ (fun u => by simp) (fun u => by simp)) HOWN.out
        have HKr := Lib.hid hkp
        clear hL hf1 hf2 hgr hkp
        by_cases hltK : m < K.length
        · obtain ⟨X, cap, b1, d1, b2, d2, erv, r0, r1, hb1, hb2⟩ := HKr.out.get hltK
          simp at erv
          obtain ⟨rfl, rfl⟩ := erv
          have hmem : K[m] ∈ K := List.getElem_mem hltK
          have hrl := HECH.out.len _ hmem
          have hrd := HECH.out.lt _ hmem
          have htk : K.take (m + 1) = K.take m ++ [K[m]] := by rw [List.take_succ_eq_append_getElem hltK]
          have hsn := restL_snoc (K.take m) K[m] l
          rw [← htk] at hsn
          obtain ⟨ROW, eROW⟩ : ∃ x, K[m] = x := ⟨_, rfl⟩
          rw [eROW] at hb1 hrl hrd hsn
          obtain ⟨LF, eLF⟩ : ∃ x, restL (K.take m) l = x := ⟨_, rfl⟩
          rw [eLF] at HF1 hsn
          have HSN := Lib.hid hsn
          have HBR1 := Lib.hid hb1
          have HBR2 := Lib.hid hb2
          have hled : leadL ROW < ROW.length := by rw [hrl]; exact hrd
          have hal := (Gr.refl wr).alloc (.cells #[.slice b1 R d1, .slice b2 0 d2] 113)
          have hRW := heap_alloc_new wr (.cells #[.slice b1 R d1, .slice b2 0 d2] 113)
          have HAL2 := Lib.hid hal
          have HRW := Lib.hid hRW
          have HQL := Lib.hid fun W h => vecLead_any b1 R d1 ROW W h
          have HQA := Lib.hid fun W h => vecAt_any av R cv LF (leadI ROW) (by rw [leadI_of (leadL_lead hled)]; omega) W h
          rw [leadI_of (leadL_lead hled)] at HQL HQA
          rw [atN_nat] at HQA
          obtain ⟨CC, eCC⟩ : ∃ x, fn LF (leadL ROW) = x := ⟨_, rfl⟩
          rw [eCC] at HQA HSN
          obtain ⟨LD, eLD⟩ : ∃ x, leadL ROW = x := ⟨_, rfl⟩
          rw [eLD] at HQL HQA
          have HLS := Lib.hid fun w h1 h2 h3 h4 => rowLess_nil CC av av' b1 b2 R cv cv' d1 d2 LF ROW w h1 h2 h3 h4 hR1 (by omega)
          clear hal hRW hb1 hb2 hmem hrl hrd htk hsn eROW eLF hled eCC eLD
          go_wp2
          have hup : Nonempty (Up Gr (wr.alloc (.cells #[.slice b1 R d1, .slice b2 0 d2] 113)).drew) := ⟨⟨_, Gr.refl _⟩⟩
          obtain ⟨v0, v1⟩ := up_two (W0 := (wr.alloc (.cells #[.slice b1 R d1, .slice b2 0 d2] 113))) (Rel := Gr) gr_st (HAL2.out.heap HLr.out)
          obtain ⟨z0, z1⟩ := up_two (W0 := (wr.alloc (.cells #[.slice b1 R d1, .slice b2 0 d2] 113))) (Rel := Gr) gr_st HRW.out
          clear r0 r1
          obtain ⟨W2, eW⟩ : ∃ W, wr.alloc (.cells #[.slice b1 R d1, .slice b2 0 d2] 113) = W := ⟨_, rfl⟩
          rw [eW] at HAL2 hup v0 v1 z0 z1 ⊢
          obtain ⟨B7, eB⟩ : ∃ b, wr.heap.size = b := ⟨_, rfl⟩
          rw [eB] at z0 z1 ⊢
          clear eW eB HRW
          refine wp_region_rgF [.reck, .reck, .reck, .reck, .reck, spV (.int .i64 (LD : Int)), spV (.int .u8 (CC.toNat : Int)), .reck, .any (Option Addr × Nat × Option Addr × Nat) (none, 0, none, 0) (fun x => .tuple #[.agg #[.slice x.1 R x.2.1, .slice x.2.2.1 0 x.2.2.2], .int .i64 0]) (fun x W => Bs W x.1 R x.2.1 (axl CC ROW LF) ∧ Bs W x.2.2.1 0 x.2.2.2 []), .reck, .reck, .flt] Gr (by kernel_rfl) (by kernel_rfl) Gr.refl (fun _ _ _ => Gr.trans) ?_
          (refine wpRG_reck rfl (fun K hK => ?_); go_big_quiet_op; refine hK _ ?_; clear hK K)
          (refine wpRG_reck rfl (fun K hK => ?_); go_big_quiet_op; refine hK _ ?_; clear hK K)
          (refine wpRG_reck rfl (fun K hK => ?_); go_big_quiet_op; refine hK _ ?_; clear hK K)
          (refine wpRG_reck rfl (fun K hK => ?_); go_big_quiet_op; refine hK _ ?_; clear hK K)
          (refine wpRG_reck rfl (fun K hK => ?_); go_big_quiet_op; refine hK _ ?_; clear hK K)
          refine wpRG_any rfl (fun _ _ _ _ h => h) (fun W hw hF R hR => ?_) ?_
          · (have HF := Lib.hid hF; clear hF; unfold rgAt; go_simp)
            show Calls _ _ _ _ _
            refine (HQL.out W (HBR1.out.below (HAL2.out.trans ((Gr.refl W2).drew.trans hw)))).mono ?_
            rintro e w6 ⟨rfl, rfl⟩
            exact ⟨_, rfl, hR () _ (Gr.refl _) trivial⟩
          rintro ⟨⟩
          (simp only [Act.put, List.setIfInBounds_toArray, List.set_cons_zero, List.set_cons_succ])
          refine wpRG_any rfl (fun _ _ _ _ h => h) (fun W hw hF R hR => ?_) ?_
          · (have HF := Lib.hid hF; clear hF; unfold rgAt; go_simp)
            show Calls _ _ _ _ _
            refine (HQA.out W (HF1.out.below (HAL2.out.trans ((Gr.refl W2).drew.trans hw)))).mono ?_
            rintro e w6 ⟨rfl, rfl⟩
            exact ⟨_, rfl, hR () _ (Gr.refl _) trivial⟩
          rintro ⟨⟩
          (simp only [Act.put, List.setIfInBounds_toArray, List.set_cons_zero, List.set_cons_succ])
          (refine wpRG_reck rfl (fun K hK => ?_); go_big_quiet_op; refine hK _ ?_; clear hK K)
          refine wpRG_any rfl (fun x w w' hg h => ⟨h.1.below hg, h.2.below hg⟩) (fun W hw hF R hR => ?_) ?_
          · (have HF := Lib.hid hF; clear hF; unfold rgAt; go_simp)
            show Calls _ _ _ _ _
            have hb := HAL2.out.trans ((Gr.refl W2).drew.trans hw)
            refine (HLS.out W (HF1.out.below hb) (HF2.out.below hb) (HBR1.out.below hb) (HBR2.out.below hb)).mono ?_
            rintro e w6 ⟨a5, c5, a6, c6, rfl, f5, f6, hg6⟩
            exact ⟨_, rfl, hR (a5, c5, a6, c6) _ hg6 ⟨f5.1, f6.1⟩⟩
          rintro ⟨a5, c5, a6, c6⟩
          (simp only [Act.put, List.setIfInBounds_toArray, List.set_cons_zero, List.set_cons_succ])
          (refine wpRG_reck rfl (fun K hK => ?_); go_big_quiet_op; refine hK _ ?_; clear hK K)
          (refine wpRG_reck rfl (fun K hK => ?_); go_big_quiet_op; refine hK _ ?_; clear hK K)
          refine wpRG_flt rfl (fun _ => by go_simp; rfl) ?_
          (simp only [Act.put])
          refine wpRG_end fun W hw hF => ?_
          have hf56 : Bs W a5 R c5 (axl CC ROW LF) ∧ Bs W a6 0 c6 [] := hF 8
          have hgW : Gr wr W := HAL2.out.trans ((Gr.refl W2).drew.trans hw)
          clear hF hw v0 v1 z0 z1 hup
          obtain ⟨f5, f6⟩ := hf56
          have hL3 := hgW.heap HLr.out
          obtain ⟨q0, q1, qf⟩ := two_cells hL3
          obtain ⟨hgb, hh⟩ := two_set hL3 (.slice a5 R c5) (.slice a6 0 c6)
          have hF5 := f5.gap hgb hL3 (HNU.out _ _ (fun u => by simp) (fun u => by simp))
          refine wpTl_cons rfl (fun KK hKK => ?_)
          unfold rgAt
          go_simp
          refine hKK _ _ ?_
          have hgr3 := (HGR.out.gr hgW).trans hgb
          obtain ⟨WA, eW⟩ : ∃ W9, ((W.setCell ⟨L, 0, none⟩ (.slice a5 R c5)).setCell ⟨L, 1, none⟩ (.slice a6 0 c6)) = W9 := ⟨_, rfl⟩
          rw [eW] at hh hF5 hgr3 ⊢
          clear eW q0 q1 qf hL3 hgb hKK
          (simp only [Act.put])
          refine wpTl_nil ?_
          have HH := Lib.hid hh
          have HF5 := Lib.hid hF5
          have HF6 : Hid (Bs WA a6 0 c6 []) := f6.zero_
          have HG3 := Lib.hid hgr3
          clear hh hF5 hgr3 f5 f6 hgW
          go_wp2
          go_roundw
          case rel => exact ⟨m + 1, by omega, by go_num, ⟨a5, c5, a6, c6, HH.out, by rw [HSN.out]; exact HF5.out, HF6.out⟩, HG3.out⟩
          case measure => first | (simp [intOf]; done) | (simp [intOf]; omega)
        · have hmK : m = K.length := by omega
          have hge : (K.length : Int) ≤ (m : Int) := by omega
          rw [hmK, List.take_length] at HF1
          obtain ⟨y0, y1, yf⟩ := two_cells HLr.out
          have HZR := Lib.hid (vecZero_any av R cv (restL K l) wr HF1.out)
          have hrl : (restL K l).length = R := restL_length HECH.out.len hll
          by_cases hz : leadL (restL K l) < (restL K l).length
          · have hzb : zeroB (restL K l) = false := by unfold zeroB; simp [hz]
            have hkl : keepL K l = K ++ [normL (restL K l)] := by unfold keepL; rw [if_pos hz]
            rw [hzb] at HZR
            rw [hkl] at HKA
            have HNR := Lib.hid fun w h1 h2 => rowNorm_nil av av' R cv cv' (restL K l) w h1 h2 hz (by omega)
            obtain ⟨NV, eNV⟩ : ∃ x, normL (restL K l) = x := ⟨_, rfl⟩
            rw [eNV] at HKA HNR
            clear hzb hkl hz eNV
            go_wp2_with fail
            refine HZR.out.mono ?_
            rintro e w7 ⟨rfl, hw7⟩
            subst hw7
            go_wp2_with fail
            refine (HNR.out wr HF1.out HF2.out).mono ?_
            rintro e w7 ⟨a5, c5, a6, c6, rfl, f5, f6, hg7⟩
            have hblk : ∀ y, a5 = some y → y.block < w7.heap.size := fun y hy => by
              obtain ⟨bb, oo, e, hbb, _⟩ := f5.1.at_ (by omega)
              rw [hy] at e; cases e; exact hbb
            have hkp7 := HKr.out.gr hg7
            have hal7 := (Gr.refl w7).alloc (.cells #[.slice a5 R c5, .slice a6 0 c6] 113)
            have hcl7 := two_cells (heap_alloc_new w7 (.cells #[.slice a5 R c5, .slice a6 0 c6] 113))
            have hgw7 := (HW.out.grb HGR.out (by omega)).trans hg7
            go_wp2_with (with_reducible refine wpList_hold (o := ⟨some 44, _, _, _, _, _⟩) ?_)
            change wpList _ _ _ _ _ _
            have hsz7 : w7.heap.size + 1 = (w7.alloc (.cells #[.slice a5 R c5, .slice a6 0 c6] 113)).heap.size := by simp
            have hszw := hg7.size
            obtain ⟨W8, eW⟩ : ∃ W, w7.alloc (.cells #[.slice a5 R c5, .slice a6 0 c6] 113) = W := ⟨_, rfl⟩
            rw [eW] at hal7 hcl7 hsz7 ⊢
            clear eW y0 y1 yf
            have hgw8 := hgw7.trans hal7
            refine wpList_append_kept rfl (.tmp 40) (.tmp 43) rfl W0.heap.size R rfl (hkp7.gr hal7) rfl hcl7.1 hcl7.2.1 (f5.1.below hal7) f6.1.zero_ (fun y hy => ⟨fun e => by have h1 := (HKr.out.lt _ e).2; have h2 := f5.2 y hy; omega, by have := hblk y hy; omega⟩) (by omega) hgw8.size ?_
            intro v4 w4 hr4 hg4 hn4
            have HR4 := Lib.hid hr4
            have HG4 := Lib.hid (hgw8.grown hg4 fun k hk => (HKr.out.lt k hk).1)
            clear hr4 hg4 hn4 f5 f6 hg7 hkp7 hal7 hcl7 hgw7 hgw8 hblk hsz7 hszw
            go_wp2
            go_roundw
            case rel => exact ⟨j + 1, v4, by omega, by go_num, rfl, by rw [HKA.out]; exact HR4.out, HG4.out⟩
            case measure => first | (simp [intOf]; done) | (simp [intOf]; omega)
          · have hzb : zeroB (restL K l) = true := by unfold zeroB; simp [hz]
            have hkl : keepL K l = K := by unfold keepL; rw [if_neg hz]
            rw [hzb] at HZR
            rw [hkl] at HKA
            have HG4 := Lib.hid (HW.out.grb HGR.out (by omega))
            clear hzb hkl hz
            go_wp2_with fail
            refine HZR.out.mono ?_
            rintro e w7 ⟨rfl, hw7⟩
            subst hw7
            go_wp2
            go_roundw
            case rel => exact ⟨j + 1, _, by omega, by go_num, rfl, by rw [HKA.out]; exact HKr.out, HG4.out⟩
            case measure => first | (simp [intOf]; done) | (simp [intOf]; omega)
    · have hjH : j = H := by omega
      have hge : (H : Int) ≤ (j : Int) := by omega
      have hF : Hid (keepAll [] (ls.take j) = keepAll [] ls) := by show _ = _; rw [hjH, List.take_of_length_le (by rw [HLS.out]; exact Nat.le_refl _)]
      have HGF := Lib.hid (HAL.out.trans HGR.out)
      clear hjH
      go_wp2
      first | go_ret | go_ret2
      exact ⟨by rw [← hF.out]; rfl, HGF.out⟩
end Go.Proofs.YtddopoojmadpjaaGreatDoor
