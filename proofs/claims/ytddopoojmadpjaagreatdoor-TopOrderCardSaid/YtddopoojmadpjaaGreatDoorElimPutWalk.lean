/-
  elim.Elim.Put in general: the walk.
-/
import Derived.Test.YtddopoojmadpjaaGreatDoorElimPut
import Derived.Test.YtddopoojmadpjaaGreatDoorRegionLast
namespace Go.Proofs.YtddopoojmadpjaaGreatDoor
open Go.RowKit
set_option linter.unusedVariables false

theorem Bs.lt_ {w : World} {a : Option Addr} {k c : Nat} {l : List UInt8} (h : Bs w a k c l) (hk : 0 < k) : ∀ y, a = some y → y.block < w.heap.size := fun y hy => by
  obtain ⟨b, off, e, hb, _⟩ := h.at_ hk
  rw [hy] at e; cases e; exact hb
/-- .. and whatever is new. -/
def exS (S : Nat → Prop) (n : Nat) : Nat → Prop := fun b => S b ∨ n ≤ b
theorem exS.inl {S : Nat → Prop} {n : Nat} (b : Nat) (h : S b) : exS S n b := Or.inl h
theorem exS.inr {S : Nat → Prop} {n : Nat} {b : Nat} (h : n ≤ b) : exS S n b := Or.inr h

/-- the first j rows, less the new one; the others as they were. -/
def clearTo (n : List UInt8) (V : List (List UInt8)) (j : Nat) : List (List UInt8) := clearV n (V.take j) ++ V.drop j
theorem clearTo_zero (n : List UInt8) (V : List (List UInt8)) : clearTo n V 0 = V := by simp [clearTo, clearV]
theorem clearTo_all (n : List UInt8) (V : List (List UInt8)) : clearTo n V V.length = clearV n V := by simp [clearTo]
theorem clearTo_length (n : List UInt8) (V : List (List UInt8)) (j : Nat) (hj : j ≤ V.length) : (clearTo n V j).length = V.length := by
  simp only [clearTo, clearV, List.length_append, List.length_map, List.length_take, List.length_drop]; omega
theorem clearTo_get (n : List UInt8) (V : List (List UInt8)) (j : Nat) (hj : j < V.length) (h : j < (clearTo n V j).length) : (clearTo n V j)[j] = V[j] := by
  have hl : (clearV n (V.take j)).length = j := by simp only [clearV, List.length_map, List.length_take]; omega
  simp only [clearTo]
  rw [List.getElem_append_right (by omega), List.getElem_drop]
  congr 1; omega
theorem clearTo_set (n : List UInt8) (V : List (List UInt8)) (j : Nat) (hj : j < V.length) : (clearTo n V j).set j (axl (fn V[j] (leadL n)) n V[j]) = clearTo n V (j + 1) := by
  have hl : (clearV n (V.take j)).length = j := by simp only [clearV, List.length_map, List.length_take]; omega
  simp only [clearTo]
  rw [List.set_append_right _ _ (by omega), hl, Nat.sub_self, List.take_succ_eq_append_getElem hj, List.drop_eq_getElem_cons hj, List.set_cons_zero]
  simp only [clearV, List.map_append, List.map_cons, List.map_nil, List.append_assoc, List.singleton_append]

/-- rows that are 0 where the others lead, cleared, stay reduced. -/
theorem Red.clear {V : List (List UInt8)} {n : List UInt8} {k : Nat} (h : Red V k) (hn : n.length = k) (hz : ∀ u, u ∈ V → fn n (leadL u) = 0) (hnk : leadL n < k) : Red (clearV n V) k := by
  have hc : ∀ r, r ∈ V → (axl (fn r (leadL n)) n r).length = k ∧ leadL (axl (fn r (leadL n)) n r) = leadL r ∧ fn (axl (fn r (leadL n)) n r) (leadL r) = 1 := fun r hr => by
    obtain ⟨c1, c2⟩ := clear_lead hn (h.len r hr) (h.lt r hr) (hz r hr) hnk
    exact ⟨by rw [axl_length (by rw [hn, h.len r hr]), h.len r hr], c1, by rw [c2, h.one r hr]⟩
  have hmem : ∀ x, x ∈ clearV n V ↔ ∃ r, r ∈ V ∧ axl (fn r (leadL n)) n r = x := fun x => by rw [clearV, List.mem_map]
  refine ⟨fun u hu => ?_, fun u hu => ?_, fun u hu => ?_, ?_, fun u hu x hx hux => ?_⟩
  · obtain ⟨r, hr, rfl⟩ := (hmem u).1 hu; exact (hc r hr).1
  · obtain ⟨r, hr, rfl⟩ := (hmem u).1 hu; rw [(hc r hr).2.1]; exact h.lt r hr
  · obtain ⟨r, hr, rfl⟩ := (hmem u).1 hu; rw [(hc r hr).2.1]; exact (hc r hr).2.2
  · refine List.pairwise_map.2 (List.Pairwise.imp_of_mem (fun ha hb hlt => ?_) h.inc)
    rw [(hc _ ha).2.1, (hc _ hb).2.1]; exact hlt
  · obtain ⟨r, hr, rfl⟩ := (hmem u).1 hu
    obtain ⟨s, hs, rfl⟩ := (hmem x).1 hx
    rw [(hc r hr).2.1] at hux ⊢
    rw [(hc s hs).2.1] at hux
    rw [fn_axl (by rw [hn, h.len s hs])]; show _ ^^^ bmul _ _ = 0; rw [hz r hr, bmul_zero, xor_zero8]; exact h.nul r hr s hs hux

theorem PrV.free {w : World} {S : Nat → Prop} {k t : Nat} {rv : Value} {V : List (List UInt8)} {D : List UInt8 → List UInt8} (h : PrV w S rv V D k t) : ∀ R, rv.ownBlock = some R → (∀ i, w.frozen? ⟨R, i, none⟩ = false) ∧ ∃ cs : Array Value, w.heap[R]? = some (.cells cs 113 (0, 0)) := by
  obtain ⟨xs, h1, _⟩ := h
  intro R hR
  rcases h1.2 with ⟨rfl, _⟩ | ⟨g, cap, cur, rfl, _, hh, _⟩
  · cases hR
  · obtain rfl : g = R := by simpa [Value.ownBlock] using hR
    exact ⟨fun i => by simp [World.frozen?, hh], cur, hh⟩

/-- what the walk of Put knows of left, once it is made one. -/
theorem norm_facts {V : List (List UInt8)} {v : List UInt8} {k : Nat} (hV : Red V k) (hv : v.length = k) (hl : leadL (restL V v) < (restL V v).length) :
    (normL (restL V v)).length = k ∧ leadL (normL (restL V v)) < k ∧ Red (clearV (normL (restL V v)) V) k ∧ putV V v = insV (normL (restL V v)) (clearV (normL (restL V v)) V) := by
  have h1 := restL_length hV.len hv
  have h2 := normL_length (restL V v)
  obtain ⟨n1, n2⟩ := normL_lead hl
  have h3 : leadL (normL (restL V v)) < k := by rw [n1]; omega
  refine ⟨by omega, h3, hV.clear (by omega) (fun u hu => ?_) h3, by rw [putV, if_pos hl]⟩
  rw [normL, fn_scaleL, restL_lead hV.ech hV.tri hv u hu, bmul_zero]

theorem rows_one {xs : List Value} {n : Nat} (hl : xs.length = n * 2) (h : ∀ j, j < n → ∃ (a1 : Option Addr) (k1 c1 : Nat) (a2 : Option Addr) (k2 c2 : Nat), xs[j * 2]? = some (.slice a1 k1 c1) ∧ xs[j * 2 + 1]? = some (.slice a2 k2 c2)) : ∀ v ∈ xs, v.oneCell' = true := by
  intro v hv
  obtain ⟨m, hm, rfl⟩ := List.getElem_of_mem hv
  obtain ⟨a1, k1, c1, a2, k2, c2, h1, h2⟩ := h (m / 2) (by omega)
  rcases (show m = m / 2 * 2 ∨ m = m / 2 * 2 + 1 by omega) with e | e
  · rw [← e, List.getElem?_eq_getElem hm] at h1
    rw [Option.some.inj h1]; rfl
  · rw [← e, List.getElem?_eq_getElem hm] at h2
    rw [Option.some.inj h2]; rfl
/-- INSERT, told of rows. -/
theorem insert_prv (k t : Nat) (hk : 1 ≤ k) (ht : 1 ≤ t) (S : Nat → Prop) (rv : Value) (V : List (List UInt8)) (D : List UInt8 → List UInt8) (hV4 : V.length ≤ 4096) (i : Nat) (hi : i ≤ V.length) (a3 : Option Addr) (c3 : Nat) (a4 : Option Addr) (c4 : Nat) (u : List UInt8) (w : World) (hp : PrV w S rv V D k t) (b3 : Bs w a3 k c3 u) (b4 : Bs w a4 t c4 (D u)) (p3 : Apt S rv a3) (p4 : Apt S rv a4) (hS : ∀ b, w.heap.size ≤ b → S b) :
    Calls Tryz.prog 79 #[rv, .int .i64 (i : Int), .slice (some ⟨w.heap.size, 0, none⟩) 1 1] (w.drew.alloc (.cells #[.slice a3 k c3, .slice a4 t c4] 113)) fun e w' =>
      ∃ rv', e = .returned rv' ∧ PrV w' S rv' (V.take i ++ u :: V.drop i) D k t ∧ GrS (fun b => rv.ownBlock = some b) w w' ∧ ∀ b, rv'.ownBlock = some b → rv.ownBlock = some b ∨ w.heap.size ≤ b := by
  obtain ⟨xs, h1, h0, h2⟩ := hp
  have hg0 : Gr w (w.drew.alloc (.cells #[.slice a3 k c3, .slice a4 t c4] 113)) := (Gr.refl w).drew.alloc _
  have hg' : w.grownBy (w.drew.alloc (.cells #[.slice a3 k c3, .slice a4 t c4] 113)) none := ⟨hg0.os, hg0.tape, hg0.output, hg0.size, fun i hi _ => hg0.block hi⟩
  have h1' := h1.kept hg' (by cases rv.ownBlock <;> simp)
  have hlt := World.ownsRow.lt h1
  have hxl := h1.1
  have hvb := heap_alloc_new w.drew (.cells #[.slice a3 k c3, .slice a4 t c4] 113)
  have hsz : (w.drew.alloc (.cells #[.slice a3 k c3, .slice a4 t c4] 113)).heap.size = w.heap.size + 1 := by simp
  have hcs : ∀ (b : Nat) (o : Obj), rv.ownBlock = some b → (w.drew.alloc (.cells #[.slice a3 k c3, .slice a4 t c4] 113)).heap[b]? = some o → ∃ cs t m, o = Obj.cells cs t m := by
    intro b o hb ho
    rcases h1'.2 with ⟨rfl, _⟩ | ⟨g, cap, cur, rfl, _, hh, _⟩
    · cases hb
    · obtain rfl : g = b := by simpa [Value.ownBlock] using hb
      rw [hh] at ho; cases ho; exact ⟨_, _, _, rfl⟩
  have hlt3 := b3.lt_ (by omega)
  have hlt4 := b4.lt_ (by omega)
  have hxs : ∀ v ∈ xs, v.oneCell' = true := rows_one hxl fun j hj => by
    obtain ⟨a1, c1, a2, c2, e1, e2, _⟩ := h2 j V[j] (by simp)
    exact ⟨a1, k, c1, a2, t, c2, e1, e2⟩
  refine (insert_row 0 V.length i w.heap.size rv (.slice a3 k c3) (.slice a4 t c4) xs _ h1' hi hV4 (Nat.zero_le _) hvb (fun e => by have := (hlt _ e).2; omega) rfl rfl hxs).mono ?_
  rintro e w' ⟨rv', rfl, ho, hg, hb⟩
  have hGS : GrS (fun b => rv.ownBlock = some b) (w.drew.alloc (.cells #[.slice a3 k c3, .slice a4 t c4] 113)) w' := GrS.of_grown hg (fun b e => e) hcs
  have hown : ∀ b, rv'.ownBlock = some b → rv.ownBlock = some b ∨ w.heap.size ≤ b := fun b e => by
    rcases hb with hb | hb
    · exact .inl (hb ▸ e)
    · rw [e] at hb; obtain rfl : b = _ := Option.some.inj hb
      rw [hsz]; exact .inr (by omega)
  have hapt : ∀ {a : Option Addr}, Apt S rv a → (∀ y, a = some y → y.block < w.heap.size) → Apt S rv' a := fun ha hl x hx => ⟨fun e => by
    rcases hown _ e with e2 | e2
    · exact (ha x hx).1 e2
    · have := hl x hx; omega, (ha x hx).2⟩
  have hbs : ∀ {a : Option Addr} {n c : Nat} {l : List UInt8}, Bs w a n c l → Apt S rv a → Bs w' a n c l := fun hb2 ha => (hb2.below hg0).grS hGS fun x hx => (ha x hx).1
  refine ⟨rv', rfl, PrV.ins (w := w) (rv := rv) hi (by omega) (fun j v hv => ?_) u (hbs b3 p3) (hbs b4 p4) (hapt p3 hlt3) (hapt p4 hlt4) (fun b e => ?_) ho, (GrS.of_gr hg0).trans hGS fun b e => .inl e, hown⟩
  · obtain ⟨a1, c1, a2, c2, e1, e2, q1, q2, r1, r2⟩ := h2 j v hv
    exact ⟨a1, c1, a2, c2, e1, e2, hbs q1 r1, hbs q2 r2, hapt r1 (q1.lt_ (by omega)), hapt r2 (q2.lt_ (by omega))⟩
  · rcases hown b e with e2 | e2
    · exact h0 b e2
    · exact hS b e2

set_option maxRecDepth 100000 in
set_option maxHeartbeats 8000000 in
theorem elimPut_new (E k t : Nat) (S : Nat → Prop) (hSE : S E) (V : List (List UInt8)) (D : List UInt8 → List UInt8) (hD : Lin D k t) (hV : Red V k) (hV4 : V.length < 4096) (av : Option Addr) (cv : Nat) (v : List UInt8) (ad : Option Addr) (cd : Nat) (w : World) (hE : ElimAt w E S k t V D) (hv : Bs w av k cv v) (hd : Bs w ad t cd (D v)) (hk1 : 1 ≤ k) (hk : k ≤ 1000000) (ht1 : 1 ≤ t) (ht : t ≤ 1000000)
    (hl : leadL (restL V v) < (restL V v).length) :
    Calls Tryz.prog 41 #[.pointer (some ⟨E, 0, none⟩), .agg #[.slice av k cv, .slice ad t cd]] w fun e w' => e = .returned (.tuple #[.int .i64 0, .int .i64 0]) ∧ ElimAt w' E (exS S w.heap.size) k t (putV V v) D ∧ GrS S w w' := by
  have HR := Lib.hid fun w hE h1 h2 => elimRest_ok E k t S V D hD (fun r hr => ⟨hV.len r hr, hV.lt r hr⟩) (by omega) av cv v ad cd w hE h1 h2 hk1 hk ht1 ht
  obtain ⟨hNVl, hNVk, hRC, hPUT⟩ := norm_facts hV hv.1 hl
  rw [hPUT]
  obtain ⟨RV, eRV⟩ : ∃ x, restL V v = x := ⟨_, rfl⟩
  rw [eRV] at HR hl hNVl hNVk hRC ⊢
  have HZ : Hid (zeroB RV = false) := by show _ = _; unfold zeroB; simp [hl]
  have HN := Lib.hid fun a1 c1 a2 c2 w h1 h2 => rowNorm_ok a1 a2 k c1 t c2 RV (D RV) w h1 h2 hl ht1 hk ht
  obtain ⟨NV, eNV⟩ : ∃ x, normL RV = x := ⟨_, rfl⟩
  have hND : scaleL (normC RV) (D RV) = D NV := by rw [← eNV]; exact (hD.scale _ _).symm
  rw [eNV] at hNVl hNVk hRC
  rw [eNV, hND] at HN
  rw [eNV]
  obtain ⟨rv, hc, hp, hne⟩ := hE
  have HPR := Lib.hid hp
  have HNE := Lib.hid hne
  have HVR := Lib.hid hV
  have HRC := Lib.hid hRC
  have HNVL := Lib.hid hNVl
  have HNVK := Lib.hid hNVk
  have HLIN := Lib.hid hD
  have HSE := Lib.hid hSE
  have hEs : E < w.heap.size := lt_of_block hc
  have hRlt : Hid (∀ b, rv.ownBlock = some b → S b ∧ b < w.heap.size) := hp.lt
  obtain ⟨ar, cr, erv, hcr, hcm⟩ := hp.val
  have hcr9 : V.length ≤ 9223372036854775807 := by omega
  have hal := ((Gr.refl w).alloc (.cells #[.pointer (some ⟨E, 0, none⟩)] 105)).alloc (.cells #[.slice av k cv, .slice ad t cd] 113)
  have hS := Gr.heap ((Gr.refl _).alloc (.cells #[.slice av k cv, .slice ad t cd] 113)) (heap_alloc_new w (.cells #[.pointer (some ⟨E, 0, none⟩)] 105))
  have hR := heap_alloc_new (w.alloc (.cells #[.pointer (some ⟨E, 0, none⟩)] 105)) (.cells #[.slice av k cv, .slice ad t cd] 113)
  simp only [World.size_alloc] at hR
  have HS := Lib.hid hS
  have HEE : Hid (ElimAt _ E S k t V D) := ElimAt.gr ⟨rv, hc, hp, hne⟩ hal
  have HC := Lib.hid hc
  have H1 := Lib.hid (hv.below hal)
  have H2 := Lib.hid (hd.below hal)
  have HAL := Lib.hid hal
  obtain ⟨s0, sf⟩ := one_all hS
  obtain ⟨r0, r1, rf⟩ := two_cells hR
  clear hv hd hal hS hR hl hND hPUT eRV eNV hc hp hne hV hRC hNVl hNVk hD hSE
  go_enter Tryz.func41, Tryz.ntmps41
  go_wp2_with fail
  refine (HR.out _ HEE.out H1.out H2.out).mono ?_
  rintro e w1 ⟨a1, c1, a2, c2, rfl, f1, f2, hg⟩
  have hal := (Gr.refl w1).alloc (.cells #[.slice a1 k c1, .slice a2 t c2] 113)
  have HL := Lib.hid (heap_alloc_new w1 (.cells #[.slice a1 k c1, .slice a2 t c2] 113))
  have hLs : w.heap.size + 2 ≤ w1.heap.size := by have := hg.size; simp at this; exact this
  have HF1 := Lib.hid (f1.below hal)
  have HF2 := Lib.hid (f2.below hal)
  have HW := Lib.hid ((HAL.out.trans hg).trans hal)
  have HS1 := Lib.hid (hal.heap (hg.heap HS.out))
  obtain ⟨y0, y1, yf⟩ := two_cells HL.out
  clear f1 f2 hg hal s0 sf r0 r1 rf HEE HR
  go_wp2_with fail
  refine (vecZero_any a1 k c1 RV _ HF1.out.1).mono ?_
  rintro e w2 ⟨rfl, rfl⟩
  rw [HZ.out]
  go_wp2_with fail
  refine (HN.out a1 c1 a2 c2 _ HF1.out.1 HF2.out.1).mono ?_
  rintro e w2 ⟨a3, c3, a4, c4, rfl, f3, f4, hg⟩
  clear HN HZ
  have hL2 := hg.heap HL.out
  obtain ⟨hgb, hh⟩ := two_set hL2 (.slice a3 k c3) (.slice a4 t c4)
  have f3' := f3.mono (base' := w1.heap.size + 1) (by simp)
  have f4' := f4.mono (base' := w1.heap.size + 1) (by simp)
  have HF3 := Lib.hid (f3'.grb hgb (by omega))
  have HF4 := Lib.hid (f4'.grb hgb (by omega))
  have HW2 := Lib.hid ((HW.out.trans hg).grb hgb (by omega))
  have HS2 := Lib.hid (hgb.heap (hg.heap HS1.out) (by omega))
  have HPR2 := Lib.hid ((HPR.out.gr (HW.out.trans hg)).gap hgb hL2 (fun j u => by match j with | 0 => simp | 1 => simp | j + 2 => simp) (fun e => by have := (hRlt.out _ e).2; omega))
  have HL2 := Lib.hid hh
  obtain ⟨z0, z1, zf⟩ := two_cells hL2
  clear hg hgb hh hL2 f3 f4 f3' f4' y0 y1 yf HF1 HF2 HW HS1 HL
  have HX := Lib.hid fun w h => vecLead_any a3 k c3 NV w h
  rw [leadI_of (leadL_lead (by rw [HNVL.out]; exact HNVK.out))] at HX
  have HAT : Hid (∃ x, leadL NV = x) := ⟨_, rfl⟩
  obtain ⟨AT, eAT⟩ := HAT.out
  have EAT := Lib.hid eAT
  have hAT9 : AT ≤ 1000000 := by have := HNVK.out; omega
  rw [eAT] at HX
  clear eAT HAT
  obtain ⟨q0, q1, qf⟩ := two_cells HL2.out
  go_wp2_with fail
  refine (HX.out _ HF3.out.1).mono ?_
  rintro e w3 ⟨rfl, hw3⟩
  obtain ⟨W2, eW⟩ : ∃ W, ((w2.setCell ⟨w1.heap.size, 0, none⟩ (.slice a3 k c3)).setCell ⟨w1.heap.size, 1, none⟩ (.slice a4 t c4)) = W := ⟨_, rfl⟩
  rw [eW] at hw3 HF3 HF4 HW2 HS2 HPR2 HL2 q0 q1 qf
  subst hw3
  clear eW z0 z1 zf
  have hal := (Gr.refl W2).alloc (.cells #[.int .i64 (AT : Int)] 3)
  have hA3 := heap_alloc_new W2 (.cells #[.int .i64 (AT : Int)] 3)
  have hA3s : w1.heap.size < W2.heap.size := lt_of_block HL2.out
  obtain ⟨A, eA⟩ : ∃ A, W2.heap.size = A := ⟨_, rfl⟩
  rw [eA] at hA3 hA3s
  have hFn3 : ∀ y, a3 = some y → w1.heap.size + 1 ≤ y.block ∧ y.block < A := fun y hy => ⟨HF3.out.2 y hy, by rw [← eA]; exact HF3.out.1.lt_ (by omega) y hy⟩
  have hFn4 : ∀ y, a4 = some y → w1.heap.size + 1 ≤ y.block ∧ y.block < A := fun y hy => ⟨HF4.out.2 y hy, by rw [← eA]; exact HF4.out.1.lt_ (by omega) y hy⟩
  have HFN3 := Lib.hid hFn3
  have HFN4 := Lib.hid hFn4
  have HA3 := Lib.hid hA3
  have HS3 := Lib.hid (hal.heap HS2.out)
  have HPR3 := Lib.hid (HPR2.out.gr hal)
  have HL3 := Lib.hid (hal.heap HL2.out)
  have HF33 := Lib.hid (HF3.out.1.below hal)
  have HF43 := Lib.hid (HF4.out.1.below hal)
  have HW3 := Lib.hid (HW2.out.trans hal)
  have HE3 := Lib.hid (HW3.out.heap HC.out)
  obtain ⟨s0, sf⟩ := one_all HS3.out
  obtain ⟨e0, e1, e2, ef⟩ := three_all HE3.out
  obtain ⟨l0, l1, lf⟩ := two_cells HL3.out
  have hrvl : Hid (rv = .slice ar V.length cr) := erv
  clear hal HS2 HL2 HF3 HF4 HW2 q0 q1 qf hA3 HPR2 hFn3 hFn4 HX HPR
  rw [erv] at e2
  have hPl := HPR3.out
  rw [← clearTo_zero NV V] at hPl
  have HP0 : Hid (PrV _ (exS S w.heap.size) rv (clearTo NV V 0) D k t) := hPl.mono exS.inl
  clear hPl HPR3
  go_wp2
  obtain ⟨W3, eW⟩ : ∃ W, W2.alloc (.cells #[.int .i64 (AT : Int)] 3) = W := ⟨_, rfl⟩
  rw [eW] at HA3 HS3 HL3 HF33 HF43 HW3 HE3 HP0 s0 sf e0 e1 e2 ef l0 l1 lf ⊢
  clear eW
  go_loopw [39] (fun i wr => ∃ j : Nat, j ≤ V.length ∧ i = .int .i64 j ∧ PrV wr (exS S w.heap.size) rv (clearTo NV V j) D k t ∧ GrS (fun b => rv.ownBlock = some b) W3 wr) (fun i _ => V.length - (intOf i).toNat)
  case atStart => exact ⟨0, Nat.zero_le _, rfl, HP0.out, GrS.refl _ _⟩
  case round =>
    obtain ⟨j, hj, rfl, hpr, hgr⟩ := hrel
    have HPRr := Lib.hid hpr
    have HGR := Lib.hid hgr
    have HWR3 := Lib.hid hgr.size
    have hnE : rv.ownBlock ≠ some E := HNE.out
    have hnS : rv.ownBlock ≠ some w.heap.size := fun e => by have := (hRlt.out _ e).2; omega
    have hnL : rv.ownBlock ≠ some w1.heap.size := fun e => by have := (hRlt.out _ e).2; omega
    have hnA : rv.ownBlock ≠ some A := fun e => by have := (hRlt.out _ e).2; omega
    have HEr := Lib.hid (hgr.heap HE3.out hnE)
    have HSr := Lib.hid (hgr.heap HS3.out hnS)
    have HLr := Lib.hid (hgr.heap HL3.out hnL)
    have HAr := Lib.hid (hgr.heap HA3.out hnA)
    have HF3r := Lib.hid (HF33.out.grS hgr fun y hy e => by have := (hRlt.out _ e).2; have := (HFN3.out y hy).1; omega)
    have HF4r := Lib.hid (HF43.out.grS hgr fun y hy e => by have := (hRlt.out _ e).2; have := (HFN4.out y hy).1; omega)
    clear hpr hgr s0 sf e0 e1 e2 ef l0 l1 lf
    by_cases hlt : j < V.length
    · have hlt' : j < (clearTo NV V j).length := by rw [clearTo_length NV V j (by omega)]; exact hlt
      obtain ⟨R, cap, b1, d1, b2, d2, erv2, hRS, hRl, r0, r1, hb1, hb2⟩ := HPRr.out.get hlt'
      rw [clearTo_get NV V j hlt hlt'] at hb1 hb2
      have hrvR : rv.ownBlock = some R := by rw [erv2]; rfl
      rw [hrvl.out] at erv2
      simp at erv2
      obtain ⟨rfl, -, -⟩ := erv2
      have hRw := (hRlt.out _ hrvR).2
      have hnvl := HNVL.out
      have hrl : (V[j]).length = k := HVR.out.len _ (List.getElem_mem hlt)
      have hset := clearTo_set NV V j hlt
      rw [EAT.out] at hset
      have hDx := HLIN.out.ax (fn V[j] AT) NV V[j] (by omega)
      obtain ⟨ROW, eROW⟩ : ∃ x, V[j] = x := ⟨_, rfl⟩
      rw [eROW] at hb1 hb2 hset hrl hDx
      have eROW2 := eROW
      clear eROW
      have HQA := Lib.hid fun w h => vecAt_any b1 k d1 ROW (AT : Int) (by omega) w h
      rw [atN_nat] at HQA
      have hCz : Hid (fn ROW AT = 0 → axl (fn ROW AT) NV ROW = ROW) := fun h => by rw [h, axl_zero (by omega)]
      obtain ⟨CC, eCC⟩ : ∃ x, fn ROW AT = x := ⟨_, rfl⟩
      rw [eCC] at HQA hCz hset hDx
      clear eCC
      have hal := (Gr.refl wr).alloc (.cells #[.slice b1 k d1, .slice b2 t d2] 113)
      have hRW := heap_alloc_new wr (.cells #[.slice b1 k d1, .slice b2 t d2] 113)
      have HB1 := Lib.hid (hb1.below hal)
      have HB2 := Lib.hid (hb2.below hal)
      have HPRa := Lib.hid (HPRr.out.gr hal)
      have HGRa := Lib.hid (HGR.out.gr hal)
      have HF3a := Lib.hid (HF3r.out.below hal)
      have HF4a := Lib.hid (HF4r.out.below hal)
      have HRWa := Lib.hid hRW
      have HEa := Lib.hid (hal.heap HEr.out)
      have HSa := Lib.hid (hal.heap HSr.out)
      have HLa := Lib.hid (hal.heap HLr.out)
      have HAa := Lib.hid (hal.heap HAr.out)
      have hR0 := hal.cell r0
      have hR1 := hal.cell r1
      have HR0 := Lib.hid hR0
      have HR1 := Lib.hid hR1
      obtain ⟨x0, x1, xf⟩ := two_cells hRW
      obtain ⟨A0, Af⟩ := one_all HAa.out
      clear hb1 hb2 hal hRW HPRr HGR HF3r HF4r HEr HSr HLr HAr
      go_wp2_with fail
      refine (HQA.out _ HB1.out).mono ?_
      rintro e w4 ⟨rfl, hw4⟩
      obtain ⟨W4, eW⟩ : ∃ W, wr.alloc (.cells #[.slice b1 k d1, .slice b2 t d2] 113) = W := ⟨_, rfl⟩
      have hwrs : wr.heap.size < W4.heap.size := by rw [← eW]; simp
      rw [eW] at hw4 HB1 HB2 HPRa HGRa HF3a HF4a HRWa HEa HSa HLa HAa HR0 HR1 x0 x1 xf A0 Af hR0 hR1
      subst hw4
      clear eW r0 r1
      have hW3r : W3.heap.size ≤ wr.heap.size := HWR3.out
      have hgj := clearTo_get NV V j hlt hlt'
      rw [eROW2] at hgj
      by_cases hc0 : CC = 0
      · have hS1 : clearTo NV V (j + 1) = clearTo NV V j := by
          rw [← hset, hCz.out hc0, ← hgj, List.set_getElem_self]
        have HS1 := Lib.hid hS1
        subst hc0
        clear hset hgj eROW2 hS1
        go_wp2
        go_roundw
        case rel => exact ⟨j + 1, by omega, by go_num, by rw [HS1.out]; exact HPRa.out, HGRa.out⟩
        case measure => simp [intOf]; omega
      · have hne : ((CC.toNat : Int) != 0) = true := by rw [bne_iff_ne]; have := u8_ne_zero hc0; omega
        have HLS := Lib.hid fun w h1 h2 h3 h4 => rowLess_ok CC b1 b2 a3 a4 k d1 t d2 c3 c4 ROW (D ROW) NV (D NV) w h1 h2 h3 h4 hk1 ht1 hk ht
        rw [← hDx] at HLS
        have HSET := Lib.hid hset
        obtain ⟨NR, eNR⟩ : ∃ x, axl CC NV ROW = x := ⟨_, rfl⟩
        rw [eNR] at HLS HSET
        obtain ⟨e0, e1, e2, ef⟩ := three_all HEa.out
        rw [hrvl.out] at e2
        obtain ⟨l0, l1, lf⟩ := two_cells HLa.out
        obtain ⟨s0, sf⟩ := one_all HSa.out
        have X0 := Lib.hid x0
        have X1 := Lib.hid x1
        have L0 := Lib.hid l0
        have L1 := Lib.hid l1
        have S0 := Lib.hid s0
        have E2 := Lib.hid e2
        have hER : E ≠ R := fun e => hnE (by rw [hrvR, e])
        have hSR : w.heap.size ≠ R := by omega
        have hLR : w1.heap.size ≠ R := by omega
        have hWR : wr.heap.size ≠ R := by omega
        have hjv : (j : Int) < (V.length : Int) := by omega
        clear hset hgj eROW2 hDx eNR
        go_wp2
        go_region_held3 (fun W => W.cell? ⟨w.heap.size, 0, none⟩ = some (.pointer (some ⟨E, 0, none⟩)) ∧ W.cell? ⟨E, 2, none⟩ = some (.slice (some ⟨R, 0, none⟩) V.length cr) ∧ W.cell? ⟨wr.heap.size, 0, none⟩ = some (.slice b1 k d1) ∧ W.cell? ⟨wr.heap.size, 1, none⟩ = some (.slice b2 t d2) ∧ W.cell? ⟨w1.heap.size, 0, none⟩ = some (.slice a3 k c3) ∧ W.cell? ⟨w1.heap.size, 1, none⟩ = some (.slice a4 t c4)) (first | exact ⟨S0.out, E2.out, X0.out, X1.out, L0.out, L1.out⟩ | exact ⟨q0, q1, q2, q3, q4, q5⟩ | exact ⟨p0, p1, p2, p3, p4, p5⟩ | go_keep) ((first
          | (go_at_call 46; refine (HLS.out W4.drew (HB1.out.below (Gr.refl W4).drew) (HB2.out.below (Gr.refl W4).drew) (HF3a.out.below (Gr.refl W4).drew) (HF4a.out.below (Gr.refl W4).drew)).mono ?_; rintro e w6 ⟨a5, c5, a6, c6, rfl, f5, f6, hg6⟩; have hg46 := (Gr.refl W4).drew.trans hg6; have q0 := hg46.cell S0.out; have q1 := hg46.cell E2.out; have q2 := hg46.cell X0.out; have q3 := hg46.cell X1.out; have q4 := hg46.cell L0.out; have q5 := hg46.cell L1.out; have t0 := hg46.cell HR0.out; have t1 := hg46.cell HR1.out; have tf := ((HPRa.out.gr hg46).free R hrvR).1; have hgb := ((GrB.refl w6 R).set (p := ⟨R, j * 2, none⟩) (.inl rfl) (.slice a5 k c5)).set (p := ⟨R, j * 2 + 1, none⟩) (.inl rfl) (.slice a6 t c6); have p0 := hgb.cell q0 hSR; have p1 := hgb.cell q1 hER; have p2 := hgb.cell q2 hWR; have p3 := hgb.cell q3 hWR; have p4 := hgb.cell q4 hLR; have p5 := hgb.cell q5 hLR)))
        have hrvF : rv = .slice (some ⟨R, 0, none⟩) V.length cr := hrvl.out
        have h45 : W4.heap.size ≤ W4.drew.heap.size := Nat.le_refl _
        have hbig : w.heap.size ≤ W4.drew.heap.size := by have h1 := HGRa.out.size; have h2 := HW3.out.size; omega
        have hp' := (HPRa.out.gr hg46).set hlt' hrvF NR f5.1 f6.1 (fun x hx => ⟨fun e => by rw [hrvR] at e; have e2 := Option.some.inj e; have e3 := f5.2 x hx; omega, exS.inr (Nat.le_trans hbig (f5.2 x hx))⟩) (fun x hx => ⟨fun e => by rw [hrvR] at e; have e2 := Option.some.inj e; have e3 := f6.2 x hx; omega, exS.inr (Nat.le_trans hbig (f6.2 x hx))⟩)
        rw [HSET.out] at hp'
        obtain ⟨-, cs6, hcs6⟩ := (HPRa.out.gr hg46).free R hrvR
        have HP' := Lib.hid hp'
        have HG' := Lib.hid ((HGRa.out.gr hg46).grb hgb hcs6 (.inl hrvR))
        clear hp' hgb hcs6 hg46 hg6 f5 f6 q0 q1 q2 q3 q4 q5 p0 p1 p2 p3 p4 p5 t0 t1 tf
        go_wp2
        go_roundw
        case rel => exact ⟨j + 1, by omega, by go_num, HP'.out, HG'.out⟩
        case measure => simp [intOf]; omega
    · have hjl : j = V.length := by omega
      have hge : (V.length : Int) ≤ (j : Int) := by omega
      subst hjl
      have hPc := HPRr.out
      rw [clearTo_all] at hPc
      have HPC := Lib.hid hPc
      obtain ⟨e0, e1, e2, ef⟩ := three_all HEr.out
      rw [hrvl.out] at e2
      obtain ⟨l0, l1, lf⟩ := two_cells HLr.out
      obtain ⟨s0, sf⟩ := one_all HSr.out
      obtain ⟨A0, Af⟩ := one_all HAr.out
      have hcvl : (clearV NV V).length = V.length := by simp [clearV]
      obtain ⟨CV, eCV⟩ : ∃ x, clearV NV V = x := ⟨_, rfl⟩
      rw [eCV] at hcvl HPC HRC
      have HSO := Lib.hid (search_ok w.heap.size A E k t AT (exS S w.heap.size) CV D HRC.out (by omega) hk wr ⟨rv, HEr.out, HPC.out, hnE⟩ s0 A0)
      rw [hcvl] at HSO
      have ECV := Lib.hid eCV
      clear hPc HPRr eCV
      go_wp2_with fail
      refine HSO.out.mono ?_
      rintro e w5 ⟨i, rfl, hi, hp1, hp2, hg5⟩
      have hins : insAt NV CV = i := insAt_place (by omega) (by rw [EAT.out]; exact hp1) (by rw [EAT.out]; exact hp2)
      have HINS := Lib.hid hins
      have hall5 := HGR.out.gr hg5
      have HG5 := Lib.hid hall5
      have hPC5 := HPC.out.gr hg5
      have HE5 := Lib.hid (hg5.heap HEr.out)
      have HS5 := Lib.hid (hg5.heap HSr.out)
      have HL5 := Lib.hid (hg5.heap HLr.out)
      have hB3 := HF3r.out.below hg5
      have hB4 := HF4r.out.below hg5
      have hwb : w.heap.size ≤ w5.heap.size := by have h1 := hall5.size; have h2 := HW3.out.size; omega
      have HIN := Lib.hid (insert_prv k t hk1 ht1 (exS S w.heap.size) rv CV D (by omega) i (by omega) a3 c3 a4 c4 NV w5 hPC5 hB3 hB4 (fun x hx => ⟨fun e => by have := (hRlt.out _ e).2; have := (HFN3.out x hx).1; omega, exS.inr (by have := (HFN3.out x hx).1; omega)⟩) (fun x hx => ⟨fun e => by have := (hRlt.out _ e).2; have := (HFN4.out x hx).1; omega, exS.inr (by have := (HFN4.out x hx).1; omega)⟩) (fun b hb => exS.inr (by omega)))
      have HOB : Hid ((Value.slice ar V.length cr).ownBlock = rv.ownBlock) := by show _ = _; rw [hrvl.out]
      rw [hrvl.out] at HIN
      clear hp1 hp2 hins hall5 hPC5 hB3 hB4 e0 e1 e2 ef l0 l1 lf s0 sf A0 Af
      obtain ⟨e0, e1, e2, ef⟩ := three_all HE5.out
      rw [hrvl.out] at e2
      obtain ⟨l0, l1, lf⟩ := two_cells HL5.out
      obtain ⟨s0, sf⟩ := one_all HS5.out
      have L0 := Lib.hid l0
      have L1 := Lib.hid l1
      have S0 := Lib.hid s0
      have E2 := Lib.hid e2
      have hgA := (Gr.refl w5).drew.alloc (.cells #[.slice a3 k c3, .slice a4 t c4] 113)
      have HGA := Lib.hid hgA
      clear hgA
      have hES : E ≠ w.heap.size := by omega
      have hEL : w1.heap.size ≠ E := by omega
      go_wp2
      have hE2a := HGA.out.cell E2.out
      have hE5 : E < w5.heap.size := by omega
      have hE5n : ¬ (E = w5.heap.size) := by omega
      have hE5m : ¬ (w5.heap.size = E) := by omega
      have HLN : Hid ((CV.take i ++ NV :: CV.drop i).length = V.length + 1) := by show _ = _; simp only [List.length_append, List.length_take, List.length_cons, List.length_drop]; omega
      refine wp_region_last 11 _ (fun W => W.cell? ⟨w.heap.size, 0, none⟩ = some (.pointer (some ⟨E, 0, none⟩)) ∧ W.cell? ⟨E, 2, none⟩ = some (.slice ar V.length cr) ∧ W.cell? ⟨w1.heap.size, 0, none⟩ = some (.slice a3 k c3) ∧ W.cell? ⟨w1.heap.size, 1, none⟩ = some (.slice a4 t c4)) (by kernel_rfl) rfl (by kernel_rfl) rfl ?_
      simp only [List.take_succ_cons, List.take_zero]
      have hHeld : (fun W : World => W.cell? ⟨w.heap.size, 0, none⟩ = some (.pointer (some ⟨E, 0, none⟩)) ∧ W.cell? ⟨E, 2, none⟩ = some (.slice ar V.length cr) ∧ W.cell? ⟨w1.heap.size, 0, none⟩ = some (.slice a3 k c3) ∧ W.cell? ⟨w1.heap.size, 1, none⟩ = some (.slice a4 t c4)) w5.drew := ⟨S0.out, E2.out, L0.out, L1.out⟩
      refine wpAnyH_takeL 0 rfl (by kernel_rfl) (by kernel_rfl) (by kernel_rfl) (fun _ _ _ h => h) rfl (by assumption) (by (intro w hSw; (try dsimp only at hSw); go_simp; try with_reducible rfl)) ?_
      simp only [Act.put, List.setIfInBounds_toArray, List.set_cons_zero, List.set_cons_succ]
      refine wpAnyH_takeL 1 rfl (by kernel_rfl) (by kernel_rfl) (by kernel_rfl) (fun _ _ _ h => h) rfl (by assumption) (by (intro w hSw; (try dsimp only at hSw); go_simp; try with_reducible rfl)) ?_
      simp only [Act.put, List.setIfInBounds_toArray, List.set_cons_zero, List.set_cons_succ]
      refine wpAnyH_takeL 2 rfl (by kernel_rfl) (by kernel_rfl) (by kernel_rfl) (fun _ _ _ h => h) rfl (by assumption) (by (intro w hSw; (try dsimp only at hSw); go_simp; try with_reducible rfl)) ?_
      simp only [Act.put, List.setIfInBounds_toArray, List.set_cons_zero, List.set_cons_succ]
      refine wpAnyH_takeL 3 rfl (by kernel_rfl) (by kernel_rfl) (by kernel_rfl) (fun _ _ _ h => h) rfl (by assumption) (by (intro w hSw; (try dsimp only at hSw); go_simp; try with_reducible rfl)) ?_
      simp only [Act.put, List.setIfInBounds_toArray, List.set_cons_zero, List.set_cons_succ]
      refine wpAnyH_takeL 4 rfl (by kernel_rfl) (by kernel_rfl) (by kernel_rfl) (fun _ _ _ h => h) rfl (by assumption) (by (intro w hSw; (try dsimp only at hSw); go_simp; try with_reducible rfl)) ?_
      simp only [Act.put, List.setIfInBounds_toArray, List.set_cons_zero, List.set_cons_succ]
      refine wpAnyH_takeL 5 rfl (by kernel_rfl) (by kernel_rfl) (by kernel_rfl) (fun _ _ _ h => h) rfl (by assumption) (by (intro w hSw; (try dsimp only at hSw); go_simp; try with_reducible rfl)) ?_
      simp only [Act.put, List.setIfInBounds_toArray, List.set_cons_zero, List.set_cons_succ]
      refine wpAnyH_takeL 6 rfl (by kernel_rfl) (by kernel_rfl) (by kernel_rfl) (fun _ _ _ h => h) rfl (by assumption) (by (intro w hSw; (try dsimp only at hSw); go_simp; try with_reducible rfl)) ?_
      simp only [Act.put, List.setIfInBounds_toArray, List.set_cons_zero, List.set_cons_succ]
      refine wpAnyH_oneL 7 rfl (by kernel_rfl) rfl (fun K hK => ?_)
      go_simp
      refine hK.out _ _ ⟨HGA.out.cell S0.out, HGA.out.cell E2.out, HGA.out.cell L0.out, HGA.out.cell L1.out⟩ ?_
      clear hK K hHeld
      refine wpAnyH_oneL 8 rfl (by kernel_rfl) rfl (fun K hK => ?_)
      go_simp
      go_at_call 79
      refine HIN.out.mono ?_
      rintro e w6 ⟨rv6, rfl, hp6, hg6, hb6⟩
      rw [HOB.out] at hg6 hb6
      obtain ⟨a6, c6, e6, -, -⟩ := hp6.val
      rw [HLN.out] at e6
      subst e6
      have hHeld : (fun W : World => W.cell? ⟨w.heap.size, 0, none⟩ = some (.pointer (some ⟨E, 0, none⟩)) ∧ W.cell? ⟨E, 2, none⟩ = some (.slice ar V.length cr) ∧ W.cell? ⟨w1.heap.size, 0, none⟩ = some (.slice a3 k c3) ∧ W.cell? ⟨w1.heap.size, 1, none⟩ = some (.slice a4 t c4)) w6 := ⟨hg6.cell S0.out hnS, hg6.cell E2.out hnE, hg6.cell L0.out hnL, hg6.cell L1.out hnL⟩
      have hE6 := hg6.heap HE5.out hnE
      obtain ⟨u0, u1, u2, uf⟩ := three_all hE6
      obtain ⟨hgb, hh⟩ := three_last hE6 (.slice a6 (V.length + 1) c6)
      go_simp
      refine hK.out _ _ hHeld ?_
      clear hK K
      refine wpAnyH_takeL 9 rfl (by kernel_rfl) (by kernel_rfl) (by kernel_rfl) (fun _ _ _ h => h) rfl (by assumption) (by (intro w hSw; (try dsimp only at hSw); go_simp; try with_reducible rfl)) ?_
      simp only [Act.put, List.setIfInBounds_toArray, List.set_cons_zero, List.set_cons_succ]
      refine wpAnyH_takeL 10 rfl (by kernel_rfl) (by kernel_rfl) (by kernel_rfl) (fun _ _ _ h => h) rfl (by assumption) (by (intro w hSw; (try dsimp only at hSw); go_simp; try with_reducible rfl)) ?_
      simp only [Act.put, List.setIfInBounds_toArray, List.set_cons_zero, List.set_cons_succ]
      refine wpAnyH_done (by kernel_rfl) ?_ _
      unfold lastQ
      go_simp
      have hEn : (Value.slice a6 (V.length + 1) c6).ownBlock ≠ some E := fun e => by
        rcases hb6 E e with e2 | e2
        · exact hnE e2
        · omega
      have HFIN : Hid (ElimAt (w6.setCell ⟨E, 2, none⟩ (.slice a6 (V.length + 1) c6)) E (exS S w.heap.size) k t (CV.take i ++ NV :: CV.drop i) D) :=
        ⟨_, hh, hp6.gap hgb hE6 (fun j u => by rw [hrvl.out]; match j with | 0 => simp | 1 => simp | 2 => simp | j + 3 => simp) hEn, hEn⟩
      have HGF := Lib.hid ((((GrS.of_gr (S := S) HW3.out).trans HG5.out fun b e => .inl (hRlt.out b e).1).trans hg6 fun b e => .inl (hRlt.out b e).1).grb hgb hE6 (.inl HSE.out))
      clear hp6 hg6 hb6 hE6 hgb hh hEn u0 u1 u2 uf hHeld e0 e1 e2 ef l0 l1 lf s0 sf hE2a
      go_wp2
      first | go_ret | go_ret2
      exact ⟨rfl, by rw [ECV.out, insV, HINS.out]; exact HFIN.out, HGF.out⟩
end Go.Proofs.YtddopoojmadpjaaGreatDoor
