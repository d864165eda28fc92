/-
  A taker, whatever came to it: Take of packets of one object; its rows, rank, status, object.
-/
import Derived.Test.YtddopoojmadpjaaGreatDoorElimSys
import Derived.Test.YtddopoojmadpjaaGreatDoorTopAwake
namespace Go.Proofs.YtddopoojmadpjaaGreatDoor
open Go.RowKit
set_option linter.unusedVariables false

theorem Bs.gapT {w w' : World} {T E n s q id st : Nat} {g : Option Nat} {a : Option Addr} {k c : Nat} {l : List UInt8} (h : Bs w a k c l) (hT : TakAt w T E n s q id g st) (hg : GrB w T w') : Bs w' a k c l := hT.bs h hg
theorem tak_noB {n s q id st E : Nat} {g : Option Nat} (j : Nat) (u : Int) : (#[.int .i64 (n : Int), .int .i64 (s : Int), .int .i64 (q : Int), .int .u32 (id : Int), .map g, .pointer (some ⟨E, 0, none⟩), .int .i64 (st : Int)] : Array Value)[j]? ≠ some (.int .u8 u) := by
  match j with | 0 => simp | 1 => simp | 2 => simp | 3 => simp | 4 => simp | 5 => simp | 6 => simp | j + 7 => simp
theorem ElimAt.gapT {w w' : World} {T E n s q id st k t : Nat} {S : Nat → Prop} {V : List (List UInt8)} {D : List UInt8 → List UInt8} {g : Option Nat} (h : ElimAt w E S k t V D) (hT : TakAt w T E n s q id g st) (hg : GrB w T w') (hTE : E ≠ T) (hST : ¬ S T) : ElimAt w' E S k t V D := by
  obtain ⟨rv, h1, h2, h3⟩ := h
  exact ⟨rv, hg.heap h1 hTE, h2.gap hg hT tak_noB fun e => hST (h2.lt _ e).1, h3⟩
theorem GrS.of_grT {S : Nat → Prop} {w w' : World} {T E n s q id st : Nat} {g : Option Nat} (hT : TakAt w T E n s q id g st) (hg : GrB w T w') (hs : S T) : GrS S w w' := GrS.of_grb hg hT hs
theorem GrS.grbT {S : Nat → Prop} {w w1 w2 : World} {T E n s q id st : Nat} {g : Option Nat} (h : GrS S w w1) (hT : TakAt w1 T E n s q id g st) (hg : GrB w1 T w2) (hs : S T ∨ w.heap.size ≤ T) : GrS S w w2 := h.grb hg hT hs
theorem ElimAt.cells {w : World} {E k t : Nat} {S : Nat → Prop} {V : List (List UInt8)} {D : List UInt8 → List UInt8} (h : ElimAt w E S k t V D) : ∃ (r : Nat) (a : Option Addr) (c : Nat), r = V.length ∧ w.heap[E]? = some (.cells #[.int .i64 (k : Int), .int .i64 (t : Int), .slice a r c] 154) := by
  obtain ⟨rv, h1, h2, _⟩ := h
  obtain ⟨a, c, rfl, _, _⟩ := h2.val
  exact ⟨_, a, c, rfl, h1⟩
theorem ElimAt.bound {w : World} {E k t : Nat} {S : Nat → Prop} {V : List (List UInt8)} {D : List UInt8 → List UInt8} (h : ElimAt w E S k t V D) (hk : 1 ≤ k) (ht : 1 ≤ t) : ElimAt w E (fun b => S b ∧ b < w.heap.size) k t V D := by
  obtain ⟨rv, h1, h2, h3⟩ := h
  have hlt := h2.lt
  obtain ⟨xs, p1, p0, p2⟩ := h2
  refine ⟨rv, h1, ⟨xs, p1, hlt, fun j v hv => ?_⟩, h3⟩
  obtain ⟨a1, c1, a2, c2, e1, e2, b1, b2, q1, q2⟩ := p2 j v hv
  exact ⟨a1, c1, a2, c2, e1, e2, b1, b2, fun x hx => ⟨(q1 x hx).1, (q1 x hx).2, b1.lt_ (by omega) x hx⟩, fun x hx => ⟨(q2 x hx).1, (q2 x hx).2, b2.lt_ (by omega) x hx⟩⟩

/-- A PACKET THAT TELLS AN EQUATION: v, and the data that hang on it. -/
def Goodp (n s q id : Nat) (D : List UInt8 → List UInt8) (l v : List UInt8) : Prop :=
  ∃ (m nn sd : Nat) (lb : List UInt8), sd < 18446744073709551616 ∧ packErr n s q id l = 0 ∧ packGot n s q id l = ⟨m, id, nn, m, sd, lb, D v⟩ ∧ fitErr n s q id m id m lb.length (D v).length = 0 ∧ lb.length ≤ 1000000 ∧ rowVec m lb sd q = v ∧ v.length = q

/-- A TAKER at T, its system in blocks of S: what it knows. -/
def TakS (w : World) (S : Nat → Prop) (T E n s q id : Nat) (V : List (List UInt8)) (D : List UInt8 → List UInt8) (mx : Nat) : Prop :=
  ∃ (g : Option Nat) (es : List Nat), es.length ≤ mx ∧ TakAt w T E n s q id g (if V.length = q then 1 else 0) ∧ GateAt w g es ∧ ElimAt w E S q s V D ∧ S E ∧ ¬ S T ∧ (∀ b, S b → b < w.heap.size) ∧ Red V q
theorem TakS.gr {w w' : World} {S : Nat → Prop} {T E n s q id : Nat} {V : List (List UInt8)} {D : List UInt8 → List UInt8} {mx : Nat} (h : TakS w S T E n s q id V D mx) (hg : Gr w w') : TakS w' S T E n s q id V D mx := by
  obtain ⟨g, es, h1, h2, h3, h4, h5, h6, h7, h8⟩ := h
  exact ⟨g, es, h1, h2.gr hg, h3.gr hg, h4.gr hg, h5, h6, fun b hb => Nat.lt_of_lt_of_le (h7 b hb) hg.size, h8⟩
theorem TakS.grS {w w' : World} {S S1 : Nat → Prop} {T E n s q id : Nat} {V : List (List UInt8)} {D : List UInt8 → List UInt8} {mx : Nat} (h : TakS w S T E n s q id V D mx) (hg : GrS S1 w w') (hT : ¬ S1 T) (hd : ∀ b, S b → ¬ S1 b) : TakS w' S T E n s q id V D mx := by
  obtain ⟨g, es, h1, h2, h3, h4, h5, h6, h7, h8⟩ := h
  exact ⟨g, es, h1, hg.heap h2 hT, h3.grS hg, h4.grS h5 hg hd, h5, h6, fun b hb => Nat.lt_of_lt_of_le (h7 b hb) hg.size, h8⟩
theorem TakS.lt {w : World} {S : Nat → Prop} {T E n s q id : Nat} {V : List (List UInt8)} {D : List UInt8 → List UInt8} {mx : Nat} (h : TakS w S T E n s q id V D mx) : T < w.heap.size := by
  obtain ⟨g, es, _, h2, _⟩ := h; exact lt_of_block h2
theorem TakS.red {w : World} {S : Nat → Prop} {T E n s q id : Nat} {V : List (List UInt8)} {D : List UInt8 → List UInt8} {mx : Nat} (h : TakS w S T E n s q id V D mx) : Red V q := by
  obtain ⟨g, es, _, _, _, _, _, _, _, h8⟩ := h; exact h8
theorem TakS.more {w : World} {S : Nat → Prop} {T E n s q id : Nat} {V : List (List UInt8)} {D : List UInt8 → List UInt8} {mx mx' : Nat} (h : TakS w S T E n s q id V D mx) (hm : mx ≤ mx') : TakS w S T E n s q id V D mx' := by
  obtain ⟨g, es, h1, r⟩ := h; exact ⟨g, es, Nat.le_trans h1 hm, r⟩

/-- what comes of a packet. -/
def TakePost (S : Nat → Prop) (T E n s q id : Nat) (V' : List (List UInt8)) (D : List UInt8 → List UInt8) (mx : Nat) (w : World) (e : Ending) (w' : World) : Prop :=
  e = .returned (.int .i64 0) ∧ ∃ S', (∀ b, S' b → S b ∨ w.heap.size ≤ b) ∧ TakS w' S' T E n s q id V' D mx ∧ GrS (fun b => b = T ∨ S b) w w'
theorem TakePost.mk {S S2 : Nat → Prop} {T E n s q id mx : Nat} {V' : List (List UInt8)} {D : List UInt8 → List UInt8} {w : World} {e : Ending} {w' : World} (g' : Nat) (es : List Nat) (st : Nat) (he : e = .returned (.int .i64 0)) (hs : Hid ((if V'.length = q then 1 else 0) = st)) (h1 : TakAt w' T E n s q id (some g') st) (h2 : GateAt w' (some g') es) (h3 : es.length ≤ mx) (h4 : ElimAt w' E S2 q s V' D) (hE : S E) (hT : ¬ S2 T) (hS : ∀ b, S2 b → S b ∨ w.heap.size ≤ b) (hR : Red V' q) (hs1 : 1 ≤ s) (hq1 : 1 ≤ q) (h5 : GrS (fun b => b = T ∨ S b) w w') (hE2 : S2 E) :
    TakePost S T E n s q id V' D mx w e w' := by
  refine ⟨he, fun b => S2 b ∧ b < w'.heap.size, fun b hb => hS b hb.1, ⟨some g', es, h3, by rw [hs.out]; exact h1, h2, h4.bound hq1 hs1, ⟨hE2, ?_⟩, fun h => hT h.1, fun b hb => hb.2, hR⟩, h5⟩
  obtain ⟨_, hh, _⟩ := h4
  exact lt_of_block hh

set_option maxRecDepth 100000 in
set_option maxHeartbeats 4000000 in
theorem take_new (T E n s q id : Nat) (S : Nat → Prop) (hnm : n ≤ 9223372036854775807) (hs1 : 1 ≤ s) (hsm : s ≤ 1000000) (hq1 : 1 ≤ q) (hqm : q ≤ 4096) (V : List (List UInt8)) (D : List UInt8 → List UInt8) (hD : Lin D q s) (mx : Nat) (hmx9 : mx ≤ 1000) (a : Option Addr) (len cap : Nat) (l v : List UInt8) (w : World) (htab : Tab w) (hs : Bs w a len cap l) (hmx : len ≤ 1000000) (hTS : TakS w S T E n s q id V D mx) (hVq : V.length ≠ q) (hgood : Goodp n s q id D l v) :
    Calls Tryz.prog 16 #[.pointer (some ⟨T, 0, none⟩), .slice a len cap] w (TakePost S T E n s q id (putV V v) D (mx + 1) w) := by
  obtain ⟨g, es, hes0, hT, hG, hEE, hSE, hST, hSlt, hRed⟩ := hTS
  obtain ⟨m, nn, sd, lb, hsd, hpe, hpg, hfit, hlb, hrv, hvl⟩ := hgood
  obtain ⟨lp, elp⟩ : ∃ x, D v = x := ⟨_, rfl⟩
  have hDv := elp
  rw [elp] at hpg hfit
  have hes : es.length ≤ 1000 := by omega
  rw [if_neg hVq] at hT
  have hTE : E ≠ T := fun e => hST (e ▸ hSE)
  have hVlt : V.length < 4096 := by have := hRed.ech.rank_k; omega
  have hlps : lp.length = s := by obtain ⟨_, _, _, _, _, h6⟩ := fitErr_zero hfit; omega
  have HL := Lib.hid fun w ht hb hg => gateLook_any n s q id (by omega) (by omega) (by omega) (by omega) a len cap l g es hes w ht hb (by omega) hg
  rw [hpe, hpg] at HL
  have HQ : Hid (∀ a1 k1 c1 a2 k2 c2 w, Bs w a1 k1 c1 lb → Bs w a2 k2 c2 lp → Calls Tryz.prog 40 #[.agg #[.int .u8 (m : Int), .int .u32 (id : Int), .int .u32 (nn : Int), .int .u8 (m : Int), .slice a1 k1 c1, .int .u64 (sd : Int), .slice a2 k2 c2], .agg #[.int .i64 (n : Int), .int .i64 (s : Int), .int .i64 (q : Int), .int .u32 (id : Int)]] w fun e w' =>
      ∃ a3 c3 a4 c4, e = .returned (.tuple #[.agg #[.slice a3 q c3, .slice a4 s c4], .int .i64 0]) ∧ Bs w' a3 q c3 (rowVec m lb sd q) ∧ Bs w' a4 s c4 lp ∧ Gr w w') := by
    show ∀ a1 k1 c1 a2 k2 c2 w, _
    intro a1 k1 c1 a2 k2 c2 w h1 h2
    have e1 := h1.1
    have e2 := h2.1
    rw [hlps] at e2
    subst e1 e2
    rw [hlps] at hfit
    refine (packEq_ok n s q id m nn lb.length s sd hsd (by omega) (by omega) (by omega) (by omega) a1 a2 c1 c2 _ _ w h1 h2 (by omega) (by omega) (by omega) hfit).mono ?_
    rintro e w' ⟨a3, c3, a4, c4, he, ho3, ho4, hg⟩
    exact ⟨a3, c3, a4, c4, he, ho3.bs2.1, ho4.bs2.1, hg⟩
  have HPUT := Lib.hid fun a3 c3 a4 c4 w hE h1 h2 => elimPut_all E q s S hSE V D hD hRed hVlt a3 c3 v a4 c4 w hE h1 h2 hq1 (by omega) hs1 hsm
  rw [hDv] at HPUT
  rw [hrv] at HQ
  obtain ⟨V', eV'⟩ : ∃ x, putV V v = x := ⟨_, rfl⟩
  rw [eV'] at HPUT ⊢
  have hRed' : Red V' q := by rw [← eV']; exact (hRed.put hvl).1
  have HRED := Lib.hid hRed'
  have HST := Lib.hid hST
  have HSE := Lib.hid hSE
  have HSLT := Lib.hid hSlt
  have hTl : T < w.heap.size := lt_of_block hT
  have hEl : E < w.heap.size := hSlt E hSE
  obtain ⟨t0, t1, t2, t3, t4, t5, t6, tf⟩ := seven_cells hT
  have HT := Lib.hid htab
  have HS := Lib.hid hs
  have HTA := Lib.hid hT
  have HGA := Lib.hid hG
  have HE0 := Lib.hid hEE
  clear hpe hpg hfit hvl eV' htab hs hT hG hEE hlps hlb hRed hRed' hST hSE hSlt hD hrv elp hDv hVq
  go_enter Tryz.func16, Tryz.ntmps16
  go_wp2_with fail
  refine (HL.out w HT.out HS.out HGA.out).mono ?_
  rintro e w1 ⟨g', a1, k1, c1, a2, k2, c2, rfl, hga, hb1, hb2, hg⟩
  go_wp2_with (with_reducible refine wpList_hold (o := ⟨none, .store 96 _ _, _, _, _, _⟩) ?_)
  change wpList _ _ _ _ _ _
  go_step
  go_step
  have hal1 := ((Gr.refl w1).alloc (.cells #[.int .i64 (n : Int), .int .i64 (s : Int), .int .i64 (q : Int), .int .u32 (id : Int), .map (some g')] 102)).alloc (.cells #[.int .u8 (m : Int), .int .u32 (id : Int), .int .u32 (nn : Int), .int .u8 (m : Int), .slice a1 k1 c1, .int .u64 (sd : Int), .slice a2 k2 c2] 96)
  have hG1 := Gr.heap ((Gr.refl _).alloc (.cells #[.int .u8 (m : Int), .int .u32 (id : Int), .int .u32 (nn : Int), .int .u8 (m : Int), .slice a1 k1 c1, .int .u64 (sd : Int), .slice a2 k2 c2] 96)) (heap_alloc_new w1 (.cells #[.int .i64 (n : Int), .int .i64 (s : Int), .int .i64 (q : Int), .int .u32 (id : Int), .map (some g')] 102))
  have hK1 := heap_alloc_new (w1.alloc (.cells #[.int .i64 (n : Int), .int .i64 (s : Int), .int .i64 (q : Int), .int .u32 (id : Int), .map (some g')] 102)) (.cells #[.int .u8 (m : Int), .int .u32 (id : Int), .int .u32 (nn : Int), .int .u8 (m : Int), .slice a1 k1 c1, .int .u64 (sd : Int), .slice a2 k2 c2] 96)
  rw [World.size_alloc] at hK1
  obtain ⟨W1, eW⟩ : ∃ W, (w1.alloc (.cells #[.int .i64 (n : Int), .int .i64 (s : Int), .int .i64 (q : Int), .int .u32 (id : Int), .map (some g')] 102)).alloc (.cells #[.int .u8 (m : Int), .int .u32 (id : Int), .int .u32 (nn : Int), .int .u8 (m : Int), .slice a1 k1 c1, .int .u64 (sd : Int), .slice a2 k2 c2] 96) = W := ⟨_, rfl⟩
  rw [eW] at hal1 hG1 hK1 ⊢
  clear eW
  have hal := hg.trans hal1
  have HTA1 := Lib.hid (HTA.out.gr hal)
  have HGA1 := Lib.hid (hga.gr hal1)
  have HW1 := Lib.hid hal
  obtain ⟨x0, x1, x2, x3, x4, xf⟩ := five_cells hG1
  obtain ⟨t0, t1, t2, t3, t4, t5, t6, tf⟩ := seven_cells HTA1.out
  have hww1 : w.heap.size ≤ w1.heap.size := hg.size
  have hTw : T < w1.heap.size := by have h1 := lt_of_block HTA.out; have := hg.size; omega
  have hEw : E < w1.heap.size := by have := hg.size; omega
  obtain ⟨hta, hgb⟩ := HTA1.out.gate (some g')
  have HTA2 := Lib.hid hta
  have HGB := Lib.hid ((GrB.of_gr (b := T) HW1.out).trans hgb)
  have HGA2 := Lib.hid (HGA1.out.grb hgb (GateAt.ne HGA1.out HTA1.out))
  have HGG2 := Lib.hid (hgb.heap hG1 (by omega))
  have HK2 := Lib.hid (hgb.heap hK1 (by omega))
  have HE2 := Lib.hid ((HE0.out.gr hal).gapT HTA1.out hgb hTE HST.out)
  have HB1 := Lib.hid (HTA1.out.bs (hb1.below hal1) hgb)
  have HB2 := Lib.hid (HTA1.out.bs (hb2.below hal1) hgb)
  obtain ⟨k0, k1', k2', k3, k4, k5, k6, -⟩ := seven_cells HK2.out
  obtain ⟨y0, y1, y2, y3, -, -⟩ := five_cells HGG2.out
  obtain ⟨-, -, -, -, -, -, r6, -⟩ := seven_cells HTA2.out
  clear hg hal hal1 hga hb1 hb2 hG1 hK1 hta hgb HTA1 HGA1
  go_wp2_with fail
  obtain ⟨W2, eW⟩ : ∃ W, (((((W1.setCell ⟨T, 0, none⟩ (.int .i64 (n : Int))).setCell ⟨T, 1, none⟩ (.int .i64 (s : Int))).setCell ⟨T, 2, none⟩ (.int .i64 (q : Int))).setCell ⟨T, 3, none⟩ (.int .u32 (id : Int))).setCell ⟨T, 4, none⟩ (.map (some g'))) = W := ⟨_, rfl⟩
  rw [eW] at HTA2 HGB HGA2 HGG2 HK2 HE2 HB1 HB2 ⊢
  clear eW k0 k1' k2' k3 k4 k5 k6 y0 y1 y2 y3 r6 x0 x1 x2 x3 x4 xf t0 t1 t2 t3 t4 t5 t6 tf
  refine (HQ.out a1 k1 c1 a2 k2 c2 W2 HB1.out HB2.out).mono ?_
  rintro e w3 ⟨a3, c3, a4, c4, rfl, hb3, hb4, hg⟩
  have hal1 := (Gr.refl w3).alloc (.cells #[.slice a3 q c3, .slice a4 s c4] 113)
  have hR3 := heap_alloc_new w3 (.cells #[.slice a3 q c3, .slice a4 s c4] 113)
  go_wp2
  obtain ⟨W3, eW⟩ : ∃ W, w3.alloc (.cells #[.slice a3 q c3, .slice a4 s c4] 113) = W := ⟨_, rfl⟩
  rw [eW] at hal1 hR3 ⊢
  clear eW
  have hal := hg.trans hal1
  have HB3 := Lib.hid (hb3.below hal1)
  have HB4 := Lib.hid (hb4.below hal1)
  have HTA3 := Lib.hid (HTA2.out.gr hal)
  have HGA3 := Lib.hid (HGA2.out.gr hal)
  have HGB3 := Lib.hid (HGB.out.gr hal)
  have HGG3 := Lib.hid (hal.heap HGG2.out)
  have HE3 := Lib.hid (HE2.out.gr hal)
  obtain ⟨-, -, -, -, -, r5, -, -⟩ := seven_cells HTA3.out
  obtain ⟨z0, z1, -⟩ := two_cells hR3
  have hTE' : T ≠ E := fun e => hTE e.symm
  have hw3 : w.heap.size ≤ w3.heap.size := by have h1 := HW1.out.size; have h2 := HGB.out.size; have h3 := hg.size; omega
  have hSw3 : ¬ S w3.heap.size := fun h => by have := HSLT.out _ h; omega
  have R5 := Lib.hid r5
  have Z0 := Lib.hid z0
  have Z1 := Lib.hid z1
  clear hg hal1 hR3 hal hb3 hb4 HTA2 HGA2 HGB HGG2 HE2 HB1 HB2 HK2
  go_region_held3 (fun W => W.cell? ⟨T, 5, none⟩ = some (.pointer (some ⟨E, 0, none⟩)) ∧ W.cell? ⟨w3.heap.size, 0, none⟩ = some (.slice a3 q c3) ∧ W.cell? ⟨w3.heap.size, 1, none⟩ = some (.slice a4 s c4)) (first | go_keep | exact ⟨q5, q0, q1⟩) ((first
    | (go_at_call 41; refine (HPUT.out a3 c3 a4 c4 W3.drew (HE3.out.gr (Gr.refl W3).drew) (HB3.out.below (Gr.refl W3).drew) (HB4.out.below (Gr.refl W3).drew)).mono ?_; rintro e w6 ⟨c, hc, rfl, hst, hg6⟩; have q5 := hg6.cell (show W3.drew.cell? _ = _ from R5.out) HST.out; have q0 := hg6.cell (show W3.drew.cell? _ = _ from Z0.out) hSw3; have q1 := hg6.cell (show W3.drew.cell? _ = _ from Z1.out) hSw3)))
  have hTA6 : TakAt w6 T E n s q id (some g') 0 := hg6.heap (show W3.drew.heap[T]? = _ from HTA3.out) HST.out
  have hGA6 : GateAt w6 (some g') (0 :: es) := GateAt.grS (w := W3.drew) (HGA3.out.gr (Gr.refl W3).drew) hg6
  have hw1S : ¬ S w1.heap.size := fun h => by have := HSLT.out _ h; omega
  have hGG6 := hg6.heap (show W3.drew.heap[w1.heap.size]? = _ from HGG3.out) hw1S
  have hW3s : w.heap.size ≤ W3.drew.heap.size := by have := HGB3.out.size; exact this
  have hall : GrS (fun b => b = T ∨ S b) w w6 := ((GrS.of_grT HTA.out HGB3.out (.inl rfl)).gr (Gr.refl W3).drew).trans hg6 fun b hb => .inl (.inr hb)
  obtain ⟨r, ar, cr, er, hE6⟩ := hst.cells
  have HFRE := Lib.hid (show ∀ b, exS S W3.drew.heap.size b → S b ∨ w.heap.size ≤ b from fun b hb => hb.elim .inl fun h => .inr (Nat.le_trans hW3s h))
  have hTex : ¬ exS S W3.drew.heap.size T := fun h => h.elim HST.out fun h => by omega
  have HTEX := Lib.hid hTex
  have HR6 := Lib.hid (elimRank_any E q s r cr ar w6 hE6)
  have HR6' := Lib.hid fun (nq : Nat) => elimRank_any E q s r cr ar (w6.drewN nq) (((Gr.refl w6).drewN nq).heap hE6)
  obtain ⟨-, -, -, -, -, v5, v6, vf⟩ := seven_cells hTA6
  obtain ⟨-, -, g2, -, -, -⟩ := five_cells hGG6
  have HTA6 := Lib.hid hTA6
  have HGA6 := Lib.hid hGA6
  have HALL := Lib.hid hall
  have HST6 := Lib.hid hst
  have HER := Lib.hid er
  have hr1 : (r : Int) ≤ 4096 := by rw [er]; have := HRED.out.ech.rank_k; omega
  have hc2 : ((c : Int) == 2) = false := by rw [beq_eq_false_iff_ne]; omega
  clear hTA6 hGA6 hGG6 hall hE6 hst er hg6 hTex hW3s q5 q0 q1 r5 z0 z1 HTA3 HGA3 HGG3 HE3 HB3 HB4 HPUT HL HQ HGB3
  by_cases hrq : r = q
  · have hrq' : ((r : Int) == (q : Int)) = true := by rw [beq_iff_eq, hrq]
    have hfin : (if V'.length = q then 1 else 0) = 1 := if_pos (by rw [← HER.out]; exact hrq)
    have HFIN := Lib.hid hfin
    clear hfin hrq
    go_wp2_with fail
    go_quiet ((go_at_call 42; refine Calls.quiet_of_same ((HR6'.out _).mono fun _ _ ⟨h1, h2⟩ => ⟨h1, h2.symm⟩)))
    obtain ⟨W6, eW⟩ : ∃ W, w6.drewN nq = W := ⟨_, rfl⟩
    have hg7 := (Gr.refl w6).drewN nq
    rw [eW] at hg7 ⊢
    clear eW
    obtain ⟨hta, hgb⟩ := (HTA6.out.gr hg7).status 1
    have HTA7 := Lib.hid hta
    have HGA7 := Lib.hid ((HGA6.out.gr hg7).grb hgb (GateAt.ne (HGA6.out.gr hg7) (HTA6.out.gr hg7)))
    have HST7 := Lib.hid ((HST6.out.gr hg7).gapT (HTA6.out.gr hg7) hgb hTE HTEX.out)
    have HALL7 := Lib.hid ((HALL.out.gr hg7).grbT (HTA6.out.gr hg7) hgb (.inl (.inl rfl)))
    obtain ⟨-, -, -, -, -, -, y6, yf⟩ := seven_cells (HTA6.out.gr hg7)
    clear hg7 hta hgb v5 v6 vf g2
    go_wp2
    first | go_ret | go_ret2
    exact TakePost.mk g' (0 :: es) 1 rfl HFIN HTA7.out HGA7.out (by simp; omega) HST7.out HSE.out HTEX.out HFRE.out HRED.out hs1 hq1 HALL7.out (exS.inl _ HSE.out)
  · have hrq' : ((r : Int) == (q : Int)) = false := by rw [beq_eq_false_iff_ne]; omega
    have hfin : (if V'.length = q then 1 else 0) = 0 := if_neg (by rw [← HER.out]; exact hrq)
    have HFIN := Lib.hid hfin
    clear hfin hrq
    go_wp2_with fail
    go_quiet ((go_at_call 42; refine Calls.quiet_of_same ((HR6'.out _).mono fun _ _ ⟨h1, h2⟩ => ⟨h1, h2.symm⟩)))
    have hg7 := (Gr.refl w6).drewN nq
    have HF := Lib.hid (show _ ∧ _ ∧ _ ∧ _ from ⟨HTA6.out.gr hg7, HGA6.out.gr hg7, HST6.out.gr hg7, HALL.out.gr hg7⟩)
    clear hg7 v5 v6 vf g2
    go_wp2
    first | go_ret | go_ret2
    exact TakePost.mk g' (0 :: es) 0 rfl HFIN HF.out.1 HF.out.2.1 (by simp; omega) HF.out.2.2.1 HSE.out HTEX.out HFRE.out HRED.out hs1 hq1 HF.out.2.2.2 (exS.inl _ HSE.out)
end Go.Proofs.YtddopoojmadpjaaGreatDoor
