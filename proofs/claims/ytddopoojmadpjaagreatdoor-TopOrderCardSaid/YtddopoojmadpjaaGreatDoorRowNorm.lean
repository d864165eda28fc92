/-
  Plain linear algebra over the field of 256 bytes: spans, rows that lead, what is left of a vector, and that reduced rows are one.
  Combinations: of rows by bytes, as functions; data that hang on vectors; a relay's combinations have the rank of its draws.
  The walks of package vec's rows: Lead, At, Zero, Clone, Norm, Less; of kern.Zero, Scale, Axpy; of field.Inv.
  The walks of field.power and field.Inv (cut out of XField and XFieldInv, for seats without the others).
  The walks of a row's Clone, Norm and Less.
-/
import Derived.Test.YtddopoojmadpjaaGreatDoorFieldPlain
import Derived.Test.YtddopoojmadpjaaGreatDoorKernComb
import Derived.Test.YtddopoojmadpjaaGreatDoorVec
import Derived.Test.YtddopoojmadpjaaGreatDoorFieldMul
import Derived.Test.YtddopoojmadpjaaGreatDoorHead
namespace Go.Proofs.YtddopoojmadpjaaGreatDoor
set_option linter.unusedVariables false

/-- bytes as a field. -/
def bmul (a b : UInt8) : UInt8 := UInt8.ofNat (fmul a.toNat b.toNat)
def binv (a : UInt8) : UInt8 := UInt8.ofNat (finv a.toNat)
theorem bmul_toNat (a b : UInt8) : (bmul a b).toNat = fmul a.toNat b.toNat := by
  unfold bmul; rw [UInt8.toNat_ofNat']; exact Nat.mod_eq_of_lt (fmul_lt a.toNat_lt _)
theorem binv_toNat (a : UInt8) : (binv a).toNat = finv a.toNat := by
  unfold binv; rw [UInt8.toNat_ofNat']; exact Nat.mod_eq_of_lt (finv_lt _)
theorem bmul_comm (a b : UInt8) : bmul a b = bmul b a := by
  apply UInt8.toNat_inj.1; rw [bmul_toNat, bmul_toNat, fmul_comm a.toNat_lt b.toNat_lt]
theorem bmul_assoc (a b c : UInt8) : bmul (bmul a b) c = bmul a (bmul b c) := by
  apply UInt8.toNat_inj.1; simp only [bmul_toNat]; exact fmul_assoc a.toNat_lt b.toNat_lt c.toNat_lt
theorem bmul_xor (a b c : UInt8) : bmul a (b ^^^ c) = bmul a b ^^^ bmul a c := by
  apply UInt8.toNat_inj.1; simp only [bmul_toNat, UInt8.toNat_xor]; exact fmul_xor' _ _ _
theorem xor_bmul (a b c : UInt8) : bmul (a ^^^ b) c = bmul a c ^^^ bmul b c := by
  rw [bmul_comm, bmul_xor, bmul_comm c, bmul_comm c]
theorem bmul_zero (a : UInt8) : bmul a 0 = 0 := by
  apply UInt8.toNat_inj.1; rw [bmul_toNat]; exact Go.Proofs.YtddopoojmadpjaaGreatDoor.fmul_zero _
theorem zero_bmul (a : UInt8) : bmul 0 a = 0 := by rw [bmul_comm, bmul_zero]
theorem bmul_one (a : UInt8) : bmul a 1 = a := by
  apply UInt8.toNat_inj.1; rw [bmul_toNat]; exact fmul_one a.toNat_lt
theorem one_bmul (a : UInt8) : bmul 1 a = a := by rw [bmul_comm, bmul_one]
theorem u8_ne_zero {a : UInt8} (h : a ≠ 0) : a.toNat ≠ 0 := fun e => h (UInt8.toNat_inj.1 e)
theorem binv_bmul {a : UInt8} (h : a ≠ 0) : bmul (binv a) a = 1 := by
  apply UInt8.toNat_inj.1; rw [bmul_toNat, binv_toNat]; exact finv_fmul a.toNat_lt (u8_ne_zero h)
theorem bmul_eq_zero {a b : UInt8} (h : bmul a b = 0) (hb : b ≠ 0) : a = 0 := by
  apply UInt8.toNat_inj.1
  refine fmul_eq_zero a.toNat_lt b.toNat_lt ?_ (u8_ne_zero hb)
  rw [← bmul_toNat, h]; rfl
theorem binv_ne {a : UInt8} (h : a ≠ 0) : binv a ≠ 0 := by
  intro e; have h1 := binv_bmul h; rw [e, zero_bmul] at h1; exact absurd h1 (by decide)
theorem xor_zero8 (a : UInt8) : a ^^^ 0 = a := UInt8.xor_zero
theorem zero_xor8 (a : UInt8) : 0 ^^^ a = a := UInt8.zero_xor
theorem xor_self8 (a : UInt8) : a ^^^ a = 0 := UInt8.xor_self

/-- vectors as functions. -/
abbrev Vf := Nat → UInt8
def axf (c : UInt8) (x y : Vf) : Vf := fun i => y i ^^^ bmul c (x i)
theorem axf_zero (c : UInt8) (y : Vf) : axf c (fun _ => 0) y = y := by funext i; simp only [axf, bmul_zero, xor_zero8]
theorem axf_0 (x y : Vf) : axf 0 x y = y := by funext i; simp only [axf, zero_bmul, xor_zero8]
theorem axf_1 (x : Vf) : axf 1 x (fun _ => 0) = x := by funext i; simp only [axf, one_bmul, zero_xor8]
theorem axf_axf (c d : UInt8) (x y w : Vf) : axf c (axf d x y) w = axf (bmul c d) x (axf c y w) := by
  funext i; simp only [axf, bmul_xor, bmul_assoc, UInt8.xor_assoc]
theorem axf_comm (c d : UInt8) (x y w : Vf) : axf c x (axf d y w) = axf d y (axf c x w) := by
  funext i; simp only [axf, UInt8.xor_assoc]; rw [UInt8.xor_comm (bmul d (y i))]
theorem axf_twice (c : UInt8) (x y : Vf) : axf c x (axf c x y) = y := by
  funext i; simp only [axf, UInt8.xor_assoc, xor_self8, xor_zero8]

/-- the span. -/
inductive Sp (S : Vf → Prop) : Vf → Prop
  | zero : Sp S (fun _ => 0)
  | step {x y : Vf} (c : UInt8) : S x → Sp S y → Sp S (axf c x y)
theorem Sp.ax {S : Vf → Prop} {u w : Vf} (c : UInt8) (hu : Sp S u) (hw : Sp S w) : Sp S (axf c u w) := by
  induction hu with
  | zero => rw [axf_zero]; exact hw
  | step d hx _ ih => rw [axf_axf]; exact Sp.step _ hx ih
theorem Sp.mem {S : Vf → Prop} {x : Vf} (h : S x) : Sp S x := by rw [← axf_1 x]; exact Sp.step 1 h Sp.zero
theorem Sp.mono {S T : Vf → Prop} {u : Vf} (h : ∀ x, S x → Sp T x) (hu : Sp S u) : Sp T u := by
  induction hu with
  | zero => exact Sp.zero
  | step d hx _ ih => exact Sp.ax d (h _ hx) ih
theorem Sp.vanish {S : Vf → Prop} {u : Vf} {i : Nat} (h : ∀ x, S x → x i = 0) (hu : Sp S u) : u i = 0 := by
  induction hu with
  | zero => rfl
  | step d hx _ ih => show _ ^^^ bmul d _ = 0; rw [ih, h _ hx, bmul_zero]; rfl
/-- a linear map takes the span to the span. -/
theorem Sp.map {S T : Vf → Prop} {u : Vf} (f : Vf → Vf) (h0 : f (fun _ => 0) = fun _ => 0) (ha : ∀ c x y, f (axf c x y) = axf c (f x) (f y)) (h : ∀ x, S x → Sp T (f x)) (hu : Sp S u) : Sp T (f u) := by
  induction hu with
  | zero => rw [h0]; exact Sp.zero
  | step d hx _ ih => rw [ha]; exact Sp.ax d (h _ hx) ih
/-- .. and each of the image's span comes from the span. -/
theorem Sp.back {S : Vf → Prop} {z : Vf} (f : Vf → Vf) (h0 : f (fun _ => 0) = fun _ => 0) (ha : ∀ c x y, f (axf c x y) = axf c (f x) (f y)) (hz : Sp (fun y => ∃ x, S x ∧ y = f x) z) : ∃ u, Sp S u ∧ z = f u := by
  induction hz with
  | zero => exact ⟨_, Sp.zero, h0.symm⟩
  | step d hx _ ih =>
    obtain ⟨x, hs, rfl⟩ := hx
    obtain ⟨u, hu, rfl⟩ := ih
    exact ⟨axf d x u, Sp.step d hs hu, (ha _ _ _).symm⟩

/-- lists as functions. -/
def fn (l : List UInt8) : Vf := fun i => l.getD i 0
theorem fn_ge {l : List UInt8} {i : Nat} (h : l.length ≤ i) : fn l i = 0 := by
  unfold fn; rw [List.getD_eq_getElem?_getD, List.getElem?_eq_none h]; rfl
theorem fn_lt {l : List UInt8} {i : Nat} (h : i < l.length) : fn l i = l[i] := by
  unfold fn; rw [List.getD_eq_getElem?_getD, List.getElem?_eq_getElem h]; rfl
theorem fn_ext {l m : List UInt8} (hl : l.length = m.length) (h : ∀ i, fn l i = fn m i) : l = m := by
  apply List.ext_getElem hl
  intro i h1 h2
  rw [← fn_lt h1, ← fn_lt h2]; exact h i
theorem fn_ext' {l m : List UInt8} (hl : l.length = m.length) (h : fn l = fn m) : l = m := fn_ext hl fun i => by rw [h]
/-- y and c times x. -/
def axl (c : UInt8) (x y : List UInt8) : List UInt8 := List.zipWith (fun s r => s ^^^ bmul c r) y x
theorem axl_length {c : UInt8} {x y : List UInt8} (h : x.length = y.length) : (axl c x y).length = y.length := by simp [axl, h]
theorem fn_axl {c : UInt8} {x y : List UInt8} (h : x.length = y.length) : fn (axl c x y) = axf c (fn x) (fn y) := by
  funext i
  show fn (axl c x y) i = fn y i ^^^ bmul c (fn x i)
  by_cases hi : i < y.length
  · rw [fn_lt (by rw [axl_length h]; exact hi), fn_lt hi, fn_lt (by rw [h]; exact hi)]
    simp [axl]
  · rw [fn_ge (by rw [axl_length h]; omega), fn_ge (by omega), fn_ge (by omega), bmul_zero]; rfl
theorem axl_zero {x y : List UInt8} (h : x.length = y.length) : axl 0 x y = y :=
  fn_ext' (axl_length h) (by rw [fn_axl h, axf_0])

/-- the first place that isn't 0. -/
def leadL (l : List UInt8) : Nat := l.findIdx (· != 0)
def Lead (v : Vf) (p : Nat) : Prop := v p ≠ 0 ∧ ∀ j, j < p → v j = 0
theorem Lead.one {v : Vf} {p q : Nat} (h : Lead v p) (g : Lead v q) : p = q := by
  rcases Nat.lt_trichotomy p q with hlt | heq | hgt
  · exact absurd (g.2 p hlt) h.1
  · exact heq
  · exact absurd (h.2 q hgt) g.1
theorem leadL_lead {l : List UInt8} (h : leadL l < l.length) : Lead (fn l) (leadL l) := by
  refine ⟨?_, fun j hj => ?_⟩
  · have h1 := List.findIdx_getElem (w := h)
    rw [fn_lt h]; simp at h1; exact h1
  · have h1 := List.not_of_lt_findIdx hj
    have hj' : j < l.length := Nat.lt_trans hj h
    rw [fn_lt hj']; simpa using h1
theorem leadL_le (l : List UInt8) : leadL l ≤ l.length := List.findIdx_le_length
theorem leadL_zero {l : List UInt8} (h : leadL l = l.length) (i : Nat) : fn l i = 0 := by
  by_cases hi : i < l.length
  · have h1 := List.not_of_lt_findIdx (p := (· != 0)) (xs := l) (i := i) (by unfold leadL at h; omega)
    rw [fn_lt hi]; simpa using h1
  · exact fn_ge (by omega)
theorem leadL_of {l : List UInt8} {p : Nat} (h : Lead (fn l) p) : leadL l = p := by
  have hle := leadL_le l
  by_cases hl : leadL l < l.length
  · exact (leadL_lead hl).one h
  · exact absurd (leadL_zero (by omega) p) h.1
theorem Lead.lt {l : List UInt8} {p : Nat} (h : Lead (fn l) p) : p < l.length := by
  by_cases hp : p < l.length
  · exact hp
  · exact absurd (fn_ge (by omega)) h.1

/-- the vectors of a list. -/
def In (V : List (List UInt8)) : Vf → Prop := fun x => ∃ v, v ∈ V ∧ x = fn v
theorem sp_cons {v : List UInt8} {V : List (List UInt8)} {w : Vf} (h : Sp (In (v :: V)) w) : ∃ c y, Sp (In V) y ∧ w = axf c (fn v) y := by
  induction h with
  | zero => exact ⟨0, _, Sp.zero, by rw [axf_0]⟩
  | step d hx _ ih =>
    obtain ⟨c, y, hy, rfl⟩ := ih
    obtain ⟨u, hu, rfl⟩ := hx
    rcases List.mem_cons.1 hu with rfl | hu
    · refine ⟨c ^^^ d, y, hy, ?_⟩
      funext i; simp only [axf, xor_bmul, UInt8.xor_assoc]
    · exact ⟨c, axf d (fn u) y, Sp.step d ⟨u, hu, rfl⟩ hy, axf_comm _ _ _ _ _⟩

/-- rows of one length that lead with 1, at unlike places. -/
structure Ech (V : List (List UInt8)) (k : Nat) : Prop where
  len : ∀ v, v ∈ V → v.length = k
  lt : ∀ v, v ∈ V → leadL v < k
  one : ∀ v, v ∈ V → fn v (leadL v) = 1
  dist : V.Pairwise fun a b => leadL a ≠ leadL b
theorem Ech.lead {V : List (List UInt8)} {k : Nat} (h : Ech V k) {v : List UInt8} (hv : v ∈ V) : Lead (fn v) (leadL v) := leadL_lead (by rw [h.len v hv]; exact h.lt v hv)
theorem Ech.tail {v : List UInt8} {V : List (List UInt8)} {k : Nat} (h : Ech (v :: V) k) : Ech V k :=
  ⟨fun u hu => h.len u (List.mem_cons_of_mem _ hu), fun u hu => h.lt u (List.mem_cons_of_mem _ hu), fun u hu => h.one u (List.mem_cons_of_mem _ hu), (List.pairwise_cons.1 h.dist).2⟩
/-- each of their combinations leads where one of them does. -/
theorem Ech.leads : ∀ {V : List (List UInt8)} {k : Nat} (_ : Ech V k) {w : Vf}, Sp (In V) w → (∀ i, w i = 0) ∨ ∃ v, v ∈ V ∧ Lead w (leadL v)
  | [], k, h, w, hw => by
    refine .inl fun i => Sp.vanish (fun x hx => ?_) hw
    obtain ⟨v, hv, _⟩ := hx; cases hv
  | v :: V, k, h, w, hw => by
    obtain ⟨c, y, hy, rfl⟩ := sp_cons hw
    have hl := h.lead (List.mem_cons_self)
    have hd := (List.pairwise_cons.1 h.dist).1
    by_cases hc : c = 0
    · rw [hc, axf_0]
      rcases Ech.leads h.tail hy with h0 | ⟨u, hu, hu'⟩
      · exact .inl h0
      · exact .inr ⟨u, List.mem_cons_of_mem _ hu, hu'⟩
    · have hcv : bmul c (fn v (leadL v)) ≠ 0 := fun e => hc (bmul_eq_zero e hl.1)
      rcases Ech.leads h.tail hy with h0 | ⟨u, hu, hu'⟩
      · refine .inr ⟨v, List.mem_cons_self, ?_, fun j hj => ?_⟩
        · show y _ ^^^ bmul c _ ≠ 0; rw [h0, zero_xor8]; exact hcv
        · show y _ ^^^ bmul c _ = 0; rw [h0, hl.2 j hj, bmul_zero]; rfl
      · have hne := hd u hu
        rcases Nat.lt_or_ge (leadL v) (leadL u) with hlt | hge
        · refine .inr ⟨v, List.mem_cons_self, ?_, fun j hj => ?_⟩
          · show y _ ^^^ bmul c _ ≠ 0; rw [hu'.2 _ hlt, zero_xor8]; exact hcv
          · show y _ ^^^ bmul c _ = 0; rw [hu'.2 j (by omega), hl.2 j hj, bmul_zero]; rfl
        · have hlt : leadL u < leadL v := by omega
          refine .inr ⟨u, List.mem_cons_of_mem _ hu, ?_, fun j hj => ?_⟩
          · show y _ ^^^ bmul c _ ≠ 0; rw [hl.2 _ hlt, bmul_zero, xor_zero8]; exact hu'.1
          · show y _ ^^^ bmul c _ = 0; rw [hu'.2 j hj, hl.2 j (by omega), bmul_zero]; rfl
theorem Ech.zero {V : List (List UInt8)} {k : Nat} (h : Ech V k) {w : Vf} (hw : Sp (In V) w) (h0 : ∀ v, v ∈ V → w (leadL v) = 0) : w = fun _ => 0 := by
  rcases h.leads hw with hz | ⟨v, hv, hl⟩
  · funext i; exact hz i
  · exact absurd (h0 v hv) hl.1

/-- a list without repeats in another one is no longer. -/
theorem nodup_le {α : Type} [DecidableEq α] : ∀ {l m : List α}, l.Nodup → (∀ x, x ∈ l → x ∈ m) → l.length ≤ m.length
  | [], _, _, _ => Nat.zero_le _
  | a :: l, m, hn, hs => by
    have ha := hs a List.mem_cons_self
    have h1 := nodup_le (l := l) (m := m.erase a) (List.nodup_cons.1 hn).2 fun x hx =>
      (List.mem_erase_of_ne (fun e => (List.nodup_cons.1 hn).1 (by rw [← e]; exact hx))).2 (hs x (List.mem_cons_of_mem _ hx))
    rw [List.length_erase_of_mem ha] at h1
    have := List.length_pos_of_mem ha
    simp only [List.length_cons]; omega
theorem Ech.nodup {V : List (List UInt8)} {k : Nat} (h : Ech V k) : (V.map leadL).Nodup := List.pairwise_map.2 h.dist
/-- THE RANK IS THE SPAN'S. -/
theorem Ech.rank_le {V W : List (List UInt8)} {k k' : Nat} (hV : Ech V k) (hW : Ech W k') (h : ∀ v, v ∈ V → Sp (In W) (fn v)) : V.length ≤ W.length := by
  have := nodup_le hV.nodup (m := W.map leadL) fun p hp => by
    obtain ⟨v, hv, rfl⟩ := List.mem_map.1 hp
    rcases hW.leads (h v hv) with h0 | ⟨u, hu, hl⟩
    · exact absurd (h0 _) (hV.lead hv).1
    · rw [(hV.lead hv).one hl]; exact List.mem_map_of_mem hu
  simpa using this
theorem Ech.rank_eq {V W : List (List UInt8)} {k k' : Nat} (hV : Ech V k) (hW : Ech W k') (h : ∀ v, v ∈ V → Sp (In W) (fn v)) (h' : ∀ v, v ∈ W → Sp (In V) (fn v)) : V.length = W.length :=
  Nat.le_antisymm (hV.rank_le hW h) (hW.rank_le hV h')
theorem Ech.rank_k {V : List (List UInt8)} {k : Nat} (hV : Ech V k) : V.length ≤ k := by
  have := nodup_le hV.nodup (m := List.range k) fun p hp => by
    obtain ⟨v, hv, rfl⟩ := List.mem_map.1 hp
    exact List.mem_range.2 (hV.lt v hv)
  simpa using this

/-- reduced rows, by the places where they lead. -/
structure Red (V : List (List UInt8)) (k : Nat) : Prop where
  len : ∀ v, v ∈ V → v.length = k
  lt : ∀ v, v ∈ V → leadL v < k
  one : ∀ v, v ∈ V → fn v (leadL v) = 1
  inc : V.Pairwise fun a b => leadL a < leadL b
  nul : ∀ u, u ∈ V → ∀ v, v ∈ V → leadL u ≠ leadL v → fn v (leadL u) = 0
theorem Red.ech {V : List (List UInt8)} {k : Nat} (h : Red V k) : Ech V k := ⟨h.len, h.lt, h.one, h.inc.imp fun h => Nat.ne_of_lt h⟩
theorem Red.same_lead {V : List (List UInt8)} {k : Nat} (h : Red V k) {u v : List UInt8} (hu : u ∈ V) (hv : v ∈ V) (e : leadL u = leadL v) : u = v := by
  obtain ⟨i, hi, rfl⟩ := List.getElem_of_mem hu
  obtain ⟨j, hj, rfl⟩ := List.getElem_of_mem hv
  have hp := List.pairwise_iff_getElem.1 h.inc
  rcases Nat.lt_trichotomy i j with hlt | heq | hgt
  · have := hp i j hi hj hlt; omega
  · subst heq; rfl
  · have := hp j i hj hi hgt; omega
theorem inc_ext : ∀ {l m : List Nat}, l.Pairwise (· < ·) → m.Pairwise (· < ·) → (∀ x, x ∈ l ↔ x ∈ m) → l = m
  | [], [], _, _, _ => rfl
  | [], b :: m, _, _, h => by have := (h b).2 List.mem_cons_self; cases this
  | a :: l, [], _, _, h => by have := (h a).1 List.mem_cons_self; cases this
  | a :: l, b :: m, hl, hm, h => by
    obtain ⟨hl1, hl2⟩ := List.pairwise_cons.1 hl
    obtain ⟨hm1, hm2⟩ := List.pairwise_cons.1 hm
    have e : a = b := by
      rcases List.mem_cons.1 ((h a).1 List.mem_cons_self) with e | ha
      · exact e
      · rcases List.mem_cons.1 ((h b).2 List.mem_cons_self) with e | hb
        · exact e.symm
        · have := hl1 b hb; have := hm1 a ha; omega
    subst e
    rw [inc_ext hl2 hm2 fun x => ⟨fun hx => ?_, fun hx => ?_⟩]
    · rcases List.mem_cons.1 ((h x).1 (List.mem_cons_of_mem _ hx)) with e | hx'
      · have := hl1 x hx; omega
      · exact hx'
    · rcases List.mem_cons.1 ((h x).2 (List.mem_cons_of_mem _ hx)) with e | hx'
      · have := hm1 x hx; omega
      · exact hx'
/-- REDUCED ROWS ARE ONE. -/
theorem Red.unique {V W : List (List UInt8)} {k : Nat} (hV : Red V k) (hW : Red W k) (h : ∀ v, v ∈ V → Sp (In W) (fn v)) (h' : ∀ v, v ∈ W → Sp (In V) (fn v)) : V = W := by
  have hsub : ∀ {V W : List (List UInt8)}, Red V k → Red W k → (∀ v, v ∈ V → Sp (In W) (fn v)) → ∀ x, x ∈ V.map leadL → x ∈ W.map leadL := by
    intro V W hV hW h x hx
    obtain ⟨v, hv, rfl⟩ := List.mem_map.1 hx
    rcases hW.ech.leads (h v hv) with h0 | ⟨u, hu, hl⟩
    · exact absurd (h0 _) (hV.ech.lead hv).1
    · rw [(hV.ech.lead hv).one hl]; exact List.mem_map_of_mem hu
  have hleads : V.map leadL = W.map leadL :=
    inc_ext (List.pairwise_map.2 hV.inc) (List.pairwise_map.2 hW.inc) fun x => ⟨hsub hV hW h x, hsub hW hV h' x⟩
  have hlen : V.length = W.length := by simpa using congrArg List.length hleads
  apply List.ext_getElem hlen
  intro i h1 h2
  have e : leadL V[i] = leadL W[i] := by
    have := congrArg (fun l => l[i]?) hleads
    simpa [h1, h2] using this
  have m1 : V[i] ∈ V := List.getElem_mem h1
  have m2 : W[i] ∈ W := List.getElem_mem h2
  have hd : axf 1 (fn V[i]) (fn W[i]) = fun _ => 0 := by
    refine hW.ech.zero (Sp.ax 1 (h _ m1) (Sp.mem ⟨_, m2, rfl⟩)) fun u hu => ?_
    show fn W[i] _ ^^^ bmul 1 _ = 0
    rw [one_bmul]
    by_cases eu : leadL u = leadL W[i]
    · rw [eu, hW.one _ m2, ← e, hV.one _ m1]; rfl
    · have hmem : leadL u ∈ V.map leadL := by rw [hleads]; exact List.mem_map_of_mem hu
      obtain ⟨z, hz, ez⟩ := List.mem_map.1 hmem
      rw [hW.nul u hu _ m2 eu, ← ez, hV.nul z hz _ m1 (by rw [ez, e]; exact eu)]; rfl
  apply fn_ext (by rw [hV.len _ m1, hW.len _ m2])
  intro j
  have := congrFun hd j
  change fn W[i] j ^^^ bmul 1 (fn V[i] j) = 0 at this
  rw [one_bmul] at this
  exact (UInt8.xor_eq_zero_iff.1 this).symm

/-- what is left of a vector. -/
def restL : List (List UInt8) → List UInt8 → List UInt8
  | [], v => v
  | r :: V, v => restL V (axl (fn v (leadL r)) r v)
theorem restL_length : ∀ {V : List (List UInt8)} {v : List UInt8} {k : Nat}, (∀ r, r ∈ V → r.length = k) → v.length = k → (restL V v).length = k
  | [], _, _, _, hv => hv
  | r :: V, v, k, h, hv => restL_length (V := V) (fun r hr => h r (List.mem_cons_of_mem _ hr)) (by rw [axl_length (by rw [h r List.mem_cons_self, hv])]; exact hv)
theorem restL_add : ∀ {V : List (List UInt8)} {v : List UInt8} {k : Nat}, (∀ r, r ∈ V → r.length = k) → v.length = k → ∃ y, Sp (In V) y ∧ fn (restL V v) = axf 1 y (fn v)
  | [], v, _, _, _ => ⟨_, Sp.zero, by rw [axf_zero]; rfl⟩
  | r :: V, v, k, h, hv => by
    have hrv : r.length = v.length := by rw [h r List.mem_cons_self, hv]
    obtain ⟨y, hy, e⟩ := restL_add (V := V) (v := axl (fn v (leadL r)) r v) (fun r hr => h r (List.mem_cons_of_mem _ hr)) (by rw [axl_length hrv]; exact hv)
    refine ⟨axf (fn v (leadL r)) (fn r) y, Sp.step _ ⟨r, List.mem_cons_self, rfl⟩ (Sp.mono (fun x ⟨u, hu, hx⟩ => Sp.mem ⟨u, List.mem_cons_of_mem _ hu, hx⟩) hy), ?_⟩
    rw [restL, e, fn_axl hrv]
    funext i; simp only [axf, one_bmul, UInt8.xor_assoc]
    rw [UInt8.xor_comm (bmul _ _)]
theorem restL_keep : ∀ {V : List (List UInt8)} {v : List UInt8} {k p : Nat}, (∀ r, r ∈ V → r.length = k) → v.length = k → (∀ r, r ∈ V → fn r p = 0) → fn (restL V v) p = fn v p
  | [], _, _, _, _, _, _ => rfl
  | r :: V, v, k, p, h, hv, h0 => by
    have hrv : r.length = v.length := by rw [h r List.mem_cons_self, hv]
    rw [restL, restL_keep (V := V) (fun r hr => h r (List.mem_cons_of_mem _ hr)) (by rw [axl_length hrv]; exact hv) (fun r hr => h0 r (List.mem_cons_of_mem _ hr)), fn_axl hrv]
    show _ ^^^ bmul _ _ = _
    rw [h0 r List.mem_cons_self, bmul_zero, xor_zero8]
/-- later rows are 0 where earlier ones lead. -/
def Tri (V : List (List UInt8)) : Prop := V.Pairwise fun a b => fn b (leadL a) = 0
theorem restL_lead : ∀ {V : List (List UInt8)} {v : List UInt8} {k : Nat}, Ech V k → Tri V → v.length = k → ∀ u, u ∈ V → fn (restL V v) (leadL u) = 0
  | [], _, _, _, _, _, u, hu => by cases hu
  | r :: V, v, k, h, ht, hv, u, hu => by
    obtain ⟨ht1, ht2⟩ := List.pairwise_cons.1 ht
    have hrv : r.length = v.length := by rw [h.len r List.mem_cons_self, hv]
    rw [restL]
    rcases List.mem_cons.1 hu with rfl | hu
    · rw [restL_keep (k := k) (fun r hr => h.len r (List.mem_cons_of_mem _ hr)) (by rw [axl_length hrv]; exact hv) ht1, fn_axl hrv]
      show _ ^^^ bmul _ _ = _
      rw [h.one _ List.mem_cons_self, bmul_one, xor_self8]
    · exact restL_lead h.tail ht2 (by rw [axl_length hrv]; exact hv) u hu
theorem Red.tri {V : List (List UInt8)} {k : Nat} (h : Red V k) : Tri V :=
  List.Pairwise.imp_of_mem (fun ha hb hlt => h.nul _ ha _ hb (Nat.ne_of_lt hlt)) h.inc

/-- a row times the inverse of the byte at which it leads. -/
def scaleL (c : UInt8) (l : List UInt8) : List UInt8 := l.map (bmul c)
theorem scaleL_length (c : UInt8) (l : List UInt8) : (scaleL c l).length = l.length := by simp [scaleL]
theorem fn_scaleL (c : UInt8) (l : List UInt8) (i : Nat) : fn (scaleL c l) i = bmul c (fn l i) := by
  by_cases hi : i < l.length
  · rw [fn_lt (by rw [scaleL_length]; exact hi), fn_lt hi]; simp [scaleL]
  · rw [fn_ge (by rw [scaleL_length]; omega), fn_ge (by omega), bmul_zero]
theorem fn_scaleL' (c : UInt8) (l : List UInt8) : fn (scaleL c l) = axf c (fn l) (fun _ => 0) := by
  funext i; rw [fn_scaleL]; show _ = 0 ^^^ _; rw [zero_xor8]
def normC (l : List UInt8) : UInt8 := binv (fn l (leadL l))
def normL (l : List UInt8) : List UInt8 := scaleL (normC l) l
theorem normL_length (l : List UInt8) : (normL l).length = l.length := scaleL_length _ _
theorem normL_lead {l : List UInt8} (h : leadL l < l.length) : leadL (normL l) = leadL l ∧ fn (normL l) (leadL l) = 1 := by
  have hl := leadL_lead h
  refine ⟨leadL_of ⟨?_, fun j hj => ?_⟩, ?_⟩
  · rw [normL, fn_scaleL]; intro e; exact (binv_ne hl.1) (bmul_eq_zero e hl.1)
  · rw [normL, fn_scaleL, hl.2 j hj, bmul_zero]
  · rw [normL, fn_scaleL]; exact binv_bmul hl.1

/-- a row that is put behind the others (of a grid). -/
def keepL (V : List (List UInt8)) (v : List UInt8) : List (List UInt8) :=
  if leadL (restL V v) < (restL V v).length then V ++ [normL (restL V v)] else V
theorem sp_rest {V : List (List UInt8)} {v : List UInt8} {k : Nat} (h : ∀ r, r ∈ V → r.length = k) (hv : v.length = k) {S : Vf → Prop} (hS : ∀ x, In V x → Sp S x) : Sp S (fn (restL V v)) ↔ Sp S (fn v) := by
  obtain ⟨y, hy, e⟩ := restL_add h hv
  have hy' : Sp S y := Sp.mono hS hy
  refine ⟨fun hs => ?_, fun hs => ?_⟩
  · have e2 : fn v = axf 1 y (fn (restL V v)) := by rw [e, axf_twice]
    rw [e2]; exact Sp.ax 1 hy' hs
  · rw [e]; exact Sp.ax 1 hy' hs
theorem sp_norm {l : List UInt8} (h : leadL l < l.length) {S : Vf → Prop} : Sp S (fn (normL l)) ↔ Sp S (fn l) := by
  have hl := leadL_lead h
  refine ⟨fun hs => ?_, fun hs => ?_⟩
  · have e : fn l = axf (fn l (leadL l)) (fn (normL l)) (fun _ => 0) := by
      funext i
      show _ = 0 ^^^ bmul _ (fn (normL l) i)
      rw [zero_xor8, normL, fn_scaleL, ← bmul_assoc, bmul_comm (fn l (leadL l)), normC, binv_bmul hl.1, one_bmul]
    rw [e]; exact Sp.ax _ hs Sp.zero
  · rw [normL, fn_scaleL']; exact Sp.ax _ hs Sp.zero
theorem fn_nil {l : List UInt8} (h : ¬ leadL l < l.length) : fn l = fun _ => 0 := by
  funext i; have := leadL_le l; exact leadL_zero (by omega) i
theorem Ech.rest_zero {V : List (List UInt8)} {v : List UInt8} {k : Nat} (h : Ech V k) (ht : Tri V) (hv : v.length = k) : (¬ leadL (restL V v) < (restL V v).length) ↔ Sp (In V) (fn v) := by
  refine ⟨fun h0 => ?_, fun hs h0 => ?_⟩
  · rw [← sp_rest h.len hv (fun x hx => Sp.mem hx), fn_nil h0]; exact Sp.zero
  · have hz := h.zero ((sp_rest h.len hv (fun x hx => Sp.mem hx)).2 hs) (restL_lead h ht hv)
    exact (leadL_lead h0).1 (by rw [hz])

/-- A ROW IS KEPT BEHIND THE OTHERS. -/
theorem keepL_step {V : List (List UInt8)} {v : List UInt8} {k : Nat} (h : Ech V k) (ht : Tri V) (hv : v.length = k) :
    Ech (keepL V v) k ∧ Tri (keepL V v) ∧ (∀ x, In V x → In (keepL V v) x) ∧ Sp (In (keepL V v)) (fn v) ∧ ∀ S : Vf → Prop, (∀ x, In V x → Sp S x) → Sp S (fn v) → ∀ x, In (keepL V v) x → Sp S x := by
  unfold keepL
  by_cases h0 : leadL (restL V v) < (restL V v).length
  · rw [if_pos h0]
    have hl := restL_length h.len hv
    obtain ⟨n1, n2⟩ := normL_lead h0
    have hz : ∀ u, u ∈ V → fn (normL (restL V v)) (leadL u) = 0 := fun u hu => by rw [normL, fn_scaleL, restL_lead h ht hv u hu, bmul_zero]
    have hmem : ∀ x, x ∈ V ++ [normL (restL V v)] ↔ x ∈ V ∨ x = normL (restL V v) := by simp
    refine ⟨⟨fun u hu => ?_, fun u hu => ?_, fun u hu => ?_, ?_⟩, ?_, fun x ⟨u, hu, e⟩ => ⟨u, (hmem u).2 (.inl hu), e⟩, ?_, fun S hV hs x ⟨u, hu, e⟩ => ?_⟩
    · rcases (hmem u).1 hu with hu | rfl
      · exact h.len u hu
      · rw [normL_length, hl]
    · rcases (hmem u).1 hu with hu | rfl
      · exact h.lt u hu
      · rw [n1]; omega
    · rcases (hmem u).1 hu with hu | rfl
      · exact h.one u hu
      · rw [n1]; exact n2
    · refine List.pairwise_append.2 ⟨h.dist, List.pairwise_singleton _ _, fun a ha b hb e => ?_⟩
      obtain rfl : b = _ := by simpa using hb
      have := hz a ha
      rw [e, n1, n2] at this; exact absurd this (by decide)
    · refine List.pairwise_append.2 ⟨ht, List.pairwise_singleton _ _, fun a ha b hb => ?_⟩
      obtain rfl : b = _ := by simpa using hb
      exact hz a ha
    · rw [← sp_rest h.len hv (fun x ⟨u, hu, e⟩ => Sp.mem ⟨u, (hmem u).2 (.inl hu), e⟩), ← sp_norm h0]
      exact Sp.mem ⟨_, (hmem _).2 (.inr rfl), rfl⟩
    · rcases (hmem u).1 hu with hu | rfl
      · exact hV x ⟨u, hu, e⟩
      · rw [e, sp_norm h0, sp_rest h.len hv hV]; exact hs
  · rw [if_neg h0]
    exact ⟨h, ht, fun x hx => hx, (h.rest_zero ht hv).1 h0, fun S hV _ x hx => hV x hx⟩
def keepAll (V : List (List UInt8)) (vs : List (List UInt8)) : List (List UInt8) := vs.foldl keepL V
theorem keepAll_step : ∀ {vs V : List (List UInt8)} {k : Nat}, Ech V k → Tri V → (∀ v, v ∈ vs → v.length = k) →
    Ech (keepAll V vs) k ∧ Tri (keepAll V vs) ∧ (∀ x, In V x → In (keepAll V vs) x) ∧ (∀ x, In vs x → Sp (In (keepAll V vs)) x) ∧ ∀ S : Vf → Prop, (∀ x, In V x → Sp S x) → (∀ x, In vs x → Sp S x) → ∀ x, In (keepAll V vs) x → Sp S x
  | [], V, k, h, ht, _ => ⟨h, ht, fun x hx => hx, fun x ⟨u, hu, _⟩ => (by cases hu), fun S hV _ x hx => hV x hx⟩
  | v :: vs, V, k, h, ht, hv => by
    obtain ⟨a1, a2, a3, a4, a5⟩ := keepL_step h ht (hv v List.mem_cons_self)
    obtain ⟨b1, b2, b3, b4, b5⟩ := keepAll_step (vs := vs) a1 a2 fun u hu => hv u (List.mem_cons_of_mem _ hu)
    refine ⟨b1, b2, fun x hx => b3 x (a3 x hx), fun x ⟨u, hu, e⟩ => ?_, fun S hV hs => b5 S (a5 S hV (hs _ ⟨v, List.mem_cons_self, rfl⟩)) fun x ⟨u, hu, e⟩ => hs x ⟨u, List.mem_cons_of_mem _ hu, e⟩⟩
    rcases List.mem_cons.1 hu with rfl | hu
    · rw [e]; exact Sp.mono (fun x hx => Sp.mem (b3 x hx)) a4
    · exact b4 x ⟨u, hu, e⟩
theorem ech_nil (k : Nat) : Ech [] k := ⟨fun _ h => (by cases h), fun _ h => (by cases h), fun _ h => (by cases h), List.Pairwise.nil⟩

/-- the others, less the new row. -/
def clearV (n : List UInt8) (V : List (List UInt8)) : List (List UInt8) := V.map fun r => axl (fn r (leadL n)) n r
def insAt (n : List UInt8) (V : List (List UInt8)) : Nat := V.findIdx fun r => decide (leadL n < leadL r)
def insV (n : List UInt8) (V : List (List UInt8)) : List (List UInt8) := V.take (insAt n V) ++ n :: V.drop (insAt n V)
/-- an equation is put in. -/
def putV (V : List (List UInt8)) (v : List UInt8) : List (List UInt8) :=
  if leadL (restL V v) < (restL V v).length then insV (normL (restL V v)) (clearV (normL (restL V v)) V) else V
theorem mem_insV {n : List UInt8} {V : List (List UInt8)} {x : List UInt8} : x ∈ insV n V ↔ x = n ∨ x ∈ V := by
  unfold insV
  rw [List.mem_append, List.mem_cons]
  have := List.take_append_drop (insAt n V) V
  constructor
  · rintro (h | h | h)
    · exact .inr (List.mem_of_mem_take h)
    · exact .inl h
    · exact .inr (List.mem_of_mem_drop h)
  · rintro (h | h)
    · exact .inr (.inl h)
    · rw [← this, List.mem_append] at h
      rcases h with h | h
      · exact .inl h
      · exact .inr (.inr h)
theorem insV_length (n : List UInt8) (V : List (List UInt8)) : (insV n V).length = V.length + 1 := by
  unfold insV; rw [List.length_append, List.length_cons, List.length_take, List.length_drop]
  have : insAt n V ≤ V.length := List.findIdx_le_length
  omega
theorem insV_inc {n : List UInt8} {V : List (List UInt8)} (h : V.Pairwise fun a b => leadL a < leadL b) (hn : ∀ u, u ∈ V → leadL u ≠ leadL n) : (insV n V).Pairwise fun a b => leadL a < leadL b := by
  unfold insV
  have hp := List.pairwise_iff_getElem.1 h
  have hle : insAt n V ≤ V.length := List.findIdx_le_length
  refine List.pairwise_append.2 ⟨h.sublist (List.take_sublist _ _), List.pairwise_cons.2 ⟨fun b hb => ?_, h.sublist (List.drop_sublist _ _)⟩, fun a ha b hb => ?_⟩
  · obtain ⟨j, hj, rfl⟩ := List.getElem_of_mem hb
    rw [List.length_drop] at hj
    rw [List.getElem_drop]
    have hi : insAt n V < V.length := by omega
    have h1 : leadL n < leadL V[insAt n V] := of_decide_eq_true (List.findIdx_getElem (w := hi))
    rcases Nat.eq_zero_or_pos j with rfl | hj0
    · exact h1
    · exact Nat.lt_trans h1 (hp _ _ hi (by omega) (by omega))
  · obtain ⟨i, hi, rfl⟩ := List.getElem_of_mem ha
    rw [List.length_take] at hi
    rw [List.getElem_take]
    have hlt : leadL V[i] < leadL n := by
      have h1 := List.not_of_lt_findIdx (p := fun r => decide (leadL n < leadL r)) (xs := V) (i := i) (by unfold insAt at hi; omega)
      have h2 := hn V[i] (List.getElem_mem _)
      have h3 : ¬ leadL n < leadL V[i] := by simpa using h1
      omega
    rcases List.mem_cons.1 hb with rfl | hb
    · exact hlt
    · obtain ⟨j, hj, rfl⟩ := List.getElem_of_mem hb
      rw [List.length_drop] at hj
      rw [List.getElem_drop]
      exact hp i _ (by omega) (by omega) (by omega)

theorem clear_lead {n r : List UInt8} {k : Nat} (hn : n.length = k) (hr : r.length = k) (hlr : leadL r < k) (hn0 : fn n (leadL r) = 0) (hln : leadL n < k) : leadL (axl (fn r (leadL n)) n r) = leadL r ∧ fn (axl (fn r (leadL n)) n r) (leadL r) = fn r (leadL r) := by
  have hnr : n.length = r.length := by omega
  have hL := leadL_lead (l := r) (by omega)
  have hN := leadL_lead (l := n) (by omega)
  refine ⟨leadL_of ⟨?_, fun j hj => ?_⟩, ?_⟩
  · rw [fn_axl hnr]; show _ ^^^ bmul _ _ ≠ 0; rw [hn0, bmul_zero, xor_zero8]; exact hL.1
  · rw [fn_axl hnr]; show _ ^^^ bmul _ _ = 0
    rw [hL.2 j hj]
    rcases Nat.lt_or_ge (leadL n) (leadL r) with h | h
    · rw [hL.2 _ h, zero_bmul]; rfl
    · rw [hN.2 j (by omega), bmul_zero]; rfl
  · rw [fn_axl hnr]; show _ ^^^ bmul _ _ = _; rw [hn0, bmul_zero, xor_zero8]

/-- PUT: reduced rows stay reduced, and their span is that of all equations. -/
theorem Red.put {V : List (List UInt8)} {v : List UInt8} {k : Nat} (h : Red V k) (hv : v.length = k) :
    Red (putV V v) k ∧ (∀ x, In V x → Sp (In (putV V v)) x) ∧ Sp (In (putV V v)) (fn v) ∧ ∀ S : Vf → Prop, (∀ x, In V x → Sp S x) → Sp S (fn v) → ∀ x, In (putV V v) x → Sp S x := by
  unfold putV
  by_cases h0 : leadL (restL V v) < (restL V v).length
  · rw [if_pos h0]
    have hl := restL_length h.len hv
    obtain ⟨n1, n2⟩ := normL_lead h0
    obtain ⟨n, en⟩ : ∃ n, normL (restL V v) = n := ⟨_, rfl⟩
    have hz : ∀ u, u ∈ V → fn n (leadL u) = 0 := fun u hu => by rw [← en, normL, fn_scaleL, restL_lead h.ech h.tri hv u hu, bmul_zero]
    have hnl : n.length = k := by rw [← en, normL_length, hl]
    have hspn : ∀ {S : Vf → Prop}, (∀ x, In V x → Sp S x) → (Sp S (fn n) ↔ Sp S (fn v)) := fun hS => by rw [← en, sp_norm h0, sp_rest h.len hv hS]
    rw [← n1, en] at n2
    have hnk : leadL n < k := by rw [← en, n1]; omega
    rw [en]
    clear h0 n1 en
    have hc : ∀ r, r ∈ V → (axl (fn r (leadL n)) n r).length = k ∧ leadL (axl (fn r (leadL n)) n r) = leadL r ∧ fn (axl (fn r (leadL n)) n r) (leadL r) = 1 := fun r hr => by
      obtain ⟨c1, c2⟩ := clear_lead hnl (h.len r hr) (h.lt r hr) (hz r hr) hnk
      exact ⟨by rw [axl_length (by rw [hnl, h.len r hr]), h.len r hr], c1, by rw [c2, h.one r hr]⟩
    have hne : ∀ r, r ∈ V → leadL r ≠ leadL n := fun r hr e => by
      have := hz r hr; rw [e, n2] at this; exact absurd this (by decide)
    have hfa : ∀ r, r ∈ V → fn (axl (fn r (leadL n)) n r) = axf (fn r (leadL n)) (fn n) (fn r) := fun r hr => fn_axl (by rw [hnl, h.len r hr])
    have hmem : ∀ x, x ∈ insV n (clearV n V) ↔ x = n ∨ ∃ r, r ∈ V ∧ axl (fn r (leadL n)) n r = x := fun x => by rw [mem_insV, clearV, List.mem_map]
    have mn : In (insV n (clearV n V)) (fn n) := ⟨n, (hmem n).2 (.inl rfl), rfl⟩
    have hold : ∀ x, In V x → Sp (In (insV n (clearV n V))) x := fun x ⟨r, hr, e⟩ => by
      have e2 : fn r = axf (fn r (leadL n)) (fn n) (fn (axl (fn r (leadL n)) n r)) := by rw [hfa r hr, axf_twice]
      rw [e, e2]
      exact Sp.ax _ (Sp.mem mn) (Sp.mem ⟨_, (hmem _).2 (.inr ⟨r, hr, rfl⟩), rfl⟩)
    refine ⟨⟨fun u hu => ?_, fun u hu => ?_, fun u hu => ?_, ?_, fun u hu x hx hux => ?_⟩, hold, (hspn hold).1 (Sp.mem mn), fun S hV hs x ⟨u, hu, e⟩ => ?_⟩
    · rcases (hmem u).1 hu with rfl | ⟨r, hr, rfl⟩
      · exact hnl
      · exact (hc r hr).1
    · rcases (hmem u).1 hu with rfl | ⟨r, hr, rfl⟩
      · exact hnk
      · rw [(hc r hr).2.1]; exact h.lt r hr
    · rcases (hmem u).1 hu with rfl | ⟨r, hr, rfl⟩
      · exact n2
      · rw [(hc r hr).2.1]; exact (hc r hr).2.2
    · refine insV_inc ?_ fun u hu => ?_
      · refine List.pairwise_map.2 (List.Pairwise.imp_of_mem (fun ha hb hlt => ?_) h.inc)
        rw [(hc _ ha).2.1, (hc _ hb).2.1]; exact hlt
      · obtain ⟨r, hr, rfl⟩ := List.mem_map.1 hu
        rw [(hc r hr).2.1]; exact hne r hr
    · rcases (hmem u).1 hu with rfl | ⟨r, hr, rfl⟩
      · rcases (hmem x).1 hx with rfl | ⟨s, hs, rfl⟩
        · exact absurd rfl hux
        · rw [hfa s hs]; show _ ^^^ bmul _ _ = 0; rw [n2, bmul_one, xor_self8]
      · rw [(hc r hr).2.1] at hux ⊢
        rcases (hmem x).1 hx with rfl | ⟨s, hs, rfl⟩
        · exact hz r hr
        · rw [(hc s hs).2.1] at hux
          rw [hfa s hs]; show _ ^^^ bmul _ _ = 0; rw [hz r hr, bmul_zero, xor_zero8]; exact h.nul r hr s hs hux
    · rcases (hmem u).1 hu with rfl | ⟨r, hr, rfl⟩
      · rw [e]; exact (hspn hV).2 hs
      · rw [e, hfa r hr]; exact Sp.ax _ ((hspn hV).2 hs) (hV _ ⟨r, hr, rfl⟩)
  · rw [if_neg h0]
    exact ⟨h, fun x hx => Sp.mem hx, (h.ech.rest_zero h.tri hv).1 h0, fun S hV _ x hx => hV x hx⟩
theorem red_nil (k : Nat) : Red [] k := ⟨fun _ h => (by cases h), fun _ h => (by cases h), fun _ h => (by cases h), List.Pairwise.nil, fun _ h => (by cases h)⟩
def putAll (V : List (List UInt8)) (vs : List (List UInt8)) : List (List UInt8) := vs.foldl putV V
theorem Red.puts : ∀ {vs V : List (List UInt8)} {k : Nat}, Red V k → (∀ v, v ∈ vs → v.length = k) →
    Red (putAll V vs) k ∧ (∀ x, In V x → Sp (In (putAll V vs)) x) ∧ (∀ x, In vs x → Sp (In (putAll V vs)) x) ∧ ∀ S : Vf → Prop, (∀ x, In V x → Sp S x) → (∀ x, In vs x → Sp S x) → ∀ x, In (putAll V vs) x → Sp S x
  | [], V, k, h, _ => ⟨h, fun x hx => Sp.mem hx, fun x ⟨u, hu, _⟩ => (by cases hu), fun S hV _ x hx => hV x hx⟩
  | v :: vs, V, k, h, hv => by
    obtain ⟨a1, a2, a3, a4⟩ := h.put (hv v List.mem_cons_self)
    obtain ⟨b1, b2, b3, b4⟩ := Red.puts (vs := vs) a1 fun u hu => hv u (List.mem_cons_of_mem _ hu)
    refine ⟨b1, fun x hx => Sp.mono b2 (a2 x hx), fun x ⟨u, hu, e⟩ => ?_, fun S hV hs => b4 S (a4 S hV (hs _ ⟨v, List.mem_cons_self, rfl⟩)) fun x ⟨u, hu, e⟩ => hs x ⟨u, List.mem_cons_of_mem _ hu, e⟩⟩
    rcases List.mem_cons.1 hu with rfl | hu
    · rw [e]; exact Sp.mono b2 a3
    · exact b3 x ⟨u, hu, e⟩
/-- WHAT IS KNOWN AT LAST HANGS ON WHICH CAME. -/
theorem putAll_one {vs ws : List (List UInt8)} {k : Nat} (hv : ∀ v, v ∈ vs → v.length = k) (hw : ∀ v, v ∈ ws → v.length = k) (h : ∀ x, In vs x → Sp (In ws) x) (h' : ∀ x, In ws x → Sp (In vs) x) : putAll [] vs = putAll [] ws := by
  obtain ⟨a1, _, a3, a4⟩ := (red_nil k).puts hv
  obtain ⟨b1, _, b3, b4⟩ := (red_nil k).puts hw
  have hnil : ∀ (S : Vf → Prop) x, In [] x → Sp S x := fun S x ⟨u, hu, _⟩ => by cases hu
  refine a1.unique b1 (fun u hu => ?_) fun u hu => ?_
  · exact Sp.mono (fun x hx => Sp.mono b3 (h x hx)) (a4 (In vs) (hnil _) (fun x hx => Sp.mem hx) _ ⟨u, hu, rfl⟩)
  · exact Sp.mono (fun x hx => Sp.mono a3 (h' x hx)) (b4 (In ws) (hnil _) (fun x hx => Sp.mem hx) _ ⟨u, hu, rfl⟩)
/-- of full rank: every place leads, and nothing is left of any vector. -/
theorem Ech.full {V : List (List UInt8)} {k : Nat} (h : Ech V k) (hk : V.length = k) {p : Nat} (hp : p < k) : ∃ v, v ∈ V ∧ leadL v = p := by
  by_cases hm : p ∈ V.map leadL
  · obtain ⟨v, hv, e⟩ := List.mem_map.1 hm; exact ⟨v, hv, e⟩
  · have := nodup_le (l := p :: V.map leadL) (m := List.range k) (List.nodup_cons.2 ⟨hm, h.nodup⟩) fun x hx => by
      rcases List.mem_cons.1 hx with rfl | hx
      · exact List.mem_range.2 hp
      · obtain ⟨v, hv, rfl⟩ := List.mem_map.1 hx
        exact List.mem_range.2 (h.lt v hv)
    simp at this; omega
theorem Red.full_put {V : List (List UInt8)} {v : List UInt8} {k : Nat} (h : Red V k) (hk : V.length = k) (hv : v.length = k) : putV V v = V := by
  unfold putV
  rw [if_neg]
  intro h0
  have hl := restL_length h.len hv
  obtain ⟨u, hu, e⟩ := h.ech.full hk (p := leadL (restL V v)) (by omega)
  have := restL_lead h.ech h.tri hv u hu
  rw [e] at this
  exact (leadL_lead h0).1 this
theorem inc_id : ∀ {l : List Nat} {a b : Nat}, l.Pairwise (· < ·) → (∀ x, x ∈ l → a ≤ x ∧ x < b) → l.length = b - a → ∀ i (h : i < l.length), l[i] = a + i
  | [], _, _, _, _, _, i, h => by simp at h
  | x :: l, a, b, hp, hs, hl, i, h => by
    obtain ⟨p1, p2⟩ := List.pairwise_cons.1 hp
    have hx := hs x List.mem_cons_self
    simp only [List.length_cons] at hl
    have hle : l.length ≤ b - (x + 1) := by
      have := nodup_le (l := l) (m := (List.range b).filter (x < ·)) (p2.imp fun h => Nat.ne_of_lt h) fun y hy => by
        simp only [List.mem_filter, List.mem_range]
        exact ⟨(hs y (List.mem_cons_of_mem _ hy)).2, by simpa using p1 y hy⟩
      refine Nat.le_trans this ?_
      have e : ((List.range b).filter (x < ·)).length = b - (x + 1) := by
        clear this h hl hs hp p1 p2 hx
        induction b with
        | zero => simp
        | succ b ih =>
          rw [List.range_succ, List.filter_append, List.length_append, ih]
          by_cases hb : x < b
          · simp [hb]; omega
          · simp [hb]; omega
      omega
    have ex : x = a := by omega
    subst ex
    rcases Nat.eq_zero_or_pos i with rfl | hi
    · rfl
    · obtain ⟨j, rfl⟩ := Nat.exists_eq_succ_of_ne_zero (Nat.ne_of_gt hi)
      have := inc_id (l := l) (a := x + 1) (b := b) p2 (fun y hy => ⟨p1 y hy, (hs y (List.mem_cons_of_mem _ hy)).2⟩) (by omega) j (by simpa using h)
      simp only [List.getElem_cons_succ]; omega
/-- of full rank the rows are the unit's. -/
theorem Red.full_unit {V : List (List UInt8)} {k : Nat} (h : Red V k) (hk : V.length = k) (i : Nat) (hi : i < V.length) (j : Nat) : fn V[i] j = if j = i then 1 else 0 := by
  have hlead : ∀ i (hi : i < V.length), leadL V[i] = i := fun i hi => by
    have := inc_id (l := V.map leadL) (a := 0) (b := k) (List.pairwise_map.2 h.inc) (fun x hx => by
      obtain ⟨v, hv, rfl⟩ := List.mem_map.1 hx
      exact ⟨Nat.zero_le _, h.lt v hv⟩) (by simpa using hk) i (by simpa using hi)
    simpa using this
  have mi : V[i] ∈ V := List.getElem_mem hi
  by_cases hj : j < k
  · have mj : V[j]'(by omega) ∈ V := List.getElem_mem _
    have ej := hlead j (by omega)
    by_cases e : j = i
    · subst e
      have h1 := h.one _ mi
      rw [ej] at h1
      rw [if_pos rfl]; exact h1
    · have h1 := h.nul _ mj _ mi (by rw [ej, hlead i hi]; exact e)
      rw [ej] at h1
      rw [if_neg e]; exact h1
  · rw [fn_ge (by rw [h.len _ mi]; omega), if_neg (by omega)]
end Go.Proofs.YtddopoojmadpjaaGreatDoor

namespace Go.Proofs.YtddopoojmadpjaaGreatDoor
set_option linter.unusedVariables false

theorem putL_axl (c : UInt8) (S R : List UInt8) : putL c.toNat S R = axl c R S := rfl

/-- the combination of the first j rows by y. -/
def cf (ls : List (List UInt8)) : Nat → Vf → Vf
  | 0, _ => fun _ => 0
  | j + 1, y => axf (y j) (fn (ls.getD j [])) (cf ls j y)
theorem fn_zeros (n : Nat) : fn (List.replicate n (0 : UInt8)) = fun _ => 0 := by
  funext i
  by_cases h : i < n
  · rw [fn_lt (by simpa using h)]; simp
  · exact fn_ge (by simp; omega)
theorem fn_combTo {C : List UInt8} {ls : List (List UInt8)} {n : Nat} (hn : ∀ l, l ∈ ls → l.length = n) : ∀ j, j ≤ ls.length → fn (combTo C ls n j) = cf ls j (fn C)
  | 0, _ => fn_zeros n
  | j + 1, h => by
    have hj := getD_mem (ls := ls) (j := j) (by omega)
    rw [combTo, putL_axl, fn_axl (by rw [hn _ hj, combTo_length hn j (by omega)]), fn_combTo hn j (by omega)]
    rfl
theorem fn_combL {C : List UInt8} {ls : List (List UInt8)} {n : Nat} (hn : ∀ l, l ∈ ls → l.length = n) : fn (combL C ls n) = cf ls ls.length (fn C) := fn_combTo hn _ (Nat.le_refl _)
theorem cf_zero (ls : List (List UInt8)) : ∀ j, cf ls j (fun _ => 0) = fun _ => 0
  | 0 => rfl
  | j + 1 => by rw [cf, cf_zero ls j, axf_0]
theorem cf_axf (ls : List (List UInt8)) (c : UInt8) (x y : Vf) : ∀ j, cf ls j (axf c x y) = axf c (cf ls j x) (cf ls j y)
  | 0 => by rw [cf, cf, cf, axf_zero]
  | j + 1 => by
    rw [cf, cf, cf, cf_axf ls c x y j]
    funext i
    simp only [axf, xor_bmul, bmul_xor, bmul_assoc, UInt8.xor_assoc]
    congr 1
    rw [← UInt8.xor_assoc, UInt8.xor_comm (bmul c _), UInt8.xor_assoc]
theorem cf_sp (ls : List (List UInt8)) (y : Vf) : ∀ j, j ≤ ls.length → Sp (In ls) (cf ls j y)
  | 0, _ => Sp.zero
  | j + 1, h => Sp.step _ ⟨_, getD_mem (by omega), rfl⟩ (cf_sp ls y j (by omega))
theorem cf_congr (ls : List (List UInt8)) {x y : Vf} : ∀ j, (∀ i, i < j → x i = y i) → cf ls j x = cf ls j y
  | 0, _ => rfl
  | j + 1, h => by rw [cf, cf, h j (by omega), cf_congr ls j fun i hi => h i (by omega)]
theorem getD_at {ls : List (List UInt8)} {j : Nat} (h : j < ls.length) : ls.getD j [] = ls[j] := by
  rw [List.getD_eq_getElem?_getD, List.getElem?_eq_getElem h]; rfl
/-- the unit's combination is a row. -/
theorem cf_unit {ls : List (List UInt8)} {y : Vf} {i : Nat} (hi : i < ls.length) (hy : ∀ j, y j = if j = i then 1 else 0) : ∀ j, j ≤ ls.length → cf ls j y = if i < j then fn ls[i] else fun _ => 0
  | 0, _ => by rw [if_neg (by omega)]; rfl
  | j + 1, h => by
    rw [cf, cf_unit hi hy j (by omega), hy j]
    by_cases e : j = i
    · subst e
      rw [if_pos rfl, if_neg (by omega), if_pos (by omega), axf_1, getD_at hi]
    · rw [if_neg e, axf_0]
      by_cases hl : i < j
      · rw [if_pos hl, if_pos (by omega)]
      · rw [if_neg hl, if_neg (by omega)]

/-- the data of a vector, of symbols of t bytes. -/
theorem comb_axl {X : List (List UInt8)} {t k : Nat} (hX : ∀ l, l ∈ X → l.length = t) {c : UInt8} {x y : List UInt8} (h : x.length = y.length) : combL (axl c x y) X t = axl c (combL x X t) (combL y X t) := by
  have h1 : (combL x X t).length = (combL y X t).length := by rw [combL_length hX, combL_length hX]
  apply fn_ext'
  · rw [axl_length h1, combL_length hX, combL_length hX]
  · rw [fn_axl h1, fn_combL hX, fn_combL hX, fn_combL hX, fn_axl h, cf_axf]
theorem comb_scale {X : List (List UInt8)} {t : Nat} (hX : ∀ l, l ∈ X → l.length = t) (c : UInt8) (x : List UInt8) : combL (scaleL c x) X t = scaleL c (combL x X t) := by
  apply fn_ext'
  · rw [scaleL_length, combL_length hX, combL_length hX]
  · rw [fn_scaleL', fn_combL hX, fn_combL hX, fn_scaleL', cf_axf, cf_zero]
theorem comb_zero {X : List (List UInt8)} {t : Nat} (hX : ∀ l, l ∈ X → l.length = t) {x : List UInt8} (h : fn x = fun _ => 0) : fn (combL x X t) = fun _ => 0 := by
  rw [fn_combL hX, h, cf_zero]
/-- a combination's data are the data's combination. -/
theorem cf_map {X R : List (List UInt8)} {t k : Nat} (hX : ∀ l, l ∈ X → l.length = t) (hR : ∀ l, l ∈ R → l.length = k) (y : Vf) : ∀ j, j ≤ R.length → cf (R.map fun v => combL v X t) j y = cf X X.length (cf R j y)
  | 0, _ => by rw [cf, cf, cf_zero]
  | j + 1, h => by
    rw [cf, cf, cf_map hX hR y j (by omega), cf_axf]
    congr 1
    rw [getD_at (by rw [List.length_map]; omega), getD_at (by omega), List.getElem_map, fn_combL hX]
theorem comb_comb {X R : List (List UInt8)} {t k : Nat} (hX : ∀ l, l ∈ X → l.length = t) (hR : ∀ l, l ∈ R → l.length = k) (w : List UInt8) : combL w (R.map fun v => combL v X t) t = combL (combL w R k) X t := by
  have hm : ∀ l, l ∈ R.map (fun v => combL v X t) → l.length = t := fun l hl => by
    obtain ⟨v, _, rfl⟩ := List.mem_map.1 hl; exact combL_length hX
  apply fn_ext'
  · rw [combL_length hm, combL_length hX]
  · rw [fn_combL hm, fn_combL hX, fn_combL hR, List.length_map, cf_map hX hR _ _ (Nat.le_refl _)]

/-- reduced rows, combined: what stands where a row leads. -/
theorem Red.cf_at {R : List (List UInt8)} {k : Nat} (h : Red R k) (y : Vf) {p : Nat} (hp : p < R.length) : ∀ j, j ≤ R.length → cf R j y (leadL R[p]) = if p < j then y p else 0
  | 0, _ => by rw [if_neg (by omega)]; rfl
  | j + 1, hj => by
    have mp : R[p] ∈ R := List.getElem_mem hp
    have mj : R[j]'(by omega) ∈ R := List.getElem_mem _
    rw [cf, getD_at (by omega)]
    show cf R j y _ ^^^ bmul (y j) _ = _
    rw [h.cf_at y hp j (by omega)]
    by_cases e : p = j
    · subst e
      rw [if_neg (by omega), if_pos (by omega), h.one _ mp, bmul_one, zero_xor8]
    · rw [h.nul _ mp _ mj (fun e2 => e (by
        have := h.inc; have hp' := List.pairwise_iff_getElem.1 this
        rcases Nat.lt_trichotomy p j with hlt | heq | hgt
        · have := hp' p j hp (by omega) hlt; omega
        · exact heq
        · have := hp' j p (by omega) hp hgt; omega)), bmul_zero, xor_zero8]
      by_cases hl : p < j
      · rw [if_pos hl, if_pos (by omega)]
      · rw [if_neg hl, if_neg (by omega)]
theorem Red.cf_low {R : List (List UInt8)} {k : Nat} (h : Red R k) {y : Vf} {p x : Nat} (hp : p < R.length) (hy : ∀ i, i < p → y i = 0) (hx : x < leadL R[p]) : ∀ j, j ≤ R.length → cf R j y x = 0
  | 0, _ => rfl
  | j + 1, hj => by
    rw [cf, getD_at (by omega)]
    show cf R j y _ ^^^ bmul (y j) _ = _
    rw [h.cf_low hp hy hx j (by omega), zero_xor8]
    by_cases hl : j < p
    · rw [hy j hl, zero_bmul]
    · have mj : R[j]'(by omega) ∈ R := List.getElem_mem _
      have hle : leadL R[p] ≤ leadL (R[j]'(by omega)) := by
        rcases Nat.lt_or_ge p j with hlt | hge
        · exact Nat.le_of_lt (List.pairwise_iff_getElem.1 h.inc p j hp (by omega) hlt)
        · have : p = j := by omega
          subst this; exact Nat.le_refl _
      rw [(h.ech.lead mj).2 x (by omega), bmul_zero]
theorem Red.cf_lead {R : List (List UInt8)} {k : Nat} (h : Red R k) {y : Vf} {p : Nat} (hp : p < R.length) (hy : Lead y p) : Lead (cf R R.length y) (leadL R[p]) :=
  ⟨by rw [h.cf_at y hp _ (Nat.le_refl _), if_pos hp]; exact hy.1, fun x hx => h.cf_low hp hy.2 hx _ (Nat.le_refl _)⟩
theorem least {y : Vf} : ∀ n, (∀ i, i < n → y i = 0) ∨ ∃ p, p < n ∧ Lead y p
  | 0 => .inl fun i h => by omega
  | n + 1 => by
    rcases least (y := y) n with h | ⟨p, hp, hl⟩
    · by_cases e : y n = 0
      · refine .inl fun i hi => ?_
        by_cases ei : i = n
        · rw [ei]; exact e
        · exact h i (by omega)
      · exact .inr ⟨n, by omega, e, h⟩
    · exact .inr ⟨p, by omega, hl⟩
/-- THE RANK OF A RELAY'S COMBINATIONS IS THAT OF ITS DRAWS. -/
theorem Red.rank_draws {R : List (List UInt8)} {k : Nat} (h : Red R k) (ws : List (List UInt8)) (hw : ∀ w, w ∈ ws → w.length = R.length) :
    (putAll [] (ws.map fun w => combL w R k)).length = (keepAll [] ws).length := by
  have hvl : ∀ v, v ∈ ws.map (fun w => combL w R k) → v.length = k := fun v hv => by
    obtain ⟨w, _, rfl⟩ := List.mem_map.1 hv; exact combL_length h.len
  obtain ⟨a1, _, a3, a4⟩ := (red_nil k).puts hvl
  obtain ⟨b1, _, _, b4, b5⟩ := keepAll_step (ech_nil R.length) List.Pairwise.nil hw
  have hnil : ∀ (S : Vf → Prop) x, In [] x → Sp S x := fun S x ⟨u, hu, _⟩ => by cases hu
  have hE := a4 (In (ws.map fun w => combL w R k)) (hnil _) fun x hx => Sp.mem hx
  have hK := b5 (In ws) (hnil _) fun x hx => Sp.mem hx
  have himg : ∀ x, In (ws.map fun w => combL w R k) x → ∃ u, In ws u ∧ x = cf R R.length u := fun x ⟨v, hv, e⟩ => by
    obtain ⟨w, hw', rfl⟩ := List.mem_map.1 hv
    exact ⟨fn w, ⟨w, hw', rfl⟩, by rw [e, fn_combL h.len]⟩
  have hinc := List.pairwise_iff_getElem.1 h.inc
  have hidx : ∀ p q (hp : p < R.length) (hq : q < R.length), leadL R[p] = leadL R[q] → p = q := fun p q hp hq e => by
    rcases Nat.lt_trichotomy p q with hlt | heq | hgt
    · have := hinc p q hp hq hlt; omega
    · exact heq
    · have := hinc q p hq hp hgt; omega
  apply Nat.le_antisymm
  · have h1 := nodup_le a1.ech.nodup (m := (keepAll [] ws).map fun u => leadL (R.getD (leadL u) [])) fun q hq => by
      obtain ⟨v, hv, rfl⟩ := List.mem_map.1 hq
      obtain ⟨y, hy, ey⟩ := Sp.back (cf R R.length) (cf_zero R _) (fun c x y => cf_axf R c x y _) (Sp.mono (fun x hx => Sp.mem (himg x hx)) (hE _ ⟨v, hv, rfl⟩))
      have hy' : Sp (In (keepAll [] ws)) y := Sp.mono b4 hy
      rcases b1.leads hy' with h0 | ⟨u, hu, hl⟩
      · have e0 : y = fun _ => 0 := by funext i; exact h0 i
        have hv0 := (a1.ech.lead hv).1
        rw [ey, e0, cf_zero] at hv0
        exact absurd rfl hv0
      · have hlt := b1.lt u hu
        have h2 := h.cf_lead hlt hl
        rw [← ey] at h2
        refine List.mem_map.2 ⟨u, hu, ?_⟩
        rw [getD_at hlt]; exact (h2.one (a1.ech.lead hv))
    simpa using h1
  · have hnd : ((keepAll [] ws).map fun u => leadL (R.getD (leadL u) [])).Nodup := by
      refine List.pairwise_map.2 (List.Pairwise.imp_of_mem (fun ha hb hne e => ?_) b1.dist)
      rw [getD_at (b1.lt _ ha), getD_at (b1.lt _ hb)] at e
      exact hne (hidx _ _ (b1.lt _ ha) (b1.lt _ hb) e)
    have h1 := nodup_le hnd (m := (putAll [] (ws.map fun w => combL w R k)).map leadL) fun q hq => by
      obtain ⟨u, hu, rfl⟩ := List.mem_map.1 hq
      have hlt := b1.lt u hu
      have h2 := h.cf_lead hlt (b1.lead hu)
      have h3 : Sp (In (putAll [] (ws.map fun w => combL w R k))) (cf R R.length (fn u)) :=
        Sp.mono a3 (Sp.map (cf R R.length) (cf_zero R _) (fun c x y => cf_axf R c x y _) (fun x ⟨w, hw', e⟩ => Sp.mem ⟨_, List.mem_map_of_mem hw', by rw [e, fn_combL h.len]⟩) (hK _ ⟨u, hu, rfl⟩))
      rcases a1.ech.leads h3 with h0 | ⟨v, hv, hl⟩
      · exact absurd (h0 _) h2.1
      · rw [getD_at hlt, h2.one hl]; exact List.mem_map_of_mem hv
    simpa using h1
end Go.Proofs.YtddopoojmadpjaaGreatDoor

namespace Go.Proofs.YtddopoojmadpjaaGreatDoor
open Go.RowKit
set_option linter.unusedVariables false

/-- where a vector leads, as the program tells it. -/
def leadI (l : List UInt8) : Int := if leadL l < l.length then (leadL l : Int) else -1
theorem leadI_of {l : List UInt8} {p : Nat} (h : Lead (fn l) p) : leadI l = p := by
  unfold leadI; rw [leadL_of h, if_pos h.lt]
theorem leadI_none {l : List UInt8} (h : ∀ i, i < l.length → fn l i = 0) : leadI l = -1 := by
  unfold leadI
  rw [if_neg fun h0 => (leadL_lead h0).1 (h _ h0)]
def zeroB (l : List UInt8) : Bool := !decide (leadL l < l.length)
theorem leadI_zero (l : List UInt8) : (!decide (0 ≤ leadI l)) = zeroB l := by
  unfold leadI zeroB; by_cases h : leadL l < l.length
  · rw [if_pos h]; simp [h]
  · rw [if_neg h]; simp [h]
/-- the byte at a place. -/
def atN (l : List UInt8) (i : Int) : Nat := if i < 0 then 0 else (fn l i.toNat).toNat
theorem atN_lt (l : List UInt8) (i : Int) : atN l i < 256 := by unfold atN; split; omega; exact UInt8.toNat_lt _
theorem atN_nat (l : List UInt8) (i : Nat) : atN l i = (fn l i).toNat := by unfold atN; rw [if_neg (by omega), Int.toNat_natCast]
theorem fn_of_get {l : List UInt8} {i : Nat} {u : UInt8} (h : l[i]? = some u) : fn l i = u := by
  unfold fn; rw [List.getD_eq_getElem?_getD, h]; rfl

set_option maxRecDepth 100000 in
set_option maxHeartbeats 1000000 in
theorem indexVec_any (a : Option Addr) (len cap : Nat) (l : List UInt8) (w : World) (h : Bs w a len cap l) :
    Calls Tryz.prog 92 #[.slice a len cap, .func (.func 93) #[] #[]] w fun e w' => e = .returned (.int .i64 (leadI l)) ∧ w = w' := by
  have hm : len ≤ 9223372036854775807 := by have h1 := h.2.1; have h2 := h.2.2.1; unfold maxLen at h2; omega
  have HL : Hid (l.length = len) := h.1
  have H := Lib.hid h
  clear h
  go_enter Tryz.func92, Tryz.ntmps92
  go_wp2
  go_loopw [8] (fun i wr => ∃ j : Nat, j ≤ len ∧ i = .int .i64 j ∧ (∀ t, t < j → fn l t = 0) ∧ w = wr) (fun i _ => len - (intOf i).toNat)
  case atStart => exact ⟨0, Nat.zero_le _, rfl, fun _ h => by omega, rfl⟩
  case round =>
    obtain ⟨j, hj, rfl, hz, rfl⟩ := hrel
    have HZ := Lib.hid hz
    clear hz
    by_cases hlt : j < len
    · obtain ⟨b, off, rfl, _⟩ := H.out.at_ (by omega)
      obtain ⟨u, hu, hc⟩ := H.out.get hlt
      have hfn : Hid (fn l j = u) := by
        show fn l j = u
        unfold fn; rw [List.getD_eq_getElem?_getD, hu]; rfl
      by_cases h0 : u = 0
      · subst h0
        replace hc : w.cell? ⟨b, off + j, none⟩ = some (.int .u8 0) := hc
        clear hu
        go_wp2
        go_roundw
        case rel =>
          refine ⟨j + 1, by omega, by go_num, fun t ht => ?_, trivial⟩
          by_cases e : t = j
          · rw [e]; exact hfn.out
          · exact HZ.out t (by omega)
        case measure => simp [intOf]; omega
      · have hne : ((u.toNat : Int) != 0) = true := by
          rw [bne_iff_ne]; have := u8_ne_zero h0; omega
        have hR : Hid (leadI l = j) := leadI_of ⟨by rw [hfn.out]; exact h0, HZ.out⟩
        clear hu h0
        go_wp2
        first | go_ret | go_ret2
        exact ⟨by rw [hR.out]; rfl, rfl⟩
    · have hge : (len : Int) ≤ (j : Int) := by omega
      have hR : Hid (leadI l = -1) := leadI_none fun i hi => HZ.out i (by rw [HL.out] at hi; omega)
      go_wp2
      first | go_ret | go_ret2
      exact ⟨by rw [hR.out]; rfl, rfl⟩

set_option maxRecDepth 100000 in
set_option maxHeartbeats 1000000 in
theorem indexBytes_any (a : Option Addr) (len cap : Nat) (l : List UInt8) (w : World) (h : Bs w a len cap l) :
    Calls Tryz.prog 128 #[.slice a len cap, .func (.func 119) #[] #[]] w fun e w' => e = .returned (.int .i64 (leadI l)) ∧ w = w' := by
  have hm : len ≤ 9223372036854775807 := by have h1 := h.2.1; have h2 := h.2.2.1; unfold maxLen at h2; omega
  have HL : Hid (l.length = len) := h.1
  have H := Lib.hid h
  clear h
  go_enter Tryz.func128, Tryz.ntmps128
  go_wp2
  go_loopw [8] (fun i wr => ∃ j : Nat, j ≤ len ∧ i = .int .i64 j ∧ (∀ t, t < j → fn l t = 0) ∧ w = wr) (fun i _ => len - (intOf i).toNat)
  case atStart => exact ⟨0, Nat.zero_le _, rfl, fun _ h => by omega, rfl⟩
  case round =>
    obtain ⟨j, hj, rfl, hz, rfl⟩ := hrel
    have HZ := Lib.hid hz
    clear hz
    by_cases hlt : j < len
    · obtain ⟨b, off, rfl, _⟩ := H.out.at_ (by omega)
      obtain ⟨u, hu, hc⟩ := H.out.get hlt
      have hfn : Hid (fn l j = u) := by
        show fn l j = u
        unfold fn; rw [List.getD_eq_getElem?_getD, hu]; rfl
      by_cases h0 : u = 0
      · subst h0
        replace hc : w.cell? ⟨b, off + j, none⟩ = some (.int .u8 0) := hc
        clear hu
        go_wp2
        go_roundw
        case rel =>
          refine ⟨j + 1, by omega, by go_num, fun t ht => ?_, trivial⟩
          by_cases e : t = j
          · rw [e]; exact hfn.out
          · exact HZ.out t (by omega)
        case measure => simp [intOf]; omega
      · have hne : ((u.toNat : Int) != 0) = true := by
          rw [bne_iff_ne]; have := u8_ne_zero h0; omega
        have hR : Hid (leadI l = j) := leadI_of ⟨by rw [hfn.out]; exact h0, HZ.out⟩
        clear hu h0
        go_wp2
        first | go_ret | go_ret2
        exact ⟨by rw [hR.out]; rfl, rfl⟩
    · have hge : (len : Int) ≤ (j : Int) := by omega
      have hR : Hid (leadI l = -1) := leadI_none fun i hi => HZ.out i (by rw [HL.out] at hi; omega)
      go_wp2
      first | go_ret | go_ret2
      exact ⟨by rw [hR.out]; rfl, rfl⟩

set_option maxHeartbeats 1000000 in
theorem vecLead_any (a : Option Addr) (len cap : Nat) (l : List UInt8) (w : World) (h : Bs w a len cap l) :
    Calls Tryz.prog 53 #[.slice a len cap] w fun e w' => e = .returned (.int .i64 (leadI l)) ∧ w = w' := by
  have HC := Lib.hid (indexVec_any a len cap l w h)
  clear h
  go_enter Tryz.func53, Tryz.ntmps53
  go_wp2_with fail
  refine HC.out.mono ?_
  rintro e w1 ⟨rfl, rfl⟩
  go_wp2
  first | go_ret | go_ret2
  exact ⟨rfl, rfl⟩

set_option maxHeartbeats 1000000 in
theorem vecAt_any (a : Option Addr) (len cap : Nat) (l : List UInt8) (i : Int) (hi : i ≤ 9223372036854775807) (w : World) (h : Bs w a len cap l) :
    Calls Tryz.prog 52 #[.slice a len cap, .int .i64 i] w fun e w' => e = .returned (.int .u8 (atN l i : Nat)) ∧ w = w' := by
  have hl := h.1
  by_cases h0 : i < 0
  · have hR : Hid (atN l i = 0) := by show _ = _; rw [atN, if_pos h0]
    clear h hl
    go_enter Tryz.func52, Tryz.ntmps52
    go_wp2
    first | go_ret | go_ret2
    exact ⟨by rw [hR.out]; rfl, rfl⟩
  · obtain ⟨j, rfl⟩ := Int.eq_ofNat_of_zero_le (show 0 ≤ i by omega)
    by_cases hlt : j < len
    · obtain ⟨b, off, rfl, _⟩ := h.at_ (by omega)
      obtain ⟨u, hu, hc⟩ := h.get hlt
      have hR : Hid (atN l j = u.toNat) := by show _ = _; rw [atN_nat, fn_of_get hu]
      clear h hu hl
      go_enter Tryz.func52, Tryz.ntmps52
      go_wp2
      first | go_ret | go_ret2
      exact ⟨by rw [hR.out]; rfl, rfl⟩
    · have hR : Hid (atN l j = 0) := by show _ = _; rw [atN_nat, fn_ge (by omega)]; rfl
      have hge : (len : Int) ≤ (j : Int) := by omega
      clear h hl
      go_enter Tryz.func52, Tryz.ntmps52
      go_wp2
      first | go_ret | go_ret2
      exact ⟨by rw [hR.out]; rfl, rfl⟩

set_option maxHeartbeats 1000000 in
theorem containsBytes_any (a : Option Addr) (len cap : Nat) (l : List UInt8) (w : World) (h : Bs w a len cap l) :
    Calls Tryz.prog 120 #[.slice a len cap, .func (.func 119) #[] #[]] w fun e w' => e = .returned (.bool (decide (0 ≤ leadI l))) ∧ w = w' := by
  have HC := Lib.hid (indexBytes_any a len cap l w h)
  clear h
  go_enter Tryz.func120, Tryz.ntmps120
  go_wp2_with fail
  refine HC.out.mono ?_
  rintro e w1 ⟨rfl, rfl⟩
  go_wp2
  first | go_ret | go_ret2
  exact ⟨rfl, rfl⟩

set_option maxHeartbeats 1000000 in
theorem kernZero_any (a : Option Addr) (len cap : Nat) (l : List UInt8) (w : World) (h : Bs w a len cap l) :
    Calls Tryz.prog 94 #[.slice a len cap] w fun e w' => e = .returned (.bool (zeroB l)) ∧ w = w' := by
  have HC := Lib.hid (containsBytes_any a len cap l w h)
  have HZ := Lib.hid (leadI_zero l)
  obtain ⟨B, eB⟩ : ∃ B, decide (0 ≤ leadI l) = B := ⟨_, rfl⟩
  rw [eB] at HC HZ
  clear h eB
  go_enter Tryz.func94, Tryz.ntmps94
  go_wp2_with fail
  refine HC.out.mono ?_
  rintro e w1 ⟨rfl, rfl⟩
  go_wp2
  first | go_ret | go_ret2
  exact ⟨by rw [← HZ.out]; rfl, rfl⟩

set_option maxHeartbeats 1000000 in
theorem vecZero_any (a : Option Addr) (len cap : Nat) (l : List UInt8) (w : World) (h : Bs w a len cap l) :
    Calls Tryz.prog 54 #[.slice a len cap] w fun e w' => e = .returned (.bool (zeroB l)) ∧ w = w' := by
  have HC := Lib.hid (kernZero_any a len cap l w h)
  clear h
  go_enter Tryz.func54, Tryz.ntmps54
  go_wp2_with fail
  refine HC.out.mono ?_
  rintro e w1 ⟨rfl, rfl⟩
  go_wp2
  first | go_ret | go_ret2
  exact ⟨rfl, rfl⟩

/-- bytes that are new: from base on. -/
def Fr (w : World) (base : Nat) (a : Option Addr) (n c : Nat) (l : List UInt8) : Prop := Bs w a n c l ∧ ∀ y, a = some y → base ≤ y.block
theorem Fr.below {w w' : World} {base n c : Nat} {a : Option Addr} {l : List UInt8} (h : Fr w base a n c l) (g : Gr w w') : Fr w' base a n c l := ⟨h.1.below g, h.2⟩
theorem Fr.mono {w : World} {base base' n c : Nat} {a : Option Addr} {l : List UInt8} (h : Fr w base a n c l) (g : base' ≤ base) : Fr w base' a n c l := ⟨h.1, fun y hy => Nat.le_trans g (h.2 y hy)⟩

theorem scale_put (c : UInt8) (l : List UInt8) : putL c.toNat (List.replicate l.length 0) l = scaleL c l := by
  rw [putL_axl]
  apply fn_ext'
  · rw [axl_length (by simp), scaleL_length]; simp
  · rw [fn_axl (by simp), fn_scaleL', fn_zeros]

set_option maxRecDepth 100000 in
set_option maxHeartbeats 2000000 in
theorem kernScale_ok (c : UInt8) (a : Option Addr) (n cap : Nat) (l : List UInt8) (w : World) (h : Bs w a n cap l) (hn : 1 ≤ n) (hnm : n ≤ 1000000) :
    Calls Tryz.prog 96 #[.int .u8 (c.toNat : Int), .slice a n cap] w fun e w' => ∃ a', e = .returned (.slice a' n n) ∧ Fr w' w.heap.size a' n n (scaleL c l) ∧ Gr w w' := by
  obtain ⟨i0, hi0, hz0, hz1, hz2⟩ := info_parts infoByte
  obtain ⟨b, off, rfl, hb, _⟩ := h.at_ (by omega)
  have H := Lib.hid h
  have hl := h.1
  have HS : Hid (putL c.toNat (List.replicate n 0) l = scaleL c l) := by show _ = _; rw [← hl]; exact scale_put c l
  clear h hl
  go_enter Tryz.func96, Tryz.ntmps96
  go_wp2_with (at_make; refine wpList_make_full _ rfl (.tmp 7) (.tmp 7) 22 rfl w.heap.size 5 i0 (.int .u8 0) 1 Tryz.underlying22 hi0 hz0 hz1 .i64 .i64 (n : Int) (n : Int) n rfl rfl rfl rfl (by rw [hz2]; omega) (by unfold maxLen; omega) (Nat.le_refl _) ?_; intro w2 hown hgrow; rw [made_bytes] at hown; have hG : Gr w w2 := (Gr.refl w).grown hgrow (fun k hk => by cases hk); clear hgrow)
  go_wp2_with fail
  refine (put_any c.toNat c.toNat_lt w.heap.size w.heap.size n n _ (some ⟨b, off, none⟩) cap l w2 hown (H.out.below hG) (fun y hy => by cases hy; exact Nat.ne_of_lt hb)).mono ?_
  rintro e w3 ⟨rfl, ho, hg⟩
  rw [HS.out] at ho
  have hfin := hG.grb hg (Nat.le_refl _)
  have HF : Hid (Fr w3 w.heap.size (some ⟨w.heap.size, 0, none⟩) n n (scaleL c l)) := ⟨ho.bs, fun y hy => by cases hy; exact Nat.le_refl _⟩
  clear hown ho hg hG
  go_wp2
  first | go_ret | go_ret2
  exact ⟨_, rfl, HF.out, hfin⟩

set_option maxRecDepth 100000 in
set_option maxHeartbeats 2000000 in
theorem kernAxpy_ok (c : UInt8) (ax : Option Addr) (n capx : Nat) (x : List UInt8) (ay : Option Addr) (capy : Nat) (y : List UInt8) (w : World) (hx : Bs w ax n capx x) (hy : Bs w ay n capy y) (hn : 1 ≤ n) (hnm : n ≤ 1000000) :
    Calls Tryz.prog 88 #[.int .u8 (c.toNat : Int), .slice ax n capx, .slice ay n capy] w fun e w' => ∃ a' c', e = .returned (.tuple #[.slice a' n c', .int .i64 0]) ∧ Fr w' w.heap.size a' n c' (axl c x y) ∧ Gr w w' := by
  have HX := Lib.hid hx
  have HC := Lib.hid (sliceClone_own ay n capy y w hy (by omega))
  have HYL : Hid (y.length = n) := hy.1
  obtain ⟨b, off, rfl, hb, _⟩ := hx.at_ (by omega)
  have hnn : ((n : Int) != (n : Int)) = false := by simp
  clear hx hy
  go_enter Tryz.func88, Tryz.ntmps88
  go_wp2_with fail
  refine HC.out.mono ?_
  rintro e w1 ⟨v, rfl, hown, hg⟩
  obtain ⟨g, c', rfl, ho⟩ := OwnB.of_owns hown (by rw [HYL.out]; omega)
  rw [HYL.out] at ho ⊢
  have hbg : w.heap.size ≤ g := ho.base_le.1
  have HG := Lib.hid hg
  clear hown hg
  go_wp2_with fail
  refine (put_any c.toNat c.toNat_lt w.heap.size g n c' _ (some ⟨b, off, none⟩) capx x w1 ho (HX.out.below HG.out) (fun y hy => by cases hy; show b ≠ g; omega)).mono ?_
  rintro e w2 ⟨rfl, ho2, hg2⟩
  have hfin := HG.out.grb hg2 hbg
  have HF : Hid (Fr w2 w.heap.size (some ⟨g, 0, none⟩) n c' (axl c x y)) := ⟨ho2.bs, fun y hy => by cases hy; exact hbg⟩
  clear ho ho2 hg2
  go_wp2
  first | go_ret | go_ret2
  exact ⟨_, _, rfl, HF.out, hfin⟩
end Go.Proofs.YtddopoojmadpjaaGreatDoor

namespace Go.Proofs.YtddopoojmadpjaaGreatDoor
open Go.RowKit

set_option maxHeartbeats 1000000 in
theorem power_any (a : Nat) (ha : a < 256) (n : Nat) (hn : n ≤ 255) (w : World) :
    Calls Tryz.prog 121 #[.int .u8 (a : Int), .int .i64 (n : Int)] w fun e w' => e = .returned (.int .u8 (fpow a n : Nat)) ∧ w = w' := by
  go_enter Tryz.func121, Tryz.ntmps121
  go_wp2
  go_loop [5, 7] (fun s i => ∃ k : Nat, k ≤ n ∧ i = .int .i64 k ∧ s = .int .u8 (fpow a k : Nat)) (fun _ i => n - (intOf i).toNat)
  case atStart => exact ⟨0, Nat.zero_le _, rfl, rfl⟩
  case round =>
    obtain ⟨k, hk, rfl, rfl⟩ := hrel
    have hql := fpow_lt a k
    obtain ⟨q, hq⟩ : ∃ q, fpow a k = q := ⟨_, rfl⟩
    rw [hq] at hql ⊢
    by_cases hlt : k < n
    · have HN : Hid (fpow a (k + 1) = fmul q a) := by show fpow a (k + 1) = _; rw [← hq]; rfl
      clear hq
      go_wp2_with fail
      refine (times_any q a hql ha w).mono ?_
      rintro e w1 ⟨rfl, rfl⟩
      go_wp2
      go_round
      case rel => exact ⟨k + 1, by omega, by go_num, by rw [HN.out] <;> rfl⟩
      case measure => simp [intOf]; omega
    · obtain rfl : k = n := by omega
      have HQ := Lib.hid hq
      clear hq
      go_wp2
      go_ret
      exact ⟨by rw [HQ.out]; rfl, rfl⟩

set_option maxHeartbeats 400000 in
theorem fieldInv_zero (w : World) :
    Calls Tryz.prog 95 #[.int .u8 0] w fun e w' => e = .returned (.tuple #[.int .u8 0, .int .i64 3]) ∧ w = w' := by
  go_enter Tryz.func95, Tryz.ntmps95
  go_wp2
  go_ret2
  exact ⟨rfl, rfl⟩
set_option maxHeartbeats 400000 in
theorem fieldInv_any (a : Nat) (ha : a < 256) (h0 : a ≠ 0) (w : World) :
    Calls Tryz.prog 95 #[.int .u8 (a : Int)] w fun e w' => e = .returned (.tuple #[.int .u8 (finv a : Nat), .int .i64 0]) ∧ w = w' := by
  have h0' : ((a : Int) == 0) = false := by rw [beq_eq_false_iff_ne]; omega
  clear h0
  go_enter Tryz.func95, Tryz.ntmps95
  go_wp2_with fail
  refine (power_any a ha 254 (by decide) w).mono ?_
  rintro e w1 ⟨rfl, rfl⟩
  go_wp2
  go_ret2
  exact ⟨rfl, rfl⟩
end Go.Proofs.YtddopoojmadpjaaGreatDoor

namespace Go.Proofs.YtddopoojmadpjaaGreatDoor
open Go.RowKit
set_option linter.unusedVariables false

theorem Fr.grb {w w' : World} {base b n c : Nat} {a : Option Addr} {l : List UInt8} (h : Fr w base a n c l) (g : GrB w b w') (hb : b < base) : Fr w' base a n c l := ⟨h.1.grb g fun y hy => by have := h.2 y hy; omega, h.2⟩

set_option maxRecDepth 100000 in
set_option maxHeartbeats 1000000 in
theorem rowClone_any (a a' : Option Addr) (k c k' c' : Nat) (l l' : List UInt8) (w : World) (h1 : Bs w a k c l) (h2 : Bs w a' k' c' l') (hk : k ≤ 140737488355328) (hk' : k' ≤ 140737488355328) :
    Calls Tryz.prog 82 #[.agg #[.slice a k c, .slice a' k' c']] w fun e w' => ∃ a1 c1 a2 c2, e = .returned (.agg #[.slice a1 k c1, .slice a2 k' c2]) ∧ Fr w' w.heap.size a1 k c1 l ∧ Fr w' w.heap.size a2 k' c2 l' ∧ Gr w w' := by
  have HV := Lib.hid fun w h1 h2 => vecOf_any a a' k c k' c' l l' w h1 h2 hk hk'
  have hal := ((Gr.refl w).alloc (.cells #[.slice a k c, .slice a' k' c'] 113)).alloc (.cells #[.slice none 0 0, .slice none 0 0] 113)
  have hA := Gr.heap ((Gr.refl _).alloc (.cells #[.slice none 0 0, .slice none 0 0] 113)) (heap_alloc_new w (.cells #[.slice a k c, .slice a' k' c'] 113))
  have HB := Lib.hid (heap_alloc_new (w.alloc (.cells #[.slice a k c, .slice a' k' c'] 113)) (.cells #[.slice none 0 0, .slice none 0 0] 113))
  obtain ⟨x0, x1, xf⟩ := two_cells hA
  have H1 := Lib.hid (h1.below hal)
  have H2 := Lib.hid (h2.below hal)
  have HAL := Lib.hid hal
  clear h1 h2 hal hA
  go_enter Tryz.func82, Tryz.ntmps82
  go_wp2_with fail
  refine (HV.out _ H1.out H2.out).mono ?_
  rintro e w1 ⟨a1, c1, a2, c2, rfl, o1, o2, hg⟩
  have hB := hg.heap HB.out
  simp only [World.size_alloc] at hB
  obtain ⟨hgb, hh⟩ := two_set hB (.slice a1 k c1) (.slice a2 k' c2)
  have f1 := (o1.grb hgb (fun y hy => by have := o1.bs2.2 y hy; simp only [World.size_alloc] at this; omega)).bs2
  have f2 := (o2.grb hgb (fun y hy => by have := o2.bs2.2 y hy; simp only [World.size_alloc] at this; omega)).bs2
  simp only [World.size_alloc] at f1 f2
  have HF1 : Hid (Fr _ w.heap.size a1 k c1 l) := Fr.mono f1 (by omega)
  have HF2 : Hid (Fr _ w.heap.size a2 k' c2 l') := Fr.mono f2 (by omega)
  have HG := Lib.hid ((HAL.out.trans hg).grb hgb (by omega))
  obtain ⟨y0, y1, _⟩ := two_cells hh
  obtain ⟨z0, z1, zf⟩ := two_cells hB
  clear hg o1 o2 hB hgb hh f1 f2 x0 x1 xf
  go_wp2
  refine bodyPost_ret (v := .agg #[.slice a1 k c1, .slice a2 k' c2]) ?_ rfl ⟨a1, c1, a2, c2, rfl, HF1.out, HF2.out, HG.out⟩
  simp [results, Tryz.results82, go_sem, y0, y1]

set_option maxRecDepth 100000 in
set_option maxHeartbeats 2000000 in
theorem rowLess_ok (cc : UInt8) (a a' b b' : Option Addr) (k c k' c' d d' : Nat) (r r' o o' : List UInt8) (w : World) (h1 : Bs w a k c r) (h2 : Bs w a' k' c' r') (h3 : Bs w b k d o) (h4 : Bs w b' k' d' o') (hk : 1 ≤ k) (hk' : 1 ≤ k') (hkm : k ≤ 1000000) (hkm' : k' ≤ 1000000) :
    Calls Tryz.prog 46 #[.agg #[.slice a k c, .slice a' k' c'], .int .u8 (cc.toNat : Int), .agg #[.slice b k d, .slice b' k' d']] w fun e w' => ∃ a1 c1 a2 c2, e = .returned (.tuple #[.agg #[.slice a1 k c1, .slice a2 k' c2], .int .i64 0]) ∧ Fr w' w.heap.size a1 k c1 (axl cc o r) ∧ Fr w' w.heap.size a2 k' c2 (axl cc o' r') ∧ Gr w w' := by
  have HX1 := Lib.hid fun w h1 h2 => kernAxpy_ok cc b k d o a c r w h1 h2 hk hkm
  have HX2 := Lib.hid fun w h1 h2 => kernAxpy_ok cc b' k' d' o' a' c' r' w h1 h2 hk' hkm'
  have hal := (((Gr.refl w).alloc (.cells #[.slice a k c, .slice a' k' c'] 113)).alloc (.cells #[.slice b k d, .slice b' k' d'] 113)).alloc (.cells #[.slice none 0 0, .slice none 0 0] 113)
  have hA := Gr.heap (((Gr.refl _).alloc (.cells #[.slice b k d, .slice b' k' d'] 113)).alloc (.cells #[.slice none 0 0, .slice none 0 0] 113)) (heap_alloc_new w (.cells #[.slice a k c, .slice a' k' c'] 113))
  have hO := Gr.heap ((Gr.refl _).alloc (.cells #[.slice none 0 0, .slice none 0 0] 113)) (heap_alloc_new (w.alloc (.cells #[.slice a k c, .slice a' k' c'] 113)) (.cells #[.slice b k d, .slice b' k' d'] 113))
  have hB := heap_alloc_new ((w.alloc (.cells #[.slice a k c, .slice a' k' c'] 113)).alloc (.cells #[.slice b k d, .slice b' k' d'] 113)) (.cells #[.slice none 0 0, .slice none 0 0] 113)
  simp only [World.size_alloc] at hO hB
  have HA := Lib.hid hA
  have HO := Lib.hid hO
  have HB := Lib.hid hB
  obtain ⟨x0, x1, xf⟩ := two_cells hA
  obtain ⟨y0, y1, yf⟩ := two_cells hO
  have H1 := Lib.hid (h1.below hal)
  have H2 := Lib.hid (h2.below hal)
  have H3 := Lib.hid (h3.below hal)
  have H4 := Lib.hid (h4.below hal)
  have HAL := Lib.hid hal
  clear h1 h2 h3 h4 hal hA hO hB
  go_enter Tryz.func46, Tryz.ntmps46
  go_wp2_with fail
  refine (HX1.out _ H3.out H1.out).mono ?_
  rintro e w1 ⟨a1, c1, rfl, f1, hg⟩
  simp only [World.size_alloc] at f1
  have HF1 := Lib.hid f1
  have HW1 := Lib.hid (HAL.out.trans hg)
  have H21 := Lib.hid (H2.out.below hg)
  have H41 := Lib.hid (H4.out.below hg)
  have HB1 := Lib.hid (hg.heap HB.out)
  obtain ⟨x0, x1, xf⟩ := two_cells (hg.heap HA.out)
  obtain ⟨y0, y1, yf⟩ := two_cells (hg.heap HO.out)
  clear f1 hg
  go_wp2_with fail
  refine (HX2.out _ H41.out H21.out).mono ?_
  rintro e w2 ⟨a2, c2, rfl, f2, hg⟩
  have hB2 := hg.heap HB1.out
  have hsz := HW1.out.size
  have hbl := lt_of_block HB1.out
  obtain ⟨hgb, hh⟩ := two_set hB2 (.slice a1 k c1) (.slice a2 k' c2)
  have f2' := Fr.mono (base' := w.heap.size + 3) f2 (by omega)
  have HE1 := Lib.hid (Fr.mono (base' := w.heap.size) ((HF1.out.below hg).grb hgb (by omega)) (by omega))
  have HE2 := Lib.hid (Fr.mono (base' := w.heap.size) (f2'.grb hgb (by omega)) (by omega))
  have HG := Lib.hid ((HW1.out.trans hg).grb hgb (by omega))
  obtain ⟨p0, p1, _⟩ := two_cells hh
  obtain ⟨q0, q1, qf⟩ := two_cells hB2
  clear hg f2 f2' hB2 hgb hh x0 x1 xf y0 y1 yf
  go_wp2
  refine bodyPost_ret (v := .tuple #[.agg #[.slice a1 k c1, .slice a2 k' c2], .int .i64 0]) ?_ rfl ⟨a1, c1, a2, c2, rfl, HE1.out, HE2.out, HG.out⟩
  simp [results, Tryz.results46, go_sem, p0, p1]

theorem normC_toNat (l : List UInt8) : (normC l).toNat = finv (fn l (leadL l)).toNat := binv_toNat _

set_option maxRecDepth 100000 in
set_option maxHeartbeats 4000000 in
theorem rowNorm_ok (a a' : Option Addr) (k c k' c' : Nat) (l l' : List UInt8) (w : World) (h1 : Bs w a k c l) (h2 : Bs w a' k' c' l') (hl : leadL l < l.length) (hk' : 1 ≤ k') (hkm : k ≤ 1000000) (hkm' : k' ≤ 1000000) :
    Calls Tryz.prog 55 #[.agg #[.slice a k c, .slice a' k' c']] w fun e w' => ∃ a1 c1 a2 c2, e = .returned (.agg #[.slice a1 k c1, .slice a2 k' c2]) ∧ Fr w' w.heap.size a1 k c1 (normL l) ∧ Fr w' w.heap.size a2 k' c2 (scaleL (normC l) l') ∧ Gr w w' := by
  have hk : 1 ≤ k := by have := h1.1; omega
  have HL := Lib.hid fun w h => vecLead_any a k c l w h
  have HT := Lib.hid fun w h => vecAt_any a k c l (leadL l) (by have := h1.1; omega) w h
  have HIV := Lib.hid fun w => fieldInv_any (fn l (leadL l)).toNat (UInt8.toNat_lt _) (u8_ne_zero (leadL_lead hl).1) w
  have HS1 := Lib.hid fun w h => kernScale_ok (normC l) a k c l w h hk hkm
  have HS2 := Lib.hid fun w h => kernScale_ok (normC l) a' k' c' l' w h hk' hkm'
  rw [leadI_of (leadL_lead hl)] at HL
  rw [atN_nat] at HT
  rw [← normC_toNat] at HIV
  have hNL : normL l = scaleL (normC l) l := rfl
  rw [hNL]
  obtain ⟨NV, eNV⟩ : ∃ x, scaleL (normC l) l = x := ⟨_, rfl⟩
  obtain ⟨ND, eND⟩ : ∃ x, scaleL (normC l) l' = x := ⟨_, rfl⟩
  rw [eNV] at HS1
  rw [eND] at HS2
  rw [eNV, eND]
  have hN256 : (normC l).toNat < 256 := UInt8.toNat_lt _
  obtain ⟨N, eN⟩ : ∃ x, (normC l).toNat = x := ⟨_, rfl⟩
  rw [eN] at HIV HS1 HS2 hN256
  have hB256 : (fn l (leadL l)).toNat < 256 := UInt8.toNat_lt _
  obtain ⟨X, eX⟩ : ∃ x, (fn l (leadL l)).toNat = x := ⟨_, rfl⟩
  rw [eX] at HT HIV hB256
  obtain ⟨P, eP⟩ : ∃ x, leadL l = x := ⟨_, rfl⟩
  rw [eP] at HL HT
  clear hNL eNV eND eN eX eP hl
  have hal := ((Gr.refl w).alloc (.cells #[.slice a k c, .slice a' k' c'] 113)).alloc (.cells #[.slice none 0 0, .slice none 0 0] 113)
  have hA := Gr.heap ((Gr.refl _).alloc (.cells #[.slice none 0 0, .slice none 0 0] 113)) (heap_alloc_new w (.cells #[.slice a k c, .slice a' k' c'] 113))
  have hB := heap_alloc_new (w.alloc (.cells #[.slice a k c, .slice a' k' c'] 113)) (.cells #[.slice none 0 0, .slice none 0 0] 113)
  simp only [World.size_alloc] at hB
  have HA := Lib.hid hA
  have HB := Lib.hid hB
  obtain ⟨x0, x1, xf⟩ := two_cells hA
  have H1 := Lib.hid (h1.below hal)
  have H2 := Lib.hid (h2.below hal)
  have HAL := Lib.hid hal
  clear h1 h2 hal hA hB
  go_enter Tryz.func55, Tryz.ntmps55
  go_wp2_with fail
  go_quiet ((first | (go_at_call 53; refine Calls.quiet_of_same ((HL.out _ (H1.out.below ((Gr.refl _).drewN _))).mono fun _ _ ⟨h1, h2⟩ => ⟨h1, h2.symm⟩)) | (go_at_call 52; refine Calls.quiet_of_same ((HT.out _ (H1.out.below ((Gr.refl _).drewN _))).mono fun _ _ ⟨h1, h2⟩ => ⟨h1, h2.symm⟩)) | (go_at_call 95; refine Calls.quiet_of_same ((HIV.out _).mono fun _ _ ⟨h1, h2⟩ => ⟨h1, h2.symm⟩))))
  go_wp2
  obtain ⟨W0, eW⟩ : ∃ W, (((w.alloc (.cells #[.slice a k c, .slice a' k' c'] 113)).alloc (.cells #[.slice none 0 0, .slice none 0 0] 113)).drewN nq) = W := ⟨_, rfl⟩
  have hd := (Gr.refl ((w.alloc (.cells #[.slice a k c, .slice a' k' c'] 113)).alloc (.cells #[.slice none 0 0, .slice none 0 0] 113))).drewN nq
  rw [eW] at hd ⊢
  clear eW
  have hup : Nonempty (Up Gr W0.drew) := ⟨⟨_, Gr.refl _⟩⟩
  obtain ⟨v0, v1⟩ := up_two (W0 := W0) (Rel := Gr) gr_st (hd.heap HA.out)
  have HD := Lib.hid hd
  clear x0 x1 xf hd
  refine wp_region_rg [.reck, .reck, .reck, spF (w.heap.size + 2) k NV, .reck, .reck, .reck, spF (w.heap.size + 2) k' ND, .reck] Gr (by kernel_rfl) (by kernel_rfl) Gr.refl (fun _ _ _ => Gr.trans) ?_
  (refine wpRG_reck rfl (fun K hK => ?_); go_big_quiet_op; refine hK _ ?_; clear hK K)
  (refine wpRG_reck rfl (fun K hK => ?_); go_big_quiet_op; refine hK _ ?_; clear hK K)
  (refine wpRG_reck rfl (fun K hK => ?_); go_big_quiet_op; refine hK _ ?_; clear hK K)
  refine wpRG_any rfl (fun x w w' hg h => ⟨h.1.below hg, h.2⟩) (fun W hw hF R hR => ?_) ?_
  · (have HF := Lib.hid hF; clear hF; unfold rgAt; go_simp)
    show Calls _ _ _ _ _
    have hb := HD.out.drew.trans hw
    refine (HS1.out W (H1.out.below hb)).mono ?_
    rintro e w6 ⟨a6, rfl, f6, hg6⟩
    have hsz := hb.size
    simp only [World.size_alloc] at hsz
    exact ⟨_, rfl, hR (a6, k) _ hg6 ⟨f6.1, fun y hy => Nat.le_trans hsz (f6.2 y hy)⟩⟩
  rintro ⟨a1, c1⟩
  (simp only [Act.put, List.setIfInBounds_toArray, List.set_cons_zero, List.set_cons_succ])
  (refine wpRG_reck rfl (fun K hK => ?_); go_big_quiet_op; refine hK _ ?_; clear hK K)
  (refine wpRG_reck rfl (fun K hK => ?_); go_big_quiet_op; refine hK _ ?_; clear hK K)
  (refine wpRG_reck rfl (fun K hK => ?_); go_big_quiet_op; refine hK _ ?_; clear hK K)
  refine wpRG_any rfl (fun x w w' hg h => ⟨h.1.below hg, h.2⟩) (fun W hw hF R hR => ?_) ?_
  · (have HF := Lib.hid hF; clear hF; unfold rgAt; go_simp)
    show Calls _ _ _ _ _
    have hb := HD.out.drew.trans hw
    refine (HS2.out W (H2.out.below hb)).mono ?_
    rintro e w6 ⟨a6, rfl, f6, hg6⟩
    have hsz := hb.size
    simp only [World.size_alloc] at hsz
    exact ⟨_, rfl, hR (a6, k') _ hg6 ⟨f6.1, fun y hy => Nat.le_trans hsz (f6.2 y hy)⟩⟩
  rintro ⟨a2, c2⟩
  (simp only [Act.put, List.setIfInBounds_toArray, List.set_cons_zero, List.set_cons_succ])
  (refine wpRG_reck rfl (fun K hK => ?_); go_big_quiet_op; refine hK _ ?_; clear hK K)
  refine wpRG_end fun W hw hF => ?_
  have hb1 : Bs W a1 k c1 NV ∧ ∀ y, a1 = some y → w.heap.size + 2 ≤ y.block := hF 3
  have hb2 : Bs W a2 k' c2 ND ∧ ∀ y, a2 = some y → w.heap.size + 2 ≤ y.block := hF 7
  have hb := HD.out.drew.trans hw
  have hB2 := hb.heap HB.out
  obtain ⟨hgb, hh⟩ := two_set hB2 (.slice a1 k c1) (.slice a2 k' c2)
  have HE1 := Lib.hid (Fr.mono (base' := w.heap.size) (Fr.grb (base := w.heap.size + 2) hb1 hgb (by omega)) (by omega))
  have HE2 := Lib.hid (Fr.mono (base' := w.heap.size) (Fr.grb (base := w.heap.size + 2) hb2 hgb (by omega)) (by omega))
  have HG := Lib.hid ((HAL.out.trans hb).grb hgb (by omega))
  obtain ⟨p0, p1, _⟩ := two_cells hh
  obtain ⟨q0, q1, qf⟩ := two_cells hB2
  clear hF hb1 hb2 hb hB2 hgb hh v0 v1 hup
  go_wp2
  refine bodyPost_ret (v := .agg #[.slice a1 k c1, .slice a2 k' c2]) ?_ rfl ⟨a1, c1, a2, c2, rfl, HE1.out, HE2.out, HG.out⟩
  simp [results, Tryz.results55, go_sem, p0, p1]
end Go.Proofs.YtddopoojmadpjaaGreatDoor
