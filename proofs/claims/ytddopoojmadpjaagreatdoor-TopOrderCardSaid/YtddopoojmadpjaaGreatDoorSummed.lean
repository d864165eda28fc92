/-
  The laws' own helper summed: neighbours' equations, added.
-/
import Derived.Test.YtddopoojmadpjaaGreatDoorGoods
namespace Go.Proofs.YtddopoojmadpjaaGreatDoor
open Go.RowKit
set_option linter.unusedVariables false

theorem speaks_none (B T E n s q id first mx : Nat) (S : Nat → Prop) (D : List UInt8 → List UInt8) (a : Option Addr) (len cap : Nat) (hlen : len ≤ 1000) (ds : List (List UInt8)) (w : World) (hTS : TakS w S T E n s q id [] D mx) (hR : RelAt w B T first) (h : Bss w a len cap ds) :
    Calls Tryz.prog 14 #[.pointer (some ⟨B, 0, none⟩), .slice a len cap] w fun e w' => e = .returned (.tuple #[.slice none 0 0, .bool true]) ∧ Gr w w' := by
  have HRK := Lib.hid (takerRank_S T E n s q id mx S [] D w hTS)
  have H := Lib.hid h
  have hcap : len ≤ 9223372036854775807 := by omega
  obtain ⟨r0, r1, rf⟩ := two_cells hR
  clear hTS hR h
  go_enter Tryz.func14, Tryz.ntmps14
  go_wp2
  go_loopw [6, 13] (fun o i wr => i = .int .i64 0 ∧ o = .slice none 0 0 ∧ wr = w) (fun _ i _ => 0)
  case atStart => exact ⟨rfl, rfl, rfl⟩
  case round =>
    obtain ⟨rfl, rfl, rfl⟩ := hrel
    by_cases hlt : 0 < len
    · obtain ⟨b, off, rfl, _⟩ := H.out.at_ hlt
      obtain ⟨d, a', n', c', hdj, hc, hb⟩ := H.out.get hlt
      clear hdj hb
      rw [Nat.add_zero] at hc
      have hli : (0 : Int) < (len : Int) := by omega
      go_wp2_with fail
      refine HRK.out.mono ?_
      rintro e w2 ⟨rfl, hw2⟩
      subst hw2
      go_wp2
      first | go_ret | go_ret2
      exact ⟨rfl, Gr.refl _⟩
    · obtain rfl : len = 0 := by omega
      go_wp2
      first | go_ret | go_ret2
      exact ⟨rfl, Gr.refl _⟩

/-- packet.Read of a packet that tells an equation. -/
theorem read_good (n s q id : Nat) (hP : planErr n s q = 0) (hnm : n ≤ 1000000000) (D : List UInt8 → List UInt8) (l v : List UInt8) (m nn sd : Nat) (lb : List UInt8) (hpe : packErr n s q id l = 0) (hpg : packGot n s q id l = ⟨m, id, nn, m, sd, lb, D v⟩) (hs : (D v).length = s) (a : Option Addr) (len cap : Nat) (w : World) (htab : Tab w) (hb : Bs w a len cap l) (hlen : len ≤ 1000000) :
    Calls Tryz.prog 45 #[.agg #[.int .i64 (n : Int), .int .i64 (s : Int), .int .i64 (q : Int), .int .u32 (id : Int)], .slice a len cap] w fun e w' => ∃ a1 c1 a2 c2, e = .returned (.tuple #[.agg #[.int .u8 (m : Int), .int .u32 (id : Int), .int .u32 (nn : Int), .int .u8 (m : Int), .slice a1 lb.length c1, .int .u64 (sd : Int), .slice a2 s c2], .int .i64 0]) ∧ OwnV w' w.heap.size (.slice a1 lb.length c1) lb ∧ OwnV w' w.heap.size (.slice a2 s c2) (D v) ∧ Gr w w' := by
  obtain ⟨hs1, hs2, hq1, hq2⟩ := plan_bounds hP
  obtain ⟨sz, W, hsz, hW, hln⟩ := packErr_len hpe
  obtain rfl : s = sz := by omega
  have hl := hb.1
  obtain rfl : len = 10 + W + s + 4 := by omega
  rw [packGot, if_pos hpe, hW] at hpg
  injection hpg with e1 e2 e3 e4 e5 e6 e7
  refine (packRead_okO n s W q id (by omega) (by omega) (by omega) a cap l w htab hb (by omega) hW hpe).mono ?_
  rintro e w' ⟨a1, k1, c1, a2, c2, rfl, h1, h2, hg⟩
  have f1 : headM l = m := e1
  have f2 : headO l = id := e2
  have f3 : headN l = nn := e3
  have f5 : readSeed (headM l) ((l.take (10 + W)).drop 10) = sd := e5
  have f6 : readBytes (headM l) ((l.take (10 + W)).drop 10) = lb := e6
  have f7 : (l.take (10 + W + s)).drop (10 + W) = D v := e7
  rw [f6] at h1
  rw [f7] at h2
  have hk : lb.length = k1 := h1.bs2.1.1
  subst hk
  exact ⟨a1, c1, a2, c2, by rw [f5, f1, f2, f3], h1, h2, hg⟩

set_option maxRecDepth 100000 in
set_option maxHeartbeats 1000000 in
/-- Explicit, the symbols' block told. -/
theorem explicit_okS (B n s q id : Nat) (hP : planErr n s q = 0) (hid : id < 4294967296) (hnm : n ≤ 1000000000) (obj : List UInt8) (next : Nat) (hnx : next < 4294967296) (a : Option Addr) (cap : Nat) (l : List UInt8) (w : World) (htab : Tab w) (hs : Bs w a q cap l) (h : SendAt w B n s q id obj next) :
    Calls Tryz.prog 29 #[.pointer (some ⟨B, 0, none⟩), .slice a q cap] w fun e w' => ∃ a' k' c', e = .returned (.tuple #[.slice a' k' c', .int .i64 0]) ∧ Bs w' a' k' c' (sentL n s q id obj next 0 l 0) ∧ (∀ x, a' = some x → w.heap.size ≤ x.block) ∧ SendAt w' B n s q id obj (next + 1) ∧ GrB w B w' ∧ ∃ S, w.cell? ⟨B, 4, none⟩ = some (.slice (some ⟨S, 0, none⟩) q q) ∧ w'.cell? ⟨B, 4, none⟩ = some (.slice (some ⟨S, 0, none⟩) q q) := by
  obtain ⟨hs1, hs2, hq1, hq2⟩ := plan_bounds hP
  have hE : rowErr 0 q q = 0 := by unfold rowErr; rw [if_neg (by rw [widthE_ok (by decide) (by omega) (by omega)]; decide), if_neg (by omega)]
  have HX := Lib.hid fun w h => explicit_any a q cap l w h (by omega)
  have HO := Lib.hid fun a' c' w ht h1 h2 => send_okS B n s q id hP hid hnm obj next hnx 0 a' q c' 0 (by decide) l (by omega) hE w ht h1 h2
  have HS := Lib.hid hs
  have HT := Lib.hid htab
  have HA := Lib.hid h
  have HBl : Hid (B < w.heap.size) := by obtain ⟨_, h1, _⟩ := h; exact lt_of_block h1
  clear hP hE hs htab h
  go_enter Tryz.func29, Tryz.ntmps29
  go_wp2_with fail
  refine (HX.out _ HS.out).mono ?_
  rintro e w1 ⟨a', c', rfl, hb, _, hg⟩
  have C := Lib.hid (HO.out a' c' w1 (HT.out.below hg) hb (HA.out.gr hg))
  have HG := Lib.hid hg
  clear hb hg
  go_wp2_with fail
  refine C.out.mono ?_
  rintro e w2 ⟨a2, k2, c2, rfl, hb2, hf2, hs2, hg2, S, e1, e2⟩
  have e1' : w.cell? ⟨B, 4, none⟩ = some (.slice (some ⟨S, 0, none⟩) q q) := by rw [← e1]; exact (World.cell?_of_block (HG.out.block HBl.out)).symm
  have hfin := Lib.hid (And.intro hb2 (And.intro (fun x hx => Nat.le_trans HG.out.size (hf2 x hx)) (And.intro hs2 (And.intro ((GrB.of_gr HG.out).trans hg2) (Exists.intro (p := fun S => w.cell? ⟨B, 4, none⟩ = some (.slice (some ⟨S, 0, none⟩) q q) ∧ w2.cell? ⟨B, 4, none⟩ = some (.slice (some ⟨S, 0, none⟩) q q)) S (And.intro e1' e2))))))
  clear hb2 hf2 hs2 hg2 e1 e2 e1'
  go_wp2
  first | go_ret | go_ret2
  exact ⟨a2, k2, c2, rfl, hfin.out⟩

/-- rows of bytes stay where blocks without bytes have turned, and new ones. -/
theorem Bss.noB {w0 w : World} {S3 : Nat → Prop} {a : Option Addr} {n c : Nat} {ls : List (List UInt8)} (h : Bss w0 a n c ls) (g : GrS S3 w0 w) (hn : ∀ b, S3 b → ∀ (i : Nat) (u : Int), w0.cell? ⟨b, i, none⟩ ≠ some (.int .u8 u)) (ha : ∀ y, a = some y → ¬ S3 y.block) : Bss w a n c ls := by
  refine ⟨h.1, h.2.1, h.2.2.1, h.2.2.2.1, fun x hx i l hl => ?_⟩
  obtain ⟨a', n', c', hc, hbs⟩ := h.2.2.2.2 x hx i l hl
  refine ⟨a', n', c', g.cell hc (by rw [Addr.add_block]; exact ha x hx), hbs.1, hbs.2.1, hbs.2.2.1, hbs.2.2.2.1, fun y hy k u hu => ?_⟩
  have hcu := hbs.2.2.2.2 y hy k u hu
  refine g.cell hcu fun hS => ?_
  have hsp := World.cell?_spot hcu
  obtain ⟨b, off, spot⟩ : ∃ b off, (y.add k) = ⟨b, off, none⟩ := ⟨(y.add k).block, (y.add k).off, by rw [← hsp]⟩
  rw [spot] at hcu hS
  exact hn b hS off _ hcu
theorem cells_noB {w : World} {b : Nat} {cs : Array Value} {t : TypeId} (h : w.heap[b]? = some (.cells cs t)) (hcs : ∀ (j : Nat) (u : Int), cs[j]? ≠ some (.int .u8 u)) (i : Nat) (u : Int) : w.cell? ⟨b, i, none⟩ ≠ some (.int .u8 u) := by
  simp only [World.cell?, h]; exact hcs i u

set_option maxRecDepth 100000 in
set_option maxHeartbeats 4000000 in
theorem summed_ok (n s q id : Nat) (hP : planErr n s q = 0) (hid : id < 4294967296) (hnm : n ≤ 1000000000) (obj : List UInt8) (ao : Option Addr) (co : Nat) (a : Option Addr) (len cap : Nat) (hlen : len ≤ 60) (ls vs : List (List UInt8)) (w : World) (htab : Tab w) (ho : Bs w ao n co obj) (h : Bss w a len cap ls) (hg : Goods n s q id (dat obj s q) ls vs) :
    Calls Tryz.prog 20 #[.agg #[.int .i64 (n : Int), .int .i64 (s : Int), .int .i64 (q : Int), .int .u32 (id : Int)], .slice ao n co, .slice a len cap] w fun e w' => e = .returned (.bool true) ∧ Gr w w' := by
  obtain ⟨hs1, hs2, hq1, hq2⟩ := plan_bounds hP
  have HN := Lib.hid fun w => takerNew_S n s q id (dat obj s q) hP (by omega) w
  have HNS := Lib.hid fun w h => senderNew_ok n s q id hP ao co obj w h (by omega)
  have hal := (Gr.refl w).alloc (.cells #[.int .i64 (n : Int), .int .i64 (s : Int), .int .i64 (q : Int), .int .u32 (id : Int)] 28)
  have HPL := Lib.hid (heap_alloc_new w (.cells #[.int .i64 (n : Int), .int .i64 (s : Int), .int .i64 (q : Int), .int .u32 (id : Int)] 28))
  have HAL := Lib.hid hal
  have H := Lib.hid h
  have HO := Lib.hid ho
  have HT := Lib.hid htab
  have HP := Lib.hid hP
  have HGD := Lib.hid hg
  have HLS : Hid (ls.length = len) := h.1
  have hcap : len ≤ 9223372036854775807 := by omega
  obtain ⟨p0, p1, p2, p3⟩ := p_four_cells HPL.out
  clear hP hal h htab hg ho
  go_enter Tryz.func20, Tryz.ntmps20
  go_wp2_with fail
  refine (HN.out _).mono ?_
  rintro e w1 ⟨T, E, rfl, h1, h2, hts, hg⟩
  rw [World.size_alloc] at h1
  have HTS1 := Lib.hid hts
  have hTw1 := hts.lt
  have HW1 := Lib.hid (HAL.out.trans hg)
  have HPL1 := Lib.hid (hg.heap HPL.out)
  obtain ⟨p0, p1, p2, p3⟩ := p_four_cells HPL1.out
  clear hts hg
  go_wp2_with fail
  refine (HNS.out _ (HO.out.below HW1.out)).mono ?_
  rintro e w2 ⟨B, hB, rfl, hsa, hg⟩
  have hTB : T < B := by omega
  obtain ⟨X, hc0, hss, hXB, hXl⟩ := hsa
  have HC0 : Hid (SendCells w2 B n s q id X 0) := hc0
  have HSS := Lib.hid hss
  have HTS2 := Lib.hid (HTS1.out.gr hg)
  have HW2 := Lib.hid (HW1.out.trans hg)
  have HPL2 := Lib.hid (hg.heap HPL1.out)
  have hBl : B < w2.heap.size := lt_of_block hc0
  clear hc0 hss hg
  have HSB2 : Hid (∀ b, (b = T ∨ b = E ∨ b = B) → ∀ (i : Nat) (u : Int), w2.cell? ⟨b, i, none⟩ ≠ some (.int .u8 u)) := by
    show ∀ b, _
    obtain ⟨gg, es, _, hTA, _, hEA, _⟩ := HTS2.out
    obtain ⟨r, ar, cr, er, hEc⟩ := hEA.cells
    rintro b (rfl | rfl | rfl)
    · exact cells_noB hTA tak_noB
    · exact cells_noB hEc fun j u => by match j with | 0 => simp | 1 => simp | 2 => simp | j + 3 => simp
    · exact cells_noB HC0.out fun j u => by match j with | 0 => simp | 1 => simp | 2 => simp | 3 => simp | 4 => simp | 5 => simp | j + 6 => simp
  have hXc : ∃ v : Value, w2.cell? ⟨X, 0, none⟩ = some v ∧ ∀ k i, v ≠ .int k i := by
    obtain ⟨l, a', n', c', _, hc, _⟩ := HSS.out.get (i := 0) (by omega)
    exact ⟨_, hc, fun k i h => by cases h⟩
  have HXT : Hid (∀ b, (b = T ∨ b = E ∨ b = B) → X ≠ b) := by
    show ∀ b, _
    obtain ⟨gg, es, _, hTA, _, hEA, _⟩ := HTS2.out
    obtain ⟨r, ar, cr, er, hEc⟩ := hEA.cells
    obtain ⟨v, hv, hvi⟩ := hXc
    rintro b (rfl | rfl | rfl) e
    · obtain ⟨t0, _⟩ := seven_cells hTA
      rw [e, t0] at hv; exact hvi _ _ (Option.some.inj hv).symm
    · obtain ⟨t0, _⟩ := three_all hEc
      rw [e, t0] at hv; exact hvi _ _ (Option.some.inj hv).symm
    · exact hXB e
  clear hXc
  go_wp2
  go_loopw [11] (fun i wr => ∃ (j : Nat) (V : List (List UInt8)) (S : Nat → Prop), j ≤ len ∧ i = .int .i64 j ∧ TakS wr S T E n s q id V (dat obj s q) j ∧ (∀ b, S b → b = E ∨ w2.heap.size ≤ b) ∧ SendCells wr B n s q id X j ∧ GrS (fun b => b = T ∨ b = E ∨ b = B) w2 wr) (fun i _ => len - (intOf i).toNat)
  case atStart => exact ⟨0, [], _, Nat.zero_le _, rfl, HTS2.out, fun b hb => .inl hb, HC0.out, GrS.refl _ _⟩
  case round =>
    obtain ⟨j, V, S, hj, rfl, hts, hS, hsc, hgs⟩ := hrel
    have HTS := Lib.hid hts
    have HS := Lib.hid hS
    have HSC := Lib.hid hsc
    have HGS := Lib.hid hgs
    have HGW0 := Lib.hid (GrS.to_gr HW2.out hgs fun b hb => by rcases hb with rfl | rfl | rfl <;> omega)
    have HPLr := Lib.hid (HGS.out.heap HPL2.out (fun hb => by rcases hb with hb | hb | hb <;> omega))
    have hsz := hgs.size
    clear hts hS hsc hgs p0 p1 p2 p3
    by_cases hlt : j + 1 < len
    · obtain ⟨bl, off, rfl, _⟩ := H.out.at_ (by omega)
      obtain ⟨l1, al1, kl1, cl1, hl1, q1, hbl1⟩ := H.out.get (i := j) (by omega)
      obtain ⟨l2, al2, kl2, cl2, hl2, q2, hbl2⟩ := H.out.get (i := j + 1) hlt
      have hv1 : vs[j]? = some (vs[j]'(by rw [HGD.out.1, HLS.out]; omega)) := by simp
      have hv2 : vs[j + 1]? = some (vs[j + 1]'(by rw [HGD.out.1, HLS.out]; omega)) := by simp
      obtain ⟨v1, ev1⟩ : ∃ v, vs[j]'(by rw [HGD.out.1, HLS.out]; omega) = v := ⟨_, rfl⟩
      obtain ⟨v2, ev2⟩ : ∃ v, vs[j + 1]'(by rw [HGD.out.1, HLS.out]; omega) = v := ⟨_, rfl⟩
      rw [ev1] at hv1
      rw [ev2] at hv2
      obtain ⟨hgd1, hlm1⟩ := HGD.out.2 j l1 v1 hl1 hv1
      obtain ⟨hgd2, hlm2⟩ := HGD.out.2 (j + 1) l2 v2 hl2 hv2
      rw [hbl1.1] at hlm1
      rw [hbl2.1] at hlm2
      obtain ⟨m1, nn1, sd1, lb1, hsd1, hpe1, hpg1, hfit1, hlb1, hrv1, hvl1⟩ := hgd1
      obtain ⟨m2, nn2, sd2, lb2, hsd2, hpe2, hpg2, hfit2, hlb2, hrv2, hvl2⟩ := hgd2
      have hDs : ∀ v, (dat obj s q v).length = s := fun v => combL_length cut_same
      have HRD1 := Lib.hid fun w ht h => read_good n s q id HP.out hnm (dat obj s q) l1 v1 m1 nn1 sd1 lb1 hpe1 hpg1 (hDs v1) al1 kl1 cl1 w ht h hlm1
      have HRD2 := Lib.hid fun w ht h => read_good n s q id HP.out hnm (dat obj s q) l2 v2 m2 nn2 sd2 lb2 hpe2 hpg2 (hDs v2) al2 kl2 cl2 w ht h hlm2
      rw [hDs v1] at hfit1
      rw [hDs v2] at hfit2
      have HQ1 := Lib.hid fun (a1 : Option Addr) (c1 : Nat) (a2 : Option Addr) (c2 : Nat) w h1 h2 => packEq_ok n s q id m1 nn1 lb1.length s sd1 hsd1 (by omega) (by omega) (by omega) (by omega) a1 a2 c1 c2 lb1 (dat obj s q v1) w h1 h2 (by omega) (by omega) (by omega) hfit1
      have HQ2 := Lib.hid fun (a1 : Option Addr) (c1 : Nat) (a2 : Option Addr) (c2 : Nat) w h1 h2 => packEq_ok n s q id m2 nn2 lb2.length s sd2 hsd2 (by omega) (by omega) (by omega) (by omega) a1 a2 c1 c2 lb2 (dat obj s q v2) w h1 h2 (by omega) (by omega) (by omega) hfit2
      rw [hrv1] at HQ1
      rw [hrv2] at HQ2
      have HVL1 := Lib.hid hvl1
      have HVL2 := Lib.hid hvl2
      have HBL1 := Lib.hid hbl1
      have HBL2 := Lib.hid hbl2
      have HQC2 := Lib.hid q2
      have hji : (j : Int) + 1 < (len : Int) := by omega
      have hjt : ((j : Int) + 1).toNat = j + 1 := by omega
      replace q1 := HGW0.out.cell q1
      obtain ⟨p0, p1, p2, p3⟩ := p_four_cells HPLr.out
      clear hl1 hl2 hbl1 hbl2 q2 hv1 hv2 ev1 ev2 hlm1 hlm2 hpe1 hpe2 hpg1 hpg2 hfit1 hfit2 hrv1 hrv2 hvl1 hvl2 hsd1 hsd2 hlb1 hlb2 hDs
      go_wp2
      have hup : Nonempty (Up Gr wr.drew) := ⟨⟨_, Gr.refl _⟩⟩
      have u0 : ∀ x : Up Gr wr.drew, x.w.cell? ⟨w.heap.size, 0, none⟩ = some (.int .i64 (n : Int)) := fun x => gr_st x.rel p0
      have u1 : ∀ x : Up Gr wr.drew, x.w.cell? ⟨w.heap.size, 1, none⟩ = some (.int .i64 (s : Int)) := fun x => gr_st x.rel p1
      have u2 : ∀ x : Up Gr wr.drew, x.w.cell? ⟨w.heap.size, 2, none⟩ = some (.int .i64 (q : Int)) := fun x => gr_st x.rel p2
      have u3 : ∀ x : Up Gr wr.drew, x.w.cell? ⟨w.heap.size, 3, none⟩ = some (.int .u32 (id : Int)) := fun x => gr_st x.rel p3
      have u4 : ∀ x : Up Gr wr.drew, x.w.cell? ⟨bl, off + j, none⟩ = some (.slice al1 kl1 cl1) := fun x => gr_st x.rel q1
      clear p0 p1 p2 p3 q1
      refine wp_region_rgF [.reck, .reck, .reck, .reck, .reck, .any (Option Addr × Nat × Option Addr × Nat) (none, 0, none, 0) (fun x => .tuple #[.agg #[.int .u8 (m1 : Int), .int .u32 (id : Int), .int .u32 (nn1 : Int), .int .u8 (m1 : Int), .slice x.1 lb1.length x.2.1, .int .u64 (sd1 : Int), .slice x.2.2.1 s x.2.2.2], .int .i64 0]) (fun x W => (∃ b, OwnV W b (.slice x.1 lb1.length x.2.1) lb1) ∧ ∃ b, OwnV W b (.slice x.2.2.1 s x.2.2.2) (dat obj s q v1)), .reck, .reck, .flt,
        .any Nat 0 (fun b => .pointer (some ⟨b, 0, none⟩)) (fun b w' => wr.heap.size ≤ b ∧ w'.heap[b]? = some (.cells #[.int .u8 0, .int .u32 0, .int .u32 0, .int .u8 0, .slice none 0 0, .int .u64 0, .slice none 0 0] 96))] Gr (by kernel_rfl) (by kernel_rfl) Gr.refl (fun _ _ _ => Gr.trans) ?_
      (refine wpRG_reck rfl (fun K hK => ?_); go_big_quiet_op; refine hK _ ?_; clear hK K)
      (refine wpRG_reck rfl (fun K hK => ?_); go_big_quiet_op; refine hK _ ?_; clear hK K)
      (refine wpRG_reck rfl (fun K hK => ?_); go_big_quiet_op; refine hK _ ?_; clear hK K)
      (refine wpRG_reck rfl (fun K hK => ?_); go_big_quiet_op; refine hK _ ?_; clear hK K)
      (refine wpRG_reck rfl (fun K hK => ?_); go_big_quiet_op; refine hK _ ?_; clear hK K)
      refine wpRG_any rfl (fun x w w' hg h => ⟨h.1.elim fun b h => ⟨b, h.gr hg⟩, h.2.elim fun b h => ⟨b, h.gr hg⟩⟩) (fun W' hw hF R hR => ?_) ?_
      · (have HF := Lib.hid hF; clear hF; unfold rgAt; go_simp)
        show Calls _ _ _ _ _
        have hb := ((Gr.refl wr).drew).trans hw
        refine (HRD1.out W' (HT.out.below (HGW0.out.trans hb)) (HBL1.out.below (HGW0.out.trans hb))).mono ?_
        rintro e w7 ⟨a1, c1, a2, c2, rfl, h1, h2, hg7⟩
        exact ⟨_, rfl, hR (a1, c1, a2, c2) _ hg7 ⟨⟨_, h1⟩, ⟨_, h2⟩⟩⟩
      rintro ⟨a1, c1, d1, e1⟩
      (simp only [Act.put, List.setIfInBounds_toArray, List.set_cons_zero, List.set_cons_succ])
      (refine wpRG_reck rfl (fun K hK => ?_); go_big_quiet_op; refine hK _ ?_; clear hK K)
      (refine wpRG_reck rfl (fun K hK => ?_); go_big_quiet_op; refine hK _ ?_; clear hK K)
      refine wpRG_flt rfl (fun _ => by go_simp; rfl) ?_
      (simp only [Act.put])
      refine wpRG_any rfl (fun x w w' hg h => ⟨h.1, hg.heap h.2⟩) (fun W' hw hF R hR => ?_) ?_
      · (have HF := Lib.hid hF; clear hF; unfold rgAt; go_simp)
        exact hR W'.heap.size _ ((Gr.refl _).alloc _) ⟨hw.size, heap_alloc_new _ _⟩
      intro P1
      (simp only [Act.put, List.setIfInBounds_toArray, List.set_cons_zero, List.set_cons_succ])
      refine wpRG_end fun W' hw hF => ?_
      have hx5 : (∃ b, OwnV W' b (.slice a1 lb1.length c1) lb1) ∧ ∃ b, OwnV W' b (.slice d1 s e1) (dat obj s q v1) := hF 5
      have hx7 : wr.heap.size ≤ P1 ∧ W'.heap[P1]? = some (.cells #[.int .u8 0, .int .u32 0, .int .u32 0, .int .u8 0, .slice none 0 0, .int .u64 0, .slice none 0 0] 96) := hF 9
      have hgW : Gr wr W' := (Gr.refl _).drew.trans hw
      clear hw hF u0 u1 u2 u3 u4 hup
      obtain ⟨⟨_, ho1⟩, ⟨_, ho2⟩⟩ := hx5
      obtain ⟨hx8, hx9⟩ := hx7
      obtain ⟨r0, r1, r2, r3, r4, r5, r6, rf⟩ := seven_cells hx9
      have hh := seven_set hx9 (.int .u8 (m1 : Int)) (.int .u32 (id : Int)) (.int .u32 (nn1 : Int)) (.int .u8 (m1 : Int)) (.slice a1 lb1.length c1) (.int .u64 (sd1 : Int)) (.slice d1 s e1)
      have hgb := grb_seven W' P1 (.int .u8 (m1 : Int)) (.int .u32 (id : Int)) (.int .u32 (nn1 : Int)) (.int .u8 (m1 : Int)) (.slice a1 lb1.length c1) (.int .u64 (sd1 : Int)) (.slice d1 s e1)
      have hO1 := (ho1.grb hgb (ho1.ne_block hx9 (by decide))).bs2.1
      have hO2 := (ho2.grb hgb (ho2.ne_block hx9 (by decide))).bs2.1
      refine wpTl_cons rfl (fun R hR => ?_)
      unfold rgAt
      go_simp
      refine hR _ _ ?_
      have hg2 := hgW.grb hgb hx8
      obtain ⟨WA, eW⟩ : ∃ W9, (((((((W'.setCell ⟨P1, 0, none⟩ (.int .u8 (m1 : Int))).setCell ⟨P1, 1, none⟩ (.int .u32 (id : Int))).setCell ⟨P1, 2, none⟩ (.int .u32 (nn1 : Int))).setCell ⟨P1, 3, none⟩ (.int .u8 (m1 : Int))).setCell ⟨P1, 4, none⟩ (.slice a1 lb1.length c1)).setCell ⟨P1, 5, none⟩ (.int .u64 (sd1 : Int))).setCell ⟨P1, 6, none⟩ (.slice d1 s e1)) = W9 := ⟨_, rfl⟩
      rw [eW] at hg2 hh hO1 hO2 ⊢
      clear eW r0 r1 r2 r3 r4 r5 r6 rf hx8 hx9 hgW hgb ho1 ho2 hR
      (simp only [Act.put])
      refine wpTl_cons rfl (fun R hR => ?_)
      unfold rgAt
      go_simp
      refine hR _ _ ?_
      (simp only [Act.put, List.setIfInBounds_toArray, List.set_cons_zero, List.set_cons_succ])
      refine wpTl_nil ?_
      clear hR
      have HPK1 := Lib.hid hh
      have HLB1 := Lib.hid hO1
      have HDV1 := Lib.hid hO2
      have HG1 := Lib.hid hg2
      have HGW1 := Lib.hid (HGW0.out.trans hg2)
      clear hh hO1 hO2 hg2
      replace q2 := HGW1.out.cell HQC2.out
      obtain ⟨p0, p1, p2, p3⟩ := p_four_cells (HG1.out.heap HPLr.out)
      go_wp2
      have hup : Nonempty (Up Gr WA.drew) := ⟨⟨_, Gr.refl _⟩⟩
      have u0 : ∀ x : Up Gr WA.drew, x.w.cell? ⟨w.heap.size, 0, none⟩ = some (.int .i64 (n : Int)) := fun x => gr_st x.rel p0
      have u1 : ∀ x : Up Gr WA.drew, x.w.cell? ⟨w.heap.size, 1, none⟩ = some (.int .i64 (s : Int)) := fun x => gr_st x.rel p1
      have u2 : ∀ x : Up Gr WA.drew, x.w.cell? ⟨w.heap.size, 2, none⟩ = some (.int .i64 (q : Int)) := fun x => gr_st x.rel p2
      have u3 : ∀ x : Up Gr WA.drew, x.w.cell? ⟨w.heap.size, 3, none⟩ = some (.int .u32 (id : Int)) := fun x => gr_st x.rel p3
      have u4 : ∀ x : Up Gr WA.drew, x.w.cell? ⟨bl, off + (j + 1), none⟩ = some (.slice al2 kl2 cl2) := fun x => gr_st x.rel q2
      clear p0 p1 p2 p3 q2
      refine wp_region_rgF [.reck, .reck, .reck, .reck, .reck, .reck, .any (Option Addr × Nat × Option Addr × Nat) (none, 0, none, 0) (fun x => .tuple #[.agg #[.int .u8 (m2 : Int), .int .u32 (id : Int), .int .u32 (nn2 : Int), .int .u8 (m2 : Int), .slice x.1 lb2.length x.2.1, .int .u64 (sd2 : Int), .slice x.2.2.1 s x.2.2.2], .int .i64 0]) (fun x W => (∃ b, OwnV W b (.slice x.1 lb2.length x.2.1) lb2) ∧ ∃ b, OwnV W b (.slice x.2.2.1 s x.2.2.2) (dat obj s q v2)), .reck, .reck, .flt,
        .any Nat 0 (fun b => .pointer (some ⟨b, 0, none⟩)) (fun b w' => WA.heap.size ≤ b ∧ w'.heap[b]? = some (.cells #[.int .u8 0, .int .u32 0, .int .u32 0, .int .u8 0, .slice none 0 0, .int .u64 0, .slice none 0 0] 96))] Gr (by kernel_rfl) (by kernel_rfl) Gr.refl (fun _ _ _ => Gr.trans) ?_
      (refine wpRG_reck rfl (fun K hK => ?_); go_big_quiet_op; refine hK _ ?_; clear hK K)
      (refine wpRG_reck rfl (fun K hK => ?_); go_big_quiet_op; refine hK _ ?_; clear hK K)
      (refine wpRG_reck rfl (fun K hK => ?_); go_big_quiet_op; refine hK _ ?_; clear hK K)
      (refine wpRG_reck rfl (fun K hK => ?_); go_big_quiet_op; refine hK _ ?_; clear hK K)
      (refine wpRG_reck rfl (fun K hK => ?_); go_big_quiet_op; refine hK _ ?_; clear hK K)
      (refine wpRG_reck rfl (fun K hK => ?_); go_big_quiet_op; refine hK _ ?_; clear hK K)
      refine wpRG_any rfl (fun x w w' hg h => ⟨h.1.elim fun b h => ⟨b, h.gr hg⟩, h.2.elim fun b h => ⟨b, h.gr hg⟩⟩) (fun W' hw hF R hR => ?_) ?_
      · (have HF := Lib.hid hF; clear hF; unfold rgAt; go_simp)
        show Calls _ _ _ _ _
        have hb := ((Gr.refl WA).drew).trans hw
        refine (HRD2.out W' (HT.out.below (HGW1.out.trans hb)) (HBL2.out.below (HGW1.out.trans hb))).mono ?_
        rintro e w7 ⟨a1, c1, a2, c2, rfl, h1, h2, hg7⟩
        exact ⟨_, rfl, hR (a1, c1, a2, c2) _ hg7 ⟨⟨_, h1⟩, ⟨_, h2⟩⟩⟩
      rintro ⟨a2, c2, d2, e2⟩
      (simp only [Act.put, List.setIfInBounds_toArray, List.set_cons_zero, List.set_cons_succ])
      (refine wpRG_reck rfl (fun K hK => ?_); go_big_quiet_op; refine hK _ ?_; clear hK K)
      (refine wpRG_reck rfl (fun K hK => ?_); go_big_quiet_op; refine hK _ ?_; clear hK K)
      refine wpRG_flt rfl (fun _ => by go_simp; rfl) ?_
      (simp only [Act.put])
      refine wpRG_any rfl (fun x w w' hg h => ⟨h.1, hg.heap h.2⟩) (fun W' hw hF R hR => ?_) ?_
      · (have HF := Lib.hid hF; clear hF; unfold rgAt; go_simp)
        exact hR W'.heap.size _ ((Gr.refl _).alloc _) ⟨hw.size, heap_alloc_new _ _⟩
      intro P2
      (simp only [Act.put, List.setIfInBounds_toArray, List.set_cons_zero, List.set_cons_succ])
      refine wpRG_end fun W' hw hF => ?_
      have hx5 : (∃ b, OwnV W' b (.slice a2 lb2.length c2) lb2) ∧ ∃ b, OwnV W' b (.slice d2 s e2) (dat obj s q v2) := hF 6
      have hx7 : WA.heap.size ≤ P2 ∧ W'.heap[P2]? = some (.cells #[.int .u8 0, .int .u32 0, .int .u32 0, .int .u8 0, .slice none 0 0, .int .u64 0, .slice none 0 0] 96) := hF 10
      have hgW : Gr WA W' := (Gr.refl _).drew.trans hw
      clear hw hF u0 u1 u2 u3 u4 hup
      obtain ⟨⟨_, ho1⟩, ⟨_, ho2⟩⟩ := hx5
      obtain ⟨hx8, hx9⟩ := hx7
      obtain ⟨r0, r1, r2, r3, r4, r5, r6, rf⟩ := seven_cells hx9
      have hh := seven_set hx9 (.int .u8 (m2 : Int)) (.int .u32 (id : Int)) (.int .u32 (nn2 : Int)) (.int .u8 (m2 : Int)) (.slice a2 lb2.length c2) (.int .u64 (sd2 : Int)) (.slice d2 s e2)
      have hgb := grb_seven W' P2 (.int .u8 (m2 : Int)) (.int .u32 (id : Int)) (.int .u32 (nn2 : Int)) (.int .u8 (m2 : Int)) (.slice a2 lb2.length c2) (.int .u64 (sd2 : Int)) (.slice d2 s e2)
      have hO1 := (ho1.grb hgb (ho1.ne_block hx9 (by decide))).bs2.1
      have hO2 := (ho2.grb hgb (ho2.ne_block hx9 (by decide))).bs2.1
      refine wpTl_cons rfl (fun R hR => ?_)
      unfold rgAt
      go_simp
      refine hR _ _ ?_
      have hg2 := hgW.grb hgb hx8
      obtain ⟨WB, eW⟩ : ∃ W9, (((((((W'.setCell ⟨P2, 0, none⟩ (.int .u8 (m2 : Int))).setCell ⟨P2, 1, none⟩ (.int .u32 (id : Int))).setCell ⟨P2, 2, none⟩ (.int .u32 (nn2 : Int))).setCell ⟨P2, 3, none⟩ (.int .u8 (m2 : Int))).setCell ⟨P2, 4, none⟩ (.slice a2 lb2.length c2)).setCell ⟨P2, 5, none⟩ (.int .u64 (sd2 : Int))).setCell ⟨P2, 6, none⟩ (.slice d2 s e2)) = W9 := ⟨_, rfl⟩
      rw [eW] at hg2 hh hO1 hO2 ⊢
      clear eW r0 r1 r2 r3 r4 r5 r6 rf hx8 hx9 hgW hgb ho1 ho2 hR
      (simp only [Act.put])
      refine wpTl_cons rfl (fun R hR => ?_)
      unfold rgAt
      go_simp
      refine hR _ _ ?_
      (simp only [Act.put, List.setIfInBounds_toArray, List.set_cons_zero, List.set_cons_succ])
      refine wpTl_nil ?_
      clear hR
      have HPK2 := Lib.hid hh
      have HLB2 := Lib.hid hO1
      have HDV2 := Lib.hid hO2
      have HG2 := Lib.hid hg2
      have HGW2 := Lib.hid (HGW1.out.trans hg2)
      clear hh hO1 hO2 hg2
      have HPK12 := Lib.hid (HG2.out.heap HPK1.out)
      have HLB12 := Lib.hid (HLB1.out.below HG2.out)
      have HDV12 := Lib.hid (HDV1.out.below HG2.out)
      obtain ⟨p0, p1, p2, p3⟩ := p_four_cells ((HG1.out.trans HG2.out).heap HPLr.out)
      have HPL4 := Lib.hid ((HG1.out.trans HG2.out).heap HPLr.out)
      have HPLr2 := Lib.hid HPLr.out
      obtain ⟨k0, k1, k2, k3, k4, k5, k6, -⟩ := seven_cells HPK12.out
      have HGB := Lib.hid (HG1.out.trans HG2.out)
      clear HPK1 HLB1 HDV1 HRD1 HRD2 HBL1 HBL2 HG1 HG2 HGW1 HPLr
      go_wp2_with fail
      refine (HQ1.out a1 c1 d1 e1 WB HLB12.out HDV12.out).mono ?_
      rintro e w3 ⟨x1, y1, x2, y2, rfl, hx1, hx2, hg⟩
      have hal := (Gr.refl w3).alloc (.cells #[.slice x1 q y1, .slice x2 s y2] 113)
      have HR1 := Lib.hid (heap_alloc_new w3 (.cells #[.slice x1 q y1, .slice x2 s y2] 113))
      have HX1 := Lib.hid (hx1.bs2.1.below hal)
      have HX2 := Lib.hid (hx2.bs2.1.below hal)
      have HG3 := Lib.hid (hg.trans hal)
      obtain ⟨p0, p1, p2, p3⟩ := p_four_cells (HG3.out.heap HPL4.out)
      obtain ⟨k0, k1, k2, k3, k4, k5, k6, -⟩ := seven_cells (HG3.out.heap HPK2.out)
      clear hx1 hx2 hg hal HQ1
      go_wp2_with fail
      obtain ⟨W3, eW⟩ : ∃ W, w3.alloc (.cells #[.slice x1 q y1, .slice x2 s y2] 113) = W := ⟨_, rfl⟩
      rw [eW] at HR1 HX1 HX2 HG3 ⊢
      have hw3 : w3.heap.size < W3.heap.size := by rw [← eW]; simp
      clear eW
      refine (HQ2.out a2 c2 d2 e2 W3 (HLB2.out.below HG3.out) (HDV2.out.below HG3.out)).mono ?_
      rintro e w4 ⟨x3, y3, x4, y4, rfl, hx3, hx4, hg⟩
      have hal := (Gr.refl w4).alloc (.cells #[.slice x3 q y3, .slice x4 s y4] 113)
      have HR2 := Lib.hid (heap_alloc_new w4 (.cells #[.slice x3 q y3, .slice x4 s y4] 113))
      have HX3 := Lib.hid (hx3.bs2.1.below hal)
      have HX4 := Lib.hid (hx4.bs2.1.below hal)
      have HG4 := Lib.hid (hg.trans hal)
      obtain ⟨z0, z1, -⟩ := two_cells (HG4.out.heap HR1.out)
      obtain ⟨z2, z3, -⟩ := two_cells HR2.out
      have hDA := (lin_dat obj s q).ax 1 v2 v1 (by rw [HVL1.out, HVL2.out])
      have HLS := Lib.hid fun w h1 h2 h3 h4 => rowLess_ok 1 x1 x2 x3 x4 q y1 s y2 y3 y4 v1 (dat obj s q v1) v2 (dat obj s q v2) w h1 h2 h3 h4 hq1 hs1 (by omega) (by omega)
      rw [← hDA] at HLS
      have hzl : (axl 1 v2 v1).length = q := by rw [axl_length (by rw [HVL1.out, HVL2.out]), HVL1.out]
      obtain ⟨ZV, eZV⟩ : ∃ x, axl 1 v2 v1 = x := ⟨_, rfl⟩
      rw [eZV] at HLS hzl
      have HZL := Lib.hid hzl
      clear hx3 hx4 hg hal HQ2 hDA eZV hzl k0 k1 k2 k3 k4 k5 k6 p0 p1 p2 p3
      go_wp2_with fail
      obtain ⟨W4, eW⟩ : ∃ W, w4.alloc (.cells #[.slice x3 q y3, .slice x4 s y4] 113) = W := ⟨_, rfl⟩
      rw [eW] at HR2 HX3 HX4 HG4 ⊢
      clear eW
      refine (HLS.out W4 (HX1.out.below HG4.out) (HX2.out.below HG4.out) HX3.out HX4.out).mono ?_
      rintro e w5 ⟨x5, y5, x6, y6, rfl, hf5, hf6, hg⟩
      have hal := (Gr.refl w5).alloc (.cells #[.slice x5 q y5, .slice x6 s y6] 113)
      have HR3 := Lib.hid (heap_alloc_new w5 (.cells #[.slice x5 q y5, .slice x6 s y6] 113))
      have HX5 := Lib.hid (hf5.1.below hal)
      have HX6 := Lib.hid (hf6.1.below hal)
      have HG5 := Lib.hid (((HGB.out.trans HG3.out).trans HG4.out).trans (hg.trans hal))
      have HGW5 := Lib.hid (HGW0.out.trans HG5.out)
      have HPL5 := Lib.hid (HG5.out.heap (show wr.heap[w.heap.size]? = _ from HPLr2.out))
      obtain ⟨z0, z1, -⟩ := two_cells HR3.out
      have hsa : SendAt (w5.alloc (.cells #[.slice x5 q y5, .slice x6 s y6] 113)) B n s q id obj j := by
        have hb0 : Bss wr (some ⟨X, 0, none⟩) q q (cutL obj s q) := HSS.out.noB HGS.out HSB2.out (fun y hy hb => by cases hy; exact HXT.out _ hb rfl)
        exact SendAt.gr ⟨X, HSC.out, hb0, hXB, Nat.lt_of_lt_of_le hXl HGS.out.size⟩ HG5.out
      have HSA := Lib.hid hsa
      have hE0 : rowErr 0 q q = 0 := by
        have h : widthE 0 (q : Int) = 0 := by unfold widthE; rw [if_neg (by omega), if_neg (by omega)]
        unfold rowErr; rw [if_neg (by rw [h]; simp), if_neg (by simp)]
      have hrv : rowVec 0 ZV 0 q = ZV := by unfold rowVec; rw [if_pos rfl]
      have hgd := goodp_sent (n := n) (s := s) (obj := obj) (next := j) (sd := 0) (m := 0) (l := ZV) HZL.out (by omega) hid (by omega) (by decide) HP.out hE0
      rw [hrv] at hgd
      have HGDZ := Lib.hid hgd
      have hshort : (sentL n s q id obj j 0 ZV 0).length ≤ 1000000 := sentL_short hs2 (by rw [HZL.out]; omega)
      have HEX := Lib.hid fun w ht h1 h2 => explicit_okS B n s q id HP.out hid hnm obj j (by omega) x5 y5 ZV w ht h1 h2
      obtain ⟨TX, eTX⟩ : ∃ x, sentL n s q id obj j 0 ZV 0 = x := ⟨_, rfl⟩
      rw [eTX] at HGDZ hshort HEX
      have HTXl := Lib.hid hshort
      clear hf5 hf6 hg hal hsa hE0 hrv hgd hshort eTX HX1 HX2 HX3 HX4 HR1 HR2 HLS HGB HG3 HG4 HPK12 HPK2 HLB12 HLB2 HDV12 HDV2 HPL4 z2 z3
      go_wp2_with fail
      obtain ⟨W5, eW⟩ : ∃ W, w5.alloc (.cells #[.slice x5 q y5, .slice x6 s y6] 113) = W := ⟨_, rfl⟩
      rw [eW] at HR3 HX5 HX6 HG5 HGW5 HPL5 HSA ⊢
      have hR3l : w5.heap.size < W5.heap.size := by rw [← eW]; simp
      clear eW
      refine (HEX.out W5 (HT.out.below HGW5.out) HX5.out HSA.out).mono ?_
      rintro e w6 ⟨x7, k7, y7, rfl, hb7, hf7, hsa6, hgb6, X', e1, e2⟩
      have hB5 : w5.heap.size ≠ B := fun e => by
        have h1 := HR3.out
        rw [e, show W5.heap[B]? = _ from HG5.out.heap HSC.out] at h1
        cases h1
      have hsc5 : SendCells W5 B n s q id X j := HG5.out.heap HSC.out
      have HSC6 := Lib.hid (SendCells.next hsc5 hsa6 e1 e2)
      have hnoB : ∀ (i : Nat) (u : Int), (#[.int .i64 (n : Int), .int .i64 (s : Int), .int .i64 (q : Int), .int .u32 (id : Int), .slice (some ⟨X, 0, none⟩) q q, .int .u64 (j : Int)] : Array Value)[i]? ≠ some (.int .u8 u) := fun i u => by match i with | 0 => simp | 1 => simp | 2 => simp | 3 => simp | 4 => simp | 5 => simp | i + 6 => simp
      have HX66 := Lib.hid (HX6.out.gap hgb6 hsc5 hnoB)
      have HB7 := Lib.hid hb7
      have HR36 := Lib.hid (hgb6.heap HR3.out hB5)
      have HPL6 := Lib.hid (hgb6.heap HPL5.out (by omega))
      have HGS6 := Lib.hid ((HGS.out.gr HG5.out).grb hgb6 hsc5 (.inl (.inr (.inr rfl))))
      have HGW6 := Lib.hid (GrS.to_gr HW2.out HGS6.out fun b hb => by rcases hb with rfl | rfl | rfl <;> omega)
      have HTS6 : Hid (TakS w6 S T E n s q id V (dat obj s q) j) := (HTS.out.gr HG5.out).grS (S1 := fun x => x = B) (GrS.of_grb hgb6 hsc5 rfl) (fun hb => by have : T = B := hb; omega) (fun b hb e => by have e' : b = B := e; rcases HS.out b hb with h | h <;> omega)
      obtain ⟨m3, nn3, sd3, lb3, -, hpe3, hpg3, -, -, -, -⟩ := HGDZ.out
      have htl : k7 ≤ 1000000 := by rw [← hb7.1]; exact HTXl.out
      have HRD3 := Lib.hid (read_good n s q id HP.out hnm (dat obj s q) TX ZV m3 nn3 sd3 lb3 hpe3 hpg3 (combL_length cut_same) x7 k7 y7 w6 (HT.out.below HGW6.out) HB7.out htl)
      obtain ⟨p0, p1, p2, p3⟩ := p_four_cells HPL6.out
      clear hb7 hf7 hsa6 hgb6 e1 e2 hsc5 hnoB hB5 HSA HEX HG5 HGW5 HPL5 HX5 HX6 HR3 HGS HSC HTS HGW0 hpe3 hpg3 z0 z1
      go_wp2_with fail
      refine HRD3.out.mono ?_
      rintro e w7 ⟨a3, c3, d3, e3, rfl, ho3, ho4, hg⟩
      have hal := (Gr.refl w7).alloc (.cells #[.int .u8 (m3 : Int), .int .u32 (id : Int), .int .u32 (nn3 : Int), .int .u8 (m3 : Int), .slice a3 lb3.length c3, .int .u64 (sd3 : Int), .slice d3 s e3] 96)
      obtain ⟨-, -, -, -, -, -, k6, -⟩ := seven_cells (heap_alloc_new w7 (.cells #[.int .u8 (m3 : Int), .int .u32 (id : Int), .int .u32 (nn3 : Int), .int .u8 (m3 : Int), .slice a3 lb3.length c3, .int .u64 (sd3 : Int), .slice d3 s e3] 96))
      have HO4 := Lib.hid (ho4.bs2.1.below hal)
      have HG7 := Lib.hid (hg.trans hal)
      obtain ⟨-, z1, -⟩ := two_cells (HG7.out.heap HR36.out)
      have hsame := sameB_self (dat obj s q ZV)
      clear ho3 ho4 hg hal HRD3 p0 p1 p2 p3
      go_wp2_with fail
      obtain ⟨W7, eW⟩ : ∃ W, w7.alloc (.cells #[.int .u8 (m3 : Int), .int .u32 (id : Int), .int .u32 (nn3 : Int), .int .u8 (m3 : Int), .slice a3 lb3.length c3, .int .u64 (sd3 : Int), .slice d3 s e3] 96) = W := ⟨_, rfl⟩
      rw [eW] at HO4 HG7 ⊢
      clear eW
      refine (same_any d3 x6 s e3 s y6 _ _ W7 HO4.out (HX66.out.below HG7.out)).mono ?_
      rintro e w8 ⟨rfl, hg⟩
      rw [hsame]
      have HG8 := Lib.hid (HG7.out.trans hg)
      have HGS8 := Lib.hid (HGS6.out.gr HG8.out)
      have HGW8 := Lib.hid (HGW6.out.trans HG8.out)
      have HTK := Lib.hid (take_all T E n s q id S HP.out hnm V (dat obj s q) (lin_dat obj s q) j (by omega) x7 k7 y7 TX ZV w8 (HT.out.below HGW8.out) (HB7.out.below HG8.out) htl (HTS6.out.gr HG8.out) HGDZ.out)
      have HSC8 : Hid (SendCells w8 B n s q id X (j + 1)) := HG8.out.heap HSC6.out
      have hw8 := HGS8.out.size
      clear hg hsame k6 z1
      go_wp2_with fail
      refine HTK.out.mono ?_
      rintro e w9 ⟨rfl, S', hS', hts', hgs⟩
      have hnB : ¬ (fun b => b = T ∨ S b) B := fun hb => by
        rcases hb with h | h
        · omega
        · rcases HS.out B h with h2 | h2 <;> omega
      have HSC9 : Hid (SendCells w9 B n s q id X (j + 1)) := hgs.heap HSC8.out hnB
      have HGS9 := Lib.hid (HGS8.out.trans hgs fun b hb => by
        rcases hb with h | h
        · exact .inl (.inl h)
        · rcases HS.out b h with h2 | h2
          · exact .inl (.inr (.inl h2))
          · exact .inr h2)
      have HS9 : Hid (∀ b, S' b → b = E ∨ w2.heap.size ≤ b) := fun b hb => by
        rcases hS' b hb with h | h
        · exact HS.out b h
        · exact .inr (by omega)
      have HTS9 := Lib.hid hts'
      clear hts' hgs hS' hnB
      go_wp2
      go_roundw
      case rel => exact ⟨j + 1, _, S', by omega, by go_num, HTS9.out, HS9.out, HSC9.out, HGS9.out⟩
      case measure => simp [intOf]; omega
    · have hge : (len : Int) ≤ (j : Int) + 1 := by omega
      have HST := Lib.hid (takerStatus_S T E n s q id j S V (dat obj s q) wr HTS.out)
      obtain ⟨ST, eST⟩ : ∃ x : Nat, (if V.length = q then 1 else 0) = x := ⟨_, rfl⟩
      have hst : ((ST : Int) != 2) = true := by rw [bne_iff_ne]; rw [← eST]; split <;> omega
      rw [eST] at HST
      clear eST
      go_wp2_with fail
      refine HST.out.mono ?_
      rintro e w4 ⟨rfl, hw4⟩
      subst hw4
      go_wp2
      first | go_ret | go_ret2
      exact ⟨rfl, HGW0.out⟩
end Go.Proofs.YtddopoojmadpjaaGreatDoor
