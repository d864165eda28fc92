/-
  The walks of the methods of draws.
-/
import Derived.Test.YtdmijoochgmhiaaStr
import Derived.Test.YtdmijoochgmhiaaBlock
namespace Go.Proofs.Ytdmijoochgmhiaa
open Go.RowKit
set_option linter.unusedVariables false

set_option maxRecDepth 100000 in
set_option maxHeartbeats 1000000 in
theorem drawsLeft (l : List UInt8) (w : World) :
    Calls Try.prog 22 #[.agg #[.string (str l)]] w fun e w' => e = .returned (.int .i64 (l.length : Nat)) ∧ Gr w w' := by
  have hz := str_size l
  obtain ⟨S, eS⟩ : ∃ S, str l = S := ⟨_, rfl⟩
  rw [eS] at hz ⊢
  clear eS
  go_enter Try.func22, Try.ntmps22
  go_wp2
  go_ret
  exact ⟨rfl, (Gr.refl w).alloc _⟩

set_option maxRecDepth 100000 in
set_option maxHeartbeats 1000000 in
theorem drawsTake_neg (l : List UInt8) (n : Int) (hn : n < 0) (w : World) :
    Calls Try.prog 21 #[.agg #[.string (str l)], .int .i64 n] w fun e w' => e = .returned (.tuple #[.agg #[.string (str l)], .slice none 0 0, .int .i64 2]) ∧ Gr w w' := by
  obtain ⟨S, eS⟩ : ∃ S, str l = S := ⟨_, rfl⟩
  rw [eS]
  clear eS
  go_enter Try.func21, Try.ntmps21
  go_wp2
  refine bodyPost_ret (v := .tuple #[.agg #[.string S], .slice none 0 0, .int .i64 2]) ?_ rfl ⟨rfl, ((Gr.refl w).alloc _).alloc _⟩
  simp [results, Try.results21, go_sem]

set_option maxRecDepth 100000 in
set_option maxHeartbeats 1000000 in
theorem drawsTake_short (l : List UInt8) (n : Int) (hn : (l.length : Int) < n) (w : World) :
    Calls Try.prog 21 #[.agg #[.string (str l)], .int .i64 n] w fun e w' => e = .returned (.tuple #[.agg #[.string (str l)], .slice none 0 0, .int .i64 6]) ∧ Gr w w' := by
  have hz := str_size l
  obtain ⟨S, eS⟩ : ∃ S, str l = S := ⟨_, rfl⟩
  rw [eS] at hz ⊢
  have h0 : (0 : Int) ≤ n := by omega
  clear eS
  go_enter Try.func21, Try.ntmps21
  go_wp2
  refine bodyPost_ret (v := .tuple #[.agg #[.string S], .slice none 0 0, .int .i64 6]) ?_ rfl ⟨rfl, ((Gr.refl w).alloc _).alloc _⟩
  simp [results, Try.results21, go_sem]

set_option maxRecDepth 100000 in
set_option maxHeartbeats 2000000 in
theorem drawsTake_ok (l : List UInt8) (k : Nat) (hk : k ≤ l.length) (hm : l.length ≤ 1000000) (w : World) :
    Calls Try.prog 21 #[.agg #[.string (str l)], .int .i64 (k : Int)] w fun e w' => ∃ b c, e = .returned (.tuple #[.agg #[.string (str (l.drop k))], .slice (some ⟨b, 0, none⟩) k c, .int .i64 0]) ∧ Bs w' (some ⟨b, 0, none⟩) k c (l.take k) ∧ Gr w w' := by
  have hz := str_size l
  have hs1 : (str l).extract 0 k = str (l.take k) := by rw [str_extract, List.drop_zero, Nat.sub_zero]
  have hs2 : (str l).extract k l.length = str (l.drop k) := by rw [str_extract, List.take_of_length_le (by simp)]
  have hl1 : (l.take k).length = k := by simp; omega
  have hz1 := str_size (l.take k)
  rw [hl1] at hz1
  obtain ⟨n, en⟩ : ∃ n, l.length = n := ⟨_, rfl⟩
  rw [en] at hz hs2 hk hm
  have hcv := Lib.hid fun W => run_bytes_of_string (P := Try.prog) W 9 26 5 (str (l.take k)) Try.underlying9 Try.underlying26 Try.underlying5
  obtain ⟨S, eS⟩ : ∃ S, str l = S := ⟨_, rfl⟩
  obtain ⟨S1, eS1⟩ : ∃ S, str (l.take k) = S := ⟨_, rfl⟩
  obtain ⟨S2, eS2⟩ : ∃ S, str (l.drop k) = S := ⟨_, rfl⟩
  rw [eS] at hz hs1 hs2 ⊢
  rw [eS1] at hs1 hcv hz1
  rw [eS2] at hs2 ⊢
  have HS1 := Lib.hid eS1
  have HL1 := Lib.hid hl1
  have hkn : (k : Int) ≤ (n : Int) := by omega
  have hkn' : ¬ (n : Int) < (k : Int) := by omega
  have hk0 : (0 : Int) ≤ (k : Int) := by omega
  clear eS eS1 eS2 hl1 en
  go_enter Try.func21, Try.ntmps21
  go_wp2
  have hgw : Gr w ((w.alloc (.cells #[.string S] 42)).alloc (.cells #[.string ⟨#[]⟩] 42)) := ((Gr.refl w).alloc _).alloc _
  have hP := Gr.heap ((Gr.refl _).alloc (.cells #[.string ⟨#[]⟩] 42)) (heap_alloc_new w (.cells #[.string S] 42))
  have hR0 := heap_alloc_new (w.alloc (.cells #[.string S] 42)) (.cells #[.string ⟨#[]⟩] 42)
  rw [World.size_alloc] at hR0
  obtain ⟨W0, eW⟩ : ∃ W, (w.alloc (.cells #[.string S] 42)).alloc (.cells #[.string ⟨#[]⟩] 42) = W := ⟨_, rfl⟩
  rw [eW] at hgw hP hR0 ⊢
  clear eW
  obtain ⟨p0, _⟩ := cell1 hP
  have HR0 := Lib.hid hR0
  have HGW := Lib.hid hgw
  have hup : Nonempty (Up (StR (w.heap.size + 1) (.cells #[.string ⟨#[]⟩] 42) (.cells #[.string S2] 42)) W0.drew) := ⟨⟨_, StR.refl _ _ _ _⟩⟩
  have u0 : ∀ x : Up (StR (w.heap.size + 1) (.cells #[.string ⟨#[]⟩] 42) (.cells #[.string S2] 42)) W0.drew, x.w.cell? ⟨w.heap.size, 0, none⟩ = some (.string S) := fun x => GrB.cell x.rel.1 (Gr.cell (Gr.refl _).drew p0) (by show w.heap.size ≠ _; omega)
  clear hP hR0 hgw p0
  refine wp_region_rg [.reck, .reck, .reck, .reck, .reck, .reck, .reck, .reck, .reck, .any (Nat × Nat) (0, 0) (fun x => .slice (some ⟨x.1, 0, none⟩) k x.2) (fun x W => Bs W (some ⟨x.1, 0, none⟩) k x.2 (l.take k) ∧ x.1 ≠ w.heap.size + 1), .any Unit () (fun _ => undef) (fun _ W => W.heap[w.heap.size + 1]? = some (.cells #[.string S2] 42)), .reck, .reck] (StR (w.heap.size + 1) (.cells #[.string ⟨#[]⟩] 42) (.cells #[.string S2] 42)) (by kernel_rfl) (by kernel_rfl) (StR.refl _ _ _) StR.trans ?_
  (refine wpRG_reck rfl (fun K hK => ?_); go_big_quiet_op; refine hK _ ?_; clear hK K)
  (refine wpRG_reck rfl (fun K hK => ?_); go_big_quiet_op; refine hK _ ?_; clear hK K)
  (refine wpRG_reck rfl (fun K hK => ?_); go_big_quiet_op; refine hK _ ?_; clear hK K)
  (refine wpRG_reck rfl (fun K hK => ?_); go_big_quiet_op; refine hK _ ?_; clear hK K)
  (refine wpRG_reck rfl (fun K hK => ?_); go_big_quiet_op; refine hK _ ?_; clear hK K)
  (refine wpRG_reck rfl (fun K hK => ?_); go_big_quiet_op; refine hK _ ?_; clear hK K)
  (refine wpRG_reck rfl (fun K hK => ?_); go_big_quiet_op; refine hK _ ?_; clear hK K)
  (refine wpRG_reck rfl (fun K hK => ?_); go_big_quiet_op; refine hK _ ?_; clear hK K)
  (refine wpRG_reck rfl (fun K hK => ?_); go_big_quiet_op; refine hK _ ?_; clear hK K)
  refine wpRG_any rfl (fun x w1 w2 hg h => ⟨h.1.grb hg.1 (fun y hy => by cases hy; exact h.2), h.2⟩) (fun W hw hF R hR => ?_) ?_
  · have hcw := hcv.out W
    rw [hz1] at hcw
    have hge := grownCap_ge W k 0 5
    have hle := grownCap_le_maxLen W k 0 5 (by unfold maxLen; omega)
    have hsz := hw.1.size
    have hW0 := lt_of_block HR0.out
    obtain ⟨C, eC⟩ : ∃ C, grownCap W k 0 5 = C := ⟨_, rfl⟩
    rw [eC] at hcw hge hle
    clear eC
    (have HF := Lib.hid hF; clear hF; unfold rgAt; go_simp)
    refine hR (W.heap.size, C) _ (StR.of_gr ((Gr.refl W).drew.alloc _)) ⟨?_, ?_⟩
    · have hb := Bs.of_bytesRow (w := W.drew.alloc (.cells (bytesRow (str (l.take k)) C) 5 ((bytesRow (str (l.take k)) C).size, (bytesRow (str (l.take k)) C).size + 1))) (heap_alloc_new W.drew _) (by rw [HL1.out]; exact hge) hle
      rw [HL1.out] at hb
      rw [HS1.out] at hb
      exact hb
    · show W.heap.size ≠ _
      have : W0.heap.size ≤ W.heap.size := hsz
      omega
  rintro ⟨b, c⟩
  (simp only [Act.put, List.setIfInBounds_toArray, List.set_cons_zero, List.set_cons_succ])
  refine wpRG_any rfl (fun x w1 w2 hg h => hg.2.2 h) (fun W hw hF R hR => ?_) ?_
  · have hA := HR0.out
    rcases hw.2.1 hA with h | h
    · clear hA
      obtain ⟨cc, ff⟩ := cell1 h
      have H3 := Lib.hid (set1 h (.string S2))
      clear h hw
      (have HF := Lib.hid hF; clear hF; unfold rgAt; go_simp)
      exact hR () _ (StR.written H3.out.1 H3.out.2) H3.out.2
    · clear hA
      obtain ⟨cc, ff⟩ := cell1 h
      have H3 := Lib.hid (set1 h (.string S2))
      clear h hw
      (have HF := Lib.hid hF; clear hF; unfold rgAt; go_simp)
      exact hR () _ (StR.written H3.out.1 H3.out.2) H3.out.2
  rintro ⟨⟩
  (simp only [Act.put])
  (refine wpRG_reck rfl (fun K hK => ?_); go_big_quiet_op; refine hK _ ?_; clear hK K)
  (refine wpRG_reck rfl (fun K hK => ?_); go_big_quiet_op; refine hK _ ?_; clear hK K)
  refine wpRG_end fun W hw hF => ?_
  have f9 : Bs W (some ⟨b, 0, none⟩) k c (l.take k) ∧ b ≠ w.heap.size + 1 := hF 9
  have f10 : W.heap[w.heap.size + 1]? = some (.cells #[.string S2] 42) := hF 10
  have hgW : Gr w W := Gr.grb HGW.out.drew hw.1 (by omega)
  clear hF hw u0 hup
  obtain ⟨cc, _⟩ := cell1 f10
  have F9 := Lib.hid f9.1
  clear f9 f10
  go_wp2
  refine bodyPost_ret (v := .tuple #[.agg #[.string S2], .slice (some ⟨b, 0, none⟩) k c, .int .i64 0]) ?_ rfl ⟨b, c, rfl, F9.out, hgW⟩
  simp [results, Try.results21, go_sem, cc]
end Go.Proofs.Ytdmijoochgmhiaa
