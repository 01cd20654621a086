/- mdemph.Look where no run begins. -/
import Derived.Test.YtjfpkldknchnkaaLk
namespace Go.Proofs.Ytjfpkldknchnkaa.Me
open Go.RowKit Go.Proofs.YtjfpkldknchnkaaW.PrintWords Go.Proofs.YtjfpkldknchnkaaW.PrintLast Go.Proofs.YtjfpkldknchnkaaW.PrintMore
attribute [local go_sem] max2_int min2_int max_two min_two max_three min_three max_four min_four
set_option linter.unusedVariables false
set_option linter.unusedSimpArgs false
theorem ne_fact (x c : Int) (h : (x == c) = false) : (x != c) = true := by unfold bne; rw [h]; rfl
theorem ne_fact2 (x c : Int) (h : x = c) : (x != c) = false := by rw [h]; unfold bne; simp
set_option maxRecDepth 100000 in
set_option maxHeartbeats 8000000 in
theorem look_other (S : ByteArray) (fr at_ en : Int) (w : World) (hS : S.size ≤ 100000) (hf : 0 ≤ fr) (h1 : fr ≤ at_) (hc : ∀ T, LineT S T → bt T at_ ≠ 42 ∧ bt T at_ ≠ 95) : Calls Try.prog 9 #[.string S, .int .i64 fr, .int .i64 at_, .int .i64 en] w fun e w' => LookT S fr at_ en w e w' := by
  obtain ⟨w1, hw1⟩ : ∃ q, w.alloc (.cells #[.int .i64 fr] 3) = q := ⟨_, rfl⟩
  obtain ⟨w2, hw2⟩ : ∃ q, w1.alloc (.cells #[.int .i64 en] 3) = q := ⟨_, rfl⟩
  obtain ⟨w3, hw3⟩ : ∃ q, w2.alloc (.cells zrun 23) = q := ⟨_, rfl⟩
  obtain ⟨b, hb⟩ : ∃ q, w.heap.size = q := ⟨_, rfl⟩
  have hs1 : w1.heap.size = b + 1 := by rw [← hw1]; simp [hb]
  have hs2 : w2.heap.size = b + 2 := by rw [← hw2]; simp [hs1]
  have hs3 : w3.heap.size = b + 3 := by rw [← hw3]; simp [hs2]
  have k1 : w1.heap[b]? = some (.cells #[.int .i64 fr] 3 (0, 0)) := by rw [← hw1, ← hb]; exact heap_alloc_new _ _
  have b1 : Below w1.heap.size w1 w2 := by rw [← hw2]; exact below_alloc (Below.refl _ w1) _
  have b2 : Below w2.heap.size w2 w3 := by rw [← hw3]; exact below_alloc (Below.refl _ w2) _
  have b0 : Below w.heap.size w w1 := by rw [← hw1]; exact below_alloc (Below.refl _ w) _
  have k2 : w2.heap[b + 1]? = some (.cells #[.int .i64 en] 3 (0, 0)) := by rw [← hw2, ← hs1]; exact heap_alloc_new _ _
  have k3 : w3.heap[b + 2]? = some (.cells zrun 23 (0, 0)) := by rw [← hw3, ← hs2]; exact heap_alloc_new _ _
  have k13 : w3.heap[b]? = some (.cells #[.int .i64 fr] 3 (0, 0)) := (b2.block b (by omega)).trans ((b1.block b (by omega)).trans k1)
  have k23 : w3.heap[b + 1]? = some (.cells #[.int .i64 en] 3 (0, 0)) := (b2.block (b + 1) (by omega)).trans k2
  have b03 : Below w.heap.size w w3 := (b0.trans (b1.mono (by omega))).trans (b2.mono (by omega))
  have K1 := Aside0.mk k13
  have K2 := Aside0.mk k23
  have K3 := Aside0.mk k3
  have HB3 := Aside0.mk b03
  clear k1 b1 b2 b0 k2 k3 k13 k23 b03
  go_enter Try.func9, Try.ntmps9
  go_upto_region 5 with (refine (cut_c S w3 (by omega)).mono ?_)
  rintro _ w4 (⟨hx, rfl, h9⟩ | ⟨i, T2, k, hx, hlt, rfl, h9⟩)
  · rw [h9]
    clear h9 w4
    have HLT := Aside0.mk (line_none hx)
    clear hx hw1 hw2 hw3
    obtain ⟨wa, hwa⟩ : ∃ q, w3.alloc (.cells #[.string S] 9) = q := ⟨_, rfl⟩
    have a0 : Below w3.heap.size w3 wa := by rw [← hwa]; exact below_alloc (Below.refl _ w3) _
    have a10 : wa.heap[b + 3]? = some (.cells #[.string S] 9 (0, 0)) := by rw [← hwa, ← hs3]; exact heap_alloc_new _ _
    have a7 : wa.heap[b + 1]? = some (.cells #[.int .i64 en] 3 (0, 0)) := (a0.block (b + 1) (by omega)).trans K2.out
    have hsa : wa.heap.size = b + 4 := by rw [← hwa]; simp [hs3]
    have c10 : wa.cell? ⟨b + 3, 0, none⟩ = some (.string S) := cell_of_row _ _ _ _ _ _ a10
    have c7 : wa.cell? ⟨b + 1, 0, none⟩ = some (.int .i64 en) := cell_of_row _ _ _ _ _ _ a7
    have f7 := fun j => blk_frozen a7 j
    have A0 := Aside0.mk a0
    have A7 := Aside0.mk a7
    have A10 := Aside0.mk a10
    clear a0 a7 a10
    go_upto_region 5 with (fail)
    have A5 : Aside0 (wa.heap[b]? = some (.cells #[.int .i64 fr] 3 (0, 0))) := ⟨(A0.out.block b (by omega)).trans K1.out⟩
    have A8 : Aside0 (wa.heap[b + 2]? = some (.cells zrun 23 (0, 0))) := ⟨(A0.out.block (b + 2) (by omega)).trans K3.out⟩
    have HBA : Aside0 (Below w.heap.size w wa) := ⟨HB3.out.trans (A0.out.mono (by omega))⟩
    obtain ⟨E, hE⟩ : ∃ q, (if (S.size : Int) < en then (S.size : Int) else en) = q := ⟨_, rfl⟩
    rw [hE]
    obtain ⟨W, hW⟩ : ∃ q, wa.setCell ⟨b + 1, 0, none⟩ (.int .i64 E) = q := ⟨_, rfl⟩
    rw [hW]
    have HE := Aside0.mk hE.symm
    have hEs : E ≤ (S.size : Int) := by rw [← hE]; split <;> omega
    have HEs := Aside0.mk hEs
    have v7 : W.heap[b + 1]? = some (.cells #[.int .i64 E] 3 (0, 0)) := by rw [← hW]; exact blk_set A7.out 0 _
    have v5 : W.heap[b]? = some (.cells #[.int .i64 fr] 3 (0, 0)) := by rw [← hW]; exact blk_far A5.out (by show b ≠ b + 1; omega) _
    have v8 : W.heap[b + 2]? = some (.cells zrun 23 (0, 0)) := by rw [← hW]; exact blk_far A8.out (by show b + 2 ≠ b + 1; omega) _
    have v10 : W.heap[b + 3]? = some (.cells #[.string S] 9 (0, 0)) := by rw [← hW]; exact blk_far A10.out (by show b + 3 ≠ b + 1; omega) _
    have vb : Below w.heap.size w W := by rw [← hW]; exact HBA.out.setCell (p := ⟨b + 1, 0, none⟩) (by show w.heap.size ≤ b + 1; omega) _
    have vs : W.heap.size = b + 4 := by rw [← hW]; simp [hsa]
    have HW : Aside0 (LkW w W b fr E S) := ⟨⟨v5, v7, v8, v10, vs, vb⟩⟩
    have d5 : W.cell? ⟨b, 0, none⟩ = some (.int .i64 fr) := cell_of_row _ _ _ _ _ _ v5
    have d7 : W.cell? ⟨b + 1, 0, none⟩ = some (.int .i64 E) := cell_of_row _ _ _ _ _ _ v7
    have d10 : W.cell? ⟨b + 3, 0, none⟩ = some (.string S) := cell_of_row _ _ _ _ _ _ v10
    have f8 := fun j => blk_frozen v8 j
    have d80 : W.cell? ⟨b + 2, 0, none⟩ = some (.int .i64 0) := cell_of_row _ _ _ _ _ _ v8
    have d81 : W.cell? ⟨b + 2, 1, none⟩ = some (.int .i64 0) := cell_of_row _ _ _ _ _ _ v8
    have d82 : W.cell? ⟨b + 2, 2, none⟩ = some (.int .u8 0) := cell_of_row _ _ _ _ _ _ v8
    have d83 : W.cell? ⟨b + 2, 3, none⟩ = some (.bool false) := cell_of_row _ _ _ _ _ _ v8
    have d84 : W.cell? ⟨b + 2, 4, none⟩ = some (.bool false) := cell_of_row _ _ _ _ _ _ v8
    clear v5 v7 v8 v10 vs vb hE hW c7 c10 f7 
    have x0 : ¬ fr < 0 := by omega
    have x1 : ¬ at_ < fr := by omega
    by_cases gE : E ≤ at_
    · go_quiet (fail)
      go_wp2_with (fail)
      refine bodyPost_ret (results_cell_tmp rfl _ _ _ (b + 2) 23 zrun _ rfl rfl (five_row HW.out.h8 _ _ _ _ _) Try.underlying23 info23s) rfl ?_
      exact ⟨S, E, HLT.out, HE.out, five_below (pw_below_drewN HW.out.bel _) (by omega) _ _ _ _ _, .inl ⟨fun h => by have := h.2.2.1; omega, rfl⟩⟩
    obtain ⟨a, rfl⟩ : ∃ a : Nat, at_ = (a : Int) := ⟨at_.toNat, by omega⟩
    have ha : a < S.size := by omega
    have y2 : (0 : Int) ≤ (a : Int) := by omega
    have y3 : (a : Int) < (S.size : Int) := by omega
    have hch := hc S HLT.out
    rw [← bt_nat S a ha] at hch
    have z1 : (((S[a]'ha).toNat : Int) == 42) = false := by simpa using hch.1
    have z2 : (((S[a]'ha).toNat : Int) == 95) = false := by simpa using hch.2
    have z3 := ne_fact _ _ z1
    have z4 := ne_fact _ _ z2
    clear hch hc
    go_quiet (fail)
    go_wp2_with (fail)
    refine bodyPost_ret (results_cell_tmp rfl _ _ _ (b + 2) 23 zrun _ rfl rfl (five_row HW.out.h8 _ _ _ _ _) Try.underlying23 info23s) rfl ?_
    exact ⟨S, E, HLT.out, HE.out, five_below (pw_below_drewN HW.out.bel _) (by omega) _ _ _ _ _, .inl ⟨fun h => by rcases h.2.2.2.1 with q | q <;> (rw [← bt_nat S a ha] at q; simp [q] at z1 z2), rfl⟩⟩
  · rw [h9]
    clear h9 w4
    obtain ⟨b2, hb2⟩ : ∃ b2 : Bool, b2 = true ↔ endsCR (S.extract 0 i) := by
      by_cases h : endsCR (S.extract 0 i)
      · exact ⟨true, ⟨fun _ => h, fun _ => rfl⟩⟩
      · exact ⟨false, ⟨fun h2 => absurd h2 Bool.false_ne_true, fun h2 => absurd h2 h⟩⟩
    have hlt0 := line_some hx hlt hb2
    have hz1 : (S.extract 0 i).size ≤ 1000000 := by rw [ByteArray.size_extract]; omega
    have HTR := Aside0.mk (fun W => trim_c (S.extract 0 i) W hz1 b2 hb2)
    obtain ⟨T1, hT1⟩ : ∃ q, S.extract 0 i = q := ⟨_, rfl⟩
    rw [hT1] at hlt0 HTR ⊢
    obtain ⟨T, hT⟩ : ∃ q, trimT T1 b2 = q := ⟨_, rfl⟩
    rw [hT] at hlt0 HTR
    have HLT := Aside0.mk hlt0
    have hTS := hlt0.le
    clear hx hw1 hw2 hw3 hb2 hlt0 hlt hz1 hT1 hT
    obtain ⟨wd, hwd⟩ : ∃ q, w3.drewN k = q := ⟨_, rfl⟩
    rw [hwd]
    have hsd : wd.heap.size = b + 3 := by rw [← hwd]; exact hs3
    have ad : Below w3.heap.size w3 wd := by rw [← hwd]; exact pw_below_drewN (Below.refl _ w3) k
    obtain ⟨wa, hwa⟩ : ∃ q, wd.alloc (.cells #[.string T1] 9) = q := ⟨_, rfl⟩
    have a00 : Below wd.heap.size wd wa := by rw [← hwa]; exact below_alloc (Below.refl _ wd) _
    have a0 : Below w3.heap.size w3 wa := ad.trans (a00.mono (by omega))
    have a10 : wa.heap[b + 3]? = some (.cells #[.string T1] 9 (0, 0)) := by rw [← hwa, ← hsd]; exact heap_alloc_new _ _
    have a7 : wa.heap[b + 1]? = some (.cells #[.int .i64 en] 3 (0, 0)) := (a0.block (b + 1) (by omega)).trans K2.out
    have hsa0 : wa.heap.size = b + 4 := by rw [← hwa]; simp [hsd]
    have c10 : wa.cell? ⟨b + 3, 0, none⟩ = some (.string T1) := cell_of_row _ _ _ _ _ _ a10
    have f10 := fun j => blk_frozen a10 j
    have A00 := Aside0.mk a0
    have A7_ := Aside0.mk a7
    have A10_ := Aside0.mk a10
    clear a0 a7 a10 a00 ad hwd
    go_upto_region 4 with (refine (HTR.out _).mono ?_; rintro _ w9 ⟨rfl, h9⟩; rw [h9]; clear h9 w9)
    obtain ⟨wb, hwb⟩ : ∃ q, wa.setCell ⟨b + 3, 0, none⟩ (.string T) = q := ⟨_, rfl⟩
    rw [hwb]
    have hsa : wb.heap.size = b + 4 := by rw [← hwb]; simp [hsa0]
    have A10 : Aside0 (wb.heap[b + 3]? = some (.cells #[.string T] 9 (0, 0))) := ⟨by rw [← hwb]; exact blk_set A10_.out 0 _⟩
    have A7 : Aside0 (wb.heap[b + 1]? = some (.cells #[.int .i64 en] 3 (0, 0))) := ⟨by rw [← hwb]; exact blk_far A7_.out (by show b + 1 ≠ b + 3; omega) _⟩
    have A5 : Aside0 (wb.heap[b]? = some (.cells #[.int .i64 fr] 3 (0, 0))) := ⟨by rw [← hwb]; exact blk_far ((A00.out.block b (by omega)).trans K1.out) (by show b ≠ b + 3; omega) _⟩
    have A8 : Aside0 (wb.heap[b + 2]? = some (.cells zrun 23 (0, 0))) := ⟨by rw [← hwb]; exact blk_far ((A00.out.block (b + 2) (by omega)).trans K3.out) (by show b + 2 ≠ b + 3; omega) _⟩
    have HBA : Aside0 (Below w.heap.size w wb) := ⟨by rw [← hwb]; exact (HB3.out.trans (A00.out.mono (by omega))).setCell (p := ⟨b + 3, 0, none⟩) (by show w.heap.size ≤ b + 3; omega) _⟩
    clear c10 f10 hwa hwb A00 A7_ A10_ HTR
    have c10 : wb.cell? ⟨b + 3, 0, none⟩ = some (.string T) := cell_of_row _ _ _ _ _ _ A10.out
    have c7 : wb.cell? ⟨b + 1, 0, none⟩ = some (.int .i64 en) := cell_of_row _ _ _ _ _ _ A7.out
    have f7 := fun j => blk_frozen A7.out j
    go_upto_region 5 with (fail)
    obtain ⟨E, hE⟩ : ∃ q, (if (T.size : Int) < en then (T.size : Int) else en) = q := ⟨_, rfl⟩
    rw [hE]
    obtain ⟨W, hW⟩ : ∃ q, wb.setCell ⟨b + 1, 0, none⟩ (.int .i64 E) = q := ⟨_, rfl⟩
    rw [hW]
    have HE := Aside0.mk hE.symm
    have hEs : E ≤ (T.size : Int) := by rw [← hE]; split <;> omega
    have HEs := Aside0.mk hEs
    have v7 : W.heap[b + 1]? = some (.cells #[.int .i64 E] 3 (0, 0)) := by rw [← hW]; exact blk_set A7.out 0 _
    have v5 : W.heap[b]? = some (.cells #[.int .i64 fr] 3 (0, 0)) := by rw [← hW]; exact blk_far A5.out (by show b ≠ b + 1; omega) _
    have v8 : W.heap[b + 2]? = some (.cells zrun 23 (0, 0)) := by rw [← hW]; exact blk_far A8.out (by show b + 2 ≠ b + 1; omega) _
    have v10 : W.heap[b + 3]? = some (.cells #[.string T] 9 (0, 0)) := by rw [← hW]; exact blk_far A10.out (by show b + 3 ≠ b + 1; omega) _
    have vb : Below w.heap.size w W := by rw [← hW]; exact HBA.out.setCell (p := ⟨b + 1, 0, none⟩) (by show w.heap.size ≤ b + 1; omega) _
    have vs : W.heap.size = b + 4 := by rw [← hW]; simp [hsa]
    have HW : Aside0 (LkW w W b fr E T) := ⟨⟨v5, v7, v8, v10, vs, vb⟩⟩
    have d5 : W.cell? ⟨b, 0, none⟩ = some (.int .i64 fr) := cell_of_row _ _ _ _ _ _ v5
    have d7 : W.cell? ⟨b + 1, 0, none⟩ = some (.int .i64 E) := cell_of_row _ _ _ _ _ _ v7
    have d10 : W.cell? ⟨b + 3, 0, none⟩ = some (.string T) := cell_of_row _ _ _ _ _ _ v10
    have f8 := fun j => blk_frozen v8 j
    have d80 : W.cell? ⟨b + 2, 0, none⟩ = some (.int .i64 0) := cell_of_row _ _ _ _ _ _ v8
    have d81 : W.cell? ⟨b + 2, 1, none⟩ = some (.int .i64 0) := cell_of_row _ _ _ _ _ _ v8
    have d82 : W.cell? ⟨b + 2, 2, none⟩ = some (.int .u8 0) := cell_of_row _ _ _ _ _ _ v8
    have d83 : W.cell? ⟨b + 2, 3, none⟩ = some (.bool false) := cell_of_row _ _ _ _ _ _ v8
    have d84 : W.cell? ⟨b + 2, 4, none⟩ = some (.bool false) := cell_of_row _ _ _ _ _ _ v8
    clear v5 v7 v8 v10 vs vb hE hW c7 c10 f7 
    have x0 : ¬ fr < 0 := by omega
    have x1 : ¬ at_ < fr := by omega
    by_cases gE : E ≤ at_
    · go_quiet (fail)
      go_wp2_with (fail)
      refine bodyPost_ret (results_cell_tmp rfl _ _ _ (b + 2) 23 zrun _ rfl rfl (five_row HW.out.h8 _ _ _ _ _) Try.underlying23 info23s) rfl ?_
      exact ⟨T, E, HLT.out, HE.out, five_below (pw_below_drewN HW.out.bel _) (by omega) _ _ _ _ _, .inl ⟨fun h => by have := h.2.2.1; omega, rfl⟩⟩
    obtain ⟨a, rfl⟩ : ∃ a : Nat, at_ = (a : Int) := ⟨at_.toNat, by omega⟩
    have ha : a < T.size := by omega
    have y2 : (0 : Int) ≤ (a : Int) := by omega
    have y3 : (a : Int) < (T.size : Int) := by omega
    have hch := hc T HLT.out
    rw [← bt_nat T a ha] at hch
    have z1 : (((T[a]'ha).toNat : Int) == 42) = false := by simpa using hch.1
    have z2 : (((T[a]'ha).toNat : Int) == 95) = false := by simpa using hch.2
    have z3 := ne_fact _ _ z1
    have z4 := ne_fact _ _ z2
    clear hch hc
    go_quiet (fail)
    go_wp2_with (fail)
    refine bodyPost_ret (results_cell_tmp rfl _ _ _ (b + 2) 23 zrun _ rfl rfl (five_row HW.out.h8 _ _ _ _ _) Try.underlying23 info23s) rfl ?_
    exact ⟨T, E, HLT.out, HE.out, five_below (pw_below_drewN HW.out.bel _) (by omega) _ _ _ _ _, .inl ⟨fun h => by rcases h.2.2.2.1 with q | q <;> (rw [← bt_nat T a ha] at q; simp [q] at z1 z2), rfl⟩⟩
set_option maxRecDepth 100000 in
set_option maxHeartbeats 8000000 in
theorem look_prev42 (S : ByteArray) (fr at_ en : Int) (w : World) (hS : S.size ≤ 100000) (a j : Nat) (haj : a = j + 1) (hat : at_ = (a : Int)) (x0 : ¬ fr < 0) (x1 : ¬ (a : Int) < fr) (x2 : fr < (a : Int)) (hc : Aside0 (∀ T, LineT S T → bt T (a : Int) = 42 ∧ bt T (j : Int) = 42)) : Calls Try.prog 9 #[.string S, .int .i64 fr, .int .i64 at_, .int .i64 en] w fun e w' => LookT S fr at_ en w e w' := by
  obtain ⟨w1, hw1⟩ : ∃ q, w.alloc (.cells #[.int .i64 fr] 3) = q := ⟨_, rfl⟩
  obtain ⟨w2, hw2⟩ : ∃ q, w1.alloc (.cells #[.int .i64 en] 3) = q := ⟨_, rfl⟩
  obtain ⟨w3, hw3⟩ : ∃ q, w2.alloc (.cells zrun 23) = q := ⟨_, rfl⟩
  obtain ⟨b, hb⟩ : ∃ q, w.heap.size = q := ⟨_, rfl⟩
  have hs1 : w1.heap.size = b + 1 := by rw [← hw1]; simp [hb]
  have hs2 : w2.heap.size = b + 2 := by rw [← hw2]; simp [hs1]
  have hs3 : w3.heap.size = b + 3 := by rw [← hw3]; simp [hs2]
  have k1 : w1.heap[b]? = some (.cells #[.int .i64 fr] 3 (0, 0)) := by rw [← hw1, ← hb]; exact heap_alloc_new _ _
  have b1 : Below w1.heap.size w1 w2 := by rw [← hw2]; exact below_alloc (Below.refl _ w1) _
  have b2 : Below w2.heap.size w2 w3 := by rw [← hw3]; exact below_alloc (Below.refl _ w2) _
  have b0 : Below w.heap.size w w1 := by rw [← hw1]; exact below_alloc (Below.refl _ w) _
  have k2 : w2.heap[b + 1]? = some (.cells #[.int .i64 en] 3 (0, 0)) := by rw [← hw2, ← hs1]; exact heap_alloc_new _ _
  have k3 : w3.heap[b + 2]? = some (.cells zrun 23 (0, 0)) := by rw [← hw3, ← hs2]; exact heap_alloc_new _ _
  have k13 : w3.heap[b]? = some (.cells #[.int .i64 fr] 3 (0, 0)) := (b2.block b (by omega)).trans ((b1.block b (by omega)).trans k1)
  have k23 : w3.heap[b + 1]? = some (.cells #[.int .i64 en] 3 (0, 0)) := (b2.block (b + 1) (by omega)).trans k2
  have b03 : Below w.heap.size w w3 := (b0.trans (b1.mono (by omega))).trans (b2.mono (by omega))
  have K1 := Aside0.mk k13
  have K2 := Aside0.mk k23
  have K3 := Aside0.mk k3
  have HB3 := Aside0.mk b03
  clear k1 b1 b2 b0 k2 k3 k13 k23 b03
  subst hat
  have HAJ := Aside0.mk haj
  clear haj
  go_enter Try.func9, Try.ntmps9
  go_upto_region 5 with (refine (cut_c S w3 (by omega)).mono ?_)
  rintro _ w4 (⟨hx, rfl, h9⟩ | ⟨i, T2, k, hx, hlt, rfl, h9⟩)
  · rw [h9]
    clear h9 w4
    have HLT := Aside0.mk (line_none hx)
    clear hx hw1 hw2 hw3
    obtain ⟨wa, hwa⟩ : ∃ q, w3.alloc (.cells #[.string S] 9) = q := ⟨_, rfl⟩
    have a0 : Below w3.heap.size w3 wa := by rw [← hwa]; exact below_alloc (Below.refl _ w3) _
    have a10 : wa.heap[b + 3]? = some (.cells #[.string S] 9 (0, 0)) := by rw [← hwa, ← hs3]; exact heap_alloc_new _ _
    have a7 : wa.heap[b + 1]? = some (.cells #[.int .i64 en] 3 (0, 0)) := (a0.block (b + 1) (by omega)).trans K2.out
    have hsa : wa.heap.size = b + 4 := by rw [← hwa]; simp [hs3]
    have c10 : wa.cell? ⟨b + 3, 0, none⟩ = some (.string S) := cell_of_row _ _ _ _ _ _ a10
    have c7 : wa.cell? ⟨b + 1, 0, none⟩ = some (.int .i64 en) := cell_of_row _ _ _ _ _ _ a7
    have f7 := fun j => blk_frozen a7 j
    have A0 := Aside0.mk a0
    have A7 := Aside0.mk a7
    have A10 := Aside0.mk a10
    clear a0 a7 a10
    go_upto_region 5 with (fail)
    have A5 : Aside0 (wa.heap[b]? = some (.cells #[.int .i64 fr] 3 (0, 0))) := ⟨(A0.out.block b (by omega)).trans K1.out⟩
    have A8 : Aside0 (wa.heap[b + 2]? = some (.cells zrun 23 (0, 0))) := ⟨(A0.out.block (b + 2) (by omega)).trans K3.out⟩
    have HBA : Aside0 (Below w.heap.size w wa) := ⟨HB3.out.trans (A0.out.mono (by omega))⟩
    obtain ⟨E, hE⟩ : ∃ q, (if (S.size : Int) < en then (S.size : Int) else en) = q := ⟨_, rfl⟩
    rw [hE]
    obtain ⟨W, hW⟩ : ∃ q, wa.setCell ⟨b + 1, 0, none⟩ (.int .i64 E) = q := ⟨_, rfl⟩
    rw [hW]
    have HE := Aside0.mk hE.symm
    have hEs : E ≤ (S.size : Int) := by rw [← hE]; split <;> omega
    have HEs := Aside0.mk hEs
    have v7 : W.heap[b + 1]? = some (.cells #[.int .i64 E] 3 (0, 0)) := by rw [← hW]; exact blk_set A7.out 0 _
    have v5 : W.heap[b]? = some (.cells #[.int .i64 fr] 3 (0, 0)) := by rw [← hW]; exact blk_far A5.out (by show b ≠ b + 1; omega) _
    have v8 : W.heap[b + 2]? = some (.cells zrun 23 (0, 0)) := by rw [← hW]; exact blk_far A8.out (by show b + 2 ≠ b + 1; omega) _
    have v10 : W.heap[b + 3]? = some (.cells #[.string S] 9 (0, 0)) := by rw [← hW]; exact blk_far A10.out (by show b + 3 ≠ b + 1; omega) _
    have vb : Below w.heap.size w W := by rw [← hW]; exact HBA.out.setCell (p := ⟨b + 1, 0, none⟩) (by show w.heap.size ≤ b + 1; omega) _
    have vs : W.heap.size = b + 4 := by rw [← hW]; simp [hsa]
    have HW : Aside0 (LkW w W b fr E S) := ⟨⟨v5, v7, v8, v10, vs, vb⟩⟩
    have d5 : W.cell? ⟨b, 0, none⟩ = some (.int .i64 fr) := cell_of_row _ _ _ _ _ _ v5
    have d7 : W.cell? ⟨b + 1, 0, none⟩ = some (.int .i64 E) := cell_of_row _ _ _ _ _ _ v7
    have d10 : W.cell? ⟨b + 3, 0, none⟩ = some (.string S) := cell_of_row _ _ _ _ _ _ v10
    have f8 := fun j => blk_frozen v8 j
    have d80 : W.cell? ⟨b + 2, 0, none⟩ = some (.int .i64 0) := cell_of_row _ _ _ _ _ _ v8
    have d81 : W.cell? ⟨b + 2, 1, none⟩ = some (.int .i64 0) := cell_of_row _ _ _ _ _ _ v8
    have d82 : W.cell? ⟨b + 2, 2, none⟩ = some (.int .u8 0) := cell_of_row _ _ _ _ _ _ v8
    have d83 : W.cell? ⟨b + 2, 3, none⟩ = some (.bool false) := cell_of_row _ _ _ _ _ _ v8
    have d84 : W.cell? ⟨b + 2, 4, none⟩ = some (.bool false) := cell_of_row _ _ _ _ _ _ v8
    clear v5 v7 v8 v10 vs vb hE hW c7 c10 f7 
    have x0 : ¬ fr < 0 := by omega
    have x1 : ¬ (a : Int) < fr := by omega
    by_cases gE : E ≤ (a : Int)
    · go_quiet (fail)
      go_wp2_with (fail)
      refine bodyPost_ret (results_cell_tmp rfl _ _ _ (b + 2) 23 zrun _ rfl rfl (five_row HW.out.h8 _ _ _ _ _) Try.underlying23 info23s) rfl ?_
      exact ⟨S, E, HLT.out, HE.out, five_below (pw_below_drewN HW.out.bel _) (by omega) _ _ _ _ _, .inl ⟨fun h => by have := h.2.2.1; omega, rfl⟩⟩
    have ha : a < S.size := by omega
    have hj : j < S.size := by have := HAJ.out; omega
    have y2 : (0 : Int) ≤ (a : Int) := by omega
    have y3 : (a : Int) < (S.size : Int) := by omega
    have y4 : (0 : Int) ≤ (j : Int) := by omega
    have y5 : (j : Int) < (S.size : Int) := by omega
    have w1 : IntKind.i64.wrap ((a : Int) - 1) = (j : Int) := by rw [show (a : Int) - 1 = (j : Int) by have := HAJ.out; omega]; exact IntWalk.i64_in _ (by omega)
    have hch := hc.out S HLT.out
    have q1 : (((S[a]'ha).toNat : Nat) : Int) = 42 := by rw [bt_nat S a ha]; exact hch.1
    have q2 : (((S[j]'hj).toNat : Nat) : Int) = 42 := by rw [bt_nat S j hj]; exact hch.2
    have HCH := Aside0.mk hch
    clear hch hc
    go_quiet (fail)
    go_wp2_with (fail)
    refine bodyPost_ret (results_cell_tmp rfl _ _ _ (b + 2) 23 zrun _ rfl rfl (five_row HW.out.h8 _ _ _ _ _) Try.underlying23 info23s) rfl ?_
    exact ⟨S, E, HLT.out, HE.out, five_below (pw_below_drewN HW.out.bel _) (by omega) _ _ _ _ _, .inl ⟨fun h => h.2.2.2.2 ⟨x2, by rw [show (a : Int) - 1 = (j : Int) by have := HAJ.out; omega, HCH.out.1, HCH.out.2]⟩, rfl⟩⟩
  · rw [h9]
    clear h9 w4
    obtain ⟨b2, hb2⟩ : ∃ b2 : Bool, b2 = true ↔ endsCR (S.extract 0 i) := by
      by_cases h : endsCR (S.extract 0 i)
      · exact ⟨true, ⟨fun _ => h, fun _ => rfl⟩⟩
      · exact ⟨false, ⟨fun h2 => absurd h2 Bool.false_ne_true, fun h2 => absurd h2 h⟩⟩
    have hlt0 := line_some hx hlt hb2
    have hz1 : (S.extract 0 i).size ≤ 1000000 := by rw [ByteArray.size_extract]; omega
    have HTR := Aside0.mk (fun W => trim_c (S.extract 0 i) W hz1 b2 hb2)
    obtain ⟨T1, hT1⟩ : ∃ q, S.extract 0 i = q := ⟨_, rfl⟩
    rw [hT1] at hlt0 HTR ⊢
    obtain ⟨T, hT⟩ : ∃ q, trimT T1 b2 = q := ⟨_, rfl⟩
    rw [hT] at hlt0 HTR
    have HLT := Aside0.mk hlt0
    have hTS := hlt0.le
    clear hx hw1 hw2 hw3 hb2 hlt0 hlt hz1 hT1 hT
    obtain ⟨wd, hwd⟩ : ∃ q, w3.drewN k = q := ⟨_, rfl⟩
    rw [hwd]
    have hsd : wd.heap.size = b + 3 := by rw [← hwd]; exact hs3
    have ad : Below w3.heap.size w3 wd := by rw [← hwd]; exact pw_below_drewN (Below.refl _ w3) k
    obtain ⟨wa, hwa⟩ : ∃ q, wd.alloc (.cells #[.string T1] 9) = q := ⟨_, rfl⟩
    have a00 : Below wd.heap.size wd wa := by rw [← hwa]; exact below_alloc (Below.refl _ wd) _
    have a0 : Below w3.heap.size w3 wa := ad.trans (a00.mono (by omega))
    have a10 : wa.heap[b + 3]? = some (.cells #[.string T1] 9 (0, 0)) := by rw [← hwa, ← hsd]; exact heap_alloc_new _ _
    have a7 : wa.heap[b + 1]? = some (.cells #[.int .i64 en] 3 (0, 0)) := (a0.block (b + 1) (by omega)).trans K2.out
    have hsa0 : wa.heap.size = b + 4 := by rw [← hwa]; simp [hsd]
    have c10 : wa.cell? ⟨b + 3, 0, none⟩ = some (.string T1) := cell_of_row _ _ _ _ _ _ a10
    have f10 := fun j => blk_frozen a10 j
    have A00 := Aside0.mk a0
    have A7_ := Aside0.mk a7
    have A10_ := Aside0.mk a10
    clear a0 a7 a10 a00 ad hwd
    go_upto_region 4 with (refine (HTR.out _).mono ?_; rintro _ w9 ⟨rfl, h9⟩; rw [h9]; clear h9 w9)
    obtain ⟨wb, hwb⟩ : ∃ q, wa.setCell ⟨b + 3, 0, none⟩ (.string T) = q := ⟨_, rfl⟩
    rw [hwb]
    have hsa : wb.heap.size = b + 4 := by rw [← hwb]; simp [hsa0]
    have A10 : Aside0 (wb.heap[b + 3]? = some (.cells #[.string T] 9 (0, 0))) := ⟨by rw [← hwb]; exact blk_set A10_.out 0 _⟩
    have A7 : Aside0 (wb.heap[b + 1]? = some (.cells #[.int .i64 en] 3 (0, 0))) := ⟨by rw [← hwb]; exact blk_far A7_.out (by show b + 1 ≠ b + 3; omega) _⟩
    have A5 : Aside0 (wb.heap[b]? = some (.cells #[.int .i64 fr] 3 (0, 0))) := ⟨by rw [← hwb]; exact blk_far ((A00.out.block b (by omega)).trans K1.out) (by show b ≠ b + 3; omega) _⟩
    have A8 : Aside0 (wb.heap[b + 2]? = some (.cells zrun 23 (0, 0))) := ⟨by rw [← hwb]; exact blk_far ((A00.out.block (b + 2) (by omega)).trans K3.out) (by show b + 2 ≠ b + 3; omega) _⟩
    have HBA : Aside0 (Below w.heap.size w wb) := ⟨by rw [← hwb]; exact (HB3.out.trans (A00.out.mono (by omega))).setCell (p := ⟨b + 3, 0, none⟩) (by show w.heap.size ≤ b + 3; omega) _⟩
    clear c10 f10 hwa hwb A00 A7_ A10_ HTR
    have c10 : wb.cell? ⟨b + 3, 0, none⟩ = some (.string T) := cell_of_row _ _ _ _ _ _ A10.out
    have c7 : wb.cell? ⟨b + 1, 0, none⟩ = some (.int .i64 en) := cell_of_row _ _ _ _ _ _ A7.out
    have f7 := fun j => blk_frozen A7.out j
    go_upto_region 5 with (fail)
    obtain ⟨E, hE⟩ : ∃ q, (if (T.size : Int) < en then (T.size : Int) else en) = q := ⟨_, rfl⟩
    rw [hE]
    obtain ⟨W, hW⟩ : ∃ q, wb.setCell ⟨b + 1, 0, none⟩ (.int .i64 E) = q := ⟨_, rfl⟩
    rw [hW]
    have HE := Aside0.mk hE.symm
    have hEs : E ≤ (T.size : Int) := by rw [← hE]; split <;> omega
    have HEs := Aside0.mk hEs
    have v7 : W.heap[b + 1]? = some (.cells #[.int .i64 E] 3 (0, 0)) := by rw [← hW]; exact blk_set A7.out 0 _
    have v5 : W.heap[b]? = some (.cells #[.int .i64 fr] 3 (0, 0)) := by rw [← hW]; exact blk_far A5.out (by show b ≠ b + 1; omega) _
    have v8 : W.heap[b + 2]? = some (.cells zrun 23 (0, 0)) := by rw [← hW]; exact blk_far A8.out (by show b + 2 ≠ b + 1; omega) _
    have v10 : W.heap[b + 3]? = some (.cells #[.string T] 9 (0, 0)) := by rw [← hW]; exact blk_far A10.out (by show b + 3 ≠ b + 1; omega) _
    have vb : Below w.heap.size w W := by rw [← hW]; exact HBA.out.setCell (p := ⟨b + 1, 0, none⟩) (by show w.heap.size ≤ b + 1; omega) _
    have vs : W.heap.size = b + 4 := by rw [← hW]; simp [hsa]
    have HW : Aside0 (LkW w W b fr E T) := ⟨⟨v5, v7, v8, v10, vs, vb⟩⟩
    have d5 : W.cell? ⟨b, 0, none⟩ = some (.int .i64 fr) := cell_of_row _ _ _ _ _ _ v5
    have d7 : W.cell? ⟨b + 1, 0, none⟩ = some (.int .i64 E) := cell_of_row _ _ _ _ _ _ v7
    have d10 : W.cell? ⟨b + 3, 0, none⟩ = some (.string T) := cell_of_row _ _ _ _ _ _ v10
    have f8 := fun j => blk_frozen v8 j
    have d80 : W.cell? ⟨b + 2, 0, none⟩ = some (.int .i64 0) := cell_of_row _ _ _ _ _ _ v8
    have d81 : W.cell? ⟨b + 2, 1, none⟩ = some (.int .i64 0) := cell_of_row _ _ _ _ _ _ v8
    have d82 : W.cell? ⟨b + 2, 2, none⟩ = some (.int .u8 0) := cell_of_row _ _ _ _ _ _ v8
    have d83 : W.cell? ⟨b + 2, 3, none⟩ = some (.bool false) := cell_of_row _ _ _ _ _ _ v8
    have d84 : W.cell? ⟨b + 2, 4, none⟩ = some (.bool false) := cell_of_row _ _ _ _ _ _ v8
    clear v5 v7 v8 v10 vs vb hE hW c7 c10 f7 
    have x0 : ¬ fr < 0 := by omega
    have x1 : ¬ (a : Int) < fr := by omega
    by_cases gE : E ≤ (a : Int)
    · go_quiet (fail)
      go_wp2_with (fail)
      refine bodyPost_ret (results_cell_tmp rfl _ _ _ (b + 2) 23 zrun _ rfl rfl (five_row HW.out.h8 _ _ _ _ _) Try.underlying23 info23s) rfl ?_
      exact ⟨T, E, HLT.out, HE.out, five_below (pw_below_drewN HW.out.bel _) (by omega) _ _ _ _ _, .inl ⟨fun h => by have := h.2.2.1; omega, rfl⟩⟩
    have ha : a < T.size := by omega
    have hj : j < T.size := by have := HAJ.out; omega
    have y2 : (0 : Int) ≤ (a : Int) := by omega
    have y3 : (a : Int) < (T.size : Int) := by omega
    have y4 : (0 : Int) ≤ (j : Int) := by omega
    have y5 : (j : Int) < (T.size : Int) := by omega
    have w1 : IntKind.i64.wrap ((a : Int) - 1) = (j : Int) := by rw [show (a : Int) - 1 = (j : Int) by have := HAJ.out; omega]; exact IntWalk.i64_in _ (by omega)
    have hch := hc.out T HLT.out
    have q1 : (((T[a]'ha).toNat : Nat) : Int) = 42 := by rw [bt_nat T a ha]; exact hch.1
    have q2 : (((T[j]'hj).toNat : Nat) : Int) = 42 := by rw [bt_nat T j hj]; exact hch.2
    have HCH := Aside0.mk hch
    clear hch hc
    go_quiet (fail)
    go_wp2_with (fail)
    refine bodyPost_ret (results_cell_tmp rfl _ _ _ (b + 2) 23 zrun _ rfl rfl (five_row HW.out.h8 _ _ _ _ _) Try.underlying23 info23s) rfl ?_
    exact ⟨T, E, HLT.out, HE.out, five_below (pw_below_drewN HW.out.bel _) (by omega) _ _ _ _ _, .inl ⟨fun h => h.2.2.2.2 ⟨x2, by rw [show (a : Int) - 1 = (j : Int) by have := HAJ.out; omega, HCH.out.1, HCH.out.2]⟩, rfl⟩⟩
set_option maxRecDepth 100000 in
set_option maxHeartbeats 8000000 in
theorem look_prev95 (S : ByteArray) (fr at_ en : Int) (w : World) (hS : S.size ≤ 100000) (a j : Nat) (haj : a = j + 1) (hat : at_ = (a : Int)) (x0 : ¬ fr < 0) (x1 : ¬ (a : Int) < fr) (x2 : fr < (a : Int)) (hc : Aside0 (∀ T, LineT S T → bt T (a : Int) = 95 ∧ bt T (j : Int) = 95)) : Calls Try.prog 9 #[.string S, .int .i64 fr, .int .i64 at_, .int .i64 en] w fun e w' => LookT S fr at_ en w e w' := by
  obtain ⟨w1, hw1⟩ : ∃ q, w.alloc (.cells #[.int .i64 fr] 3) = q := ⟨_, rfl⟩
  obtain ⟨w2, hw2⟩ : ∃ q, w1.alloc (.cells #[.int .i64 en] 3) = q := ⟨_, rfl⟩
  obtain ⟨w3, hw3⟩ : ∃ q, w2.alloc (.cells zrun 23) = q := ⟨_, rfl⟩
  obtain ⟨b, hb⟩ : ∃ q, w.heap.size = q := ⟨_, rfl⟩
  have hs1 : w1.heap.size = b + 1 := by rw [← hw1]; simp [hb]
  have hs2 : w2.heap.size = b + 2 := by rw [← hw2]; simp [hs1]
  have hs3 : w3.heap.size = b + 3 := by rw [← hw3]; simp [hs2]
  have k1 : w1.heap[b]? = some (.cells #[.int .i64 fr] 3 (0, 0)) := by rw [← hw1, ← hb]; exact heap_alloc_new _ _
  have b1 : Below w1.heap.size w1 w2 := by rw [← hw2]; exact below_alloc (Below.refl _ w1) _
  have b2 : Below w2.heap.size w2 w3 := by rw [← hw3]; exact below_alloc (Below.refl _ w2) _
  have b0 : Below w.heap.size w w1 := by rw [← hw1]; exact below_alloc (Below.refl _ w) _
  have k2 : w2.heap[b + 1]? = some (.cells #[.int .i64 en] 3 (0, 0)) := by rw [← hw2, ← hs1]; exact heap_alloc_new _ _
  have k3 : w3.heap[b + 2]? = some (.cells zrun 23 (0, 0)) := by rw [← hw3, ← hs2]; exact heap_alloc_new _ _
  have k13 : w3.heap[b]? = some (.cells #[.int .i64 fr] 3 (0, 0)) := (b2.block b (by omega)).trans ((b1.block b (by omega)).trans k1)
  have k23 : w3.heap[b + 1]? = some (.cells #[.int .i64 en] 3 (0, 0)) := (b2.block (b + 1) (by omega)).trans k2
  have b03 : Below w.heap.size w w3 := (b0.trans (b1.mono (by omega))).trans (b2.mono (by omega))
  have K1 := Aside0.mk k13
  have K2 := Aside0.mk k23
  have K3 := Aside0.mk k3
  have HB3 := Aside0.mk b03
  clear k1 b1 b2 b0 k2 k3 k13 k23 b03
  subst hat
  have HAJ := Aside0.mk haj
  clear haj
  go_enter Try.func9, Try.ntmps9
  go_upto_region 5 with (refine (cut_c S w3 (by omega)).mono ?_)
  rintro _ w4 (⟨hx, rfl, h9⟩ | ⟨i, T2, k, hx, hlt, rfl, h9⟩)
  · rw [h9]
    clear h9 w4
    have HLT := Aside0.mk (line_none hx)
    clear hx hw1 hw2 hw3
    obtain ⟨wa, hwa⟩ : ∃ q, w3.alloc (.cells #[.string S] 9) = q := ⟨_, rfl⟩
    have a0 : Below w3.heap.size w3 wa := by rw [← hwa]; exact below_alloc (Below.refl _ w3) _
    have a10 : wa.heap[b + 3]? = some (.cells #[.string S] 9 (0, 0)) := by rw [← hwa, ← hs3]; exact heap_alloc_new _ _
    have a7 : wa.heap[b + 1]? = some (.cells #[.int .i64 en] 3 (0, 0)) := (a0.block (b + 1) (by omega)).trans K2.out
    have hsa : wa.heap.size = b + 4 := by rw [← hwa]; simp [hs3]
    have c10 : wa.cell? ⟨b + 3, 0, none⟩ = some (.string S) := cell_of_row _ _ _ _ _ _ a10
    have c7 : wa.cell? ⟨b + 1, 0, none⟩ = some (.int .i64 en) := cell_of_row _ _ _ _ _ _ a7
    have f7 := fun j => blk_frozen a7 j
    have A0 := Aside0.mk a0
    have A7 := Aside0.mk a7
    have A10 := Aside0.mk a10
    clear a0 a7 a10
    go_upto_region 5 with (fail)
    have A5 : Aside0 (wa.heap[b]? = some (.cells #[.int .i64 fr] 3 (0, 0))) := ⟨(A0.out.block b (by omega)).trans K1.out⟩
    have A8 : Aside0 (wa.heap[b + 2]? = some (.cells zrun 23 (0, 0))) := ⟨(A0.out.block (b + 2) (by omega)).trans K3.out⟩
    have HBA : Aside0 (Below w.heap.size w wa) := ⟨HB3.out.trans (A0.out.mono (by omega))⟩
    obtain ⟨E, hE⟩ : ∃ q, (if (S.size : Int) < en then (S.size : Int) else en) = q := ⟨_, rfl⟩
    rw [hE]
    obtain ⟨W, hW⟩ : ∃ q, wa.setCell ⟨b + 1, 0, none⟩ (.int .i64 E) = q := ⟨_, rfl⟩
    rw [hW]
    have HE := Aside0.mk hE.symm
    have hEs : E ≤ (S.size : Int) := by rw [← hE]; split <;> omega
    have HEs := Aside0.mk hEs
    have v7 : W.heap[b + 1]? = some (.cells #[.int .i64 E] 3 (0, 0)) := by rw [← hW]; exact blk_set A7.out 0 _
    have v5 : W.heap[b]? = some (.cells #[.int .i64 fr] 3 (0, 0)) := by rw [← hW]; exact blk_far A5.out (by show b ≠ b + 1; omega) _
    have v8 : W.heap[b + 2]? = some (.cells zrun 23 (0, 0)) := by rw [← hW]; exact blk_far A8.out (by show b + 2 ≠ b + 1; omega) _
    have v10 : W.heap[b + 3]? = some (.cells #[.string S] 9 (0, 0)) := by rw [← hW]; exact blk_far A10.out (by show b + 3 ≠ b + 1; omega) _
    have vb : Below w.heap.size w W := by rw [← hW]; exact HBA.out.setCell (p := ⟨b + 1, 0, none⟩) (by show w.heap.size ≤ b + 1; omega) _
    have vs : W.heap.size = b + 4 := by rw [← hW]; simp [hsa]
    have HW : Aside0 (LkW w W b fr E S) := ⟨⟨v5, v7, v8, v10, vs, vb⟩⟩
    have d5 : W.cell? ⟨b, 0, none⟩ = some (.int .i64 fr) := cell_of_row _ _ _ _ _ _ v5
    have d7 : W.cell? ⟨b + 1, 0, none⟩ = some (.int .i64 E) := cell_of_row _ _ _ _ _ _ v7
    have d10 : W.cell? ⟨b + 3, 0, none⟩ = some (.string S) := cell_of_row _ _ _ _ _ _ v10
    have f8 := fun j => blk_frozen v8 j
    have d80 : W.cell? ⟨b + 2, 0, none⟩ = some (.int .i64 0) := cell_of_row _ _ _ _ _ _ v8
    have d81 : W.cell? ⟨b + 2, 1, none⟩ = some (.int .i64 0) := cell_of_row _ _ _ _ _ _ v8
    have d82 : W.cell? ⟨b + 2, 2, none⟩ = some (.int .u8 0) := cell_of_row _ _ _ _ _ _ v8
    have d83 : W.cell? ⟨b + 2, 3, none⟩ = some (.bool false) := cell_of_row _ _ _ _ _ _ v8
    have d84 : W.cell? ⟨b + 2, 4, none⟩ = some (.bool false) := cell_of_row _ _ _ _ _ _ v8
    clear v5 v7 v8 v10 vs vb hE hW c7 c10 f7 
    have x0 : ¬ fr < 0 := by omega
    have x1 : ¬ (a : Int) < fr := by omega
    by_cases gE : E ≤ (a : Int)
    · go_quiet (fail)
      go_wp2_with (fail)
      refine bodyPost_ret (results_cell_tmp rfl _ _ _ (b + 2) 23 zrun _ rfl rfl (five_row HW.out.h8 _ _ _ _ _) Try.underlying23 info23s) rfl ?_
      exact ⟨S, E, HLT.out, HE.out, five_below (pw_below_drewN HW.out.bel _) (by omega) _ _ _ _ _, .inl ⟨fun h => by have := h.2.2.1; omega, rfl⟩⟩
    have ha : a < S.size := by omega
    have hj : j < S.size := by have := HAJ.out; omega
    have y2 : (0 : Int) ≤ (a : Int) := by omega
    have y3 : (a : Int) < (S.size : Int) := by omega
    have y4 : (0 : Int) ≤ (j : Int) := by omega
    have y5 : (j : Int) < (S.size : Int) := by omega
    have w1 : IntKind.i64.wrap ((a : Int) - 1) = (j : Int) := by rw [show (a : Int) - 1 = (j : Int) by have := HAJ.out; omega]; exact IntWalk.i64_in _ (by omega)
    have hch := hc.out S HLT.out
    have q1 : (((S[a]'ha).toNat : Nat) : Int) = 95 := by rw [bt_nat S a ha]; exact hch.1
    have q2 : (((S[j]'hj).toNat : Nat) : Int) = 95 := by rw [bt_nat S j hj]; exact hch.2
    have HCH := Aside0.mk hch
    clear hch hc
    go_quiet (fail)
    go_wp2_with (fail)
    refine bodyPost_ret (results_cell_tmp rfl _ _ _ (b + 2) 23 zrun _ rfl rfl (five_row HW.out.h8 _ _ _ _ _) Try.underlying23 info23s) rfl ?_
    exact ⟨S, E, HLT.out, HE.out, five_below (pw_below_drewN HW.out.bel _) (by omega) _ _ _ _ _, .inl ⟨fun h => h.2.2.2.2 ⟨x2, by rw [show (a : Int) - 1 = (j : Int) by have := HAJ.out; omega, HCH.out.1, HCH.out.2]⟩, rfl⟩⟩
  · rw [h9]
    clear h9 w4
    obtain ⟨b2, hb2⟩ : ∃ b2 : Bool, b2 = true ↔ endsCR (S.extract 0 i) := by
      by_cases h : endsCR (S.extract 0 i)
      · exact ⟨true, ⟨fun _ => h, fun _ => rfl⟩⟩
      · exact ⟨false, ⟨fun h2 => absurd h2 Bool.false_ne_true, fun h2 => absurd h2 h⟩⟩
    have hlt0 := line_some hx hlt hb2
    have hz1 : (S.extract 0 i).size ≤ 1000000 := by rw [ByteArray.size_extract]; omega
    have HTR := Aside0.mk (fun W => trim_c (S.extract 0 i) W hz1 b2 hb2)
    obtain ⟨T1, hT1⟩ : ∃ q, S.extract 0 i = q := ⟨_, rfl⟩
    rw [hT1] at hlt0 HTR ⊢
    obtain ⟨T, hT⟩ : ∃ q, trimT T1 b2 = q := ⟨_, rfl⟩
    rw [hT] at hlt0 HTR
    have HLT := Aside0.mk hlt0
    have hTS := hlt0.le
    clear hx hw1 hw2 hw3 hb2 hlt0 hlt hz1 hT1 hT
    obtain ⟨wd, hwd⟩ : ∃ q, w3.drewN k = q := ⟨_, rfl⟩
    rw [hwd]
    have hsd : wd.heap.size = b + 3 := by rw [← hwd]; exact hs3
    have ad : Below w3.heap.size w3 wd := by rw [← hwd]; exact pw_below_drewN (Below.refl _ w3) k
    obtain ⟨wa, hwa⟩ : ∃ q, wd.alloc (.cells #[.string T1] 9) = q := ⟨_, rfl⟩
    have a00 : Below wd.heap.size wd wa := by rw [← hwa]; exact below_alloc (Below.refl _ wd) _
    have a0 : Below w3.heap.size w3 wa := ad.trans (a00.mono (by omega))
    have a10 : wa.heap[b + 3]? = some (.cells #[.string T1] 9 (0, 0)) := by rw [← hwa, ← hsd]; exact heap_alloc_new _ _
    have a7 : wa.heap[b + 1]? = some (.cells #[.int .i64 en] 3 (0, 0)) := (a0.block (b + 1) (by omega)).trans K2.out
    have hsa0 : wa.heap.size = b + 4 := by rw [← hwa]; simp [hsd]
    have c10 : wa.cell? ⟨b + 3, 0, none⟩ = some (.string T1) := cell_of_row _ _ _ _ _ _ a10
    have f10 := fun j => blk_frozen a10 j
    have A00 := Aside0.mk a0
    have A7_ := Aside0.mk a7
    have A10_ := Aside0.mk a10
    clear a0 a7 a10 a00 ad hwd
    go_upto_region 4 with (refine (HTR.out _).mono ?_; rintro _ w9 ⟨rfl, h9⟩; rw [h9]; clear h9 w9)
    obtain ⟨wb, hwb⟩ : ∃ q, wa.setCell ⟨b + 3, 0, none⟩ (.string T) = q := ⟨_, rfl⟩
    rw [hwb]
    have hsa : wb.heap.size = b + 4 := by rw [← hwb]; simp [hsa0]
    have A10 : Aside0 (wb.heap[b + 3]? = some (.cells #[.string T] 9 (0, 0))) := ⟨by rw [← hwb]; exact blk_set A10_.out 0 _⟩
    have A7 : Aside0 (wb.heap[b + 1]? = some (.cells #[.int .i64 en] 3 (0, 0))) := ⟨by rw [← hwb]; exact blk_far A7_.out (by show b + 1 ≠ b + 3; omega) _⟩
    have A5 : Aside0 (wb.heap[b]? = some (.cells #[.int .i64 fr] 3 (0, 0))) := ⟨by rw [← hwb]; exact blk_far ((A00.out.block b (by omega)).trans K1.out) (by show b ≠ b + 3; omega) _⟩
    have A8 : Aside0 (wb.heap[b + 2]? = some (.cells zrun 23 (0, 0))) := ⟨by rw [← hwb]; exact blk_far ((A00.out.block (b + 2) (by omega)).trans K3.out) (by show b + 2 ≠ b + 3; omega) _⟩
    have HBA : Aside0 (Below w.heap.size w wb) := ⟨by rw [← hwb]; exact (HB3.out.trans (A00.out.mono (by omega))).setCell (p := ⟨b + 3, 0, none⟩) (by show w.heap.size ≤ b + 3; omega) _⟩
    clear c10 f10 hwa hwb A00 A7_ A10_ HTR
    have c10 : wb.cell? ⟨b + 3, 0, none⟩ = some (.string T) := cell_of_row _ _ _ _ _ _ A10.out
    have c7 : wb.cell? ⟨b + 1, 0, none⟩ = some (.int .i64 en) := cell_of_row _ _ _ _ _ _ A7.out
    have f7 := fun j => blk_frozen A7.out j
    go_upto_region 5 with (fail)
    obtain ⟨E, hE⟩ : ∃ q, (if (T.size : Int) < en then (T.size : Int) else en) = q := ⟨_, rfl⟩
    rw [hE]
    obtain ⟨W, hW⟩ : ∃ q, wb.setCell ⟨b + 1, 0, none⟩ (.int .i64 E) = q := ⟨_, rfl⟩
    rw [hW]
    have HE := Aside0.mk hE.symm
    have hEs : E ≤ (T.size : Int) := by rw [← hE]; split <;> omega
    have HEs := Aside0.mk hEs
    have v7 : W.heap[b + 1]? = some (.cells #[.int .i64 E] 3 (0, 0)) := by rw [← hW]; exact blk_set A7.out 0 _
    have v5 : W.heap[b]? = some (.cells #[.int .i64 fr] 3 (0, 0)) := by rw [← hW]; exact blk_far A5.out (by show b ≠ b + 1; omega) _
    have v8 : W.heap[b + 2]? = some (.cells zrun 23 (0, 0)) := by rw [← hW]; exact blk_far A8.out (by show b + 2 ≠ b + 1; omega) _
    have v10 : W.heap[b + 3]? = some (.cells #[.string T] 9 (0, 0)) := by rw [← hW]; exact blk_far A10.out (by show b + 3 ≠ b + 1; omega) _
    have vb : Below w.heap.size w W := by rw [← hW]; exact HBA.out.setCell (p := ⟨b + 1, 0, none⟩) (by show w.heap.size ≤ b + 1; omega) _
    have vs : W.heap.size = b + 4 := by rw [← hW]; simp [hsa]
    have HW : Aside0 (LkW w W b fr E T) := ⟨⟨v5, v7, v8, v10, vs, vb⟩⟩
    have d5 : W.cell? ⟨b, 0, none⟩ = some (.int .i64 fr) := cell_of_row _ _ _ _ _ _ v5
    have d7 : W.cell? ⟨b + 1, 0, none⟩ = some (.int .i64 E) := cell_of_row _ _ _ _ _ _ v7
    have d10 : W.cell? ⟨b + 3, 0, none⟩ = some (.string T) := cell_of_row _ _ _ _ _ _ v10
    have f8 := fun j => blk_frozen v8 j
    have d80 : W.cell? ⟨b + 2, 0, none⟩ = some (.int .i64 0) := cell_of_row _ _ _ _ _ _ v8
    have d81 : W.cell? ⟨b + 2, 1, none⟩ = some (.int .i64 0) := cell_of_row _ _ _ _ _ _ v8
    have d82 : W.cell? ⟨b + 2, 2, none⟩ = some (.int .u8 0) := cell_of_row _ _ _ _ _ _ v8
    have d83 : W.cell? ⟨b + 2, 3, none⟩ = some (.bool false) := cell_of_row _ _ _ _ _ _ v8
    have d84 : W.cell? ⟨b + 2, 4, none⟩ = some (.bool false) := cell_of_row _ _ _ _ _ _ v8
    clear v5 v7 v8 v10 vs vb hE hW c7 c10 f7 
    have x0 : ¬ fr < 0 := by omega
    have x1 : ¬ (a : Int) < fr := by omega
    by_cases gE : E ≤ (a : Int)
    · go_quiet (fail)
      go_wp2_with (fail)
      refine bodyPost_ret (results_cell_tmp rfl _ _ _ (b + 2) 23 zrun _ rfl rfl (five_row HW.out.h8 _ _ _ _ _) Try.underlying23 info23s) rfl ?_
      exact ⟨T, E, HLT.out, HE.out, five_below (pw_below_drewN HW.out.bel _) (by omega) _ _ _ _ _, .inl ⟨fun h => by have := h.2.2.1; omega, rfl⟩⟩
    have ha : a < T.size := by omega
    have hj : j < T.size := by have := HAJ.out; omega
    have y2 : (0 : Int) ≤ (a : Int) := by omega
    have y3 : (a : Int) < (T.size : Int) := by omega
    have y4 : (0 : Int) ≤ (j : Int) := by omega
    have y5 : (j : Int) < (T.size : Int) := by omega
    have w1 : IntKind.i64.wrap ((a : Int) - 1) = (j : Int) := by rw [show (a : Int) - 1 = (j : Int) by have := HAJ.out; omega]; exact IntWalk.i64_in _ (by omega)
    have hch := hc.out T HLT.out
    have q1 : (((T[a]'ha).toNat : Nat) : Int) = 95 := by rw [bt_nat T a ha]; exact hch.1
    have q2 : (((T[j]'hj).toNat : Nat) : Int) = 95 := by rw [bt_nat T j hj]; exact hch.2
    have HCH := Aside0.mk hch
    clear hch hc
    go_quiet (fail)
    go_wp2_with (fail)
    refine bodyPost_ret (results_cell_tmp rfl _ _ _ (b + 2) 23 zrun _ rfl rfl (five_row HW.out.h8 _ _ _ _ _) Try.underlying23 info23s) rfl ?_
    exact ⟨T, E, HLT.out, HE.out, five_below (pw_below_drewN HW.out.bel _) (by omega) _ _ _ _ _, .inl ⟨fun h => h.2.2.2.2 ⟨x2, by rw [show (a : Int) - 1 = (j : Int) by have := HAJ.out; omega, HCH.out.1, HCH.out.2]⟩, rfl⟩⟩
end Go.Proofs.Ytjfpkldknchnkaa.Me
