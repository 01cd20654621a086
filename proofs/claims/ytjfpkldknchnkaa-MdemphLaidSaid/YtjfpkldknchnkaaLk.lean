/- mdemph.Look walked. -/
import Derived.Test.YtjfpkldknchnkaaLe
namespace Go.Proofs.Ytjfpkldknchnkaa.Me
open Go.RowKit Go.Proofs.YtjfpkldknchnkaaW.PrintWords Go.Proofs.YtjfpkldknchnkaaW.PrintLast Go.Proofs.YtjfpkldknchnkaaW.PrintMore
attribute [local go_sem] max2_int min2_int max_two min_two max_three min_three max_four min_four
set_option linter.unusedVariables false
set_option linter.unusedSimpArgs false
abbrev zrun : Array Value := #[.int .i64 0, .int .i64 0, .int .u8 0, .bool false, .bool false]
def good (b : Int → Int) (fr at_ E : Int) : Prop := 0 ≤ fr ∧ fr ≤ at_ ∧ at_ < E ∧ (b at_ = 42 ∨ b at_ = 95) ∧ ¬ (fr < at_ ∧ b (at_ - 1) = b at_)
structure IsN (b : Int → Int) (E at_ N : Int) : Prop where
  n1 : 1 ≤ N
  le : at_ + N ≤ E
  eq : ∀ j, at_ ≤ j → j < at_ + N → b j = b at_
  st : at_ + N = E ∨ (at_ + N < E ∧ b (at_ + N) ≠ b at_)
def opensB (c a b : Int) : Bool := if c = 95 then leansB a b && (!leansB b a || markB b) else leansB a b
def closesB (c a b : Int) : Bool := if c = 95 then leansB b a && (!leansB a b || markB a) else leansB b a
abbrev runc (b : Int → Int) (fr E at_ N : Int) : Array Value := #[.int .i64 at_, .int .i64 N, .int .u8 (b at_), .bool (opensB (b at_) (ofB b fr E (at_ + N)) (ofB b fr E (at_ - 1))), .bool (closesB (b at_) (ofB b fr E (at_ + N)) (ofB b fr E (at_ - 1)))]
def LookT (S : ByteArray) (fr at_ en : Int) (w : World) (e : Ending) (w' : World) : Prop :=
  ∃ T E, LineT S T ∧ E = (if (T.size : Int) < en then (T.size : Int) else en) ∧ Below w.heap.size w w' ∧ ((¬ good (bt T) fr at_ E ∧ e = .returned (.tuple #[.agg zrun, .bool false])) ∨ (good (bt T) fr at_ E ∧ ∃ N, IsN (bt T) E at_ N ∧ e = .returned (.tuple #[.agg (runc (bt T) fr E at_ N), .bool true])))
/-- Look's own cells. -/
structure LkW (w W : World) (b : Nat) (fr E : Int) (T : ByteArray) : Prop where
  h5 : W.heap[b]? = some (.cells #[.int .i64 fr] 3 (0, 0))
  h7 : W.heap[b + 1]? = some (.cells #[.int .i64 E] 3 (0, 0))
  h8 : W.heap[b + 2]? = some (.cells zrun 23 (0, 0))
  h10 : W.heap[b + 3]? = some (.cells #[.string T] 9 (0, 0))
  sz : W.heap.size = b + 4
  bel : Below w.heap.size w W
theorem results_cell_tmp {fn : Func} {p q : Tmp} {ty : TypeId} (h : fn.results = #[.cell p ty, .tmp q]) (tmps : Array Value) (P : Program) (w : World) (g : Nat) (t : TypeId) (cs : Array Value) (d : TypeDesc) (hd : d.isRow = true)
    (hp : tmps.getD p undef = .pointer (some ⟨g, 0, none⟩)) (hg : w.heap[g]? = some (.cells cs t (0, 0))) (hu : P.underlying ty = some d) (hi : (P.info? ty).map (·.size) = some cs.size) :
    (results fn tmps).run P w = .ok (.tuple #[.agg cs, tmps.getD q undef]) w := by
  have hp' : tmps[p]?.getD undef = .pointer (some ⟨g, 0, none⟩) := by simpa using hp
  have hl := run_loadVar_mid (P := P) w g 0 ty cs.toList d (fun j v hj => by rw [Nat.zero_add, cell_of_row _ _ _ _ _ _ hg]; simpa using hj) hu hd (by rw [hi, Array.length_toList])
  rw [Array.toArray_toList] at hl
  simp [results, h, hp', asAddr, hl]
theorem five_row {W : World} {g : Nat} {t : TypeId} {a0 a1 a2 a3 a4 : Value} (h : W.heap[g]? = some (.cells #[a0, a1, a2, a3, a4] t (0, 0))) (x0 x1 x2 x3 x4 : Value) :
    (((((W.setCell ⟨g, 0, none⟩ x0).setCell ⟨g, 1, none⟩ x1).setCell ⟨g, 2, none⟩ x2).setCell ⟨g, 3, none⟩ x3).setCell ⟨g, 4, none⟩ x4).heap[g]? = some (.cells #[x0, x1, x2, x3, x4] t (0, 0)) := by
  have h0 := blk_set h 0 x0
  have h1 := blk_set h0 1 x1
  have h2 := blk_set h1 2 x2
  have h3 := blk_set h2 3 x3
  have h4 := blk_set h3 4 x4
  simpa using h4
theorem five_below {w W : World} {g : Nat} (h : Below w.heap.size w W) (hg : w.heap.size ≤ g) (x0 x1 x2 x3 x4 : Value) :
    Below w.heap.size w (((((W.setCell ⟨g, 0, none⟩ x0).setCell ⟨g, 1, none⟩ x1).setCell ⟨g, 2, none⟩ x2).setCell ⟨g, 3, none⟩ x3).setCell ⟨g, 4, none⟩ x4) :=
  ((((h.setCell (p := ⟨g, 0, none⟩) hg _).setCell (p := ⟨g, 1, none⟩) hg _).setCell (p := ⟨g, 2, none⟩) hg _).setCell (p := ⟨g, 3, none⟩) hg _).setCell (p := ⟨g, 4, none⟩) hg _
theorem info23s : (Try.prog.info? 23).map (·.size) = some 5 := by kernel_rfl
set_option maxRecDepth 100000 in
set_option maxHeartbeats 8000000 in
theorem look_bad (S : ByteArray) (fr at_ en : Int) (w : World) (hS : S.size ≤ 100000) (hbad : fr < 0 ∨ at_ < fr ∨ ∀ T E, LineT S T → E = (if (T.size : Int) < en then (T.size : Int) else en) → E ≤ at_) : Calls Try.prog 9 #[.string S, .int .i64 fr, .int .i64 at_, .int .i64 en] w fun e w' => LookT S fr at_ en w e w' := by
  obtain ⟨w1, hw1⟩ : ∃ q, w.alloc (.cells #[.int .i64 fr] 3) = q := ⟨_, rfl⟩
  obtain ⟨w2, hw2⟩ : ∃ q, w1.alloc (.cells #[.int .i64 en] 3) = q := ⟨_, rfl⟩
  obtain ⟨w3, hw3⟩ : ∃ q, w2.alloc (.cells zrun 23) = q := ⟨_, rfl⟩
  obtain ⟨b, hb⟩ : ∃ q, w.heap.size = q := ⟨_, rfl⟩
  have hs1 : w1.heap.size = b + 1 := by rw [← hw1]; simp [hb]
  have hs2 : w2.heap.size = b + 2 := by rw [← hw2]; simp [hs1]
  have hs3 : w3.heap.size = b + 3 := by rw [← hw3]; simp [hs2]
  have k1 : w1.heap[b]? = some (.cells #[.int .i64 fr] 3 (0, 0)) := by rw [← hw1, ← hb]; exact heap_alloc_new _ _
  have b1 : Below w1.heap.size w1 w2 := by rw [← hw2]; exact below_alloc (Below.refl _ w1) _
  have b2 : Below w2.heap.size w2 w3 := by rw [← hw3]; exact below_alloc (Below.refl _ w2) _
  have b0 : Below w.heap.size w w1 := by rw [← hw1]; exact below_alloc (Below.refl _ w) _
  have k2 : w2.heap[b + 1]? = some (.cells #[.int .i64 en] 3 (0, 0)) := by rw [← hw2, ← hs1]; exact heap_alloc_new _ _
  have k3 : w3.heap[b + 2]? = some (.cells zrun 23 (0, 0)) := by rw [← hw3, ← hs2]; exact heap_alloc_new _ _
  have k13 : w3.heap[b]? = some (.cells #[.int .i64 fr] 3 (0, 0)) := (b2.block b (by omega)).trans ((b1.block b (by omega)).trans k1)
  have k23 : w3.heap[b + 1]? = some (.cells #[.int .i64 en] 3 (0, 0)) := (b2.block (b + 1) (by omega)).trans k2
  have b03 : Below w.heap.size w w3 := (b0.trans (b1.mono (by omega))).trans (b2.mono (by omega))
  have K1 := Aside0.mk k13
  have K2 := Aside0.mk k23
  have K3 := Aside0.mk k3
  have HB3 := Aside0.mk b03
  clear k1 b1 b2 b0 k2 k3 k13 k23 b03
  go_enter Try.func9, Try.ntmps9
  go_upto_region 5 with (refine (cut_c S w3 (by omega)).mono ?_)
  rintro _ w4 (⟨hx, rfl, h9⟩ | ⟨i, T2, k, hx, hlt, rfl, h9⟩)
  · rw [h9]
    clear h9 w4
    have HLT := Aside0.mk (line_none hx)
    clear hx hw1 hw2 hw3
    obtain ⟨wa, hwa⟩ : ∃ q, w3.alloc (.cells #[.string S] 9) = q := ⟨_, rfl⟩
    have a0 : Below w3.heap.size w3 wa := by rw [← hwa]; exact below_alloc (Below.refl _ w3) _
    have a10 : wa.heap[b + 3]? = some (.cells #[.string S] 9 (0, 0)) := by rw [← hwa, ← hs3]; exact heap_alloc_new _ _
    have a7 : wa.heap[b + 1]? = some (.cells #[.int .i64 en] 3 (0, 0)) := (a0.block (b + 1) (by omega)).trans K2.out
    have hsa : wa.heap.size = b + 4 := by rw [← hwa]; simp [hs3]
    have c10 : wa.cell? ⟨b + 3, 0, none⟩ = some (.string S) := cell_of_row _ _ _ _ _ _ a10
    have c7 : wa.cell? ⟨b + 1, 0, none⟩ = some (.int .i64 en) := cell_of_row _ _ _ _ _ _ a7
    have f7 := fun j => blk_frozen a7 j
    have A0 := Aside0.mk a0
    have A7 := Aside0.mk a7
    have A10 := Aside0.mk a10
    clear a0 a7 a10
    go_upto_region 5 with (fail)
    have A5 : Aside0 (wa.heap[b]? = some (.cells #[.int .i64 fr] 3 (0, 0))) := ⟨(A0.out.block b (by omega)).trans K1.out⟩
    have A8 : Aside0 (wa.heap[b + 2]? = some (.cells zrun 23 (0, 0))) := ⟨(A0.out.block (b + 2) (by omega)).trans K3.out⟩
    have HBA : Aside0 (Below w.heap.size w wa) := ⟨HB3.out.trans (A0.out.mono (by omega))⟩
    obtain ⟨E, hE⟩ : ∃ q, (if (S.size : Int) < en then (S.size : Int) else en) = q := ⟨_, rfl⟩
    rw [hE]
    obtain ⟨W, hW⟩ : ∃ q, wa.setCell ⟨b + 1, 0, none⟩ (.int .i64 E) = q := ⟨_, rfl⟩
    rw [hW]
    have HE := Aside0.mk hE.symm
    have hEs : E ≤ (S.size : Int) := by rw [← hE]; split <;> omega
    have HEs := Aside0.mk hEs
    have v7 : W.heap[b + 1]? = some (.cells #[.int .i64 E] 3 (0, 0)) := by rw [← hW]; exact blk_set A7.out 0 _
    have v5 : W.heap[b]? = some (.cells #[.int .i64 fr] 3 (0, 0)) := by rw [← hW]; exact blk_far A5.out (by show b ≠ b + 1; omega) _
    have v8 : W.heap[b + 2]? = some (.cells zrun 23 (0, 0)) := by rw [← hW]; exact blk_far A8.out (by show b + 2 ≠ b + 1; omega) _
    have v10 : W.heap[b + 3]? = some (.cells #[.string S] 9 (0, 0)) := by rw [← hW]; exact blk_far A10.out (by show b + 3 ≠ b + 1; omega) _
    have vb : Below w.heap.size w W := by rw [← hW]; exact HBA.out.setCell (p := ⟨b + 1, 0, none⟩) (by show w.heap.size ≤ b + 1; omega) _
    have vs : W.heap.size = b + 4 := by rw [← hW]; simp [hsa]
    have HW : Aside0 (LkW w W b fr E S) := ⟨⟨v5, v7, v8, v10, vs, vb⟩⟩
    have d5 : W.cell? ⟨b, 0, none⟩ = some (.int .i64 fr) := cell_of_row _ _ _ _ _ _ v5
    have d7 : W.cell? ⟨b + 1, 0, none⟩ = some (.int .i64 E) := cell_of_row _ _ _ _ _ _ v7
    have d10 : W.cell? ⟨b + 3, 0, none⟩ = some (.string S) := cell_of_row _ _ _ _ _ _ v10
    have f8 := fun j => blk_frozen v8 j
    have d80 : W.cell? ⟨b + 2, 0, none⟩ = some (.int .i64 0) := cell_of_row _ _ _ _ _ _ v8
    have d81 : W.cell? ⟨b + 2, 1, none⟩ = some (.int .i64 0) := cell_of_row _ _ _ _ _ _ v8
    have d82 : W.cell? ⟨b + 2, 2, none⟩ = some (.int .u8 0) := cell_of_row _ _ _ _ _ _ v8
    have d83 : W.cell? ⟨b + 2, 3, none⟩ = some (.bool false) := cell_of_row _ _ _ _ _ _ v8
    have d84 : W.cell? ⟨b + 2, 4, none⟩ = some (.bool false) := cell_of_row _ _ _ _ _ _ v8
    clear v5 v7 v8 v10 vs vb hE hW c7 c10 f7 
    by_cases g0 : fr < 0
    · go_quiet (fail)
      go_wp2_with (fail)
      refine bodyPost_ret (results_cell_tmp rfl _ _ _ (b + 2) 23 zrun _ rfl rfl (five_row HW.out.h8 _ _ _ _ _) Try.underlying23 info23s) rfl ?_
      exact ⟨S, E, HLT.out, HE.out, five_below (pw_below_drewN HW.out.bel _) (by omega) _ _ _ _ _, .inl ⟨fun h => by have := h.1; omega, rfl⟩⟩
    by_cases g1 : at_ < fr
    · go_quiet (fail)
      go_wp2_with (fail)
      refine bodyPost_ret (results_cell_tmp rfl _ _ _ (b + 2) 23 zrun _ rfl rfl (five_row HW.out.h8 _ _ _ _ _) Try.underlying23 info23s) rfl ?_
      exact ⟨S, E, HLT.out, HE.out, five_below (pw_below_drewN HW.out.bel _) (by omega) _ _ _ _ _, .inl ⟨fun h => by have := h.2.1; omega, rfl⟩⟩
    have g2 : E ≤ at_ := by
      rcases hbad with h | h | h
      · exact absurd h g0
      · exact absurd h g1
      · exact h S E HLT.out HE.out
    go_quiet (fail)
    go_wp2_with (fail)
    refine bodyPost_ret (results_cell_tmp rfl _ _ _ (b + 2) 23 zrun _ rfl rfl (five_row HW.out.h8 _ _ _ _ _) Try.underlying23 info23s) rfl ?_
    exact ⟨S, E, HLT.out, HE.out, five_below (pw_below_drewN HW.out.bel _) (by omega) _ _ _ _ _, .inl ⟨fun h => by have := h.2.2.1; omega, rfl⟩⟩
  · rw [h9]
    clear h9 w4
    obtain ⟨b2, hb2⟩ : ∃ b2 : Bool, b2 = true ↔ endsCR (S.extract 0 i) := by
      by_cases h : endsCR (S.extract 0 i)
      · exact ⟨true, ⟨fun _ => h, fun _ => rfl⟩⟩
      · exact ⟨false, ⟨fun h2 => absurd h2 Bool.false_ne_true, fun h2 => absurd h2 h⟩⟩
    have hlt0 := line_some hx hlt hb2
    have hz1 : (S.extract 0 i).size ≤ 1000000 := by rw [ByteArray.size_extract]; omega
    have HTR := Aside0.mk (fun W => trim_c (S.extract 0 i) W hz1 b2 hb2)
    obtain ⟨T1, hT1⟩ : ∃ q, S.extract 0 i = q := ⟨_, rfl⟩
    rw [hT1] at hlt0 HTR ⊢
    obtain ⟨T, hT⟩ : ∃ q, trimT T1 b2 = q := ⟨_, rfl⟩
    rw [hT] at hlt0 HTR
    have HLT := Aside0.mk hlt0
    have hTS := hlt0.le
    clear hx hw1 hw2 hw3 hb2 hlt0 hlt hz1 hT1 hT
    obtain ⟨wd, hwd⟩ : ∃ q, w3.drewN k = q := ⟨_, rfl⟩
    rw [hwd]
    have hsd : wd.heap.size = b + 3 := by rw [← hwd]; exact hs3
    have ad : Below w3.heap.size w3 wd := by rw [← hwd]; exact pw_below_drewN (Below.refl _ w3) k
    obtain ⟨wa, hwa⟩ : ∃ q, wd.alloc (.cells #[.string T1] 9) = q := ⟨_, rfl⟩
    have a00 : Below wd.heap.size wd wa := by rw [← hwa]; exact below_alloc (Below.refl _ wd) _
    have a0 : Below w3.heap.size w3 wa := ad.trans (a00.mono (by omega))
    have a10 : wa.heap[b + 3]? = some (.cells #[.string T1] 9 (0, 0)) := by rw [← hwa, ← hsd]; exact heap_alloc_new _ _
    have a7 : wa.heap[b + 1]? = some (.cells #[.int .i64 en] 3 (0, 0)) := (a0.block (b + 1) (by omega)).trans K2.out
    have hsa0 : wa.heap.size = b + 4 := by rw [← hwa]; simp [hsd]
    have c10 : wa.cell? ⟨b + 3, 0, none⟩ = some (.string T1) := cell_of_row _ _ _ _ _ _ a10
    have f10 := fun j => blk_frozen a10 j
    have A00 := Aside0.mk a0
    have A7_ := Aside0.mk a7
    have A10_ := Aside0.mk a10
    clear a0 a7 a10 a00 ad hwd
    go_upto_region 4 with (refine (HTR.out _).mono ?_; rintro _ w9 ⟨rfl, h9⟩; rw [h9]; clear h9 w9)
    obtain ⟨wb, hwb⟩ : ∃ q, wa.setCell ⟨b + 3, 0, none⟩ (.string T) = q := ⟨_, rfl⟩
    rw [hwb]
    have hsa : wb.heap.size = b + 4 := by rw [← hwb]; simp [hsa0]
    have A10 : Aside0 (wb.heap[b + 3]? = some (.cells #[.string T] 9 (0, 0))) := ⟨by rw [← hwb]; exact blk_set A10_.out 0 _⟩
    have A7 : Aside0 (wb.heap[b + 1]? = some (.cells #[.int .i64 en] 3 (0, 0))) := ⟨by rw [← hwb]; exact blk_far A7_.out (by show b + 1 ≠ b + 3; omega) _⟩
    have A5 : Aside0 (wb.heap[b]? = some (.cells #[.int .i64 fr] 3 (0, 0))) := ⟨by rw [← hwb]; exact blk_far ((A00.out.block b (by omega)).trans K1.out) (by show b ≠ b + 3; omega) _⟩
    have A8 : Aside0 (wb.heap[b + 2]? = some (.cells zrun 23 (0, 0))) := ⟨by rw [← hwb]; exact blk_far ((A00.out.block (b + 2) (by omega)).trans K3.out) (by show b + 2 ≠ b + 3; omega) _⟩
    have HBA : Aside0 (Below w.heap.size w wb) := ⟨by rw [← hwb]; exact (HB3.out.trans (A00.out.mono (by omega))).setCell (p := ⟨b + 3, 0, none⟩) (by show w.heap.size ≤ b + 3; omega) _⟩
    clear c10 f10 hwa hwb A00 A7_ A10_ HTR
    have c10 : wb.cell? ⟨b + 3, 0, none⟩ = some (.string T) := cell_of_row _ _ _ _ _ _ A10.out
    have c7 : wb.cell? ⟨b + 1, 0, none⟩ = some (.int .i64 en) := cell_of_row _ _ _ _ _ _ A7.out
    have f7 := fun j => blk_frozen A7.out j
    go_upto_region 5 with (fail)
    obtain ⟨E, hE⟩ : ∃ q, (if (T.size : Int) < en then (T.size : Int) else en) = q := ⟨_, rfl⟩
    rw [hE]
    obtain ⟨W, hW⟩ : ∃ q, wb.setCell ⟨b + 1, 0, none⟩ (.int .i64 E) = q := ⟨_, rfl⟩
    rw [hW]
    have HE := Aside0.mk hE.symm
    have hEs : E ≤ (T.size : Int) := by rw [← hE]; split <;> omega
    have HEs := Aside0.mk hEs
    have v7 : W.heap[b + 1]? = some (.cells #[.int .i64 E] 3 (0, 0)) := by rw [← hW]; exact blk_set A7.out 0 _
    have v5 : W.heap[b]? = some (.cells #[.int .i64 fr] 3 (0, 0)) := by rw [← hW]; exact blk_far A5.out (by show b ≠ b + 1; omega) _
    have v8 : W.heap[b + 2]? = some (.cells zrun 23 (0, 0)) := by rw [← hW]; exact blk_far A8.out (by show b + 2 ≠ b + 1; omega) _
    have v10 : W.heap[b + 3]? = some (.cells #[.string T] 9 (0, 0)) := by rw [← hW]; exact blk_far A10.out (by show b + 3 ≠ b + 1; omega) _
    have vb : Below w.heap.size w W := by rw [← hW]; exact HBA.out.setCell (p := ⟨b + 1, 0, none⟩) (by show w.heap.size ≤ b + 1; omega) _
    have vs : W.heap.size = b + 4 := by rw [← hW]; simp [hsa]
    have HW : Aside0 (LkW w W b fr E T) := ⟨⟨v5, v7, v8, v10, vs, vb⟩⟩
    have d5 : W.cell? ⟨b, 0, none⟩ = some (.int .i64 fr) := cell_of_row _ _ _ _ _ _ v5
    have d7 : W.cell? ⟨b + 1, 0, none⟩ = some (.int .i64 E) := cell_of_row _ _ _ _ _ _ v7
    have d10 : W.cell? ⟨b + 3, 0, none⟩ = some (.string T) := cell_of_row _ _ _ _ _ _ v10
    have f8 := fun j => blk_frozen v8 j
    have d80 : W.cell? ⟨b + 2, 0, none⟩ = some (.int .i64 0) := cell_of_row _ _ _ _ _ _ v8
    have d81 : W.cell? ⟨b + 2, 1, none⟩ = some (.int .i64 0) := cell_of_row _ _ _ _ _ _ v8
    have d82 : W.cell? ⟨b + 2, 2, none⟩ = some (.int .u8 0) := cell_of_row _ _ _ _ _ _ v8
    have d83 : W.cell? ⟨b + 2, 3, none⟩ = some (.bool false) := cell_of_row _ _ _ _ _ _ v8
    have d84 : W.cell? ⟨b + 2, 4, none⟩ = some (.bool false) := cell_of_row _ _ _ _ _ _ v8
    clear v5 v7 v8 v10 vs vb hE hW c7 c10 f7 
    by_cases g0 : fr < 0
    · go_quiet (fail)
      go_wp2_with (fail)
      refine bodyPost_ret (results_cell_tmp rfl _ _ _ (b + 2) 23 zrun _ rfl rfl (five_row HW.out.h8 _ _ _ _ _) Try.underlying23 info23s) rfl ?_
      exact ⟨T, E, HLT.out, HE.out, five_below (pw_below_drewN HW.out.bel _) (by omega) _ _ _ _ _, .inl ⟨fun h => by have := h.1; omega, rfl⟩⟩
    by_cases g1 : at_ < fr
    · go_quiet (fail)
      go_wp2_with (fail)
      refine bodyPost_ret (results_cell_tmp rfl _ _ _ (b + 2) 23 zrun _ rfl rfl (five_row HW.out.h8 _ _ _ _ _) Try.underlying23 info23s) rfl ?_
      exact ⟨T, E, HLT.out, HE.out, five_below (pw_below_drewN HW.out.bel _) (by omega) _ _ _ _ _, .inl ⟨fun h => by have := h.2.1; omega, rfl⟩⟩
    have g2 : E ≤ at_ := by
      rcases hbad with h | h | h
      · exact absurd h g0
      · exact absurd h g1
      · exact h T E HLT.out HE.out
    go_quiet (fail)
    go_wp2_with (fail)
    refine bodyPost_ret (results_cell_tmp rfl _ _ _ (b + 2) 23 zrun _ rfl rfl (five_row HW.out.h8 _ _ _ _ _) Try.underlying23 info23s) rfl ?_
    exact ⟨T, E, HLT.out, HE.out, five_below (pw_below_drewN HW.out.bel _) (by omega) _ _ _ _ _, .inl ⟨fun h => by have := h.2.2.1; omega, rfl⟩⟩
end Go.Proofs.Ytjfpkldknchnkaa.Me
