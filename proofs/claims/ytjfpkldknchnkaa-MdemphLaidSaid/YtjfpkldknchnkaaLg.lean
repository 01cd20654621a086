/- mdemph.Look where a run begins. -/
import Derived.Test.YtjfpkldknchnkaaLm
namespace Go.Proofs.Ytjfpkldknchnkaa.Me
open Go.RowKit Go.Proofs.YtjfpkldknchnkaaW.PrintWords Go.Proofs.YtjfpkldknchnkaaW.PrintLast Go.Proofs.YtjfpkldknchnkaaW.PrintMore
attribute [local go_sem] max2_int min2_int max_two min_two max_three min_three max_four min_four
set_option linter.unusedVariables false
set_option linter.unusedSimpArgs false
theorem LkW.draw {w W : World} {b : Nat} {fr E : Int} {T : ByteArray} (h : LkW w W b fr E T) (n : Nat) : LkW w (W.drewN n) b fr E T :=
  ⟨h.h5, h.h7, h.h8, h.h10, h.sz, pw_below_drewN h.bel n⟩
/-- Look's own cells, with the run. -/
structure LkR (w W : World) (b : Nat) (fr E : Int) (T : ByteArray) (row : Array Value) : Prop where
  h5 : W.heap[b]? = some (.cells #[.int .i64 fr] 3 (0, 0))
  h7 : W.heap[b + 1]? = some (.cells #[.int .i64 E] 3 (0, 0))
  h8 : W.heap[b + 2]? = some (.cells zrun 23 (0, 0))
  h10 : W.heap[b + 3]? = some (.cells #[.string T] 9 (0, 0))
  hr : W.heap[b + 4]? = some (.cells row 23 (0, 0))
  sz : W.heap.size = b + 5
  bel : Below w.heap.size w W
theorem LkR.draw {w W : World} {b : Nat} {fr E : Int} {T : ByteArray} {row : Array Value} (h : LkR w W b fr E T row) (n : Nat) : LkR w (W.drewN n) b fr E T row :=
  ⟨h.h5, h.h7, h.h8, h.h10, h.hr, h.sz, pw_below_drewN h.bel n⟩
theorem LkW.alloc {w W : World} {b : Nat} {fr E : Int} {T : ByteArray} (h : LkW w W b fr E T) (hb : w.heap.size = b) (row : Array Value) : LkR w (W.alloc (.cells row 23)) b fr E T row := by
  have hs := h.sz
  have hbl : Below W.heap.size W (W.alloc (.cells row 23)) := below_alloc (Below.refl _ W) _
  exact ⟨(hbl.block b (by omega)).trans h.h5, (hbl.block (b + 1) (by omega)).trans h.h7, (hbl.block (b + 2) (by omega)).trans h.h8, (hbl.block (b + 3) (by omega)).trans h.h10, by rw [← hs]; exact heap_alloc_new _ _, by simp [hs], below_alloc h.bel _⟩
theorem LkR.set {w W : World} {b : Nat} {fr E : Int} {T : ByteArray} {row : Array Value} (h : LkR w W b fr E T row) (hb : w.heap.size = b) (i : Nat) (x : Value) : LkR w (W.setCell ⟨b + 4, i, none⟩ x) b fr E T (row.setIfInBounds i x) := by
  have hs := h.sz
  exact ⟨blk_far h.h5 (by show b ≠ b + 4; omega) _, blk_far h.h7 (by show b + 1 ≠ b + 4; omega) _, blk_far h.h8 (by show b + 2 ≠ b + 4; omega) _, blk_far h.h10 (by show b + 3 ≠ b + 4; omega) _, blk_set h.hr i x, by simp [hs], h.bel.setCell (p := ⟨b + 4, i, none⟩) (by show w.heap.size ≤ b + 4; omega) _⟩
theorem run_store_fn (P : Program) (w : World) (a : Addr) (m : Mode) (fn : Fn) (x y : Array Value) : Sem.run P (store a (.func fn x y) m) w = stored P w a (.func fn x y) m := run_store P w a _ m rfl
attribute [local go_sem] run_store_fn
abbrev fnc (k : Nat) : Value := .func (.func k) #[] #[]
/-- Look's own cells, with the run and the two functions. -/
structure LkF (w W : World) (b : Nat) (fr E : Int) (T : ByteArray) (row : Array Value) : Prop where
  h5 : W.heap[b]? = some (.cells #[.int .i64 fr] 3 (0, 0))
  h7 : W.heap[b + 1]? = some (.cells #[.int .i64 E] 3 (0, 0))
  h8 : W.heap[b + 2]? = some (.cells zrun 23 (0, 0))
  h10 : W.heap[b + 3]? = some (.cells #[.string T] 9 (0, 0))
  hr : W.heap[b + 4]? = some (.cells row 23 (0, 0))
  hg : W.heap[b + 5]? = some (.cells #[fnc 19] 56 (0, 0))
  hm : W.heap[b + 6]? = some (.cells #[fnc 20] 56 (0, 0))
  bel : Below w.heap.size w W
theorem LkF.draw {w W : World} {b : Nat} {fr E : Int} {T : ByteArray} {row : Array Value} (h : LkF w W b fr E T row) (n : Nat) : LkF w (W.drewN n) b fr E T row :=
  ⟨h.h5, h.h7, h.h8, h.h10, h.hr, h.hg, h.hm, pw_below_drewN h.bel n⟩
theorem LkF.set {w W : World} {b : Nat} {fr E : Int} {T : ByteArray} {row : Array Value} (h : LkF w W b fr E T row) (hb : w.heap.size = b) (i : Nat) (x : Value) : LkF w (W.setCell ⟨b + 4, i, none⟩ x) b fr E T (row.setIfInBounds i x) :=
  ⟨blk_far h.h5 (by show b ≠ b + 4; omega) _, blk_far h.h7 (by show b + 1 ≠ b + 4; omega) _, blk_far h.h8 (by show b + 2 ≠ b + 4; omega) _, blk_far h.h10 (by show b + 3 ≠ b + 4; omega) _, blk_set h.hr i x, blk_far h.hg (by show b + 5 ≠ b + 4; omega) _, blk_far h.hm (by show b + 6 ≠ b + 4; omega) _, h.bel.setCell (p := ⟨b + 4, i, none⟩) (by show w.heap.size ≤ b + 4; omega) _⟩
theorem LkR.fns {w W f1 f2 f3 f4 : World} {b : Nat} {fr E : Int} {T : ByteArray} {row : Array Value} (h : LkR w W b fr E T row) (hb : w.heap.size = b) (h1 : W.alloc (.cells #[.nilFunc] 56) = f1) (h2 : f1.setCell ⟨b + 5, 0, none⟩ (fnc 19) = f2) (h3 : f2.alloc (.cells #[.nilFunc] 56) = f3) (h4 : f3.setCell ⟨b + 6, 0, none⟩ (fnc 20) = f4) :
    LkF w f4 b fr E T row ∧ f1.heap[b + 5]? = some (.cells #[.nilFunc] 56 (0, 0)) ∧ f3.heap[b + 6]? = some (.cells #[.nilFunc] 56 (0, 0)) ∧ f1.heap.size = b + 6 ∧ f2.heap.size = b + 6 ∧ f3.heap.size = b + 7 := by
  have hs := h.sz
  have s1 : f1.heap.size = b + 6 := by rw [← h1]; simp [hs]
  have s2 : f2.heap.size = b + 6 := by rw [← h2]; simp [s1]
  have s3 : f3.heap.size = b + 7 := by rw [← h3]; simp [s2]
  have n1 : f1.heap[b + 5]? = some (.cells #[.nilFunc] 56 (0, 0)) := by rw [← h1, ← hs]; exact heap_alloc_new _ _
  have n2 : f2.heap[b + 5]? = some (.cells #[fnc 19] 56 (0, 0)) := by rw [← h2]; exact blk_set n1 0 _
  have n3 : f3.heap[b + 6]? = some (.cells #[.nilFunc] 56 (0, 0)) := by rw [← h3, ← s2]; exact heap_alloc_new _ _
  have n4 : f4.heap[b + 6]? = some (.cells #[fnc 20] 56 (0, 0)) := by rw [← h4]; exact blk_set n3 0 _
  have b1 : Below W.heap.size W f1 := by rw [← h1]; exact below_alloc (Below.refl _ W) _
  have b3 : Below f2.heap.size f2 f3 := by rw [← h3]; exact below_alloc (Below.refl _ f2) _
  have n5 : f4.heap[b + 5]? = some (.cells #[fnc 19] 56 (0, 0)) := by rw [← h4]; exact blk_far ((b3.block (b + 5) (by omega)).trans n2) (by show b + 5 ≠ b + 6; omega) _
  have k2 : ∀ (i : Nat) (cs : Array Value) (t : TypeId), i < b + 5 → W.heap[i]? = some (.cells cs t (0, 0)) → f4.heap[i]? = some (.cells cs t (0, 0)) := by
    intro i cs t hi ho
    have q1 : f1.heap[i]? = some (.cells cs t (0, 0)) := (b1.block i (by omega)).trans ho
    have q2 : f2.heap[i]? = some (.cells cs t (0, 0)) := by rw [← h2]; exact blk_far q1 (by show i ≠ b + 5; omega) _
    have q3 : f3.heap[i]? = some (.cells cs t (0, 0)) := (b3.block i (by omega)).trans q2
    rw [← h4]; exact blk_far q3 (by show i ≠ b + 6; omega) _
  have B : Below w.heap.size w f4 := by
    rw [← h4, ← h3, ← h2, ← h1]
    exact (below_alloc ((below_alloc h.bel _).setCell (p := ⟨b + 5, 0, none⟩) (by show w.heap.size ≤ b + 5; omega) _) _).setCell (p := ⟨b + 6, 0, none⟩) (by show w.heap.size ≤ b + 6; omega) _
  exact ⟨⟨k2 _ _ _ (by omega) h.h5, k2 _ _ _ (by omega) h.h7, k2 _ _ _ (by omega) h.h8, k2 _ _ _ (by omega) h.h10, k2 _ _ _ (by omega) h.hr, n5, n4, B⟩, n1, n3, s1, s2, s3⟩
set_option maxRecDepth 100000 in
set_option maxHeartbeats 8000000 in
theorem look_good (S : ByteArray) (fr at_ en : Int) (w : World) (hS : S.size ≤ 100000) (a : Nat) (hat : at_ = (a : Int)) (h0 : 0 ≤ fr) (h1 : fr ≤ (a : Int)) (hc : Aside0 (∀ T E, LineT S T → E = (if (T.size : Int) < en then (T.size : Int) else en) → (a : Int) < E ∧ (bt T (a : Int) = 42 ∨ bt T (a : Int) = 95) ∧ (fr < (a : Int) → bt T ((a : Int) - 1) ≠ bt T (a : Int)))) : Calls Try.prog 9 #[.string S, .int .i64 fr, .int .i64 at_, .int .i64 en] w fun e w' => LookT S fr at_ en w e w' := by
  obtain ⟨w1, hw1⟩ : ∃ q, w.alloc (.cells #[.int .i64 fr] 3) = q := ⟨_, rfl⟩
  obtain ⟨w2, hw2⟩ : ∃ q, w1.alloc (.cells #[.int .i64 en] 3) = q := ⟨_, rfl⟩
  obtain ⟨w3, hw3⟩ : ∃ q, w2.alloc (.cells zrun 23) = q := ⟨_, rfl⟩
  obtain ⟨b, hb⟩ : ∃ q, w.heap.size = q := ⟨_, rfl⟩
  have hs1 : w1.heap.size = b + 1 := by rw [← hw1]; simp [hb]
  have hs2 : w2.heap.size = b + 2 := by rw [← hw2]; simp [hs1]
  have hs3 : w3.heap.size = b + 3 := by rw [← hw3]; simp [hs2]
  have k1 : w1.heap[b]? = some (.cells #[.int .i64 fr] 3 (0, 0)) := by rw [← hw1, ← hb]; exact heap_alloc_new _ _
  have b1 : Below w1.heap.size w1 w2 := by rw [← hw2]; exact below_alloc (Below.refl _ w1) _
  have b2 : Below w2.heap.size w2 w3 := by rw [← hw3]; exact below_alloc (Below.refl _ w2) _
  have b0 : Below w.heap.size w w1 := by rw [← hw1]; exact below_alloc (Below.refl _ w) _
  have k2 : w2.heap[b + 1]? = some (.cells #[.int .i64 en] 3 (0, 0)) := by rw [← hw2, ← hs1]; exact heap_alloc_new _ _
  have k3 : w3.heap[b + 2]? = some (.cells zrun 23 (0, 0)) := by rw [← hw3, ← hs2]; exact heap_alloc_new _ _
  have k13 : w3.heap[b]? = some (.cells #[.int .i64 fr] 3 (0, 0)) := (b2.block b (by omega)).trans ((b1.block b (by omega)).trans k1)
  have k23 : w3.heap[b + 1]? = some (.cells #[.int .i64 en] 3 (0, 0)) := (b2.block (b + 1) (by omega)).trans k2
  have b03 : Below w.heap.size w w3 := (b0.trans (b1.mono (by omega))).trans (b2.mono (by omega))
  have K1 := Aside0.mk k13
  have K2 := Aside0.mk k23
  have K3 := Aside0.mk k3
  have HB3 := Aside0.mk b03
  clear k1 b1 b2 b0 k2 k3 k13 k23 b03
  subst hat
  go_enter Try.func9, Try.ntmps9
  go_upto_region 5 with (refine (cut_c S w3 (by omega)).mono ?_)
  rintro _ w4 (⟨hx, rfl, h9⟩ | ⟨i, T2, k, hx, hlt, rfl, h9⟩)
  · rw [h9]
    clear h9 w4
    have HLT := Aside0.mk (line_none hx)
    clear hx hw1 hw2 hw3
    obtain ⟨wa, hwa⟩ : ∃ q, w3.alloc (.cells #[.string S] 9) = q := ⟨_, rfl⟩
    have a0 : Below w3.heap.size w3 wa := by rw [← hwa]; exact below_alloc (Below.refl _ w3) _
    have a10 : wa.heap[b + 3]? = some (.cells #[.string S] 9 (0, 0)) := by rw [← hwa, ← hs3]; exact heap_alloc_new _ _
    have a7 : wa.heap[b + 1]? = some (.cells #[.int .i64 en] 3 (0, 0)) := (a0.block (b + 1) (by omega)).trans K2.out
    have hsa : wa.heap.size = b + 4 := by rw [← hwa]; simp [hs3]
    have c10 : wa.cell? ⟨b + 3, 0, none⟩ = some (.string S) := cell_of_row _ _ _ _ _ _ a10
    have c7 : wa.cell? ⟨b + 1, 0, none⟩ = some (.int .i64 en) := cell_of_row _ _ _ _ _ _ a7
    have f7 := fun j => blk_frozen a7 j
    have A0 := Aside0.mk a0
    have A7 := Aside0.mk a7
    have A10 := Aside0.mk a10
    clear a0 a7 a10
    go_upto_region 5 with (fail)
    have A5 : Aside0 (wa.heap[b]? = some (.cells #[.int .i64 fr] 3 (0, 0))) := ⟨(A0.out.block b (by omega)).trans K1.out⟩
    have A8 : Aside0 (wa.heap[b + 2]? = some (.cells zrun 23 (0, 0))) := ⟨(A0.out.block (b + 2) (by omega)).trans K3.out⟩
    have HBA : Aside0 (Below w.heap.size w wa) := ⟨HB3.out.trans (A0.out.mono (by omega))⟩
    obtain ⟨E, hE⟩ : ∃ q, (if (S.size : Int) < en then (S.size : Int) else en) = q := ⟨_, rfl⟩
    rw [hE]
    obtain ⟨W, hW⟩ : ∃ q, wa.setCell ⟨b + 1, 0, none⟩ (.int .i64 E) = q := ⟨_, rfl⟩
    rw [hW]
    have HE := Aside0.mk hE.symm
    have hEs : E ≤ (S.size : Int) := by rw [← hE]; split <;> omega
    have HEs := Aside0.mk hEs
    have v7 : W.heap[b + 1]? = some (.cells #[.int .i64 E] 3 (0, 0)) := by rw [← hW]; exact blk_set A7.out 0 _
    have v5 : W.heap[b]? = some (.cells #[.int .i64 fr] 3 (0, 0)) := by rw [← hW]; exact blk_far A5.out (by show b ≠ b + 1; omega) _
    have v8 : W.heap[b + 2]? = some (.cells zrun 23 (0, 0)) := by rw [← hW]; exact blk_far A8.out (by show b + 2 ≠ b + 1; omega) _
    have v10 : W.heap[b + 3]? = some (.cells #[.string S] 9 (0, 0)) := by rw [← hW]; exact blk_far A10.out (by show b + 3 ≠ b + 1; omega) _
    have vb : Below w.heap.size w W := by rw [← hW]; exact HBA.out.setCell (p := ⟨b + 1, 0, none⟩) (by show w.heap.size ≤ b + 1; omega) _
    have vs : W.heap.size = b + 4 := by rw [← hW]; simp [hsa]
    have HW : Aside0 (LkW w W b fr E S) := ⟨⟨v5, v7, v8, v10, vs, vb⟩⟩
    have d5 : W.cell? ⟨b, 0, none⟩ = some (.int .i64 fr) := cell_of_row _ _ _ _ _ _ v5
    have d7 : W.cell? ⟨b + 1, 0, none⟩ = some (.int .i64 E) := cell_of_row _ _ _ _ _ _ v7
    have d10 : W.cell? ⟨b + 3, 0, none⟩ = some (.string S) := cell_of_row _ _ _ _ _ _ v10
    have f8 := fun j => blk_frozen v8 j
    have d80 : W.cell? ⟨b + 2, 0, none⟩ = some (.int .i64 0) := cell_of_row _ _ _ _ _ _ v8
    have d81 : W.cell? ⟨b + 2, 1, none⟩ = some (.int .i64 0) := cell_of_row _ _ _ _ _ _ v8
    have d82 : W.cell? ⟨b + 2, 2, none⟩ = some (.int .u8 0) := cell_of_row _ _ _ _ _ _ v8
    have d83 : W.cell? ⟨b + 2, 3, none⟩ = some (.bool false) := cell_of_row _ _ _ _ _ _ v8
    have d84 : W.cell? ⟨b + 2, 4, none⟩ = some (.bool false) := cell_of_row _ _ _ _ _ _ v8
    clear v5 v7 v8 v10 vs vb hE hW c7 c10 f7 
    have x0 : ¬ fr < 0 := by omega
    have x1 : ¬ (a : Int) < fr := by omega
    obtain ⟨gE0, hch, hpv⟩ := hc.out S E HLT.out HE.out
    have HGE := Aside0.mk gE0
    have gE : ¬ E ≤ (a : Int) := by omega
    have ha : a < S.size := by omega
    have y2 : (0 : Int) ≤ (a : Int) := by omega
    have y3 : (a : Int) < (S.size : Int) := by omega
    clear gE0
    obtain ⟨c, hcv⟩ : ∃ q, bt S (a : Int) = q := ⟨_, rfl⟩
    have z0 : (((S[a]'ha).toNat : Nat) : Int) = c := by rw [bt_nat S a ha]; exact hcv
    rw [hcv] at hch hpv
    have HCV := Aside0.mk hcv
    have HCH := Aside0.mk hch
    have HPV := Aside0.mk hpv
    clear hch hpv hcv
    go_cut [73] from 22 (fun v73 wc => v73 = .bool false ∧ Aside0 (LkW w wc b fr E S))
    case first =>
      by_cases hp : fr < (a : Int)
      · obtain ⟨j, hj0⟩ : ∃ j : Nat, (a : Int) - 1 = (j : Int) := ⟨((a : Int) - 1).toNat, by omega⟩
        have hj : j < S.size := by omega
        have y4 : (0 : Int) ≤ (j : Int) := by omega
        have y5 : (j : Int) < (S.size : Int) := by omega
        have q1 : IntKind.i64.wrap ((a : Int) - 1) = (j : Int) := by rw [hj0]; exact IntWalk.i64_in _ (by omega)
        have q2 : (((((S[j]'hj).toNat : Nat) : Int)) == c) = false := by have h := HPV.out hp; rw [hj0, ← bt_nat S j hj] at h; simpa using h
        clear hj0
        rcases HCH.out with q3 | q3
        · have q4 : (c != 42) = false := by rw [q3]; rfl
          clear q3
          go_quiet (fail)
          go_wp2_with (fail)
          go_meet
          case rel => exact ⟨rfl, ⟨HW.out.draw _⟩⟩
        · have q4 : (c != 42) = true := by rw [q3]; rfl
          have q5 : (c != 95) = false := by rw [q3]; rfl
          clear q3
          go_quiet (fail)
          go_wp2_with (fail)
          go_meet
          case rel => exact ⟨rfl, ⟨HW.out.draw _⟩⟩
      · rcases HCH.out with q3 | q3
        · have q4 : (c != 42) = false := by rw [q3]; rfl
          clear q3
          go_quiet (fail)
          go_wp2_with (fail)
          go_meet
          case rel => exact ⟨rfl, ⟨HW.out.draw _⟩⟩
        · have q4 : (c != 42) = true := by rw [q3]; rfl
          have q5 : (c != 95) = false := by rw [q3]; rfl
          clear q3
          go_quiet (fail)
          go_wp2_with (fail)
          go_meet
          case rel => exact ⟨rfl, ⟨HW.out.draw _⟩⟩
    case rest =>
      obtain ⟨rfl, HC⟩ := hcut
      clear d5 d7 d10 f8 d80 d81 d82 d83 d84 HW
      have d5 : wc.cell? ⟨b, 0, none⟩ = some (.int .i64 fr) := cell_of_row _ _ _ _ _ _ HC.out.h5
      have d7 : wc.cell? ⟨b + 1, 0, none⟩ = some (.int .i64 E) := cell_of_row _ _ _ _ _ _ HC.out.h7
      have d10 : wc.cell? ⟨b + 3, 0, none⟩ = some (.string S) := cell_of_row _ _ _ _ _ _ HC.out.h10
      have hsc := HC.out.sz
      obtain ⟨wv, hwv⟩ : ∃ q, wc.alloc (.cells zrun 23) = q := ⟨_, rfl⟩
      have HV : Aside0 (LkR w wv b fr E S zrun) := ⟨by rw [← hwv]; exact HC.out.alloc hb _⟩
      have fv := fun j => blk_frozen HV.out.hr j
      have dv0 : wv.cell? ⟨b + 4, 0, none⟩ = some (.int .i64 0) := cell_of_row _ _ _ _ _ _ HV.out.hr
      have dv1 : wv.cell? ⟨b + 4, 1, none⟩ = some (.int .i64 0) := cell_of_row _ _ _ _ _ _ HV.out.hr
      have dv2 : wv.cell? ⟨b + 4, 2, none⟩ = some (.int .u8 0) := cell_of_row _ _ _ _ _ _ HV.out.hr
      have dv3 : wv.cell? ⟨b + 4, 3, none⟩ = some (.bool false) := cell_of_row _ _ _ _ _ _ HV.out.hr
      have dv4 : wv.cell? ⟨b + 4, 4, none⟩ = some (.bool false) := cell_of_row _ _ _ _ _ _ HV.out.hr
      go_upto_block 0 with (fail)
      obtain ⟨V, hV⟩ : ∃ q, ((((wv.setCell ⟨b + 4, 0, none⟩ (.int .i64 (a : Int))).setCell ⟨b + 4, 1, none⟩ (.int .i64 1)).setCell ⟨b + 4, 2, none⟩ (.int .u8 c)).setCell ⟨b + 4, 3, none⟩ (.bool false)).setCell ⟨b + 4, 4, none⟩ (.bool false) = q := ⟨_, rfl⟩
      rw [hV]
      have HVR : Aside0 (LkR w V b fr E S #[.int .i64 (a : Int), .int .i64 ((1 : Nat) : Int), .int .u8 c, .bool false, .bool false]) := ⟨by rw [← hV]; exact ((((HV.out.set hb 0 _).set hb 1 _).set hb 2 _).set hb 3 _).set hb 4 _⟩
      clear hV dv0 dv1 dv2 dv3 dv4 fv hwv HV d5 d7 d10 hsc
      go_cut [] from 22 (fun wc2 => Aside0 (∃ N : Nat, IsN (bt S) E (a : Int) (N : Int) ∧ LkR w wc2 b fr E S #[.int .i64 (a : Int), .int .i64 (N : Int), .int .u8 c, .bool false, .bool false]))
      case first =>
        go_wp2_with (fail)
        go_loopg [] (S.size - a - 1) (fun gk wr => ∃ m : Nat, Aside0 (1 ≤ m) ∧ Aside0 (gk + (a + m) = S.size) ∧ Aside0 ((a : Int) + (m : Int) ≤ E) ∧ Aside0 (LkR w wr b fr E S #[.int .i64 (a : Int), .int .i64 (m : Int), .int .u8 c, .bool false, .bool false]) ∧ Aside0 (∀ j : Int, (a : Int) ≤ j → j < (a : Int) + (m : Int) → bt S j = c))
        case atStart =>
          refine ⟨1, ⟨Nat.le_refl _⟩, ⟨by omega⟩, ⟨by have := HGE.out; omega⟩, ⟨HVR.out⟩, ⟨fun j u1 u2 => ?_⟩⟩
          have hj : j = (a : Int) := by omega
          rw [hj]
          exact HCV.out
        case round =>
          obtain ⟨m, HM, HG, HLE, HR, HB⟩ := hrel
          go_upto_region 8 with (fail)
          have e5 : wr.cell? ⟨b, 0, none⟩ = some (.int .i64 fr) := cell_of_row _ _ _ _ _ _ HR.out.h5
          have e7 : wr.cell? ⟨b + 1, 0, none⟩ = some (.int .i64 E) := cell_of_row _ _ _ _ _ _ HR.out.h7
          have e10 : wr.cell? ⟨b + 3, 0, none⟩ = some (.string S) := cell_of_row _ _ _ _ _ _ HR.out.h10
          have ef := fun j => blk_frozen HR.out.hr j
          have ev1 : wr.cell? ⟨b + 4, 1, none⟩ = some (.int .i64 (m : Int)) := cell_of_row _ _ _ _ _ _ HR.out.hr
          have ev2 : wr.cell? ⟨b + 4, 2, none⟩ = some (.int .u8 c) := cell_of_row _ _ _ _ _ _ HR.out.hr
          obtain ⟨K, hK⟩ : ∃ K : Nat, a + m = K := ⟨_, rfl⟩
          have HK := Aside0.mk hK
          have v1 : IntKind.i64.wrap ((a : Int) + (m : Int)) = (K : Int) := by rw [show (a : Int) + (m : Int) = (K : Int) by omega]; exact IntWalk.i64_in _ (by have := HG.out; omega)
          have v2 : IntKind.i64.wrap ((m : Int) + 1) = (m : Int) + 1 := IntWalk.i64_in _ (by have := HG.out; omega)
          clear hK
          by_cases hKE : (K : Int) < E
          · have hKT : K < S.size := by omega
            have q0 : (0 : Int) ≤ (K : Int) := by omega
            have q1 : (K : Int) < (S.size : Int) := by omega
            by_cases hcK : bt S (K : Int) = c
            · have HC := Aside0.mk hcK
              have q2 : (((S[K]'hKT).toNat : Nat) : Int) = c := by rw [bt_nat S K hKT]; exact hcK
              clear hcK
              have HKE := Aside0.mk hKE
              obtain ⟨gn, HGN⟩ : ∃ gn : Nat, Aside0 (gk = gn + 1) := ⟨gk - 1, ⟨by have := HG.out; have := HK.out; omega⟩⟩
              go_quiet (fail)
              go_wp2_with (fail)
              go_roundg gn
              case measure => exact (by have := HGN.out; omega)
              case rel =>
                refine ⟨m + 1, ⟨by have := HM.out; omega⟩, ⟨by have := HG.out; have := HGN.out; omega⟩, ⟨by have := HK.out; have := HKE.out; omega⟩, ⟨?_⟩, ⟨fun j u1 u2 => ?_⟩⟩
                · have h := (HR.out.draw nq).set hb 1 (.int .i64 ((m : Int) + 1))
                  exact h
                · by_cases hj : j < (a : Int) + (m : Int)
                  · exact HB.out j u1 hj
                  · have hj2 : j = (K : Int) := by have := HK.out; omega
                    rw [hj2]; exact HC.out
            · have HC := Aside0.mk hcK
              have q2 : (((((S[K]'hKT).toNat : Nat) : Int)) == c) = false := by rw [bt_nat S K hKT]; simpa using hcK
              clear hcK
              have HKE := Aside0.mk hKE
              go_quiet (fail)
              go_wp2_with (fail)
              go_meet
              case rel => exact ⟨m, ⟨by have := HM.out; omega, HLE.out, fun j u1 u2 => (HB.out j u1 u2).trans HCV.out.symm, .inr ⟨by have := HK.out; have := HKE.out; omega, by rw [show (a : Int) + (m : Int) = (K : Int) by have := HK.out; omega, HCV.out]; exact HC.out⟩⟩, HR.out.draw nq⟩
          · have HKE := Aside0.mk hKE
            go_quiet (fail)
            go_wp2_with (fail)
            go_meet
            case rel => exact ⟨m, ⟨by have := HM.out; omega, HLE.out, fun j u1 u2 => (HB.out j u1 u2).trans HCV.out.symm, .inl (by have := HK.out; have := HKE.out; have := HLE.out; omega)⟩, HR.out.draw nq⟩
      case rest =>
        obtain ⟨N, HN0, HR0⟩ := hcut.out
        have HN := Aside0.mk HN0
        have HR := Aside0.mk HR0
        have hsr := HR0.sz
        obtain ⟨f1, hf1⟩ : ∃ q, wc.alloc (.cells #[.nilFunc] 56) = q := ⟨_, rfl⟩
        obtain ⟨f2, hf2⟩ : ∃ q, f1.setCell ⟨b + 5, 0, none⟩ (.func (.func 19) #[] #[]) = q := ⟨_, rfl⟩
        obtain ⟨f3, hf3⟩ : ∃ q, f2.alloc (.cells #[.nilFunc] 56) = q := ⟨_, rfl⟩
        obtain ⟨f4, hf4⟩ : ∃ q, f3.setCell ⟨b + 6, 0, none⟩ (.func (.func 20) #[] #[]) = q := ⟨_, rfl⟩
        obtain ⟨HF0, hn1, hn3, hsf1, hsf2, hsf3⟩ := HR0.fns hb hf1 hf2 hf3 hf4
        have HF := Aside0.mk HF0
        have g2 := fun j => blk_frozen hn1 j
        have g4 := fun j => blk_frozen hn3 j
        have g5 : f1.cell? ⟨b + 5, 0, none⟩ = some .nilFunc := cell_of_row _ _ _ _ _ _ hn1
        have g6 : f3.cell? ⟨b + 6, 0, none⟩ = some .nilFunc := cell_of_row _ _ _ _ _ _ hn3
        clear hcut HN0 HR0 HF0 hn1 hn3
        go_upto_region 13 with (fail)
        clear hf1 hf2 hf3 hf4 g2 g4 g5 g6 hsf1 hsf2 hsf3 hsr
        have hE3 := HEs.out
        have hT3 : S.size ≤ 1000000 := by omega
        have FO : Aside0 (∀ (i : Int) (n : Nat), Calls Try.prog 18 #[.int .i64 i, pv b, pv (b + 1), pv (b + 3)] (f4.drewN n) fun e w' => e = .returned (.int .u8 (ofB (bt S) fr E i)) ∧ w' = f4.drewN n) :=
          ⟨fun i n => of_c S fr E i b (b + 1) (b + 3) _ h0 hE3 hT3 (cell_of_row _ _ _ _ _ _ HF.out.h5) (cell_of_row _ _ _ _ _ _ HF.out.h7) (cell_of_row _ _ _ _ _ _ HF.out.h10)⟩
        have FL : Aside0 (∀ (x y : Int) (n : Nat), Calls Try.prog 21 #[.int .u8 x, .int .u8 y, pv (b + 5), pv (b + 6)] (f4.drewN n) fun e w' => e = .returned (.bool (leansB x y)) ∧ w' = f4.drewN n) :=
          ⟨fun x y n => leans21_c x y _ (b + 5) (b + 6) (cell_of_row _ _ _ _ _ _ HF.out.hg) (cell_of_row _ _ _ _ _ _ HF.out.hm)⟩
        have HNE := HN.out.le
        have HN1 := HN.out.n1
        have v1 : IntKind.i64.wrap ((a : Int) - 1) = (a : Int) - 1 := IntWalk.i64_in _ (by omega)
        have v2 : IntKind.i64.wrap ((a : Int) + (N : Int)) = (a : Int) + (N : Int) := IntWalk.i64_in _ (by omega)
        obtain ⟨p0, hp0⟩ : ∃ q, ofB (bt S) fr E ((a : Int) - 1) = q := ⟨_, rfl⟩
        obtain ⟨p1, hp1⟩ : ∃ q, ofB (bt S) fr E ((a : Int) + (N : Int)) = q := ⟨_, rfl⟩
        obtain ⟨l, hl⟩ : ∃ q, leansB p1 p0 = q := ⟨_, rfl⟩
        obtain ⟨k, hk⟩ : ∃ q, leansB p0 p1 = q := ⟨_, rfl⟩
        have HP0 := Aside0.mk hp0
        have HP1 := Aside0.mk hp1
        have HL := Aside0.mk hl
        have HK := Aside0.mk hk
        have ev1 : f4.cell? ⟨b + 4, 1, none⟩ = some (.int .i64 (N : Int)) := cell_of_row _ _ _ _ _ _ HF.out.hr
        clear hE3 hT3 HNE HN1
        go_quiet ((go_at_call 18; exact Calls.quiet_of_same (FO.out _ _)))
        have ev2 : f4.cell? ⟨b + 4, 2, none⟩ = some (.int .u8 c) := cell_of_row _ _ _ _ _ _ HF.out.hr
        have ev3 : f4.cell? ⟨b + 4, 3, none⟩ = some (.bool false) := cell_of_row _ _ _ _ _ _ HF.out.hr
        have ev4 : f4.cell? ⟨b + 4, 4, none⟩ = some (.bool false) := cell_of_row _ _ _ _ _ _ HF.out.hr
        have ef := fun j => blk_frozen HF.out.hr j
        go_upto_region 17 with (go_at_call 21; refine (FL.out _ _ _).mono ?_; rintro _ w9 ⟨rfl, h9⟩; rw [h9]; clear h9 w9)
        clear FO FL v1 v2 ev1 ev2 ev3 ev4 ef
        obtain ⟨V2, hV2⟩ : ∃ q, ((f4.drewN nq).setCell ⟨b + 4, 3, none⟩ (.bool l)).setCell ⟨b + 4, 4, none⟩ (.bool k) = q := ⟨_, rfl⟩
        rw [hV2]
        have HV2 : Aside0 (LkF w V2 b fr E S #[.int .i64 (a : Int), .int .i64 (N : Int), .int .u8 c, .bool l, .bool k]) := ⟨by rw [← hV2]; exact ((HF.out.draw nq).set hb 3 _).set hb 4 _⟩
        clear hV2 HF
        have d80 : V2.cell? ⟨b + 2, 0, none⟩ = some (.int .i64 0) := cell_of_row _ _ _ _ _ _ HV2.out.h8
        have d81 : V2.cell? ⟨b + 2, 1, none⟩ = some (.int .i64 0) := cell_of_row _ _ _ _ _ _ HV2.out.h8
        have d82 : V2.cell? ⟨b + 2, 2, none⟩ = some (.int .u8 0) := cell_of_row _ _ _ _ _ _ HV2.out.h8
        have d83 : V2.cell? ⟨b + 2, 3, none⟩ = some (.bool false) := cell_of_row _ _ _ _ _ _ HV2.out.h8
        have d84 : V2.cell? ⟨b + 2, 4, none⟩ = some (.bool false) := cell_of_row _ _ _ _ _ _ HV2.out.h8
        have f8 := fun j => blk_frozen HV2.out.h8 j
        have r0 : V2.cell? ⟨b + 4, 0, none⟩ = some (.int .i64 (a : Int)) := cell_of_row _ _ _ _ _ _ HV2.out.hr
        have r1 : V2.cell? ⟨b + 4, 1, none⟩ = some (.int .i64 (N : Int)) := cell_of_row _ _ _ _ _ _ HV2.out.hr
        have r2 : V2.cell? ⟨b + 4, 2, none⟩ = some (.int .u8 c) := cell_of_row _ _ _ _ _ _ HV2.out.hr
        have r3 : V2.cell? ⟨b + 4, 3, none⟩ = some (.bool l) := cell_of_row _ _ _ _ _ _ HV2.out.hr
        have r4 : V2.cell? ⟨b + 4, 4, none⟩ = some (.bool k) := cell_of_row _ _ _ _ _ _ HV2.out.hr
        have fr4 := fun j => blk_frozen HV2.out.hr j
        have dm : V2.cell? ⟨b + 6, 0, none⟩ = some (.func (.func 20) #[] #[]) := cell_of_row _ _ _ _ _ _ HV2.out.hm
        rcases HCH.out with q42 | q95
        · have q : (c == 95) = false := by rw [q42]; rfl
          have Q42 := Aside0.mk q42
          clear q42
          go_wp2_with (fail)
          refine bodyPost_ret (results_cell_tmp rfl _ _ _ (b + 2) 23 #[.int .i64 (a : Int), .int .i64 (N : Int), .int .u8 c, .bool l, .bool k] _ rfl rfl (five_row HV2.out.h8 _ _ _ _ _) Try.underlying23 info23s) rfl ?_
          exact ⟨S, E, HLT.out, HE.out, five_below HV2.out.bel (by omega) _ _ _ _ _, .inr ⟨⟨h0, h1, HGE.out, by rw [HCV.out]; exact HCH.out, fun h => HPV.out h.1 (by have h2 := h.2; rw [HCV.out] at h2; exact h2)⟩, (N : Int), HN.out, by show _ = Ending.returned (.tuple #[.agg #[.int .i64 (a : Int), .int .i64 (N : Int), .int .u8 (bt S (a : Int)), .bool (opensB (bt S (a : Int)) (ofB (bt S) fr E ((a : Int) + (N : Int))) (ofB (bt S) fr E ((a : Int) - 1))), .bool (closesB (bt S (a : Int)) (ofB (bt S) fr E ((a : Int) + (N : Int))) (ofB (bt S) fr E ((a : Int) - 1)))], .bool true]); rw [HCV.out, HP0.out, HP1.out]; unfold opensB closesB; rw [HL.out, HK.out]; rw [if_neg (by rw [Q42.out]; decide), if_neg (by rw [Q42.out]; decide)]; rfl⟩⟩
        · subst q95
          cases l
          · cases k
            · go_wp2_with (first | (go_at_call 20; refine (mark20_c _ _).mono ?_; rintro _ w9 ⟨rfl, h9⟩; rw [h9]; clear h9 w9))
              refine bodyPost_ret (results_cell_tmp rfl _ _ _ (b + 2) 23 #[.int .i64 (a : Int), .int .i64 (N : Int), .int .u8 95, .bool false, .bool false] _ rfl rfl (five_row ((HV2.out.set hb 3 _).set hb 4 _).h8 _ _ _ _ _) Try.underlying23 info23s) rfl ?_
              exact ⟨S, E, HLT.out, HE.out, five_below ((HV2.out.set hb 3 _).set hb 4 _).bel (by omega) _ _ _ _ _, .inr ⟨⟨h0, h1, HGE.out, by rw [HCV.out]; exact .inr rfl, fun h => HPV.out h.1 (by have h2 := h.2; rw [HCV.out] at h2; exact h2)⟩, (N : Int), HN.out, by show _ = Ending.returned (.tuple #[.agg #[.int .i64 (a : Int), .int .i64 (N : Int), .int .u8 (bt S (a : Int)), .bool (opensB (bt S (a : Int)) (ofB (bt S) fr E ((a : Int) + (N : Int))) (ofB (bt S) fr E ((a : Int) - 1))), .bool (closesB (bt S (a : Int)) (ofB (bt S) fr E ((a : Int) + (N : Int))) (ofB (bt S) fr E ((a : Int) - 1)))], .bool true]); rw [HCV.out, HP0.out, HP1.out]; unfold opensB closesB; rw [HL.out, HK.out]; simp⟩⟩
            · go_wp2_with (first | (go_at_call 20; refine (mark20_c _ _).mono ?_; rintro _ w9 ⟨rfl, h9⟩; rw [h9]; clear h9 w9))
              refine bodyPost_ret (results_cell_tmp rfl _ _ _ (b + 2) 23 #[.int .i64 (a : Int), .int .i64 (N : Int), .int .u8 95, .bool false, .bool true] _ rfl rfl (five_row ((HV2.out.set hb 3 _).set hb 4 _).h8 _ _ _ _ _) Try.underlying23 info23s) rfl ?_
              exact ⟨S, E, HLT.out, HE.out, five_below ((HV2.out.set hb 3 _).set hb 4 _).bel (by omega) _ _ _ _ _, .inr ⟨⟨h0, h1, HGE.out, by rw [HCV.out]; exact .inr rfl, fun h => HPV.out h.1 (by have h2 := h.2; rw [HCV.out] at h2; exact h2)⟩, (N : Int), HN.out, by show _ = Ending.returned (.tuple #[.agg #[.int .i64 (a : Int), .int .i64 (N : Int), .int .u8 (bt S (a : Int)), .bool (opensB (bt S (a : Int)) (ofB (bt S) fr E ((a : Int) + (N : Int))) (ofB (bt S) fr E ((a : Int) - 1))), .bool (closesB (bt S (a : Int)) (ofB (bt S) fr E ((a : Int) + (N : Int))) (ofB (bt S) fr E ((a : Int) - 1)))], .bool true]); rw [HCV.out, HP0.out, HP1.out]; unfold opensB closesB; rw [HL.out, HK.out]; simp⟩⟩
          · cases k
            · go_wp2_with (first | (go_at_call 20; refine (mark20_c _ _).mono ?_; rintro _ w9 ⟨rfl, h9⟩; rw [h9]; clear h9 w9))
              refine bodyPost_ret (results_cell_tmp rfl _ _ _ (b + 2) 23 #[.int .i64 (a : Int), .int .i64 (N : Int), .int .u8 95, .bool true, .bool false] _ rfl rfl (five_row ((HV2.out.set hb 3 _).set hb 4 _).h8 _ _ _ _ _) Try.underlying23 info23s) rfl ?_
              exact ⟨S, E, HLT.out, HE.out, five_below ((HV2.out.set hb 3 _).set hb 4 _).bel (by omega) _ _ _ _ _, .inr ⟨⟨h0, h1, HGE.out, by rw [HCV.out]; exact .inr rfl, fun h => HPV.out h.1 (by have h2 := h.2; rw [HCV.out] at h2; exact h2)⟩, (N : Int), HN.out, by show _ = Ending.returned (.tuple #[.agg #[.int .i64 (a : Int), .int .i64 (N : Int), .int .u8 (bt S (a : Int)), .bool (opensB (bt S (a : Int)) (ofB (bt S) fr E ((a : Int) + (N : Int))) (ofB (bt S) fr E ((a : Int) - 1))), .bool (closesB (bt S (a : Int)) (ofB (bt S) fr E ((a : Int) + (N : Int))) (ofB (bt S) fr E ((a : Int) - 1)))], .bool true]); rw [HCV.out, HP0.out, HP1.out]; unfold opensB closesB; rw [HL.out, HK.out]; simp⟩⟩
            · go_wp2_with (first | (go_at_call 20; refine (mark20_c _ _).mono ?_; rintro _ w9 ⟨rfl, h9⟩; rw [h9]; clear h9 w9))
              refine bodyPost_ret (results_cell_tmp rfl _ _ _ (b + 2) 23 #[.int .i64 (a : Int), .int .i64 (N : Int), .int .u8 95, .bool (markB p0), .bool (markB p1)] _ rfl rfl (five_row ((HV2.out.set hb 3 _).set hb 4 _).h8 _ _ _ _ _) Try.underlying23 info23s) rfl ?_
              exact ⟨S, E, HLT.out, HE.out, five_below ((HV2.out.set hb 3 _).set hb 4 _).bel (by omega) _ _ _ _ _, .inr ⟨⟨h0, h1, HGE.out, by rw [HCV.out]; exact .inr rfl, fun h => HPV.out h.1 (by have h2 := h.2; rw [HCV.out] at h2; exact h2)⟩, (N : Int), HN.out, by show _ = Ending.returned (.tuple #[.agg #[.int .i64 (a : Int), .int .i64 (N : Int), .int .u8 (bt S (a : Int)), .bool (opensB (bt S (a : Int)) (ofB (bt S) fr E ((a : Int) + (N : Int))) (ofB (bt S) fr E ((a : Int) - 1))), .bool (closesB (bt S (a : Int)) (ofB (bt S) fr E ((a : Int) + (N : Int))) (ofB (bt S) fr E ((a : Int) - 1)))], .bool true]); rw [HCV.out, HP0.out, HP1.out]; unfold opensB closesB; rw [HL.out, HK.out]; simp⟩⟩
  · rw [h9]
    clear h9 w4
    obtain ⟨b2, hb2⟩ : ∃ b2 : Bool, b2 = true ↔ endsCR (S.extract 0 i) := by
      by_cases h : endsCR (S.extract 0 i)
      · exact ⟨true, ⟨fun _ => h, fun _ => rfl⟩⟩
      · exact ⟨false, ⟨fun h2 => absurd h2 Bool.false_ne_true, fun h2 => absurd h2 h⟩⟩
    have hlt0 := line_some hx hlt hb2
    have hz1 : (S.extract 0 i).size ≤ 1000000 := by rw [ByteArray.size_extract]; omega
    have HTR := Aside0.mk (fun W => trim_c (S.extract 0 i) W hz1 b2 hb2)
    obtain ⟨T1, hT1⟩ : ∃ q, S.extract 0 i = q := ⟨_, rfl⟩
    rw [hT1] at hlt0 HTR ⊢
    obtain ⟨T, hT⟩ : ∃ q, trimT T1 b2 = q := ⟨_, rfl⟩
    rw [hT] at hlt0 HTR
    have HLT := Aside0.mk hlt0
    have hTS := hlt0.le
    clear hx hw1 hw2 hw3 hb2 hlt0 hlt hz1 hT1 hT
    obtain ⟨wd, hwd⟩ : ∃ q, w3.drewN k = q := ⟨_, rfl⟩
    rw [hwd]
    have hsd : wd.heap.size = b + 3 := by rw [← hwd]; exact hs3
    have ad : Below w3.heap.size w3 wd := by rw [← hwd]; exact pw_below_drewN (Below.refl _ w3) k
    obtain ⟨wa, hwa⟩ : ∃ q, wd.alloc (.cells #[.string T1] 9) = q := ⟨_, rfl⟩
    have a00 : Below wd.heap.size wd wa := by rw [← hwa]; exact below_alloc (Below.refl _ wd) _
    have a0 : Below w3.heap.size w3 wa := ad.trans (a00.mono (by omega))
    have a10 : wa.heap[b + 3]? = some (.cells #[.string T1] 9 (0, 0)) := by rw [← hwa, ← hsd]; exact heap_alloc_new _ _
    have a7 : wa.heap[b + 1]? = some (.cells #[.int .i64 en] 3 (0, 0)) := (a0.block (b + 1) (by omega)).trans K2.out
    have hsa0 : wa.heap.size = b + 4 := by rw [← hwa]; simp [hsd]
    have c10 : wa.cell? ⟨b + 3, 0, none⟩ = some (.string T1) := cell_of_row _ _ _ _ _ _ a10
    have f10 := fun j => blk_frozen a10 j
    have A00 := Aside0.mk a0
    have A7_ := Aside0.mk a7
    have A10_ := Aside0.mk a10
    clear a0 a7 a10 a00 ad hwd
    go_upto_region 4 with (refine (HTR.out _).mono ?_; rintro _ w9 ⟨rfl, h9⟩; rw [h9]; clear h9 w9)
    obtain ⟨wb, hwb⟩ : ∃ q, wa.setCell ⟨b + 3, 0, none⟩ (.string T) = q := ⟨_, rfl⟩
    rw [hwb]
    have hsa : wb.heap.size = b + 4 := by rw [← hwb]; simp [hsa0]
    have A10 : Aside0 (wb.heap[b + 3]? = some (.cells #[.string T] 9 (0, 0))) := ⟨by rw [← hwb]; exact blk_set A10_.out 0 _⟩
    have A7 : Aside0 (wb.heap[b + 1]? = some (.cells #[.int .i64 en] 3 (0, 0))) := ⟨by rw [← hwb]; exact blk_far A7_.out (by show b + 1 ≠ b + 3; omega) _⟩
    have A5 : Aside0 (wb.heap[b]? = some (.cells #[.int .i64 fr] 3 (0, 0))) := ⟨by rw [← hwb]; exact blk_far ((A00.out.block b (by omega)).trans K1.out) (by show b ≠ b + 3; omega) _⟩
    have A8 : Aside0 (wb.heap[b + 2]? = some (.cells zrun 23 (0, 0))) := ⟨by rw [← hwb]; exact blk_far ((A00.out.block (b + 2) (by omega)).trans K3.out) (by show b + 2 ≠ b + 3; omega) _⟩
    have HBA : Aside0 (Below w.heap.size w wb) := ⟨by rw [← hwb]; exact (HB3.out.trans (A00.out.mono (by omega))).setCell (p := ⟨b + 3, 0, none⟩) (by show w.heap.size ≤ b + 3; omega) _⟩
    clear c10 f10 hwa hwb A00 A7_ A10_ HTR
    have c10 : wb.cell? ⟨b + 3, 0, none⟩ = some (.string T) := cell_of_row _ _ _ _ _ _ A10.out
    have c7 : wb.cell? ⟨b + 1, 0, none⟩ = some (.int .i64 en) := cell_of_row _ _ _ _ _ _ A7.out
    have f7 := fun j => blk_frozen A7.out j
    go_upto_region 5 with (fail)
    obtain ⟨E, hE⟩ : ∃ q, (if (T.size : Int) < en then (T.size : Int) else en) = q := ⟨_, rfl⟩
    rw [hE]
    obtain ⟨W, hW⟩ : ∃ q, wb.setCell ⟨b + 1, 0, none⟩ (.int .i64 E) = q := ⟨_, rfl⟩
    rw [hW]
    have HE := Aside0.mk hE.symm
    have hEs : E ≤ (T.size : Int) := by rw [← hE]; split <;> omega
    have HEs := Aside0.mk hEs
    have v7 : W.heap[b + 1]? = some (.cells #[.int .i64 E] 3 (0, 0)) := by rw [← hW]; exact blk_set A7.out 0 _
    have v5 : W.heap[b]? = some (.cells #[.int .i64 fr] 3 (0, 0)) := by rw [← hW]; exact blk_far A5.out (by show b ≠ b + 1; omega) _
    have v8 : W.heap[b + 2]? = some (.cells zrun 23 (0, 0)) := by rw [← hW]; exact blk_far A8.out (by show b + 2 ≠ b + 1; omega) _
    have v10 : W.heap[b + 3]? = some (.cells #[.string T] 9 (0, 0)) := by rw [← hW]; exact blk_far A10.out (by show b + 3 ≠ b + 1; omega) _
    have vb : Below w.heap.size w W := by rw [← hW]; exact HBA.out.setCell (p := ⟨b + 1, 0, none⟩) (by show w.heap.size ≤ b + 1; omega) _
    have vs : W.heap.size = b + 4 := by rw [← hW]; simp [hsa]
    have HW : Aside0 (LkW w W b fr E T) := ⟨⟨v5, v7, v8, v10, vs, vb⟩⟩
    have d5 : W.cell? ⟨b, 0, none⟩ = some (.int .i64 fr) := cell_of_row _ _ _ _ _ _ v5
    have d7 : W.cell? ⟨b + 1, 0, none⟩ = some (.int .i64 E) := cell_of_row _ _ _ _ _ _ v7
    have d10 : W.cell? ⟨b + 3, 0, none⟩ = some (.string T) := cell_of_row _ _ _ _ _ _ v10
    have f8 := fun j => blk_frozen v8 j
    have d80 : W.cell? ⟨b + 2, 0, none⟩ = some (.int .i64 0) := cell_of_row _ _ _ _ _ _ v8
    have d81 : W.cell? ⟨b + 2, 1, none⟩ = some (.int .i64 0) := cell_of_row _ _ _ _ _ _ v8
    have d82 : W.cell? ⟨b + 2, 2, none⟩ = some (.int .u8 0) := cell_of_row _ _ _ _ _ _ v8
    have d83 : W.cell? ⟨b + 2, 3, none⟩ = some (.bool false) := cell_of_row _ _ _ _ _ _ v8
    have d84 : W.cell? ⟨b + 2, 4, none⟩ = some (.bool false) := cell_of_row _ _ _ _ _ _ v8
    clear v5 v7 v8 v10 vs vb hE hW c7 c10 f7 
    have x0 : ¬ fr < 0 := by omega
    have x1 : ¬ (a : Int) < fr := by omega
    obtain ⟨gE0, hch, hpv⟩ := hc.out T E HLT.out HE.out
    have HGE := Aside0.mk gE0
    have gE : ¬ E ≤ (a : Int) := by omega
    have ha : a < T.size := by omega
    have y2 : (0 : Int) ≤ (a : Int) := by omega
    have y3 : (a : Int) < (T.size : Int) := by omega
    clear gE0
    obtain ⟨c, hcv⟩ : ∃ q, bt T (a : Int) = q := ⟨_, rfl⟩
    have z0 : (((T[a]'ha).toNat : Nat) : Int) = c := by rw [bt_nat T a ha]; exact hcv
    rw [hcv] at hch hpv
    have HCV := Aside0.mk hcv
    have HCH := Aside0.mk hch
    have HPV := Aside0.mk hpv
    clear hch hpv hcv
    go_cut [73] from 22 (fun v73 wc => v73 = .bool false ∧ Aside0 (LkW w wc b fr E T))
    case first =>
      by_cases hp : fr < (a : Int)
      · obtain ⟨j, hj0⟩ : ∃ j : Nat, (a : Int) - 1 = (j : Int) := ⟨((a : Int) - 1).toNat, by omega⟩
        have hj : j < T.size := by omega
        have y4 : (0 : Int) ≤ (j : Int) := by omega
        have y5 : (j : Int) < (T.size : Int) := by omega
        have q1 : IntKind.i64.wrap ((a : Int) - 1) = (j : Int) := by rw [hj0]; exact IntWalk.i64_in _ (by omega)
        have q2 : (((((T[j]'hj).toNat : Nat) : Int)) == c) = false := by have h := HPV.out hp; rw [hj0, ← bt_nat T j hj] at h; simpa using h
        clear hj0
        rcases HCH.out with q3 | q3
        · have q4 : (c != 42) = false := by rw [q3]; rfl
          clear q3
          go_quiet (fail)
          go_wp2_with (fail)
          go_meet
          case rel => exact ⟨rfl, ⟨HW.out.draw _⟩⟩
        · have q4 : (c != 42) = true := by rw [q3]; rfl
          have q5 : (c != 95) = false := by rw [q3]; rfl
          clear q3
          go_quiet (fail)
          go_wp2_with (fail)
          go_meet
          case rel => exact ⟨rfl, ⟨HW.out.draw _⟩⟩
      · rcases HCH.out with q3 | q3
        · have q4 : (c != 42) = false := by rw [q3]; rfl
          clear q3
          go_quiet (fail)
          go_wp2_with (fail)
          go_meet
          case rel => exact ⟨rfl, ⟨HW.out.draw _⟩⟩
        · have q4 : (c != 42) = true := by rw [q3]; rfl
          have q5 : (c != 95) = false := by rw [q3]; rfl
          clear q3
          go_quiet (fail)
          go_wp2_with (fail)
          go_meet
          case rel => exact ⟨rfl, ⟨HW.out.draw _⟩⟩
    case rest =>
      obtain ⟨rfl, HC⟩ := hcut
      clear d5 d7 d10 f8 d80 d81 d82 d83 d84 HW
      have d5 : wc.cell? ⟨b, 0, none⟩ = some (.int .i64 fr) := cell_of_row _ _ _ _ _ _ HC.out.h5
      have d7 : wc.cell? ⟨b + 1, 0, none⟩ = some (.int .i64 E) := cell_of_row _ _ _ _ _ _ HC.out.h7
      have d10 : wc.cell? ⟨b + 3, 0, none⟩ = some (.string T) := cell_of_row _ _ _ _ _ _ HC.out.h10
      have hsc := HC.out.sz
      obtain ⟨wv, hwv⟩ : ∃ q, wc.alloc (.cells zrun 23) = q := ⟨_, rfl⟩
      have HV : Aside0 (LkR w wv b fr E T zrun) := ⟨by rw [← hwv]; exact HC.out.alloc hb _⟩
      have fv := fun j => blk_frozen HV.out.hr j
      have dv0 : wv.cell? ⟨b + 4, 0, none⟩ = some (.int .i64 0) := cell_of_row _ _ _ _ _ _ HV.out.hr
      have dv1 : wv.cell? ⟨b + 4, 1, none⟩ = some (.int .i64 0) := cell_of_row _ _ _ _ _ _ HV.out.hr
      have dv2 : wv.cell? ⟨b + 4, 2, none⟩ = some (.int .u8 0) := cell_of_row _ _ _ _ _ _ HV.out.hr
      have dv3 : wv.cell? ⟨b + 4, 3, none⟩ = some (.bool false) := cell_of_row _ _ _ _ _ _ HV.out.hr
      have dv4 : wv.cell? ⟨b + 4, 4, none⟩ = some (.bool false) := cell_of_row _ _ _ _ _ _ HV.out.hr
      go_upto_block 0 with (fail)
      obtain ⟨V, hV⟩ : ∃ q, ((((wv.setCell ⟨b + 4, 0, none⟩ (.int .i64 (a : Int))).setCell ⟨b + 4, 1, none⟩ (.int .i64 1)).setCell ⟨b + 4, 2, none⟩ (.int .u8 c)).setCell ⟨b + 4, 3, none⟩ (.bool false)).setCell ⟨b + 4, 4, none⟩ (.bool false) = q := ⟨_, rfl⟩
      rw [hV]
      have HVR : Aside0 (LkR w V b fr E T #[.int .i64 (a : Int), .int .i64 ((1 : Nat) : Int), .int .u8 c, .bool false, .bool false]) := ⟨by rw [← hV]; exact ((((HV.out.set hb 0 _).set hb 1 _).set hb 2 _).set hb 3 _).set hb 4 _⟩
      clear hV dv0 dv1 dv2 dv3 dv4 fv hwv HV d5 d7 d10 hsc
      go_cut [] from 22 (fun wc2 => Aside0 (∃ N : Nat, IsN (bt T) E (a : Int) (N : Int) ∧ LkR w wc2 b fr E T #[.int .i64 (a : Int), .int .i64 (N : Int), .int .u8 c, .bool false, .bool false]))
      case first =>
        go_wp2_with (fail)
        go_loopg [] (T.size - a - 1) (fun gk wr => ∃ m : Nat, Aside0 (1 ≤ m) ∧ Aside0 (gk + (a + m) = T.size) ∧ Aside0 ((a : Int) + (m : Int) ≤ E) ∧ Aside0 (LkR w wr b fr E T #[.int .i64 (a : Int), .int .i64 (m : Int), .int .u8 c, .bool false, .bool false]) ∧ Aside0 (∀ j : Int, (a : Int) ≤ j → j < (a : Int) + (m : Int) → bt T j = c))
        case atStart =>
          refine ⟨1, ⟨Nat.le_refl _⟩, ⟨by omega⟩, ⟨by have := HGE.out; omega⟩, ⟨HVR.out⟩, ⟨fun j u1 u2 => ?_⟩⟩
          have hj : j = (a : Int) := by omega
          rw [hj]
          exact HCV.out
        case round =>
          obtain ⟨m, HM, HG, HLE, HR, HB⟩ := hrel
          go_upto_region 8 with (fail)
          have e5 : wr.cell? ⟨b, 0, none⟩ = some (.int .i64 fr) := cell_of_row _ _ _ _ _ _ HR.out.h5
          have e7 : wr.cell? ⟨b + 1, 0, none⟩ = some (.int .i64 E) := cell_of_row _ _ _ _ _ _ HR.out.h7
          have e10 : wr.cell? ⟨b + 3, 0, none⟩ = some (.string T) := cell_of_row _ _ _ _ _ _ HR.out.h10
          have ef := fun j => blk_frozen HR.out.hr j
          have ev1 : wr.cell? ⟨b + 4, 1, none⟩ = some (.int .i64 (m : Int)) := cell_of_row _ _ _ _ _ _ HR.out.hr
          have ev2 : wr.cell? ⟨b + 4, 2, none⟩ = some (.int .u8 c) := cell_of_row _ _ _ _ _ _ HR.out.hr
          obtain ⟨K, hK⟩ : ∃ K : Nat, a + m = K := ⟨_, rfl⟩
          have HK := Aside0.mk hK
          have v1 : IntKind.i64.wrap ((a : Int) + (m : Int)) = (K : Int) := by rw [show (a : Int) + (m : Int) = (K : Int) by omega]; exact IntWalk.i64_in _ (by have := HG.out; omega)
          have v2 : IntKind.i64.wrap ((m : Int) + 1) = (m : Int) + 1 := IntWalk.i64_in _ (by have := HG.out; omega)
          clear hK
          by_cases hKE : (K : Int) < E
          · have hKT : K < T.size := by omega
            have q0 : (0 : Int) ≤ (K : Int) := by omega
            have q1 : (K : Int) < (T.size : Int) := by omega
            by_cases hcK : bt T (K : Int) = c
            · have HC := Aside0.mk hcK
              have q2 : (((T[K]'hKT).toNat : Nat) : Int) = c := by rw [bt_nat T K hKT]; exact hcK
              clear hcK
              have HKE := Aside0.mk hKE
              obtain ⟨gn, HGN⟩ : ∃ gn : Nat, Aside0 (gk = gn + 1) := ⟨gk - 1, ⟨by have := HG.out; have := HK.out; omega⟩⟩
              go_quiet (fail)
              go_wp2_with (fail)
              go_roundg gn
              case measure => exact (by have := HGN.out; omega)
              case rel =>
                refine ⟨m + 1, ⟨by have := HM.out; omega⟩, ⟨by have := HG.out; have := HGN.out; omega⟩, ⟨by have := HK.out; have := HKE.out; omega⟩, ⟨?_⟩, ⟨fun j u1 u2 => ?_⟩⟩
                · have h := (HR.out.draw nq).set hb 1 (.int .i64 ((m : Int) + 1))
                  exact h
                · by_cases hj : j < (a : Int) + (m : Int)
                  · exact HB.out j u1 hj
                  · have hj2 : j = (K : Int) := by have := HK.out; omega
                    rw [hj2]; exact HC.out
            · have HC := Aside0.mk hcK
              have q2 : (((((T[K]'hKT).toNat : Nat) : Int)) == c) = false := by rw [bt_nat T K hKT]; simpa using hcK
              clear hcK
              have HKE := Aside0.mk hKE
              go_quiet (fail)
              go_wp2_with (fail)
              go_meet
              case rel => exact ⟨m, ⟨by have := HM.out; omega, HLE.out, fun j u1 u2 => (HB.out j u1 u2).trans HCV.out.symm, .inr ⟨by have := HK.out; have := HKE.out; omega, by rw [show (a : Int) + (m : Int) = (K : Int) by have := HK.out; omega, HCV.out]; exact HC.out⟩⟩, HR.out.draw nq⟩
          · have HKE := Aside0.mk hKE
            go_quiet (fail)
            go_wp2_with (fail)
            go_meet
            case rel => exact ⟨m, ⟨by have := HM.out; omega, HLE.out, fun j u1 u2 => (HB.out j u1 u2).trans HCV.out.symm, .inl (by have := HK.out; have := HKE.out; have := HLE.out; omega)⟩, HR.out.draw nq⟩
      case rest =>
        obtain ⟨N, HN0, HR0⟩ := hcut.out
        have HN := Aside0.mk HN0
        have HR := Aside0.mk HR0
        have hsr := HR0.sz
        obtain ⟨f1, hf1⟩ : ∃ q, wc.alloc (.cells #[.nilFunc] 56) = q := ⟨_, rfl⟩
        obtain ⟨f2, hf2⟩ : ∃ q, f1.setCell ⟨b + 5, 0, none⟩ (.func (.func 19) #[] #[]) = q := ⟨_, rfl⟩
        obtain ⟨f3, hf3⟩ : ∃ q, f2.alloc (.cells #[.nilFunc] 56) = q := ⟨_, rfl⟩
        obtain ⟨f4, hf4⟩ : ∃ q, f3.setCell ⟨b + 6, 0, none⟩ (.func (.func 20) #[] #[]) = q := ⟨_, rfl⟩
        obtain ⟨HF0, hn1, hn3, hsf1, hsf2, hsf3⟩ := HR0.fns hb hf1 hf2 hf3 hf4
        have HF := Aside0.mk HF0
        have g2 := fun j => blk_frozen hn1 j
        have g4 := fun j => blk_frozen hn3 j
        have g5 : f1.cell? ⟨b + 5, 0, none⟩ = some .nilFunc := cell_of_row _ _ _ _ _ _ hn1
        have g6 : f3.cell? ⟨b + 6, 0, none⟩ = some .nilFunc := cell_of_row _ _ _ _ _ _ hn3
        clear hcut HN0 HR0 HF0 hn1 hn3
        go_upto_region 13 with (fail)
        clear hf1 hf2 hf3 hf4 g2 g4 g5 g6 hsf1 hsf2 hsf3 hsr
        have hE3 := HEs.out
        have hT3 : T.size ≤ 1000000 := by omega
        have FO : Aside0 (∀ (i : Int) (n : Nat), Calls Try.prog 18 #[.int .i64 i, pv b, pv (b + 1), pv (b + 3)] (f4.drewN n) fun e w' => e = .returned (.int .u8 (ofB (bt T) fr E i)) ∧ w' = f4.drewN n) :=
          ⟨fun i n => of_c T fr E i b (b + 1) (b + 3) _ h0 hE3 hT3 (cell_of_row _ _ _ _ _ _ HF.out.h5) (cell_of_row _ _ _ _ _ _ HF.out.h7) (cell_of_row _ _ _ _ _ _ HF.out.h10)⟩
        have FL : Aside0 (∀ (x y : Int) (n : Nat), Calls Try.prog 21 #[.int .u8 x, .int .u8 y, pv (b + 5), pv (b + 6)] (f4.drewN n) fun e w' => e = .returned (.bool (leansB x y)) ∧ w' = f4.drewN n) :=
          ⟨fun x y n => leans21_c x y _ (b + 5) (b + 6) (cell_of_row _ _ _ _ _ _ HF.out.hg) (cell_of_row _ _ _ _ _ _ HF.out.hm)⟩
        have HNE := HN.out.le
        have HN1 := HN.out.n1
        have v1 : IntKind.i64.wrap ((a : Int) - 1) = (a : Int) - 1 := IntWalk.i64_in _ (by omega)
        have v2 : IntKind.i64.wrap ((a : Int) + (N : Int)) = (a : Int) + (N : Int) := IntWalk.i64_in _ (by omega)
        obtain ⟨p0, hp0⟩ : ∃ q, ofB (bt T) fr E ((a : Int) - 1) = q := ⟨_, rfl⟩
        obtain ⟨p1, hp1⟩ : ∃ q, ofB (bt T) fr E ((a : Int) + (N : Int)) = q := ⟨_, rfl⟩
        obtain ⟨l, hl⟩ : ∃ q, leansB p1 p0 = q := ⟨_, rfl⟩
        obtain ⟨k, hk⟩ : ∃ q, leansB p0 p1 = q := ⟨_, rfl⟩
        have HP0 := Aside0.mk hp0
        have HP1 := Aside0.mk hp1
        have HL := Aside0.mk hl
        have HK := Aside0.mk hk
        have ev1 : f4.cell? ⟨b + 4, 1, none⟩ = some (.int .i64 (N : Int)) := cell_of_row _ _ _ _ _ _ HF.out.hr
        clear hE3 hT3 HNE HN1
        go_quiet ((go_at_call 18; exact Calls.quiet_of_same (FO.out _ _)))
        have ev2 : f4.cell? ⟨b + 4, 2, none⟩ = some (.int .u8 c) := cell_of_row _ _ _ _ _ _ HF.out.hr
        have ev3 : f4.cell? ⟨b + 4, 3, none⟩ = some (.bool false) := cell_of_row _ _ _ _ _ _ HF.out.hr
        have ev4 : f4.cell? ⟨b + 4, 4, none⟩ = some (.bool false) := cell_of_row _ _ _ _ _ _ HF.out.hr
        have ef := fun j => blk_frozen HF.out.hr j
        go_upto_region 17 with (go_at_call 21; refine (FL.out _ _ _).mono ?_; rintro _ w9 ⟨rfl, h9⟩; rw [h9]; clear h9 w9)
        clear FO FL v1 v2 ev1 ev2 ev3 ev4 ef
        obtain ⟨V2, hV2⟩ : ∃ q, ((f4.drewN nq).setCell ⟨b + 4, 3, none⟩ (.bool l)).setCell ⟨b + 4, 4, none⟩ (.bool k) = q := ⟨_, rfl⟩
        rw [hV2]
        have HV2 : Aside0 (LkF w V2 b fr E T #[.int .i64 (a : Int), .int .i64 (N : Int), .int .u8 c, .bool l, .bool k]) := ⟨by rw [← hV2]; exact ((HF.out.draw nq).set hb 3 _).set hb 4 _⟩
        clear hV2 HF
        have d80 : V2.cell? ⟨b + 2, 0, none⟩ = some (.int .i64 0) := cell_of_row _ _ _ _ _ _ HV2.out.h8
        have d81 : V2.cell? ⟨b + 2, 1, none⟩ = some (.int .i64 0) := cell_of_row _ _ _ _ _ _ HV2.out.h8
        have d82 : V2.cell? ⟨b + 2, 2, none⟩ = some (.int .u8 0) := cell_of_row _ _ _ _ _ _ HV2.out.h8
        have d83 : V2.cell? ⟨b + 2, 3, none⟩ = some (.bool false) := cell_of_row _ _ _ _ _ _ HV2.out.h8
        have d84 : V2.cell? ⟨b + 2, 4, none⟩ = some (.bool false) := cell_of_row _ _ _ _ _ _ HV2.out.h8
        have f8 := fun j => blk_frozen HV2.out.h8 j
        have r0 : V2.cell? ⟨b + 4, 0, none⟩ = some (.int .i64 (a : Int)) := cell_of_row _ _ _ _ _ _ HV2.out.hr
        have r1 : V2.cell? ⟨b + 4, 1, none⟩ = some (.int .i64 (N : Int)) := cell_of_row _ _ _ _ _ _ HV2.out.hr
        have r2 : V2.cell? ⟨b + 4, 2, none⟩ = some (.int .u8 c) := cell_of_row _ _ _ _ _ _ HV2.out.hr
        have r3 : V2.cell? ⟨b + 4, 3, none⟩ = some (.bool l) := cell_of_row _ _ _ _ _ _ HV2.out.hr
        have r4 : V2.cell? ⟨b + 4, 4, none⟩ = some (.bool k) := cell_of_row _ _ _ _ _ _ HV2.out.hr
        have fr4 := fun j => blk_frozen HV2.out.hr j
        have dm : V2.cell? ⟨b + 6, 0, none⟩ = some (.func (.func 20) #[] #[]) := cell_of_row _ _ _ _ _ _ HV2.out.hm
        rcases HCH.out with q42 | q95
        · have q : (c == 95) = false := by rw [q42]; rfl
          have Q42 := Aside0.mk q42
          clear q42
          go_wp2_with (fail)
          refine bodyPost_ret (results_cell_tmp rfl _ _ _ (b + 2) 23 #[.int .i64 (a : Int), .int .i64 (N : Int), .int .u8 c, .bool l, .bool k] _ rfl rfl (five_row HV2.out.h8 _ _ _ _ _) Try.underlying23 info23s) rfl ?_
          exact ⟨T, E, HLT.out, HE.out, five_below HV2.out.bel (by omega) _ _ _ _ _, .inr ⟨⟨h0, h1, HGE.out, by rw [HCV.out]; exact HCH.out, fun h => HPV.out h.1 (by have h2 := h.2; rw [HCV.out] at h2; exact h2)⟩, (N : Int), HN.out, by show _ = Ending.returned (.tuple #[.agg #[.int .i64 (a : Int), .int .i64 (N : Int), .int .u8 (bt T (a : Int)), .bool (opensB (bt T (a : Int)) (ofB (bt T) fr E ((a : Int) + (N : Int))) (ofB (bt T) fr E ((a : Int) - 1))), .bool (closesB (bt T (a : Int)) (ofB (bt T) fr E ((a : Int) + (N : Int))) (ofB (bt T) fr E ((a : Int) - 1)))], .bool true]); rw [HCV.out, HP0.out, HP1.out]; unfold opensB closesB; rw [HL.out, HK.out]; rw [if_neg (by rw [Q42.out]; decide), if_neg (by rw [Q42.out]; decide)]; rfl⟩⟩
        · subst q95
          cases l
          · cases k
            · go_wp2_with (first | (go_at_call 20; refine (mark20_c _ _).mono ?_; rintro _ w9 ⟨rfl, h9⟩; rw [h9]; clear h9 w9))
              refine bodyPost_ret (results_cell_tmp rfl _ _ _ (b + 2) 23 #[.int .i64 (a : Int), .int .i64 (N : Int), .int .u8 95, .bool false, .bool false] _ rfl rfl (five_row ((HV2.out.set hb 3 _).set hb 4 _).h8 _ _ _ _ _) Try.underlying23 info23s) rfl ?_
              exact ⟨T, E, HLT.out, HE.out, five_below ((HV2.out.set hb 3 _).set hb 4 _).bel (by omega) _ _ _ _ _, .inr ⟨⟨h0, h1, HGE.out, by rw [HCV.out]; exact .inr rfl, fun h => HPV.out h.1 (by have h2 := h.2; rw [HCV.out] at h2; exact h2)⟩, (N : Int), HN.out, by show _ = Ending.returned (.tuple #[.agg #[.int .i64 (a : Int), .int .i64 (N : Int), .int .u8 (bt T (a : Int)), .bool (opensB (bt T (a : Int)) (ofB (bt T) fr E ((a : Int) + (N : Int))) (ofB (bt T) fr E ((a : Int) - 1))), .bool (closesB (bt T (a : Int)) (ofB (bt T) fr E ((a : Int) + (N : Int))) (ofB (bt T) fr E ((a : Int) - 1)))], .bool true]); rw [HCV.out, HP0.out, HP1.out]; unfold opensB closesB; rw [HL.out, HK.out]; simp⟩⟩
            · go_wp2_with (first | (go_at_call 20; refine (mark20_c _ _).mono ?_; rintro _ w9 ⟨rfl, h9⟩; rw [h9]; clear h9 w9))
              refine bodyPost_ret (results_cell_tmp rfl _ _ _ (b + 2) 23 #[.int .i64 (a : Int), .int .i64 (N : Int), .int .u8 95, .bool false, .bool true] _ rfl rfl (five_row ((HV2.out.set hb 3 _).set hb 4 _).h8 _ _ _ _ _) Try.underlying23 info23s) rfl ?_
              exact ⟨T, E, HLT.out, HE.out, five_below ((HV2.out.set hb 3 _).set hb 4 _).bel (by omega) _ _ _ _ _, .inr ⟨⟨h0, h1, HGE.out, by rw [HCV.out]; exact .inr rfl, fun h => HPV.out h.1 (by have h2 := h.2; rw [HCV.out] at h2; exact h2)⟩, (N : Int), HN.out, by show _ = Ending.returned (.tuple #[.agg #[.int .i64 (a : Int), .int .i64 (N : Int), .int .u8 (bt T (a : Int)), .bool (opensB (bt T (a : Int)) (ofB (bt T) fr E ((a : Int) + (N : Int))) (ofB (bt T) fr E ((a : Int) - 1))), .bool (closesB (bt T (a : Int)) (ofB (bt T) fr E ((a : Int) + (N : Int))) (ofB (bt T) fr E ((a : Int) - 1)))], .bool true]); rw [HCV.out, HP0.out, HP1.out]; unfold opensB closesB; rw [HL.out, HK.out]; simp⟩⟩
          · cases k
            · go_wp2_with (first | (go_at_call 20; refine (mark20_c _ _).mono ?_; rintro _ w9 ⟨rfl, h9⟩; rw [h9]; clear h9 w9))
              refine bodyPost_ret (results_cell_tmp rfl _ _ _ (b + 2) 23 #[.int .i64 (a : Int), .int .i64 (N : Int), .int .u8 95, .bool true, .bool false] _ rfl rfl (five_row ((HV2.out.set hb 3 _).set hb 4 _).h8 _ _ _ _ _) Try.underlying23 info23s) rfl ?_
              exact ⟨T, E, HLT.out, HE.out, five_below ((HV2.out.set hb 3 _).set hb 4 _).bel (by omega) _ _ _ _ _, .inr ⟨⟨h0, h1, HGE.out, by rw [HCV.out]; exact .inr rfl, fun h => HPV.out h.1 (by have h2 := h.2; rw [HCV.out] at h2; exact h2)⟩, (N : Int), HN.out, by show _ = Ending.returned (.tuple #[.agg #[.int .i64 (a : Int), .int .i64 (N : Int), .int .u8 (bt T (a : Int)), .bool (opensB (bt T (a : Int)) (ofB (bt T) fr E ((a : Int) + (N : Int))) (ofB (bt T) fr E ((a : Int) - 1))), .bool (closesB (bt T (a : Int)) (ofB (bt T) fr E ((a : Int) + (N : Int))) (ofB (bt T) fr E ((a : Int) - 1)))], .bool true]); rw [HCV.out, HP0.out, HP1.out]; unfold opensB closesB; rw [HL.out, HK.out]; simp⟩⟩
            · go_wp2_with (first | (go_at_call 20; refine (mark20_c _ _).mono ?_; rintro _ w9 ⟨rfl, h9⟩; rw [h9]; clear h9 w9))
              refine bodyPost_ret (results_cell_tmp rfl _ _ _ (b + 2) 23 #[.int .i64 (a : Int), .int .i64 (N : Int), .int .u8 95, .bool (markB p0), .bool (markB p1)] _ rfl rfl (five_row ((HV2.out.set hb 3 _).set hb 4 _).h8 _ _ _ _ _) Try.underlying23 info23s) rfl ?_
              exact ⟨T, E, HLT.out, HE.out, five_below ((HV2.out.set hb 3 _).set hb 4 _).bel (by omega) _ _ _ _ _, .inr ⟨⟨h0, h1, HGE.out, by rw [HCV.out]; exact .inr rfl, fun h => HPV.out h.1 (by have h2 := h.2; rw [HCV.out] at h2; exact h2)⟩, (N : Int), HN.out, by show _ = Ending.returned (.tuple #[.agg #[.int .i64 (a : Int), .int .i64 (N : Int), .int .u8 (bt T (a : Int)), .bool (opensB (bt T (a : Int)) (ofB (bt T) fr E ((a : Int) + (N : Int))) (ofB (bt T) fr E ((a : Int) - 1))), .bool (closesB (bt T (a : Int)) (ofB (bt T) fr E ((a : Int) + (N : Int))) (ofB (bt T) fr E ((a : Int) - 1)))], .bool true]); rw [HCV.out, HP0.out, HP1.out]; unfold opensB closesB; rw [HL.out, HK.out]; simp⟩⟩
end Go.Proofs.Ytjfpkldknchnkaa.Me
