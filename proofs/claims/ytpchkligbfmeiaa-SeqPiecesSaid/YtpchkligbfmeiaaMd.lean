/- made: a tree of items and their sizes. -/
import Derived.Test.YtpchkligbfmeiaaSp
namespace Go.Proofs.Ytpchkligbfmeiaa.Se
open Go.RowKit Go.Proofs.YtpchkligbfmeiaaW.PrintWords Go.Proofs.YtpchkligbfmeiaaW.PrintLast Go.Proofs.YtpchkligbfmeiaaW.PrintMore
attribute [local go_sem] max2_int min2_int max_two min_two max_three min_three max_four min_four
set_option linter.unusedVariables false
set_option linter.unusedSimpArgs false

theorem info9 : (Try.prog.info? 9).map (·.size) = some 1 := by kernel_rfl
theorem info3 : (Try.prog.info? 3).map (·.size) = some 1 := by kernel_rfl
theorem run_cutH {t e : TypeId} (hu : Try.prog.underlying t = some (.slice e)) (hi : (Try.prog.info? e).map (·.size) = some 1) (A : Option Addr) (n c k : Nat) (hk : k ≤ c) (w : World) : (Instr.slice t (.slice A n c) none (some (.int .i64 (k : Int))) none).run Try.prog w = .ok (.slice A k c) w := by
  obtain ⟨i, hi, hs⟩ := Option.map_eq_some_iff.1 hi
  have hel : Try.prog.elem t = e := by simp [Program.elem, hu]
  have hu' : Try.prog.underlying t = some (.slice (Try.prog.elem t)) := by rw [hel]; exact hu
  rw [run_slice_h w t A n c hu' .i64 (k : Int) (by omega) (by omega), hel]
  cases A <;> simp [sizeOf, typeInfo, hi, hs, sliced, Result.andThen, Addr.add]
theorem run_cutL {t e : TypeId} (hu : Try.prog.underlying t = some (.slice e)) (hi : (Try.prog.info? e).map (·.size) = some 1) (A : Option Addr) (n c k : Nat) (hk : k ≤ n) (w : World) : (Instr.slice t (.slice A n c) (some (.int .i64 (k : Int))) none none).run Try.prog w = .ok (.slice (if c = k then A else A.map (·.add (k * 1))) (n - k) (c - k)) w := by
  obtain ⟨i, hi, hs⟩ := Option.map_eq_some_iff.1 hi
  have := cut_from (P := Try.prog) t e .i64 hu hi 1 hs A n c (k : Int) (by omega) (by omega) w
  simpa using this
theorem exec_cutH {t e : TypeId} (hu : Try.prog.underlying t = some (.slice e)) (hi : (Try.prog.info? e).map (·.size) = some 1) (A : Option Addr) (n c k : Nat) (hk : k ≤ c) (ρ : Operand → Value) (o : Oper) (X H : Operand) (ho : o.op = .slice t X none (some H) none) (hX : ρ X = .slice A n c) (hH : ρ H = .int .i64 (k : Int)) (w : World) :
    (execOp ρ o).run Try.prog w = .ok (.value (.slice A k c)) w := by
  have hs := run_sliceAt_slice (P := Try.prog) w t (.slice A n c) none (some (.int .i64 (k : Int))) none (by rw [hu]; simp [Program.elem, hu])
  rw [run_cutH hu hi A n c k hk w] at hs
  unfold execOp
  simp only [ho, hX, hH, Option.map_some, Option.map_none, Sem.run_bind, hs, Result.andThen_ok, Sem.run_pure]
theorem exec_cutL {t e : TypeId} (hu : Try.prog.underlying t = some (.slice e)) (hi : (Try.prog.info? e).map (·.size) = some 1) (A : Option Addr) (n c k : Nat) (hk : k ≤ n) (ρ : Operand → Value) (o : Oper) (X H : Operand) (ho : o.op = .slice t X (some H) none none) (hX : ρ X = .slice A n c) (hH : ρ H = .int .i64 (k : Int)) (w : World) :
    (execOp ρ o).run Try.prog w = .ok (.value (.slice (if c = k then A else A.map (·.add (k * 1))) (n - k) (c - k))) w := by
  have hs := run_sliceAt_slice (P := Try.prog) w t (.slice A n c) (some (.int .i64 (k : Int))) none none (by rw [hu]; simp [Program.elem, hu])
  rw [run_cutL hu hi A n c k hk w] at hs
  unfold execOp
  simp only [ho, hX, hH, Option.map_some, Option.map_none, Sem.run_bind, hs, Result.andThen_ok, Sem.run_pure]
theorem zip_split {α β : Type} : ∀ (k : Nat) (xs : List α) (ys : List β) (x : α) (y : β), xs[k]? = some x → ys[k]? = some y → xs.zip ys = (xs.take k).zip (ys.take k) ++ (x, y) :: (xs.drop (k + 1)).zip (ys.drop (k + 1))
  | _, [], _, _, _, h, _ => by simp at h
  | _, _ :: _, [], _, _, _, h => by simp at h
  | 0, a :: xs, b :: ys, x, y, hx, hy => by simp at hx hy; simp [hx, hy]
  | k + 1, a :: xs, b :: ys, x, y, hx, hy => by
    have := zip_split k xs ys x y (by simpa using hx) (by simpa using hy)
    simp only [List.zip_cons_cons, List.take_succ_cons, List.drop_succ_cons, List.cons_append, this]
theorem CX_below {α : Type} {d : Kd α} {w w1 : World} {A : Option Addr} {n : Nat} {xs : List α} (h : d.C w A n xs) (hb : Below w.heap.size w w1) : d.C w1 A n xs := Kd.C_below h hb

set_option maxRecDepth 100000 in
set_option maxHeartbeats 4000000 in
theorem made_s (N : Nat) (ih : ∀ (n : Nat) (xs : List ByteArray) (ys : List Int) (A1 : Option Addr) (c1 : Nat) (A2 : Option Addr) (c2 : Nat) (w : World), n ≤ N → xs.length = n → ys.length = n → n ≤ c1 → n ≤ c2 → Kd.string.C w A1 n xs → (Kd.int .i64).C w A2 n ys → FitL (xs.zip ys) →
      Calls Try.prog 21 #[.slice A1 n c1, .slice A2 n c2] w fun e w' => Row w w' e (xs.zip ys))
    (n : Nat) (xs : List ByteArray) (ys : List Int) (A1 : Option Addr) (c1 : Nat) (A2 : Option Addr) (c2 : Nat) (w : World) (hN : n ≤ N + 1) (hx : xs.length = n) (hy : ys.length = n) (hc1 : n ≤ c1) (hc2 : n ≤ c2) (hX : Kd.string.C w A1 n xs) (hY : (Kd.int .i64).C w A2 n ys) (hf : FitL (xs.zip ys)) (hn0 : 0 < n) :
    Calls Try.prog 21 #[.slice A1 n c1, .slice A2 n c2] w fun e w' => Row w w' e (xs.zip ys) := by
  obtain ⟨k, hk⟩ : ∃ k, n / 2 = k := ⟨_, rfl⟩
  have hkn : k < n := by omega
  have hn8 : n ≤ 8388608 := by have := hf.n; rw [List.length_zip] at this; omega
  obtain ⟨x, hxk⟩ : ∃ x, xs[k]? = some x := ⟨_, List.getElem?_eq_getElem (by omega)⟩
  obtain ⟨y, hyk⟩ : ∃ y, ys[k]? = some y := ⟨_, List.getElem?_eq_getElem (by omega)⟩
  obtain ⟨ad1, hA1, hr1⟩ := hX.2.2 hn0
  obtain ⟨ad2, hA2, hr2⟩ := hY.2.2 hn0
  subst hA1
  subst hA2
  have hcx : w.cell? (ad1.add k) = some (.string x) := by
    obtain ⟨c, _, hc, hcell⟩ := hr1 k x hxk
    have := hcell 0 (.string x) (by rw [show c = [.string x] from hc]; rfl)
    simpa [Kd.string, Kd.scalar] using this
  have hcy : w.cell? (ad2.add k) = some (.int .i64 y) := by
    obtain ⟨c, _, hc, hcell⟩ := hr2 k y hyk
    have := hcell 0 (.int .i64 y) (by rw [show c = [.int .i64 y] from hc]; rfl)
    simpa [Kd.int, Kd.scalar] using this
  have hz := zip_split k xs ys x y hxk hyk
  have HZ := Aside0.mk hz
  have HF := Aside0.mk hf
  have F1 : Aside0 (FitL ((xs.take k).zip (ys.take k))) := ⟨FitL.part (a := []) (c := (x, y) :: (xs.drop (k + 1)).zip (ys.drop (k + 1))) (by rw [List.nil_append, ← hz]; exact hf)⟩
  have F2 : Aside0 (FitL ((xs.drop (k + 1)).zip (ys.drop (k + 1)))) := ⟨FitL.part (a := (xs.take k).zip (ys.take k) ++ [(x, y)]) (c := []) (by rw [List.append_nil, List.append_assoc]; simp only [List.cons_append, List.nil_append]; rw [← hz]; exact hf)⟩
  have lx1 : (xs.take k).length = k := by rw [List.length_take]; omega
  have ly1 : (ys.take k).length = k := by rw [List.length_take]; omega
  have lx2 : (xs.drop (k + 1)).length = n - (k + 1) := by rw [List.length_drop]; omega
  have ly2 : (ys.drop (k + 1)).length = n - (k + 1) := by rw [List.length_drop]; omega
  have cx1 := Kd.C_take (m := k) (k := Kd.string) (w := w) (A := some ad1) (xs := xs) (by rw [hx]; exact hX) (by omega)
  have cy1 := Kd.C_take (m := k) (k := Kd.int .i64) (w := w) (A := some ad2) (xs := ys) (by rw [hy]; exact hY) (by omega)
  have cx2 := Kd.C_drop (m := k + 1) (c := c1) (k := Kd.string) (w := w) (A := some ad1) (xs := xs) (by rw [hx]; exact hX) (by omega) (by omega)
  have cy2 := Kd.C_drop (m := k + 1) (c := c2) (k := Kd.int .i64) (w := w) (A := some ad2) (xs := ys) (by rw [hy]; exact hY) (by omega) (by omega)
  rw [lx1] at cx1
  rw [ly1] at cy1
  rw [lx2] at cx2
  rw [ly2] at cy2
  obtain ⟨P1, hP1⟩ : ∃ P1, (if c1 = k + 1 then some ad1 else (some ad1).map (·.add ((k + 1) * 1))) = P1 := ⟨_, rfl⟩
  obtain ⟨P2, hP2⟩ : ∃ P2, (if c2 = k + 1 then some ad2 else (some ad2).map (·.add ((k + 1) * 1))) = P2 := ⟨_, rfl⟩
  replace cx2 : Kd.string.C w P1 (n - (k + 1)) (xs.drop (k + 1)) := by rw [← hP1]; exact cx2
  replace cy2 : (Kd.int .i64).C w P2 (n - (k + 1)) (ys.drop (k + 1)) := by rw [← hP2]; exact cy2
  have CX1 := Aside0.mk (fun (w' : World) (hb : Below w.heap.size w w') => Kd.C_below cx1 hb)
  have CY1 := Aside0.mk (fun (w' : World) (hb : Below w.heap.size w w') => Kd.C_below cy1 hb)
  have CX2 := Aside0.mk (fun (w' : World) (hb : Below w.heap.size w w') => Kd.C_below cx2 hb)
  have CY2 := Aside0.mk (fun (w' : World) (hb : Below w.heap.size w w') => Kd.C_below cy2 hb)
  have HP1 := Aside0.mk hP1
  have HP2 := Aside0.mk hP2
  have hdv : (n : Int) / 2 = (k : Int) := by omega
  have hw1 : IntKind.i64.wrap ((k : Int) + 1) = (k : Int) + 1 := IntWalk.i64_in _ (by omega)
  have k0 : (0 : Int) ≤ (k : Int) := by omega
  have k1 : (k : Int) < (n : Int) := by omega
  have n0 : ((n : Int) == 0) = false := beq_eq_false_iff_ne.mpr (by omega)
  have B0 : Below w.heap.size w w.drew := below_drew (Below.refl _ w)
  clear hz hf hxk hyk hX hY hr1 hr2 cx1 cy1 cx2 cy2 hP1 hP2 lx1 ly1 lx2 ly2
  go_enter Try.func21, Try.ntmps21
  go_upto_region 4 with (fail)
  refine wp_region_noPanic ?_
  refine wp_region_held_drew (S := (fun w' => w'.cell? (ad1.add k) = some (.string x) ∧ w'.cell? (ad2.add k) = some (.int .i64 y))) (by kernel_rfl) ?_ (fun hHeld => ?_)
  · exact ⟨hcx, hcy⟩
  refine wpAnyH_take (i := 0) (v := ?_) rfl (by kernel_rfl) (by kernel_rfl) (by kernel_rfl) (fun _ _ _ h => h) (Or.inl ⟨by rfl, ?_⟩) (by assumption) ?_
  rotate_left
  · intro w hSw
    go_simp
    try with_reducible rfl
  simp only [Act.put, List.getElem_toArray, List.getElem_cons_zero, List.getElem_cons_succ, List.setIfInBounds_toArray, List.set_cons_zero, List.set_cons_succ]
  refine wpAnyH_take (i := 1) (v := ?_) rfl (by kernel_rfl) (by kernel_rfl) (by kernel_rfl) (fun _ _ _ h => h) (Or.inl ⟨by rfl, ?_⟩) (by assumption) ?_
  rotate_left
  · intro w hSw
    go_simp
    try with_reducible rfl
  simp only [Act.put, List.getElem_toArray, List.getElem_cons_zero, List.getElem_cons_succ, List.setIfInBounds_toArray, List.set_cons_zero, List.set_cons_succ]
  refine wpAnyH_take (i := 2) (v := .slice (some ad1) k c1) rfl (by kernel_rfl) (by kernel_rfl) (by kernel_rfl) (fun _ _ _ h => h) (Or.inl ⟨by rfl, fun w _ => exec_cutH Try.underlying23 info9 (some ad1) n c1 k (by omega) _ _ _ _ (by rfl) (by rfl) (by rfl) w⟩) (by assumption) ?_
  simp only [Act.put, List.getElem_toArray, List.getElem_cons_zero, List.getElem_cons_succ, List.setIfInBounds_toArray, List.set_cons_zero, List.set_cons_succ]
  refine wpAnyH_take (i := 3) (v := ?_) rfl (by kernel_rfl) (by kernel_rfl) (by kernel_rfl) (fun _ _ _ h => h) (Or.inl ⟨by rfl, ?_⟩) (by assumption) ?_
  rotate_left
  · intro w hSw
    go_simp
    try with_reducible rfl
  simp only [Act.put, List.getElem_toArray, List.getElem_cons_zero, List.getElem_cons_succ, List.setIfInBounds_toArray, List.set_cons_zero, List.set_cons_succ]
  refine wpAnyH_take (i := 4) (v := ?_) rfl (by kernel_rfl) (by kernel_rfl) (by kernel_rfl) (fun _ _ _ h => h) (Or.inl ⟨by rfl, ?_⟩) (by assumption) ?_
  rotate_left
  · intro w hSw
    go_simp
    try with_reducible rfl
  simp only [Act.put, List.getElem_toArray, List.getElem_cons_zero, List.getElem_cons_succ, List.setIfInBounds_toArray, List.set_cons_zero, List.set_cons_succ]
  refine wpAnyH_take (i := 5) (v := .slice (some ad2) k c2) rfl (by kernel_rfl) (by kernel_rfl) (by kernel_rfl) (fun _ _ _ h => h) (Or.inl ⟨by rfl, fun w _ => exec_cutH Try.underlying24 info3 (some ad2) n c2 k (by omega) _ _ _ _ (by rfl) (by rfl) (by rfl) w⟩) (by assumption) ?_
  simp only [Act.put, List.getElem_toArray, List.getElem_cons_zero, List.getElem_cons_succ, List.setIfInBounds_toArray, List.set_cons_zero, List.set_cons_succ]
  refine wpAnyH_take (i := 7) (v := ?_) rfl (by kernel_rfl) (by kernel_rfl) (by kernel_rfl) (fun _ _ _ h => h) (Or.inl ⟨by rfl, ?_⟩) (by assumption) ?_
  rotate_left
  · intro w hSw
    go_simp
    try with_reducible rfl
  simp only [Act.put, List.getElem_toArray, List.getElem_cons_zero, List.getElem_cons_succ, List.setIfInBounds_toArray, List.set_cons_zero, List.set_cons_succ]
  refine wpAnyH_take (i := 8) (v := ?_) rfl (by kernel_rfl) (by kernel_rfl) (by kernel_rfl) (fun _ _ _ h => h) (Or.inl ⟨by rfl, ?_⟩) (by assumption) ?_
  rotate_left
  · intro w hSw
    go_simp
    try with_reducible rfl
  simp only [Act.put, List.getElem_toArray, List.getElem_cons_zero, List.getElem_cons_succ, List.setIfInBounds_toArray, List.set_cons_zero, List.set_cons_succ]
  refine wpAnyH_take (i := 9) (v := ?_) rfl (by kernel_rfl) (by kernel_rfl) (by kernel_rfl) (fun _ _ _ h => h) (Or.inl ⟨by rfl, ?_⟩) (by assumption) ?_
  rotate_left
  · intro w hSw
    go_simp
    try with_reducible rfl
  simp only [Act.put, List.getElem_toArray, List.getElem_cons_zero, List.getElem_cons_succ, List.setIfInBounds_toArray, List.set_cons_zero, List.set_cons_succ]
  refine wpAnyH_take (i := 10) (v := ?_) rfl (by kernel_rfl) (by kernel_rfl) (by kernel_rfl) (fun _ _ _ h => h) (Or.inl ⟨by rfl, ?_⟩) (by assumption) ?_
  rotate_left
  · intro w hSw
    go_simp
    try with_reducible rfl
  simp only [Act.put, List.getElem_toArray, List.getElem_cons_zero, List.getElem_cons_succ, List.setIfInBounds_toArray, List.set_cons_zero, List.set_cons_succ]
  refine wpAnyH_take (i := 11) (v := ?_) rfl (by kernel_rfl) (by kernel_rfl) (by kernel_rfl) (fun _ _ _ h => h) (Or.inl ⟨by rfl, ?_⟩) (by assumption) ?_
  rotate_left
  · intro w hSw
    go_simp
    try with_reducible rfl
  simp only [Act.put, List.getElem_toArray, List.getElem_cons_zero, List.getElem_cons_succ, List.setIfInBounds_toArray, List.set_cons_zero, List.set_cons_succ]
  refine wpAnyH_take (i := 12) (v := ?_) rfl (by kernel_rfl) (by kernel_rfl) (by kernel_rfl) (fun _ _ _ h => h) (Or.inl ⟨by rfl, ?_⟩) (by assumption) ?_
  rotate_left
  · intro w hSw
    go_simp
    try with_reducible rfl
  simp only [Act.put, List.getElem_toArray, List.getElem_cons_zero, List.getElem_cons_succ, List.setIfInBounds_toArray, List.set_cons_zero, List.set_cons_succ]
  refine wpAnyH_take (i := 13) (v := ?_) rfl (by kernel_rfl) (by kernel_rfl) (by kernel_rfl) (fun _ _ _ h => h) (Or.inl ⟨by rfl, ?_⟩) (by assumption) ?_
  rotate_left
  · intro w hSw
    go_simp
    try with_reducible rfl
  simp only [Act.put, List.getElem_toArray, List.getElem_cons_zero, List.getElem_cons_succ, List.setIfInBounds_toArray, List.set_cons_zero, List.set_cons_succ]
  refine wpAnyH_take (i := 14) (v := ?_) rfl (by kernel_rfl) (by kernel_rfl) (by kernel_rfl) (fun _ _ _ h => h) (Or.inl ⟨by rfl, ?_⟩) (by assumption) ?_
  rotate_left
  · intro w hSw
    go_simp
    try with_reducible rfl
  simp only [Act.put, List.getElem_toArray, List.getElem_cons_zero, List.getElem_cons_succ, List.setIfInBounds_toArray, List.set_cons_zero, List.set_cons_succ]
  refine wpAnyH_take (i := 15) (v := ?_) rfl (by kernel_rfl) (by kernel_rfl) (by kernel_rfl) (fun _ _ _ h => h) (Or.inl ⟨by rfl, ?_⟩) (by assumption) ?_
  rotate_left
  · intro w hSw
    go_simp
    try with_reducible rfl
  simp only [Act.put, List.getElem_toArray, List.getElem_cons_zero, List.getElem_cons_succ, List.setIfInBounds_toArray, List.set_cons_zero, List.set_cons_succ]
  refine wpAnyH_take (i := 17) (v := ?_) rfl (by kernel_rfl) (by kernel_rfl) (by kernel_rfl) (fun _ _ _ h => h) (Or.inl ⟨by rfl, ?_⟩) (by assumption) ?_
  rotate_left
  · intro w hSw
    go_simp
    try with_reducible rfl
  simp only [Act.put, List.getElem_toArray, List.getElem_cons_zero, List.getElem_cons_succ, List.setIfInBounds_toArray, List.set_cons_zero, List.set_cons_succ]
  refine wpAnyH_take (i := 18) (v := ?_) rfl (by kernel_rfl) (by kernel_rfl) (by kernel_rfl) (fun _ _ _ h => h) (Or.inl ⟨by rfl, ?_⟩) (by assumption) ?_
  rotate_left
  · intro w hSw
    go_simp
    try with_reducible rfl
  simp only [Act.put, List.getElem_toArray, List.getElem_cons_zero, List.getElem_cons_succ, List.setIfInBounds_toArray, List.set_cons_zero, List.set_cons_succ]
  refine wpAnyH_take (i := 19) (v := ?_) rfl (by kernel_rfl) (by kernel_rfl) (by kernel_rfl) (fun _ _ _ h => h) (Or.inl ⟨by rfl, ?_⟩) (by assumption) ?_
  rotate_left
  · intro w hSw
    go_simp
    try with_reducible rfl
  simp only [Act.put, List.getElem_toArray, List.getElem_cons_zero, List.getElem_cons_succ, List.setIfInBounds_toArray, List.set_cons_zero, List.set_cons_succ]
  refine wpAnyH_take (i := 20) (v := .slice P1 (n - (k + 1)) (c1 - (k + 1))) rfl (by kernel_rfl) (by kernel_rfl) (by kernel_rfl) (fun _ _ _ h => h) (Or.inl ⟨by rfl, by rw [← HP1.out]; exact fun w _ => exec_cutL Try.underlying23 info9 (some ad1) n c1 (k + 1) (by omega) _ _ _ _ (by rfl) (by rfl) (by rfl) w⟩) (by assumption) ?_
  simp only [Act.put, List.getElem_toArray, List.getElem_cons_zero, List.getElem_cons_succ, List.setIfInBounds_toArray, List.set_cons_zero, List.set_cons_succ]
  refine wpAnyH_take (i := 21) (v := ?_) rfl (by kernel_rfl) (by kernel_rfl) (by kernel_rfl) (fun _ _ _ h => h) (Or.inl ⟨by rfl, ?_⟩) (by assumption) ?_
  rotate_left
  · intro w hSw
    go_simp
    try with_reducible rfl
  simp only [Act.put, List.getElem_toArray, List.getElem_cons_zero, List.getElem_cons_succ, List.setIfInBounds_toArray, List.set_cons_zero, List.set_cons_succ]
  refine wpAnyH_take (i := 22) (v := ?_) rfl (by kernel_rfl) (by kernel_rfl) (by kernel_rfl) (fun _ _ _ h => h) (Or.inl ⟨by rfl, ?_⟩) (by assumption) ?_
  rotate_left
  · intro w hSw
    go_simp
    try with_reducible rfl
  simp only [Act.put, List.getElem_toArray, List.getElem_cons_zero, List.getElem_cons_succ, List.setIfInBounds_toArray, List.set_cons_zero, List.set_cons_succ]
  refine wpAnyH_take (i := 23) (v := ?_) rfl (by kernel_rfl) (by kernel_rfl) (by kernel_rfl) (fun _ _ _ h => h) (Or.inl ⟨by rfl, ?_⟩) (by assumption) ?_
  rotate_left
  · intro w hSw
    go_simp
    try with_reducible rfl
  simp only [Act.put, List.getElem_toArray, List.getElem_cons_zero, List.getElem_cons_succ, List.setIfInBounds_toArray, List.set_cons_zero, List.set_cons_succ]
  refine wpAnyH_take (i := 24) (v := .slice P2 (n - (k + 1)) (c2 - (k + 1))) rfl (by kernel_rfl) (by kernel_rfl) (by kernel_rfl) (fun _ _ _ h => h) (Or.inl ⟨by rfl, by rw [← HP2.out]; exact fun w _ => exec_cutL Try.underlying24 info3 (some ad2) n c2 (k + 1) (by omega) _ _ _ _ (by rfl) (by rfl) (by rfl) w⟩) (by assumption) ?_
  simp only [Act.put, List.getElem_toArray, List.getElem_cons_zero, List.getElem_cons_succ, List.setIfInBounds_toArray, List.set_cons_zero, List.set_cons_succ]
  refine wpAnyH_ready (rs := [6, 16]) (by kernel_rfl) (by simp) ?_
  refine AllReadyH.cons rfl (fun K hK => ?_) (AllReadyH.cons rfl (fun K hK => ?_) AllReadyH.nil)
  · go_simp
    refine (ih k (xs.take k) (ys.take k) (some ad1) c1 (some ad2) c2 w.drew (by omega) (by rw [List.length_take]; omega) (by rw [List.length_take]; omega) (by omega) (by omega) (CX1.out _ B0) (CY1.out _ B0) F1.out).mono ?_
    rintro _ w5 ⟨t5, v5, rfl, h5, e5, hb5⟩
    have B1 := B0.trans (hb5.mono B0.size)
    refine hK.out _ _ ⟨pw_cell_below B1 hcx, pw_cell_below B1 hcy⟩ (fun hHeld2 => ?_)
    clear hK K hHeld
    have hHeld := hHeld2
    clear hHeld2
    try simp only [Act.put, List.getElem_toArray, List.getElem_cons_zero, List.getElem_cons_succ, List.setIfInBounds_toArray, List.set_cons_zero, List.set_cons_succ]
    refine wpAnyH_ready (rs := [16, 25]) (by kernel_rfl) (by simp) ?_
    refine AllReadyH.cons rfl (fun K hK => ?_) (AllReadyH.cons rfl (fun K hK => ?_) AllReadyH.nil)
    · go_simp
      have B2 : Below w.heap.size w ((w5).alloc (.cells #[.pointer none, .pointer none, .string x, .int .i64 y, .int .i64 0, .int .i64 0, .int .i64 0] 58)) := B1.alloc B1.size _
      have hmid : Mid ((w5).alloc (.cells #[.pointer none, .pointer none, .string x, .int .i64 y, .int .i64 0, .int .i64 0, .int .i64 0] 58)) x y (.pointer (some ⟨(w5).heap.size, 0, none⟩)) := ⟨_, rfl, by rw [World.size_alloc]; omega, cell_of_row _ _ _ _ _ _ (heap_alloc_new _ _), cell_of_row _ _ _ _ _ _ (heap_alloc_new _ _)⟩
      refine hK.out _ ((w5).alloc (.cells #[.pointer none, .pointer none, .string x, .int .i64 y, .int .i64 0, .int .i64 0, .int .i64 0] 58)) ⟨pw_cell_below B2 hcx, pw_cell_below B2 hcy⟩ (fun hHeld2 => ?_)
      clear hK K hHeld
      have hHeld := hHeld2
      clear hHeld2
      try simp only [Act.put, List.getElem_toArray, List.getElem_cons_zero, List.getElem_cons_succ, List.setIfInBounds_toArray, List.set_cons_zero, List.set_cons_succ]
      refine wpAnyH_ready (rs := [25]) (by kernel_rfl) (by simp) ?_
      refine AllReadyH.cons rfl (fun K hK => ?_) AllReadyH.nil
      go_simp
      refine (ih (n - (k + 1)) (xs.drop (k + 1)) (ys.drop (k + 1)) _ (c1 - (k + 1)) _ (c2 - (k + 1)) (w5.alloc (.cells #[.pointer none, .pointer none, .string x, .int .i64 y, .int .i64 0, .int .i64 0, .int .i64 0] 58)) (by omega) (by rw [List.length_drop]; omega) (by rw [List.length_drop]; omega) (by omega) (by omega) (CX2.out _ B2) (CY2.out _ B2) F2.out).mono ?_
      rintro _ w6 ⟨t6, v6, rfl, h6, e6, hb6⟩
      have B3 := B2.trans (hb6.mono B2.size)
      refine hK.out _ _ ⟨pw_cell_below B3 hcx, pw_cell_below B3 hcy⟩ (fun hHeld2 => ?_)
      clear hK K hHeld
      have hHeld := hHeld2
      clear hHeld2
      try simp only [Act.put, List.getElem_toArray, List.getElem_cons_zero, List.getElem_cons_succ, List.setIfInBounds_toArray, List.set_cons_zero, List.set_cons_succ]
      refine wpAnyH_ready (rs := [26]) (by kernel_rfl) (by simp) ?_
      refine AllReadyH.cons rfl (fun K hK => ?_) AllReadyH.nil
      go_simp
      refine (lnk t5 t6 x y v5 _ v6 w6 ((h5.below (below_alloc (Below.refl _ w5) _)).below hb6) (hmid.below hb6) h6 (a := []) (c := []) HF.out (by rw [e5, e6]; simp [HZ.out])).mono ?_
      rintro _ w7 ⟨v7, rfl, h7, hb7⟩
      have B9 := B3.trans (hb7.mono B3.size)
      refine hK.out _ _ ⟨pw_cell_below B9 hcx, pw_cell_below B9 hcy⟩ (fun hHeld2 => ?_)
      clear hK K hHeld
      have hHeld := hHeld2
      clear hHeld2
      try simp only [Act.put, List.getElem_toArray, List.getElem_cons_zero, List.getElem_cons_succ, List.setIfInBounds_toArray, List.set_cons_zero, List.set_cons_succ]
      refine wpAnyH_take (i := 27) (v := ?_) rfl (by kernel_rfl) (by kernel_rfl) (by kernel_rfl) (fun _ _ _ h => h) (Or.inl ⟨by rfl, ?_⟩) (by assumption) ?_
      rotate_left
      · intro w hSw
        go_simp
        try with_reducible rfl
      simp only [Act.put, List.getElem_toArray, List.getElem_cons_zero, List.getElem_cons_succ, List.setIfInBounds_toArray, List.set_cons_zero, List.set_cons_succ]
      refine wpAnyH_done (by kernel_rfl) ?_ _
      refine NoPanic.normal ?_
      have hfin : Aside0 (Row w w7 (.returned v7) (xs.zip ys)) := ⟨⟨.node t5 x y t6, v7, rfl, h7, by simp only [toL]; rw [e5, e6, HZ.out], B9⟩⟩
      clear h7 hb7 B9 hHeld
      go_wp2_with (fail)
      go_ret
      exact hfin.out
    · go_simp
      refine (ih (n - (k + 1)) (xs.drop (k + 1)) (ys.drop (k + 1)) _ (c1 - (k + 1)) _ (c2 - (k + 1)) w5 (by omega) (by rw [List.length_drop]; omega) (by rw [List.length_drop]; omega) (by omega) (by omega) (CX2.out _ B1) (CY2.out _ B1) F2.out).mono ?_
      rintro _ w6 ⟨t6, v6, rfl, h6, e6, hb6⟩
      have B2 := B1.trans (hb6.mono B1.size)
      refine hK.out _ _ ⟨pw_cell_below B2 hcx, pw_cell_below B2 hcy⟩ (fun hHeld2 => ?_)
      clear hK K hHeld
      have hHeld := hHeld2
      clear hHeld2
      try simp only [Act.put, List.getElem_toArray, List.getElem_cons_zero, List.getElem_cons_succ, List.setIfInBounds_toArray, List.set_cons_zero, List.set_cons_succ]
      refine wpAnyH_ready (rs := [16]) (by kernel_rfl) (by simp) ?_
      refine AllReadyH.cons rfl (fun K hK => ?_) AllReadyH.nil
      go_simp
      have B3 : Below w.heap.size w ((w6).alloc (.cells #[.pointer none, .pointer none, .string x, .int .i64 y, .int .i64 0, .int .i64 0, .int .i64 0] 58)) := B2.alloc B2.size _
      have hmid : Mid ((w6).alloc (.cells #[.pointer none, .pointer none, .string x, .int .i64 y, .int .i64 0, .int .i64 0, .int .i64 0] 58)) x y (.pointer (some ⟨(w6).heap.size, 0, none⟩)) := ⟨_, rfl, by rw [World.size_alloc]; omega, cell_of_row _ _ _ _ _ _ (heap_alloc_new _ _), cell_of_row _ _ _ _ _ _ (heap_alloc_new _ _)⟩
      refine hK.out _ ((w6).alloc (.cells #[.pointer none, .pointer none, .string x, .int .i64 y, .int .i64 0, .int .i64 0, .int .i64 0] 58)) ⟨pw_cell_below B3 hcx, pw_cell_below B3 hcy⟩ (fun hHeld2 => ?_)
      clear hK K hHeld
      have hHeld := hHeld2
      clear hHeld2
      try simp only [Act.put, List.getElem_toArray, List.getElem_cons_zero, List.getElem_cons_succ, List.setIfInBounds_toArray, List.set_cons_zero, List.set_cons_succ]
      refine wpAnyH_ready (rs := [26]) (by kernel_rfl) (by simp) ?_
      refine AllReadyH.cons rfl (fun K hK => ?_) AllReadyH.nil
      go_simp
      refine (lnk t5 t6 x y v5 _ v6 (w6.alloc (.cells #[.pointer none, .pointer none, .string x, .int .i64 y, .int .i64 0, .int .i64 0, .int .i64 0] 58)) ((h5.below hb6).below (below_alloc (Below.refl _ w6) _)) hmid (h6.below (below_alloc (Below.refl _ w6) _)) (a := []) (c := []) HF.out (by rw [e5, e6]; simp [HZ.out])).mono ?_
      rintro _ w7 ⟨v7, rfl, h7, hb7⟩
      have B9 := B3.trans (hb7.mono B3.size)
      refine hK.out _ _ ⟨pw_cell_below B9 hcx, pw_cell_below B9 hcy⟩ (fun hHeld2 => ?_)
      clear hK K hHeld
      have hHeld := hHeld2
      clear hHeld2
      try simp only [Act.put, List.getElem_toArray, List.getElem_cons_zero, List.getElem_cons_succ, List.setIfInBounds_toArray, List.set_cons_zero, List.set_cons_succ]
      refine wpAnyH_take (i := 27) (v := ?_) rfl (by kernel_rfl) (by kernel_rfl) (by kernel_rfl) (fun _ _ _ h => h) (Or.inl ⟨by rfl, ?_⟩) (by assumption) ?_
      rotate_left
      · intro w hSw
        go_simp
        try with_reducible rfl
      simp only [Act.put, List.getElem_toArray, List.getElem_cons_zero, List.getElem_cons_succ, List.setIfInBounds_toArray, List.set_cons_zero, List.set_cons_succ]
      refine wpAnyH_done (by kernel_rfl) ?_ _
      refine NoPanic.normal ?_
      have hfin : Aside0 (Row w w7 (.returned v7) (xs.zip ys)) := ⟨⟨.node t5 x y t6, v7, rfl, h7, by simp only [toL]; rw [e5, e6, HZ.out], B9⟩⟩
      clear h7 hb7 B9 hHeld
      go_wp2_with (fail)
      go_ret
      exact hfin.out
  · go_simp
    have B1 : Below w.heap.size w ((w.drew).alloc (.cells #[.pointer none, .pointer none, .string x, .int .i64 y, .int .i64 0, .int .i64 0, .int .i64 0] 58)) := B0.alloc B0.size _
    have hmid : Mid ((w.drew).alloc (.cells #[.pointer none, .pointer none, .string x, .int .i64 y, .int .i64 0, .int .i64 0, .int .i64 0] 58)) x y (.pointer (some ⟨(w.drew).heap.size, 0, none⟩)) := ⟨_, rfl, by rw [World.size_alloc]; omega, cell_of_row _ _ _ _ _ _ (heap_alloc_new _ _), cell_of_row _ _ _ _ _ _ (heap_alloc_new _ _)⟩
    refine hK.out _ ((w.drew).alloc (.cells #[.pointer none, .pointer none, .string x, .int .i64 y, .int .i64 0, .int .i64 0, .int .i64 0] 58)) ⟨pw_cell_below B1 hcx, pw_cell_below B1 hcy⟩ (fun hHeld2 => ?_)
    clear hK K hHeld
    have hHeld := hHeld2
    clear hHeld2
    try simp only [Act.put, List.getElem_toArray, List.getElem_cons_zero, List.getElem_cons_succ, List.setIfInBounds_toArray, List.set_cons_zero, List.set_cons_succ]
    refine wpAnyH_ready (rs := [6]) (by kernel_rfl) (by simp) ?_
    refine AllReadyH.cons rfl (fun K hK => ?_) AllReadyH.nil
    go_simp
    refine (ih k (xs.take k) (ys.take k) (some ad1) c1 (some ad2) c2 (w.drew.alloc (.cells #[.pointer none, .pointer none, .string x, .int .i64 y, .int .i64 0, .int .i64 0, .int .i64 0] 58)) (by omega) (by rw [List.length_take]; omega) (by rw [List.length_take]; omega) (by omega) (by omega) (CX1.out _ B1) (CY1.out _ B1) F1.out).mono ?_
    rintro _ w5 ⟨t5, v5, rfl, h5, e5, hb5⟩
    have B2 := B1.trans (hb5.mono B1.size)
    refine hK.out _ _ ⟨pw_cell_below B2 hcx, pw_cell_below B2 hcy⟩ (fun hHeld2 => ?_)
    clear hK K hHeld
    have hHeld := hHeld2
    clear hHeld2
    try simp only [Act.put, List.getElem_toArray, List.getElem_cons_zero, List.getElem_cons_succ, List.setIfInBounds_toArray, List.set_cons_zero, List.set_cons_succ]
    refine wpAnyH_ready (rs := [25]) (by kernel_rfl) (by simp) ?_
    refine AllReadyH.cons rfl (fun K hK => ?_) AllReadyH.nil
    go_simp
    refine (ih (n - (k + 1)) (xs.drop (k + 1)) (ys.drop (k + 1)) _ (c1 - (k + 1)) _ (c2 - (k + 1)) w5 (by omega) (by rw [List.length_drop]; omega) (by rw [List.length_drop]; omega) (by omega) (by omega) (CX2.out _ B2) (CY2.out _ B2) F2.out).mono ?_
    rintro _ w6 ⟨t6, v6, rfl, h6, e6, hb6⟩
    have B3 := B2.trans (hb6.mono B2.size)
    refine hK.out _ _ ⟨pw_cell_below B3 hcx, pw_cell_below B3 hcy⟩ (fun hHeld2 => ?_)
    clear hK K hHeld
    have hHeld := hHeld2
    clear hHeld2
    try simp only [Act.put, List.getElem_toArray, List.getElem_cons_zero, List.getElem_cons_succ, List.setIfInBounds_toArray, List.set_cons_zero, List.set_cons_succ]
    refine wpAnyH_ready (rs := [26]) (by kernel_rfl) (by simp) ?_
    refine AllReadyH.cons rfl (fun K hK => ?_) AllReadyH.nil
    go_simp
    refine (lnk t5 t6 x y v5 _ v6 w6 (h5.below hb6) ((hmid.below hb5).below hb6) h6 (a := []) (c := []) HF.out (by rw [e5, e6]; simp [HZ.out])).mono ?_
    rintro _ w7 ⟨v7, rfl, h7, hb7⟩
    have B9 := B3.trans (hb7.mono B3.size)
    refine hK.out _ _ ⟨pw_cell_below B9 hcx, pw_cell_below B9 hcy⟩ (fun hHeld2 => ?_)
    clear hK K hHeld
    have hHeld := hHeld2
    clear hHeld2
    try simp only [Act.put, List.getElem_toArray, List.getElem_cons_zero, List.getElem_cons_succ, List.setIfInBounds_toArray, List.set_cons_zero, List.set_cons_succ]
    refine wpAnyH_take (i := 27) (v := ?_) rfl (by kernel_rfl) (by kernel_rfl) (by kernel_rfl) (fun _ _ _ h => h) (Or.inl ⟨by rfl, ?_⟩) (by assumption) ?_
    rotate_left
    · intro w hSw
      go_simp
      try with_reducible rfl
    simp only [Act.put, List.getElem_toArray, List.getElem_cons_zero, List.getElem_cons_succ, List.setIfInBounds_toArray, List.set_cons_zero, List.set_cons_succ]
    refine wpAnyH_done (by kernel_rfl) ?_ _
    refine NoPanic.normal ?_
    have hfin : Aside0 (Row w w7 (.returned v7) (xs.zip ys)) := ⟨⟨.node t5 x y t6, v7, rfl, h7, by simp only [toL]; rw [e5, e6, HZ.out], B9⟩⟩
    clear h7 hb7 B9 hHeld
    go_wp2_with (fail)
    go_ret
    exact hfin.out

theorem made_0 (n : Nat) (xs : List ByteArray) (ys : List Int) (A1 : Option Addr) (c1 : Nat) (A2 : Option Addr) (c2 : Nat) (w : World) (hx : xs.length = n) (hn : n = 0) : Calls Try.prog 21 #[.slice A1 n c1, .slice A2 n c2] w fun e w' => Row w w' e (xs.zip ys) := by
  subst hn
  have e : xs = [] := List.eq_nil_of_length_eq_zero hx
  subst e
  have hfin : Aside0 (Row w w (.returned (.pointer none)) (([] : List ByteArray).zip ys)) := ⟨⟨.nil, _, rfl, rfl, by simp [toL], Below.refl _ _⟩⟩
  clear hx
  go_enter Try.func21, Try.ntmps21
  go_wp2_with (fail)
  go_ret
  exact hfin.out
theorem made_n : ∀ (N : Nat) (n : Nat) (xs : List ByteArray) (ys : List Int) (A1 : Option Addr) (c1 : Nat) (A2 : Option Addr) (c2 : Nat) (w : World), n ≤ N → xs.length = n → ys.length = n → n ≤ c1 → n ≤ c2 → Kd.string.C w A1 n xs → (Kd.int .i64).C w A2 n ys → FitL (xs.zip ys) →
      Calls Try.prog 21 #[.slice A1 n c1, .slice A2 n c2] w fun e w' => Row w w' e (xs.zip ys) := by
  intro N
  induction N with
  | zero => exact fun n xs ys A1 c1 A2 c2 w hN hx hy h1 h2 hX hY hf => made_0 n xs ys A1 c1 A2 c2 w hx (by omega)
  | succ N ih =>
    intro n xs ys A1 c1 A2 c2 w hN hx hy h1 h2 hX hY hf
    by_cases hn : n = 0
    · exact made_0 n xs ys A1 c1 A2 c2 w hx hn
    · exact made_s N (fun n xs ys A1 c1 A2 c2 w => ih n xs ys A1 c1 A2 c2 w) n xs ys A1 c1 A2 c2 w hN hx hy h1 h2 hX hY hf (by omega)
theorem made_c (n : Nat) (xs : List ByteArray) (ys : List Int) (A1 : Option Addr) (c1 : Nat) (A2 : Option Addr) (c2 : Nat) (w : World) (hx : xs.length = n) (hy : ys.length = n) (h1 : n ≤ c1) (h2 : n ≤ c2) (hX : Kd.string.C w A1 n xs) (hY : (Kd.int .i64).C w A2 n ys) (hf : FitL (xs.zip ys)) :
    Calls Try.prog 21 #[.slice A1 n c1, .slice A2 n c2] w fun e w' => Row w w' e (xs.zip ys) := made_n n n xs ys A1 c1 A2 c2 w (Nat.le_refl _) hx hy h1 h2 hX hY hf
end Go.Proofs.Ytpchkligbfmeiaa.Se
