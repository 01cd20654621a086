/- The reference's one: an end. -/
import Derived.Test.YtfaibpdoalbkpaaRy
namespace Go.Proofs.Ytfaibpdoalbkpaa.Bu
open Go.RowKit Go.Proofs.YtfaibpdoalbkpaaW.PrintWords Go.Proofs.YtfaibpdoalbkpaaW.PrintLast Go.Proofs.YtfaibpdoalbkpaaW.PrintMore
attribute [local go_sem] max2_int min2_int max_two min_two max_three min_three max_four min_four
set_option linter.unusedVariables false
set_option linter.unusedSimpArgs false
theorem end_fin {w6 : World} {m : Bl} {x : Ev} {at_ : Int} {O' : List Nat} {i n b : Nat} {y : Nd} {fp : Nat → Prop} {vL vO : Value} (hs : Srt m) (hO : m.O = O' ++ [i]) (hy : m.L[i]? = some y) (hwa : wrap64 (x.a + at_) = at_ + x.a) (ho : x.o = 2)
    (hR : kN.R 38 w6 0 (more fp n) vL ((doneL m (-1)).set i ⟨if x.k = 0 then y.k else x.k, y.f, at_ + x.a, y.d⟩)) (hOr : kI.R 3 w6 0 (more fp n) vO O') (hB : w6.heap[b]? = some (.cells #[vL, vO, .int .i64 m.far] 45 (0, 0))) (hfb : fp b) :
    RT (w6.setCell ⟨b, 2, none⟩ (.int .i64 (at_ + x.a))) (more fp n) b (stepB m (shE at_ x)) vL vO := by
  have hst : stepB m (shE at_ x) = endB m (shE at_ x) := by simp [stepB, shE, ho]
  rw [hst]
  have h1 : (endB m (shE at_ x)).far = at_ + x.a := hwa
  have h3 : (endB m (shE at_ x)).O = O' := by simp [endB, hO]
  refine RT.of ?_ ?_ ?_ (.inl hfb)
  · rw [h1]
    exact blk_set hB 2 _
  · rw [rl_end hs hO hy]
    simp only [shE, hwa]
    exact Kd.R_set hR hB (by decide) 2 _
  · rw [h3]
    exact Kd.R_set hOr hB (by decide) 2 _
set_option maxRecDepth 100000 in
set_option maxHeartbeats 8000000 in
theorem rone_end (b : Nat) (m : Bl) (vL vO : Value) (x : Ev) (at_ : Int) (w : World) (fp : Nat → Prop) (n0 : Nat) (h0 : RT w fp b m vL vO) (hs : Srt m) (hwf : WF m n0) (hn0 : n0 ≤ 1000000) (ha : 0 ≤ at_ ∧ at_ ≤ 1048576) (ho : x.o = 2) (hnb : ¬ Bad at_ m.far x.a) (hO2 : 2 ≤ m.O.length) :
    Calls Try.prog 23 #[pv b, .agg (evc x), .int .i64 at_] w fun e w' => ROneP w fp b m at_ x e w' := by
  have h1 := h0.bound
  obtain ⟨W, hW⟩ : ∃ W, w.alloc (.cells (evc x) 41) = W := ⟨_, rfl⟩
  have hbw : Below w.heap.size w W := by rw [← hW]; exact below_alloc (Below.refl _ w) _
  have hsz : W.heap.size = w.heap.size + 1 := by rw [← hW]; simp
  have rE : W.heap[w.heap.size]? = some (.cells (evc x) 41 (0, 0)) := by rw [← hW]; exact heap_alloc_new _ _
  have e0 : W.cell? ⟨w.heap.size, 0, none⟩ = some (.int .u8 x.o) := cell_of_row _ _ _ _ _ _ rE
  have e1 : W.cell? ⟨w.heap.size, 1, none⟩ = some (.int .u8 x.k) := cell_of_row _ _ _ _ _ _ rE
  have e2 : W.cell? ⟨w.heap.size, 2, none⟩ = some (.int .i64 x.a) := cell_of_row _ _ _ _ _ _ rE
  have e3 : W.cell? ⟨w.heap.size, 3, none⟩ = some (.int .i64 x.t) := cell_of_row _ _ _ _ _ _ rE
  have hT := h1.below hbw
  have gF := hT.cF
  have HT := Aside0.mk hT
  have HBW := Aside0.mk hbw
  have HRE := Aside0.mk rE
  have HWF := Aside0.mk hwf
  have hfar := hwf.f
  clear h0 h1 hT rE hbw hwf
  have hz : oneE at_ m.far ((m.O.length : Int) - 1) x = 0 := by rw [oneE_cons, if_neg (by omega), if_neg hnb, if_neg (by omega), if_neg (by omega), if_neg (by omega)]
  have HO := Aside0.mk ho
  have HZ := Aside0.mk hz
  have HPL := Aside0.mk (rplace_c b x.a at_ m.far W gF ha hfar)
  have HNB := Aside0.mk hnb
  obtain ⟨O', i, hO⟩ : ∃ O' i, m.O = O' ++ [i] := ⟨m.O.dropLast, m.O.getLast (fun e => by rw [e] at hO2; simp at hO2), (List.dropLast_concat_getLast _).symm⟩
  obtain ⟨no, hno⟩ : ∃ no, O'.length = no := ⟨_, rfl⟩
  have hNO : m.O.length = no + 1 := by rw [hO]; simp [hno]
  have hil : i < m.L.length := hs.o i (by rw [hO]; simp)
  obtain ⟨y, hy⟩ : ∃ y, m.L[i]? = some y := ⟨_, List.getElem?_eq_getElem hil⟩
  have hyd : (doneL m (-1))[i]? = some (toN (-1) y) := by rw [get_doneL hy, if_pos (by rw [hO]; simp)]
  have gL0 := HT.out.cL
  have gO0 := HT.out.cO
  obtain ⟨NL, hNL⟩ : ∃ D, (doneL m (-1)).length = D := ⟨_, rfl⟩
  have hiN : i < NL := by rw [← hNL, len_doneL]; exact hil
  have hrL := HT.out.rL
  have hrO := HT.out.rO
  obtain ⟨gL, cL, hvL, hcL⟩ := row_form hrL (by rw [hNL]; omega)
  obtain ⟨gO, cO, hvO, hcO⟩ := formI hrO (by omega)
  rw [hNL] at hvL
  rw [hNO] at hvO hcO
  rw [hvL] at gL0 hrL
  rw [hvO] at gO0 hrO
  have ci := atI hrO (i := no) (y := i) (by rw [hO, List.getElem?_append_right (by omega)]; simp [hno])
  have hNL8 : NL ≤ 1000000 := by rw [len_doneL] at hNL; have := HWF.out.L; omega
  have hNO8 : no ≤ 1000000 := by have := HWF.out.O; omega
  have hwn : IntKind.i64.wrap (no : Int) = (no : Int) := IntWalk.i64_in _ (by omega)
  have p0 : (0 : Int) ≤ (no : Int) := by omega
  have p1 : (no : Int) < ((no + 1 : Nat) : Int) := by omega
  have p2 : (no : Int) < (no : Int) + 1 := by omega
  have i0 : (0 : Int) ≤ (i : Int) := by omega
  have i1 : (i : Int) < (NL : Int) := by omega
  have n1 : 0 < no := by omega
  have b1 : ((no : Int) == 0) = false := beq_eq_false_iff_ne.mpr (by omega)
  have hlt : no ≤ cO := by omega
  have hfbb := HT.out.fb.1
  have HRL : Aside0 (kN.R 38 W 0 (more fp w.heap.size) (.slice (some ⟨gL, 0, none⟩) NL cL) (doneL m (-1))) := ⟨kd_mono hrL (fun k hk => .inl (hrL.1 k hk).1)⟩
  have HRO : Aside0 (kI.R 3 W 0 (more fp w.heap.size) (.slice (some ⟨gO, 0, none⟩) (no + 1) cO) m.O) := ⟨kd_mono hrO (fun k hk => .inl (hrO.1 k hk).1)⟩
  have hB0 := HT.out.hb
  rw [hvL, hvO] at hB0
  have HB0 := Aside0.mk hB0
  have HNL := Aside0.mk hNL
  have HNO := Aside0.mk hNO
  have HOO := Aside0.mk hO
  have HNOO := Aside0.mk hno
  have HY := Aside0.mk hy
  have HYD := Aside0.mk hyd
  have E1 := Aside0.mk e1
  rw [ho] at e0
  have HSZ := Aside0.mk hsz
  clear hnb ho hz hvL hvO hNL hNO hsz hO hy hyd hil hrL hrO hB0 hcL hcO hno hO2
  go_enter Try.func23, Try.ntmps23
  go_wp2_with (refine HPL.out.mono ?_)
  rintro _ w2 ⟨(⟨hb, _⟩ | ⟨hn, rfl⟩), rfl⟩
  · exact absurd hb HNB.out
  go_upto_region 18 with (fail)
  refine wp_region_noPanic ?_
  refine wp_region_held_drew (S := (fun w' => w'.cell? ⟨b, 1, none⟩ = some (.slice (some ⟨gO, 0, none⟩) (no + 1) cO) ∧ w'.cell? ⟨gO, no, none⟩ = some (.int .i64 (i : Int)))) (by kernel_rfl) ?_ (fun hHeld => ?_)
  · exact ⟨gO0, ci⟩
  refine wpAnyH_take (i := 0) (v := ?_) rfl (by kernel_rfl) (by kernel_rfl) (by kernel_rfl) (fun _ _ _ h => h) (Or.inl ⟨by rfl, ?_⟩) (by assumption) ?_
  rotate_left
  · intro w hSw
    go_simp
    try with_reducible rfl
  simp only [Act.put, List.getElem_toArray, List.getElem_cons_zero, List.getElem_cons_succ, List.setIfInBounds_toArray, List.set_cons_zero, List.set_cons_succ]
  refine wpAnyH_take (i := 1) (v := ?_) rfl (by kernel_rfl) (by kernel_rfl) (by kernel_rfl) (fun _ _ _ h => h) (Or.inl ⟨by rfl, ?_⟩) (by assumption) ?_
  rotate_left
  · intro w hSw
    go_simp
    try with_reducible rfl
  simp only [Act.put, List.getElem_toArray, List.getElem_cons_zero, List.getElem_cons_succ, List.setIfInBounds_toArray, List.set_cons_zero, List.set_cons_succ]
  refine wpAnyH_take (i := 2) (v := ?_) rfl (by kernel_rfl) (by kernel_rfl) (by kernel_rfl) (fun _ _ _ h => h) (Or.inl ⟨by rfl, ?_⟩) (by assumption) ?_
  rotate_left
  · intro w hSw
    go_simp
    try with_reducible rfl
  simp only [Act.put, List.getElem_toArray, List.getElem_cons_zero, List.getElem_cons_succ, List.setIfInBounds_toArray, List.set_cons_zero, List.set_cons_succ]
  refine wpAnyH_take (i := 3) (v := ?_) rfl (by kernel_rfl) (by kernel_rfl) (by kernel_rfl) (fun _ _ _ h => h) (Or.inl ⟨by rfl, ?_⟩) (by assumption) ?_
  rotate_left
  · intro w hSw
    go_simp
    try with_reducible rfl
  simp only [Act.put, List.getElem_toArray, List.getElem_cons_zero, List.getElem_cons_succ, List.setIfInBounds_toArray, List.set_cons_zero, List.set_cons_succ]
  refine wpAnyH_take (i := 4) (v := ?_) rfl (by kernel_rfl) (by kernel_rfl) (by kernel_rfl) (fun _ _ _ h => h) (Or.inl ⟨by rfl, ?_⟩) (by assumption) ?_
  rotate_left
  · intro w hSw
    go_simp
    try with_reducible rfl
  simp only [Act.put, List.getElem_toArray, List.getElem_cons_zero, List.getElem_cons_succ, List.setIfInBounds_toArray, List.set_cons_zero, List.set_cons_succ]
  refine wpAnyH_take (i := 5) (v := ?_) rfl (by kernel_rfl) (by kernel_rfl) (by kernel_rfl) (fun _ _ _ h => h) (Or.inl ⟨by rfl, ?_⟩) (by assumption) ?_
  rotate_left
  · intro w hSw
    go_simp
    try with_reducible rfl
  simp only [Act.put, List.getElem_toArray, List.getElem_cons_zero, List.getElem_cons_succ, List.setIfInBounds_toArray, List.set_cons_zero, List.set_cons_succ]
  refine wpAnyH_take (i := 6) (v := ?_) rfl (by kernel_rfl) (by kernel_rfl) (by kernel_rfl) (fun _ _ _ h => h) (Or.inl ⟨by rfl, ?_⟩) (by assumption) ?_
  rotate_left
  · intro w hSw
    go_simp
    try with_reducible rfl
  simp only [Act.put, List.getElem_toArray, List.getElem_cons_zero, List.getElem_cons_succ, List.setIfInBounds_toArray, List.set_cons_zero, List.set_cons_succ]
  refine wpAnyH_take (i := 7) (v := ?_) rfl (by kernel_rfl) (by kernel_rfl) (by kernel_rfl) (fun _ _ _ h => h) (Or.inl ⟨by rfl, ?_⟩) (by assumption) ?_
  rotate_left
  · intro w hSw
    go_simp
    try with_reducible rfl
  simp only [Act.put, List.getElem_toArray, List.getElem_cons_zero, List.getElem_cons_succ, List.setIfInBounds_toArray, List.set_cons_zero, List.set_cons_succ]
  refine wpAnyH_take (i := 8) (v := ?_) rfl (by kernel_rfl) (by kernel_rfl) (by kernel_rfl) (fun _ _ _ h => h) (Or.inl ⟨by rfl, ?_⟩) (by assumption) ?_
  rotate_left
  · intro w hSw
    go_simp
    try with_reducible rfl
  simp only [Act.put, List.getElem_toArray, List.getElem_cons_zero, List.getElem_cons_succ, List.setIfInBounds_toArray, List.set_cons_zero, List.set_cons_succ]
  refine wpAnyH_take (i := 9) (v := ?_) rfl (by kernel_rfl) (by kernel_rfl) (by kernel_rfl) (fun _ _ _ h => h) (Or.inl ⟨by rfl, ?_⟩) (by assumption) ?_
  rotate_left
  · intro w hSw
    go_simp
    try with_reducible rfl
  simp only [Act.put, List.getElem_toArray, List.getElem_cons_zero, List.getElem_cons_succ, List.setIfInBounds_toArray, List.set_cons_zero, List.set_cons_succ]
  refine wpAnyH_take (i := 10) (v := ?_) rfl (by kernel_rfl) (by kernel_rfl) (by kernel_rfl) (fun _ _ _ h => h) (Or.inl ⟨by rfl, ?_⟩) (by assumption) ?_
  rotate_left
  · intro w hSw
    go_simp
    try with_reducible rfl
  simp only [Act.put, List.getElem_toArray, List.getElem_cons_zero, List.getElem_cons_succ, List.setIfInBounds_toArray, List.set_cons_zero, List.set_cons_succ]
  refine wpAnyH_take (i := 11) (v := ?_) rfl (by kernel_rfl) (by kernel_rfl) (by kernel_rfl) (fun _ _ _ h => h) (Or.inl ⟨by rfl, ?_⟩) (by assumption) ?_
  rotate_left
  · intro w hSw
    go_simp
    try with_reducible rfl
  simp only [Act.put, List.getElem_toArray, List.getElem_cons_zero, List.getElem_cons_succ, List.setIfInBounds_toArray, List.set_cons_zero, List.set_cons_succ]
  refine wpAnyH_take (i := 12) (v := ?_) rfl (by kernel_rfl) (by kernel_rfl) (by kernel_rfl) (fun _ _ _ h => h) (Or.inl ⟨by rfl, ?_⟩) (by assumption) ?_
  rotate_left
  · intro w hSw
    go_simp
    try with_reducible rfl
  simp only [Act.put, List.getElem_toArray, List.getElem_cons_zero, List.getElem_cons_succ, List.setIfInBounds_toArray, List.set_cons_zero, List.set_cons_succ]
  refine wpAnyH_done (by kernel_rfl) ?_ _
  refine NoPanic.normal ?_
  obtain ⟨wA, hwA⟩ : ∃ X, w2.drew = X := ⟨_, rfl⟩
  rw [hwA]
  have hbA : Below w2.heap.size w2 wA := by rw [← hwA]; exact below_drew (Below.refl _ w2)
  have gA1 := pw_cell_below hbA gO0
  have hBA := (hbA.block b (blk_lt HB0.out)).trans HB0.out
  have fA := fun j => blk_frozen hBA j
  have HBA := Aside0.mk hBA
  have HbA := Aside0.mk hbA
  clear hHeld hwA hbA gL0 gO0 ci hBA e0 e1 e2 e3 gF
  go_upto_region 19 with (fail)
  refine wp_region_noPanic ?_
  refine wp_region_last_drew (S := (fun w' => w'.cell? ⟨b, 1, none⟩ = some (.slice (some ⟨gO, 0, none⟩) (no + 1) cO))) (ds := [14]) (by kernel_rfl) ?_ (fun hHeld => ?_)
  · exact gA1
  refine wpAnyLast_take (i := 0) (v := ?_) rfl (by kernel_rfl) (by kernel_rfl) (by kernel_rfl) (by kernel_rfl) (by kernel_rfl) (fun _ _ _ h => h) (Or.inl ⟨by rfl, ?_⟩) (by assumption) ?_
  rotate_left
  · intro w hSw
    go_simp
    try with_reducible rfl
  simp only [Act.put, List.getElem_toArray, List.getElem_cons_zero, List.getElem_cons_succ, List.setIfInBounds_toArray, List.set_cons_zero, List.set_cons_succ]
  refine wpAnyLast_take (i := 1) (v := ?_) rfl (by kernel_rfl) (by kernel_rfl) (by kernel_rfl) (by kernel_rfl) (by kernel_rfl) (fun _ _ _ h => h) (Or.inl ⟨by rfl, ?_⟩) (by assumption) ?_
  rotate_left
  · intro w hSw
    go_simp
    try with_reducible rfl
  simp only [Act.put, List.getElem_toArray, List.getElem_cons_zero, List.getElem_cons_succ, List.setIfInBounds_toArray, List.set_cons_zero, List.set_cons_succ]
  refine wpAnyLast_take (i := 2) (v := ?_) rfl (by kernel_rfl) (by kernel_rfl) (by kernel_rfl) (by kernel_rfl) (by kernel_rfl) (fun _ _ _ h => h) (Or.inl ⟨by rfl, ?_⟩) (by assumption) ?_
  rotate_left
  · intro w hSw
    go_simp
    try with_reducible rfl
  simp only [Act.put, List.getElem_toArray, List.getElem_cons_zero, List.getElem_cons_succ, List.setIfInBounds_toArray, List.set_cons_zero, List.set_cons_succ]
  refine wpAnyLast_take (i := 3) (v := ?_) rfl (by kernel_rfl) (by kernel_rfl) (by kernel_rfl) (by kernel_rfl) (by kernel_rfl) (fun _ _ _ h => h) (Or.inl ⟨by rfl, ?_⟩) (by assumption) ?_
  rotate_left
  · intro w hSw
    go_simp
    try with_reducible rfl
  simp only [Act.put, List.getElem_toArray, List.getElem_cons_zero, List.getElem_cons_succ, List.setIfInBounds_toArray, List.set_cons_zero, List.set_cons_succ]
  refine wpAnyLast_take (i := 4) (v := ?_) rfl (by kernel_rfl) (by kernel_rfl) (by kernel_rfl) (by kernel_rfl) (by kernel_rfl) (fun _ _ _ h => h) (Or.inl ⟨by rfl, ?_⟩) (by assumption) ?_
  rotate_left
  · intro w hSw
    go_simp
    try with_reducible rfl
  simp only [Act.put, List.getElem_toArray, List.getElem_cons_zero, List.getElem_cons_succ, List.setIfInBounds_toArray, List.set_cons_zero, List.set_cons_succ]
  refine wpAnyLast_take (i := 5) (v := ?_) rfl (by kernel_rfl) (by kernel_rfl) (by kernel_rfl) (by kernel_rfl) (by kernel_rfl) (fun _ _ _ h => h) (Or.inl ⟨by rfl, ?_⟩) (by assumption) ?_
  rotate_left
  · intro w hSw
    go_simp
    try with_reducible rfl
  simp only [Act.put, List.getElem_toArray, List.getElem_cons_zero, List.getElem_cons_succ, List.setIfInBounds_toArray, List.set_cons_zero, List.set_cons_succ]
  refine wpAnyLast_take (i := 6) (v := ?_) rfl (by kernel_rfl) (by kernel_rfl) (by kernel_rfl) (by kernel_rfl) (by kernel_rfl) (fun _ _ _ h => h) (Or.inl ⟨by rfl, ?_⟩) (by assumption) ?_
  rotate_left
  · intro w hSw
    go_simp
    try with_reducible rfl
  simp only [Act.put, List.getElem_toArray, List.getElem_cons_zero, List.getElem_cons_succ, List.setIfInBounds_toArray, List.set_cons_zero, List.set_cons_succ]
  refine wpAnyLast_take (i := 7) (v := ?_) rfl (by kernel_rfl) (by kernel_rfl) (by kernel_rfl) (by kernel_rfl) (by kernel_rfl) (fun _ _ _ h => h) (Or.inl ⟨by rfl, ?_⟩) (by assumption) ?_
  rotate_left
  · intro w hSw
    go_simp
    try with_reducible rfl
  simp only [Act.put, List.getElem_toArray, List.getElem_cons_zero, List.getElem_cons_succ, List.setIfInBounds_toArray, List.set_cons_zero, List.set_cons_succ]
  refine wpAnyLast_take (i := 8) (v := ?_) rfl (by kernel_rfl) (by kernel_rfl) (by kernel_rfl) (by kernel_rfl) (by kernel_rfl) (fun _ _ _ h => h) (Or.inl ⟨by rfl, ?_⟩) (by assumption) ?_
  rotate_left
  · intro w hSw
    go_simp
    try with_reducible rfl
  simp only [Act.put, List.getElem_toArray, List.getElem_cons_zero, List.getElem_cons_succ, List.setIfInBounds_toArray, List.set_cons_zero, List.set_cons_succ]
  refine wpAnyLast_take (i := 9) (v := ?_) rfl (by kernel_rfl) (by kernel_rfl) (by kernel_rfl) (by kernel_rfl) (by kernel_rfl) (fun _ _ _ h => h) (Or.inl ⟨by rfl, ?_⟩) (by assumption) ?_
  rotate_left
  · intro w hSw
    go_simp
    try with_reducible rfl
  simp only [Act.put, List.getElem_toArray, List.getElem_cons_zero, List.getElem_cons_succ, List.setIfInBounds_toArray, List.set_cons_zero, List.set_cons_succ]
  refine wpAnyLast_take (i := 10) (v := ?_) rfl (by kernel_rfl) (by kernel_rfl) (by kernel_rfl) (by kernel_rfl) (by kernel_rfl) (fun _ _ _ h => h) (Or.inl ⟨by rfl, ?_⟩) (by assumption) ?_
  rotate_left
  · intro w hSw
    go_simp
    try with_reducible rfl
  simp only [Act.put, List.getElem_toArray, List.getElem_cons_zero, List.getElem_cons_succ, List.setIfInBounds_toArray, List.set_cons_zero, List.set_cons_succ]
  refine wpAnyLast_take (i := 11) (v := .slice (some ⟨gO, 0, none⟩) no cO) rfl (by kernel_rfl) (by kernel_rfl) (by kernel_rfl) (by kernel_rfl) (by kernel_rfl) (fun _ _ _ h => h) (Or.inl ⟨by rfl, fun w _ => exec_cutH Try.underlying43 info3s (some ⟨gO, 0, none⟩) (no + 1) cO no hlt _ _ _ _ (by rfl) (by rfl) (by rfl) w⟩) (by assumption) ?_
  simp only [Act.put, List.getElem_toArray, List.getElem_cons_zero, List.getElem_cons_succ, List.setIfInBounds_toArray, List.set_cons_zero, List.set_cons_succ]
  refine wpAnyLast_take (i := 12) (v := ?_) rfl (by kernel_rfl) (by kernel_rfl) (by kernel_rfl) (by kernel_rfl) (by kernel_rfl) (fun _ _ _ h => h) (Or.inl ⟨by rfl, ?_⟩) (by assumption) ?_
  rotate_left
  · intro w hSw
    go_simp
    try with_reducible rfl
  simp only [Act.put, List.getElem_toArray, List.getElem_cons_zero, List.getElem_cons_succ, List.setIfInBounds_toArray, List.set_cons_zero, List.set_cons_succ]
  refine wpAnyLast_take (i := 13) (v := ?_) rfl (by kernel_rfl) (by kernel_rfl) (by kernel_rfl) (by kernel_rfl) (by kernel_rfl) (fun _ _ _ h => h) (Or.inl ⟨by rfl, ?_⟩) (by assumption) ?_
  rotate_left
  · intro w hSw
    go_simp
    try with_reducible rfl
  simp only [Act.put, List.getElem_toArray, List.getElem_cons_zero, List.getElem_cons_succ, List.setIfInBounds_toArray, List.set_cons_zero, List.set_cons_succ]
  refine wpAnyLast_ready (rs := [14]) (by kernel_rfl) (by simp) ?_
  refine AllReadyL.cons_last rfl (by decide) (fun K hK => ?_) AllReadyL.nil
  go_simp
  refine hK.out _ _ ?_
  clear hK K hHeld
  try simp only [Act.put, List.getElem_toArray, List.getElem_cons_zero, List.getElem_cons_succ, List.setIfInBounds_toArray, List.set_cons_zero, List.set_cons_succ]
  refine wpAnyLast_done (by kernel_rfl) ?_ _
  refine NoPanic.normal ?_
  obtain ⟨wB, hwB⟩ : ∃ X, (wA.setCell ⟨b, 1, none⟩ (.slice (some ⟨gO, 0, none⟩) no cO)).drew = X := ⟨_, rfl⟩
  rw [hwB]
  have hBD := HBA.out
  have HBB : Aside0 (wB.heap[b]? = some (.cells #[.slice (some ⟨gL, 0, none⟩) NL cL, .slice (some ⟨gO, 0, none⟩) no cO, .int .i64 m.far] 45 (0, 0))) := ⟨by
    rw [← hwB]
    exact blk_set hBD 1 _⟩
  have HEB : Aside0 (wB.heap[w.heap.size]? = some (.cells (evc x) 41 (0, 0))) := ⟨by
    rw [← hwB]
    have h : wA.heap[w.heap.size]? = some (.cells (evc x) 41 (0, 0)) := (HbA.out.block _ (blk_lt HRE.out)).trans HRE.out
    exact blk_far h (blk_ne h hBD (by decide)) _⟩
  have HLB : Aside0 (kN.R 38 wB 0 (more fp w.heap.size) (.slice (some ⟨gL, 0, none⟩) NL cL) (doneL m (-1))) := ⟨by
    rw [← hwB]
    exact Kd.R_drew (Kd.R_set (Kd.R_below HRL.out HbA.out) hBD (by decide) 1 _)⟩
  have HOB : Aside0 (kI.R 3 wB 0 (more fp w.heap.size) (.slice (some ⟨gO, 0, none⟩) no cO) O') := ⟨by
    rw [← hwB]
    have h := Kd.R_take (m := no) (Kd.R_below HRO.out HbA.out) (by rw [HNO.out]; omega)
    rw [HOO.out, show (O' ++ [i]).take no = O' from by rw [← HNOO.out]; simp] at h
    exact Kd.R_drew (Kd.R_set h hBD (by decide) 1 _)⟩
  have HFB : Aside0 (Fr fp w wB) := ⟨by
    rw [← hwB]
    exact (((Fr.of_below (fp := fp) HBW.out).trans (Fr.of_below (fp := fp) HbA.out) (fun j hj => .inl hj)).set ⟨b, 1, none⟩ (.inl hfbb) _).trans (Fr.of_below (fp := fp) (below_drew (Below.refl _ _))) (fun j hj => .inl hj)⟩
  have gB0 : wB.cell? ⟨b, 0, none⟩ = some (.slice (some ⟨gL, 0, none⟩) NL cL) := cell_of_row _ _ _ _ _ _ HBB.out
  have HYR := Aside0.mk (row_at HLB.out HYD.out)
  clear hwB hBD fA gA1
  go_upto_region 21 with ((with_reducible refine gate_ (.store 3 (.tmp 148) (.tmp 146)) rfl ?_); refine Kd.R_store kN (w0 := wB) 0 rfl rfl 3 (.tmp 148) (.tmp 146) rfl 38 (g := gL) (n := NL) (cap := cL) (o' := i * 4 + 2) (i : Int) 2 (doneL m (-1)) (toN (at_ + x.a) y) (.int .i64 (at_ + x.a)) [.int .i64 (at_ + x.a)] (ndc (toN (-1) y)).toList (more fp w.heap.size) (fun _ => False) rfl (by simp [kN, flat]) rfl rfl info3s (fun q hq => by simp at hq; subst hq; rfl) HLB.out (by omega) (by omega) rfl HYR.out (Nat.le_succ 3) rfl (fun _ h => h.elim) (Below.refl _ _) ?_; intro w5 hR5 _ hg5; have HR5 := Aside0.mk hR5; have HG5 := Aside0.mk hg5; clear hR5 hg5)
  have HB5 := Aside0.mk ((HG5.out.block b (blk_lt HBB.out) (Kd.R_ne HLB.out HBB.out (by decide))).trans HBB.out)
  have HE5 := Aside0.mk ((HG5.out.block w.heap.size (blk_lt HEB.out) (Kd.R_ne HLB.out HEB.out (by decide))).trans HEB.out)
  have HO5 := Aside0.mk (Kd.R_over HOB.out HLB.out (by decide) HG5.out)
  have HF5 := Aside0.mk (HFB.out.grown HG5.out (fun k e => HLB.out.1 k e))
  have e15 : w5.cell? ⟨w.heap.size, 1, none⟩ = some (.int .u8 x.k) := cell_of_row _ _ _ _ _ _ HE5.out
  have gB0 : w5.cell? ⟨b, 0, none⟩ = some (.slice (some ⟨gL, 0, none⟩) NL cL) := cell_of_row _ _ _ _ _ _ HB5.out
  have gB2 : w5.cell? ⟨b, 2, none⟩ = some (.int .i64 m.far) := cell_of_row _ _ _ _ _ _ HB5.out
  have fB2 := blk_frozen HB5.out 2
  have HA : Aside0 (wrap64 (x.a + at_) = at_ + x.a) := ⟨by
    have hA := HNB.out
    unfold Bad at hA
    rw [← i64_w, Int.add_comm]
    exact IntWalk.i64_in _ (by omega)⟩
  clear HLB HOB HBB HEB HFB HRL HRO HBA HbA HG5
  have HR6 : Aside0 (kN.R 38 w5 0 (more fp w.heap.size) (.slice (some ⟨gL, 0, none⟩) NL cL) ((doneL m (-1)).set i (toN (at_ + x.a) y))) := ⟨by
    have h := HR5.out
    simp only [Int.toNat_natCast] at h
    exact h⟩
  clear HR5
  by_cases hk0 : x.k = 0
  · have bk : (x.k != 0) = false := by simp [bne, hk0]
    have HK0 := Aside0.mk hk0
    clear hk0
    go_wp2_with (fail)
    go_ret
    refine ⟨by rw [HZ.out]; rfl, fun _ => ⟨.slice (some ⟨gL, 0, none⟩) NL cL, .slice (some ⟨gO, 0, none⟩) no cO, ?_⟩, HF5.out.set ⟨b, 2, none⟩ (.inl hfbb) _⟩
    refine end_fin hs HOO.out HY.out HA.out HO.out ?_ HO5.out HB5.out hfbb
    rw [if_pos HK0.out]
    exact HR6.out
  · have bk0 : (x.k == 0) = false := beq_eq_false_iff_ne.mpr hk0
    have bk : (x.k != 0) = true := by simp [bne, bk0]
    have HK0 := Aside0.mk hk0
    have HYS : Aside0 (((doneL m (-1)).set i (toN (at_ + x.a) y))[i]? = some (toN (at_ + x.a) y)) := ⟨List.getElem?_set_self (by rw [HNL.out]; exact hiN)⟩
    have HYQ := Aside0.mk (row_at HR6.out HYS.out)
    have cy : w5.cell? ⟨gL, i * 4, none⟩ = some (.int .u8 y.k) := HYQ.out 0 _ rfl
    obtain ⟨cs, hcs⟩ : ∃ cs, w5.heap[gL]? = some (.cells cs 38 (0, 0)) := by
      obtain ⟨_, _, _, q, hq, cs, hcs⟩ := (Kd.R_bound HR6.out).1 gL rfl
      rcases List.mem_cons.1 hq with h | h
      · exact ⟨cs, by rw [← h]; exact hcs⟩
      · cases h
    have fL := fun j => blk_frozen hcs j
    clear hk0 hcs bk0
    go_upto_region 22 with (fail)
    refine wp_region_noPanic ?_
    refine wp_region_last_drew (S := (fun w' => w'.cell? ⟨b, 0, none⟩ = some (.slice (some ⟨gL, 0, none⟩) NL cL) ∧ w'.cell? ⟨w.heap.size, 1, none⟩ = some (.int .u8 x.k))) (ds := [9]) (by kernel_rfl) ?_ (fun hHeld => ?_)
    · exact ⟨gB0, e15⟩
    refine wpAnyLast_take (i := 0) (v := ?_) rfl (by kernel_rfl) (by kernel_rfl) (by kernel_rfl) (by kernel_rfl) (by kernel_rfl) (fun _ _ _ h => h) (Or.inl ⟨by rfl, ?_⟩) (by assumption) ?_
    rotate_left
    · intro w hSw
      go_simp
      try with_reducible rfl
    simp only [Act.put, List.getElem_toArray, List.getElem_cons_zero, List.getElem_cons_succ, List.setIfInBounds_toArray, List.set_cons_zero, List.set_cons_succ]
    refine wpAnyLast_take (i := 1) (v := ?_) rfl (by kernel_rfl) (by kernel_rfl) (by kernel_rfl) (by kernel_rfl) (by kernel_rfl) (fun _ _ _ h => h) (Or.inl ⟨by rfl, ?_⟩) (by assumption) ?_
    rotate_left
    · intro w hSw
      go_simp
      try with_reducible rfl
    simp only [Act.put, List.getElem_toArray, List.getElem_cons_zero, List.getElem_cons_succ, List.setIfInBounds_toArray, List.set_cons_zero, List.set_cons_succ]
    refine wpAnyLast_take (i := 2) (v := ?_) rfl (by kernel_rfl) (by kernel_rfl) (by kernel_rfl) (by kernel_rfl) (by kernel_rfl) (fun _ _ _ h => h) (Or.inl ⟨by rfl, ?_⟩) (by assumption) ?_
    rotate_left
    · intro w hSw
      go_simp
      try with_reducible rfl
    simp only [Act.put, List.getElem_toArray, List.getElem_cons_zero, List.getElem_cons_succ, List.setIfInBounds_toArray, List.set_cons_zero, List.set_cons_succ]
    refine wpAnyLast_take (i := 3) (v := ?_) rfl (by kernel_rfl) (by kernel_rfl) (by kernel_rfl) (by kernel_rfl) (by kernel_rfl) (fun _ _ _ h => h) (Or.inl ⟨by rfl, ?_⟩) (by assumption) ?_
    rotate_left
    · intro w hSw
      go_simp
      try with_reducible rfl
    simp only [Act.put, List.getElem_toArray, List.getElem_cons_zero, List.getElem_cons_succ, List.setIfInBounds_toArray, List.set_cons_zero, List.set_cons_succ]
    refine wpAnyLast_take (i := 4) (v := ?_) rfl (by kernel_rfl) (by kernel_rfl) (by kernel_rfl) (by kernel_rfl) (by kernel_rfl) (fun _ _ _ h => h) (Or.inl ⟨by rfl, ?_⟩) (by assumption) ?_
    rotate_left
    · intro w hSw
      go_simp
      try with_reducible rfl
    simp only [Act.put, List.getElem_toArray, List.getElem_cons_zero, List.getElem_cons_succ, List.setIfInBounds_toArray, List.set_cons_zero, List.set_cons_succ]
    refine wpAnyLast_take (i := 5) (v := ?_) rfl (by kernel_rfl) (by kernel_rfl) (by kernel_rfl) (by kernel_rfl) (by kernel_rfl) (fun _ _ _ h => h) (Or.inl ⟨by rfl, ?_⟩) (by assumption) ?_
    rotate_left
    · intro w hSw
      go_simp
      try with_reducible rfl
    simp only [Act.put, List.getElem_toArray, List.getElem_cons_zero, List.getElem_cons_succ, List.setIfInBounds_toArray, List.set_cons_zero, List.set_cons_succ]
    refine wpAnyLast_take (i := 6) (v := ?_) rfl (by kernel_rfl) (by kernel_rfl) (by kernel_rfl) (by kernel_rfl) (by kernel_rfl) (fun _ _ _ h => h) (Or.inl ⟨by rfl, ?_⟩) (by assumption) ?_
    rotate_left
    · intro w hSw
      go_simp
      try with_reducible rfl
    simp only [Act.put, List.getElem_toArray, List.getElem_cons_zero, List.getElem_cons_succ, List.setIfInBounds_toArray, List.set_cons_zero, List.set_cons_succ]
    refine wpAnyLast_take (i := 7) (v := ?_) rfl (by kernel_rfl) (by kernel_rfl) (by kernel_rfl) (by kernel_rfl) (by kernel_rfl) (fun _ _ _ h => h) (Or.inl ⟨by rfl, ?_⟩) (by assumption) ?_
    rotate_left
    · intro w hSw
      go_simp
      try with_reducible rfl
    simp only [Act.put, List.getElem_toArray, List.getElem_cons_zero, List.getElem_cons_succ, List.setIfInBounds_toArray, List.set_cons_zero, List.set_cons_succ]
    refine wpAnyLast_take (i := 8) (v := ?_) rfl (by kernel_rfl) (by kernel_rfl) (by kernel_rfl) (by kernel_rfl) (by kernel_rfl) (fun _ _ _ h => h) (Or.inl ⟨by rfl, ?_⟩) (by assumption) ?_
    rotate_left
    · intro w hSw
      go_simp
      try with_reducible rfl
    simp only [Act.put, List.getElem_toArray, List.getElem_cons_zero, List.getElem_cons_succ, List.setIfInBounds_toArray, List.set_cons_zero, List.set_cons_succ]
    refine wpAnyLast_ready (rs := [9]) (by kernel_rfl) (by simp) ?_
    refine AllReadyL.cons_last rfl (by decide) (fun K hK => ?_) AllReadyL.nil
    go_simp
    refine hK.out _ _ ?_
    clear hK K hHeld
    try simp only [Act.put, List.getElem_toArray, List.getElem_cons_zero, List.getElem_cons_succ, List.setIfInBounds_toArray, List.set_cons_zero, List.set_cons_succ]
    refine wpAnyLast_done (by kernel_rfl) ?_ _
    refine NoPanic.normal ?_
    obtain ⟨wE, hwE⟩ : ∃ X, (w5.setCell ⟨gL, i * 4, none⟩ (.int .u8 x.k)).drew = X := ⟨_, rfl⟩
    rw [hwE]
    have hcc : ∀ (j : Nat) (u : Value), (ndc (toN (at_ + x.a) y)).toList[j]? = some u → w5.cell? ⟨gL, (i : Int).toNat * 4 + j, none⟩ = some u := by
      intro j u hu
      rw [Int.toNat_natCast]
      exact HYQ.out j u hu
    obtain ⟨hs1, hs2⟩ := Kd.R_seg HR6.out (i : Int) i0 i1 (c := (ndc (toN (at_ + x.a) y)).toList) (seg := [.int .u8 x.k]) (j := 0) (x' := (⟨x.k, y.f, at_ + x.a, y.d⟩ : Nd)) (okp := fun _ => False) rfl hcc (by show 1 ≤ 4; omega) rfl (fun _ h => h.elim)
    have hset : w5.setCells gL ((i : Int).toNat * kN.sz + 0) [.int .u8 x.k] = w5.setCell ⟨gL, i * 4, none⟩ (.int .u8 x.k) := by
      rw [Int.toNat_natCast]
      rfl
    rw [hset] at hs1 hs2
    rw [Int.toNat_natCast, List.set_set] at hs1
    have HBE : Aside0 (wE.heap[b]? = some (.cells #[.slice (some ⟨gL, 0, none⟩) NL cL, .slice (some ⟨gO, 0, none⟩) no cO, .int .i64 m.far] 45 (0, 0))) := ⟨by
      rw [← hwE]
      exact (hs2.block b (blk_lt HB5.out) (Kd.R_ne HR6.out HB5.out (by decide))).trans HB5.out⟩
    have HRE6 : Aside0 (kN.R 38 wE 0 (more fp w.heap.size) (.slice (some ⟨gL, 0, none⟩) NL cL) ((doneL m (-1)).set i ⟨x.k, y.f, at_ + x.a, y.d⟩)) := ⟨by
      rw [← hwE]
      exact Kd.R_drew hs1⟩
    have HOE : Aside0 (kI.R 3 wE 0 (more fp w.heap.size) (.slice (some ⟨gO, 0, none⟩) no cO) O') := ⟨by
      rw [← hwE]
      exact Kd.R_drew (Kd.R_over HO5.out HR6.out (by decide) hs2)⟩
    have HFE : Aside0 (Fr fp w wE) := ⟨by
      rw [← hwE]
      exact (HF5.out.grown hs2 (fun k e => HR6.out.1 k e)).trans (Fr.of_below (fp := fp) (below_drew (Below.refl _ _))) (fun j hj => .inl hj)⟩
    have gE2 : wE.cell? ⟨b, 2, none⟩ = some (.int .i64 m.far) := cell_of_row _ _ _ _ _ _ HBE.out
    have fE2 := blk_frozen HBE.out 2
    clear hwE hs1 hs2 hset hcc gB2 fB2 fL cy e15
    go_wp2_with (fail)
    go_ret
    refine ⟨by rw [HZ.out]; rfl, fun _ => ⟨.slice (some ⟨gL, 0, none⟩) NL cL, .slice (some ⟨gO, 0, none⟩) no cO, ?_⟩, HFE.out.set ⟨b, 2, none⟩ (.inl hfbb) _⟩
    refine end_fin hs HOO.out HY.out HA.out HO.out ?_ HOE.out HBE.out hfbb
    rw [if_neg HK0.out]
    exact HRE6.out
end Go.Proofs.Ytfaibpdoalbkpaa.Bu
