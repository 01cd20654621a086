/- even: the right is deeper, and its right side. -/
import Derived.Test.YtpchkligbfmeiaaTl
namespace Go.Proofs.Ytpchkligbfmeiaa.Se
open Go.RowKit Go.Proofs.YtpchkligbfmeiaaW.PrintWords Go.Proofs.YtpchkligbfmeiaaW.PrintLast Go.Proofs.YtpchkligbfmeiaaW.PrintMore
attribute [local go_sem] max2_int min2_int max_two min_two max_three min_three max_four min_four
set_option linter.unusedVariables false
set_option linter.unusedSimpArgs false
set_option maxRecDepth 100000 in
set_option maxHeartbeats 4000000 in
theorem even_4 (l rl rr : Tr) (ri : ByteArray) (rz : Int) (it : ByteArray) (z : Int) (vl vm vr : Value) (w : World) (hl : At w (l) vl) (hm : Mid w it z vm) (hr : At w (.node rl ri rz rr) vr) (hf : FitL (toL (l) ++ (it, z) :: toL (.node rl ri rz rr))) (h1 : depT l - depT (.node rl ri rz rr) < -1) (h2 : ¬ depT rr < depT rl) :
    Calls Try.prog 29 #[vl, vm, vr] w fun e w' => Row w w' e (toL (l) ++ (it, z) :: toL (.node rl ri rz rr)) := by
  obtain ⟨a1, rfl⟩ := hl.ptr
  obtain ⟨a2, rfl⟩ := hr.ptr
  obtain ⟨a3, rfl⟩ : ∃ a, vm = .pointer a := by obtain ⟨b, rfl, _⟩ := hm; exact ⟨_, rfl⟩
  have HL := Aside0.mk hl
  have HR := Aside0.mk hr
  have HM := Aside0.mk hm
  have HF := Aside0.mk hf
  have hdl := depT_bd (l)
  have hdr := depT_bd (.node rl ri rz rr)
  have hnl : cntT (l) ≤ 8388608 := by rw [cntT_toL]; have := hf.n; simp only [List.length_append] at this; omega
  have hnr : cntT (.node rl ri rz rr) ≤ 8388608 := by rw [cntT_toL]; have := hf.n; simp only [List.length_append, List.length_cons] at this; omega
  have hd1 := fun w' h => depth_c (l) (.pointer a1) w' h
  have hd2 := fun w' h => depth_c (.node rl ri rz rr) (.pointer a2) w' h
  obtain ⟨dl, edl⟩ : ∃ x, depT (l) = x := ⟨_, rfl⟩
  obtain ⟨dr, edr⟩ : ∃ x, depT (.node rl ri rz rr) = x := ⟨_, rfl⟩
  rw [edl] at hd1 hdl h1
  rw [edr] at hd2 hdr h1
  have D1 := Aside0.mk hd1
  have D2 := Aside0.mk hd2
  have hw1 : IntKind.i64.wrap (dl - dr) = dl - dr := IntWalk.i64_in _ (by omega)
  clear hl hr hm hf hd1 hd2 edl edr hnl hnr
  go_enter Try.func29, Try.ntmps29
  obtain ⟨b, v1, v2, ha1, hb, hrl, hrr⟩ := HR.out
  injection ha1 with ha1
  subst ha1
  have d0 : w.cell? ⟨b, 0, none⟩ = some v1 := cell_of_row _ _ _ _ _ _ hb
  have d1 : w.cell? ⟨b, 1, none⟩ = some v2 := cell_of_row _ _ _ _ _ _ hb
  obtain ⟨q1, rfl⟩ := hrl.ptr
  obtain ⟨q2, rfl⟩ := hrr.ptr
  have HRL := Aside0.mk hrl
  have HRR := Aside0.mk hrr
  have hd3 := fun w' h => depth_c (rl) (.pointer q1) w' h
  have hd4 := fun w' h => depth_c (rr) (.pointer q2) w' h
  obtain ⟨drl, edrl⟩ : ∃ x, depT (rl) = x := ⟨_, rfl⟩
  obtain ⟨drr, edrr⟩ : ∃ x, depT (rr) = x := ⟨_, rfl⟩
  rw [edrl] at hd3 h2
  rw [edrr] at hd4 h2
  have D3 := Aside0.mk hd3
  have D4 := Aside0.mk hd4
  have h1' : ¬ 1 < dl - dr := by omega
  clear hb hrl hrr hd3 hd4 edrl edrr
  go_upto_region 7 with (first
      | (refine (D1.out w HL.out).mono ?_; rintro _ w9 ⟨rfl, h9⟩; rw [h9]; clear h9 w9)
      | (refine (D2.out w HR.out).mono ?_; rintro _ w9 ⟨rfl, h9⟩; rw [h9]; clear h9 w9))
  go_quiet (first
    | refine Calls.quiet_of_same (D3.out _ (HRL.out.move (fun _ _ => rfl)))
    | refine Calls.quiet_of_same (D4.out _ (HRR.out.move (fun _ _ => rfl))))
  have B0 : Below w.heap.size w (w.drewN nq).drew := below_drew (pw_below_drewN (Below.refl _ w) nq)
  go_upto_region 9 with (fail)
  refine wp_region_noPanic ?_
  refine wp_region_held_drew (S := (fun w' => w'.cell? ⟨b, 0, none⟩ = some (.pointer q1) ∧ w'.cell? ⟨b, 1, none⟩ = some (.pointer q2))) (by kernel_rfl) ?_ (fun hHeld => ?_)
  · exact ⟨d0, d1⟩
  refine wpAnyH_take (i := 0) (v := ?_) rfl (by kernel_rfl) (by kernel_rfl) (by kernel_rfl) (fun _ _ _ h => h) (Or.inl ⟨by rfl, ?_⟩) (by assumption) ?_
  rotate_left
  · intro w hSw
    go_simp
    try with_reducible rfl
  simp only [Act.put, List.getElem_toArray, List.getElem_cons_zero, List.getElem_cons_succ, List.setIfInBounds_toArray, List.set_cons_zero, List.set_cons_succ]
  refine wpAnyH_take (i := 1) (v := ?_) rfl (by kernel_rfl) (by kernel_rfl) (by kernel_rfl) (fun _ _ _ h => h) (Or.inl ⟨by rfl, ?_⟩) (by assumption) ?_
  rotate_left
  · intro w hSw
    go_simp
    try with_reducible rfl
  simp only [Act.put, List.getElem_toArray, List.getElem_cons_zero, List.getElem_cons_succ, List.setIfInBounds_toArray, List.set_cons_zero, List.set_cons_succ]
  refine wpAnyH_take (i := 2) (v := ?_) rfl (by kernel_rfl) (by kernel_rfl) (by kernel_rfl) (fun _ _ _ h => h) (Or.inl ⟨by rfl, ?_⟩) (by assumption) ?_
  rotate_left
  · intro w hSw
    go_simp
    try with_reducible rfl
  simp only [Act.put, List.getElem_toArray, List.getElem_cons_zero, List.getElem_cons_succ, List.setIfInBounds_toArray, List.set_cons_zero, List.set_cons_succ]
  refine wpAnyH_take (i := 3) (v := ?_) rfl (by kernel_rfl) (by kernel_rfl) (by kernel_rfl) (fun _ _ _ h => h) (Or.inl ⟨by rfl, ?_⟩) (by assumption) ?_
  rotate_left
  · intro w hSw
    go_simp
    try with_reducible rfl
  simp only [Act.put, List.getElem_toArray, List.getElem_cons_zero, List.getElem_cons_succ, List.setIfInBounds_toArray, List.set_cons_zero, List.set_cons_succ]
  refine wpAnyH_take (i := 4) (v := ?_) rfl (by kernel_rfl) (by kernel_rfl) (by kernel_rfl) (fun _ _ _ h => h) (Or.inl ⟨by rfl, ?_⟩) (by assumption) ?_
  rotate_left
  · intro w hSw
    go_simp
    try with_reducible rfl
  simp only [Act.put, List.getElem_toArray, List.getElem_cons_zero, List.getElem_cons_succ, List.setIfInBounds_toArray, List.set_cons_zero, List.set_cons_succ]
  refine wpAnyH_take (i := 5) (v := ?_) rfl (by kernel_rfl) (by kernel_rfl) (by kernel_rfl) (fun _ _ _ h => h) (Or.inl ⟨by rfl, ?_⟩) (by assumption) ?_
  rotate_left
  · intro w hSw
    go_simp
    try with_reducible rfl
  simp only [Act.put, List.getElem_toArray, List.getElem_cons_zero, List.getElem_cons_succ, List.setIfInBounds_toArray, List.set_cons_zero, List.set_cons_succ]
  refine wpAnyH_take (i := 7) (v := ?_) rfl (by kernel_rfl) (by kernel_rfl) (by kernel_rfl) (fun _ _ _ h => h) (Or.inl ⟨by rfl, ?_⟩) (by assumption) ?_
  rotate_left
  · intro w hSw
    go_simp
    try with_reducible rfl
  simp only [Act.put, List.getElem_toArray, List.getElem_cons_zero, List.getElem_cons_succ, List.setIfInBounds_toArray, List.set_cons_zero, List.set_cons_succ]
  refine wpAnyH_take (i := 8) (v := ?_) rfl (by kernel_rfl) (by kernel_rfl) (by kernel_rfl) (fun _ _ _ h => h) (Or.inl ⟨by rfl, ?_⟩) (by assumption) ?_
  rotate_left
  · intro w hSw
    go_simp
    try with_reducible rfl
  simp only [Act.put, List.getElem_toArray, List.getElem_cons_zero, List.getElem_cons_succ, List.setIfInBounds_toArray, List.set_cons_zero, List.set_cons_succ]
  refine wpAnyH_take (i := 9) (v := ?_) rfl (by kernel_rfl) (by kernel_rfl) (by kernel_rfl) (fun _ _ _ h => h) (Or.inl ⟨by rfl, ?_⟩) (by assumption) ?_
  rotate_left
  · intro w hSw
    go_simp
    try with_reducible rfl
  simp only [Act.put, List.getElem_toArray, List.getElem_cons_zero, List.getElem_cons_succ, List.setIfInBounds_toArray, List.set_cons_zero, List.set_cons_succ]
  refine wpAnyH_take (i := 10) (v := ?_) rfl (by kernel_rfl) (by kernel_rfl) (by kernel_rfl) (fun _ _ _ h => h) (Or.inl ⟨by rfl, ?_⟩) (by assumption) ?_
  rotate_left
  · intro w hSw
    go_simp
    try with_reducible rfl
  simp only [Act.put, List.getElem_toArray, List.getElem_cons_zero, List.getElem_cons_succ, List.setIfInBounds_toArray, List.set_cons_zero, List.set_cons_succ]
  refine wpAnyH_take (i := 11) (v := ?_) rfl (by kernel_rfl) (by kernel_rfl) (by kernel_rfl) (fun _ _ _ h => h) (Or.inl ⟨by rfl, ?_⟩) (by assumption) ?_
  rotate_left
  · intro w hSw
    go_simp
    try with_reducible rfl
  simp only [Act.put, List.getElem_toArray, List.getElem_cons_zero, List.getElem_cons_succ, List.setIfInBounds_toArray, List.set_cons_zero, List.set_cons_succ]
  refine wpAnyH_ready (rs := [6]) (by kernel_rfl) (by simp) ?_
  refine AllReadyH.cons rfl (fun K hK => ?_) AllReadyH.nil
  go_simp
  refine (lnk l rl it z (.pointer a1) (.pointer a3) (.pointer q1) ((w.drewN nq).drew) (HL.out.move (fun _ _ => rfl)) HM.out (HRL.out.move (fun _ _ => rfl)) (a := []) (c := (ri, rz) :: toL rr) HF.out (by simp [toL])).mono ?_
  rintro _ w5 ⟨v5, rfl, h5, hb5⟩
  have B1 := B0.trans (hb5.mono B0.size)
  refine hK.out _ _ ⟨pw_cell_below B1 d0, pw_cell_below B1 d1⟩ (fun hHeld2 => ?_)
  clear hK K hHeld
  have hHeld := hHeld2
  clear hHeld2
  try simp only [Act.put, List.getElem_toArray, List.getElem_cons_zero, List.getElem_cons_succ, List.setIfInBounds_toArray, List.set_cons_zero, List.set_cons_succ]
  refine wpAnyH_ready (rs := [12]) (by kernel_rfl) (by simp) ?_
  refine AllReadyH.cons rfl (fun K hK => ?_) AllReadyH.nil
  go_simp
  refine (lnk (.node l it z rl) rr ri rz v5 (.pointer (some ⟨b, 0, none⟩)) (.pointer q2) w5 h5 (HR.out.mid.below B1) (HRR.out.below B1) (a := []) (c := []) HF.out (by simp [toL])).mono ?_
  rintro _ w6 ⟨v6, rfl, h6, hb6⟩
  have B3 := B1.trans (hb6.mono B1.size)
  refine hK.out _ _ ⟨pw_cell_below B3 d0, pw_cell_below B3 d1⟩ (fun hHeld2 => ?_)
  clear hK K hHeld
  have hHeld := hHeld2
  clear hHeld2
  try simp only [Act.put, List.getElem_toArray, List.getElem_cons_zero, List.getElem_cons_succ, List.setIfInBounds_toArray, List.set_cons_zero, List.set_cons_succ]
  refine wpAnyH_take (i := 13) (v := ?_) rfl (by kernel_rfl) (by kernel_rfl) (by kernel_rfl) (fun _ _ _ h => h) (Or.inl ⟨by rfl, ?_⟩) (by assumption) ?_
  rotate_left
  · intro w hSw
    go_simp
    try with_reducible rfl
  simp only [Act.put, List.getElem_toArray, List.getElem_cons_zero, List.getElem_cons_succ, List.setIfInBounds_toArray, List.set_cons_zero, List.set_cons_succ]
  refine wpAnyH_done (by kernel_rfl) ?_ _
  refine NoPanic.normal ?_
  go_wp2_with (fail)
  go_ret
  exact ⟨.node (.node l it z rl) ri rz rr, _, rfl, h6, by simp [toL], B3⟩
end Go.Proofs.Ytpchkligbfmeiaa.Se
