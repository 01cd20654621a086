/- even: the left is deeper, and its left side. -/
import Derived.Test.YtpchkligbfmeiaaTl
namespace Go.Proofs.Ytpchkligbfmeiaa.Se
open Go.RowKit Go.Proofs.YtpchkligbfmeiaaW.PrintWords Go.Proofs.YtpchkligbfmeiaaW.PrintLast Go.Proofs.YtpchkligbfmeiaaW.PrintMore
attribute [local go_sem] max2_int min2_int max_two min_two max_three min_three max_four min_four
set_option linter.unusedVariables false
set_option linter.unusedSimpArgs false
set_option maxRecDepth 100000 in
set_option maxHeartbeats 4000000 in
theorem even_2 (ll lr r : Tr) (li : ByteArray) (lz : Int) (it : ByteArray) (z : Int) (vl vm vr : Value) (w : World) (hl : At w (.node ll li lz lr) vl) (hm : Mid w it z vm) (hr : At w (r) vr) (hf : FitL (toL (.node ll li lz lr) ++ (it, z) :: toL (r))) (h1 : 1 < depT (.node ll li lz lr) - depT r) (h2 : ¬ depT ll < depT lr) :
    Calls Try.prog 29 #[vl, vm, vr] w fun e w' => Row w w' e (toL (.node ll li lz lr) ++ (it, z) :: toL (r)) := by
  obtain ⟨a1, rfl⟩ := hl.ptr
  obtain ⟨a2, rfl⟩ := hr.ptr
  obtain ⟨a3, rfl⟩ : ∃ a, vm = .pointer a := by obtain ⟨b, rfl, _⟩ := hm; exact ⟨_, rfl⟩
  have HL := Aside0.mk hl
  have HR := Aside0.mk hr
  have HM := Aside0.mk hm
  have HF := Aside0.mk hf
  have hdl := depT_bd (.node ll li lz lr)
  have hdr := depT_bd (r)
  have hnl : cntT (.node ll li lz lr) ≤ 8388608 := by rw [cntT_toL]; have := hf.n; simp only [List.length_append] at this; omega
  have hnr : cntT (r) ≤ 8388608 := by rw [cntT_toL]; have := hf.n; simp only [List.length_append, List.length_cons] at this; omega
  have hd1 := fun w' h => depth_c (.node ll li lz lr) (.pointer a1) w' h
  have hd2 := fun w' h => depth_c (r) (.pointer a2) w' h
  obtain ⟨dl, edl⟩ : ∃ x, depT (.node ll li lz lr) = x := ⟨_, rfl⟩
  obtain ⟨dr, edr⟩ : ∃ x, depT (r) = x := ⟨_, rfl⟩
  rw [edl] at hd1 hdl h1
  rw [edr] at hd2 hdr h1
  have D1 := Aside0.mk hd1
  have D2 := Aside0.mk hd2
  have hw1 : IntKind.i64.wrap (dl - dr) = dl - dr := IntWalk.i64_in _ (by omega)
  clear hl hr hm hf hd1 hd2 edl edr hnl hnr
  go_enter Try.func29, Try.ntmps29
  obtain ⟨b, v1, v2, ha1, hb, hll, hlr⟩ := HL.out
  injection ha1 with ha1
  subst ha1
  have d0 : w.cell? ⟨b, 0, none⟩ = some v1 := cell_of_row _ _ _ _ _ _ hb
  have d1 : w.cell? ⟨b, 1, none⟩ = some v2 := cell_of_row _ _ _ _ _ _ hb
  obtain ⟨q1, rfl⟩ := hll.ptr
  obtain ⟨q2, rfl⟩ := hlr.ptr
  have HLL := Aside0.mk hll
  have HLR := Aside0.mk hlr
  have hd3 := fun w' h => depth_c (ll) (.pointer q1) w' h
  have hd4 := fun w' h => depth_c (lr) (.pointer q2) w' h
  obtain ⟨dll, edll⟩ : ∃ x, depT (ll) = x := ⟨_, rfl⟩
  obtain ⟨dlr, edlr⟩ : ∃ x, depT (lr) = x := ⟨_, rfl⟩
  rw [edll] at hd3 h2
  rw [edlr] at hd4 h2
  have D3 := Aside0.mk hd3
  have D4 := Aside0.mk hd4
  clear hb hll hlr hd3 hd4 edll edlr
  go_upto_region 3 with (first
      | (refine (D1.out w HL.out).mono ?_; rintro _ w9 ⟨rfl, h9⟩; rw [h9]; clear h9 w9)
      | (refine (D2.out w HR.out).mono ?_; rintro _ w9 ⟨rfl, h9⟩; rw [h9]; clear h9 w9))
  go_quiet (first
    | refine Calls.quiet_of_same (D4.out _ (HLR.out.move (fun _ _ => rfl)))
    | refine Calls.quiet_of_same (D3.out _ (HLL.out.move (fun _ _ => rfl))))
  have B0 : Below w.heap.size w (w.drewN nq).drew := below_drew (pw_below_drewN (Below.refl _ w) nq)
  go_upto_region 5 with (fail)
  refine wp_region_noPanic ?_
  refine wp_region_held_drew (S := (fun w' => w'.cell? ⟨b, 0, none⟩ = some (.pointer q1) ∧ w'.cell? ⟨b, 1, none⟩ = some (.pointer q2))) (by kernel_rfl) ?_ (fun hHeld => ?_)
  · exact ⟨d0, d1⟩
  refine wpAnyH_take (i := 0) (v := ?_) rfl (by kernel_rfl) (by kernel_rfl) (by kernel_rfl) (fun _ _ _ h => h) (Or.inl ⟨by rfl, ?_⟩) (by assumption) ?_
  rotate_left
  · intro w hSw
    go_simp
    try with_reducible rfl
  simp only [Act.put, List.getElem_toArray, List.getElem_cons_zero, List.getElem_cons_succ, List.setIfInBounds_toArray, List.set_cons_zero, List.set_cons_succ]
  refine wpAnyH_take (i := 1) (v := ?_) rfl (by kernel_rfl) (by kernel_rfl) (by kernel_rfl) (fun _ _ _ h => h) (Or.inl ⟨by rfl, ?_⟩) (by assumption) ?_
  rotate_left
  · intro w hSw
    go_simp
    try with_reducible rfl
  simp only [Act.put, List.getElem_toArray, List.getElem_cons_zero, List.getElem_cons_succ, List.setIfInBounds_toArray, List.set_cons_zero, List.set_cons_succ]
  refine wpAnyH_take (i := 2) (v := ?_) rfl (by kernel_rfl) (by kernel_rfl) (by kernel_rfl) (fun _ _ _ h => h) (Or.inl ⟨by rfl, ?_⟩) (by assumption) ?_
  rotate_left
  · intro w hSw
    go_simp
    try with_reducible rfl
  simp only [Act.put, List.getElem_toArray, List.getElem_cons_zero, List.getElem_cons_succ, List.setIfInBounds_toArray, List.set_cons_zero, List.set_cons_succ]
  refine wpAnyH_take (i := 3) (v := ?_) rfl (by kernel_rfl) (by kernel_rfl) (by kernel_rfl) (fun _ _ _ h => h) (Or.inl ⟨by rfl, ?_⟩) (by assumption) ?_
  rotate_left
  · intro w hSw
    go_simp
    try with_reducible rfl
  simp only [Act.put, List.getElem_toArray, List.getElem_cons_zero, List.getElem_cons_succ, List.setIfInBounds_toArray, List.set_cons_zero, List.set_cons_succ]
  refine wpAnyH_take (i := 4) (v := ?_) rfl (by kernel_rfl) (by kernel_rfl) (by kernel_rfl) (fun _ _ _ h => h) (Or.inl ⟨by rfl, ?_⟩) (by assumption) ?_
  rotate_left
  · intro w hSw
    go_simp
    try with_reducible rfl
  simp only [Act.put, List.getElem_toArray, List.getElem_cons_zero, List.getElem_cons_succ, List.setIfInBounds_toArray, List.set_cons_zero, List.set_cons_succ]
  refine wpAnyH_take (i := 5) (v := ?_) rfl (by kernel_rfl) (by kernel_rfl) (by kernel_rfl) (fun _ _ _ h => h) (Or.inl ⟨by rfl, ?_⟩) (by assumption) ?_
  rotate_left
  · intro w hSw
    go_simp
    try with_reducible rfl
  simp only [Act.put, List.getElem_toArray, List.getElem_cons_zero, List.getElem_cons_succ, List.setIfInBounds_toArray, List.set_cons_zero, List.set_cons_succ]
  refine wpAnyH_take (i := 6) (v := ?_) rfl (by kernel_rfl) (by kernel_rfl) (by kernel_rfl) (fun _ _ _ h => h) (Or.inl ⟨by rfl, ?_⟩) (by assumption) ?_
  rotate_left
  · intro w hSw
    go_simp
    try with_reducible rfl
  simp only [Act.put, List.getElem_toArray, List.getElem_cons_zero, List.getElem_cons_succ, List.setIfInBounds_toArray, List.set_cons_zero, List.set_cons_succ]
  refine wpAnyH_take (i := 7) (v := ?_) rfl (by kernel_rfl) (by kernel_rfl) (by kernel_rfl) (fun _ _ _ h => h) (Or.inl ⟨by rfl, ?_⟩) (by assumption) ?_
  rotate_left
  · intro w hSw
    go_simp
    try with_reducible rfl
  simp only [Act.put, List.getElem_toArray, List.getElem_cons_zero, List.getElem_cons_succ, List.setIfInBounds_toArray, List.set_cons_zero, List.set_cons_succ]
  refine wpAnyH_take (i := 8) (v := ?_) rfl (by kernel_rfl) (by kernel_rfl) (by kernel_rfl) (fun _ _ _ h => h) (Or.inl ⟨by rfl, ?_⟩) (by assumption) ?_
  rotate_left
  · intro w hSw
    go_simp
    try with_reducible rfl
  simp only [Act.put, List.getElem_toArray, List.getElem_cons_zero, List.getElem_cons_succ, List.setIfInBounds_toArray, List.set_cons_zero, List.set_cons_succ]
  refine wpAnyH_take (i := 9) (v := ?_) rfl (by kernel_rfl) (by kernel_rfl) (by kernel_rfl) (fun _ _ _ h => h) (Or.inl ⟨by rfl, ?_⟩) (by assumption) ?_
  rotate_left
  · intro w hSw
    go_simp
    try with_reducible rfl
  simp only [Act.put, List.getElem_toArray, List.getElem_cons_zero, List.getElem_cons_succ, List.setIfInBounds_toArray, List.set_cons_zero, List.set_cons_succ]
  refine wpAnyH_take (i := 10) (v := ?_) rfl (by kernel_rfl) (by kernel_rfl) (by kernel_rfl) (fun _ _ _ h => h) (Or.inl ⟨by rfl, ?_⟩) (by assumption) ?_
  rotate_left
  · intro w hSw
    go_simp
    try with_reducible rfl
  simp only [Act.put, List.getElem_toArray, List.getElem_cons_zero, List.getElem_cons_succ, List.setIfInBounds_toArray, List.set_cons_zero, List.set_cons_succ]
  refine wpAnyH_ready (rs := [11]) (by kernel_rfl) (by simp) ?_
  refine AllReadyH.cons rfl (fun K hK => ?_) AllReadyH.nil
  go_simp
  refine (lnk lr r it z (.pointer q2) (.pointer a3) (.pointer a2) ((w.drewN nq).drew) (HLR.out.move (fun _ _ => rfl)) HM.out (HR.out.move (fun _ _ => rfl)) (a := toL ll ++ [(li, lz)]) (c := []) HF.out (by simp [toL])).mono ?_
  rintro _ w5 ⟨v5, rfl, h5, hb5⟩
  have B1 := B0.trans (hb5.mono B0.size)
  refine hK.out _ _ ⟨pw_cell_below B1 d0, pw_cell_below B1 d1⟩ (fun hHeld2 => ?_)
  clear hK K hHeld
  have hHeld := hHeld2
  clear hHeld2
  try simp only [Act.put, List.getElem_toArray, List.getElem_cons_zero, List.getElem_cons_succ, List.setIfInBounds_toArray, List.set_cons_zero, List.set_cons_succ]
  refine wpAnyH_ready (rs := [12]) (by kernel_rfl) (by simp) ?_
  refine AllReadyH.cons rfl (fun K hK => ?_) AllReadyH.nil
  go_simp
  refine (lnk ll (.node lr it z r) li lz (.pointer q1) (.pointer (some ⟨b, 0, none⟩)) v5 w5 (HLL.out.below B1) (HL.out.mid.below B1) h5 (a := []) (c := []) HF.out (by simp [toL])).mono ?_
  rintro _ w6 ⟨v6, rfl, h6, hb6⟩
  have B3 := B1.trans (hb6.mono B1.size)
  refine hK.out _ _ ⟨pw_cell_below B3 d0, pw_cell_below B3 d1⟩ (fun hHeld2 => ?_)
  clear hK K hHeld
  have hHeld := hHeld2
  clear hHeld2
  try simp only [Act.put, List.getElem_toArray, List.getElem_cons_zero, List.getElem_cons_succ, List.setIfInBounds_toArray, List.set_cons_zero, List.set_cons_succ]
  refine wpAnyH_take (i := 13) (v := ?_) rfl (by kernel_rfl) (by kernel_rfl) (by kernel_rfl) (fun _ _ _ h => h) (Or.inl ⟨by rfl, ?_⟩) (by assumption) ?_
  rotate_left
  · intro w hSw
    go_simp
    try with_reducible rfl
  simp only [Act.put, List.getElem_toArray, List.getElem_cons_zero, List.getElem_cons_succ, List.setIfInBounds_toArray, List.set_cons_zero, List.set_cons_succ]
  refine wpAnyH_done (by kernel_rfl) ?_ _
  refine NoPanic.normal ?_
  go_wp2_with (fail)
  go_ret
  exact ⟨.node ll li lz (.node lr it z r), _, rfl, h6, by simp [toL], B3⟩
end Go.Proofs.Ytpchkligbfmeiaa.Se
