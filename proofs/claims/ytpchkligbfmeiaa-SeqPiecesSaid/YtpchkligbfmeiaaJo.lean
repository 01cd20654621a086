/- join: an item between two trees, however deep. -/
import Derived.Test.YtpchkligbfmeiaaEv
namespace Go.Proofs.Ytpchkligbfmeiaa.Se
open Go.RowKit Go.Proofs.YtpchkligbfmeiaaW.PrintWords Go.Proofs.YtpchkligbfmeiaaW.PrintLast Go.Proofs.YtpchkligbfmeiaaW.PrintMore
attribute [local go_sem] max2_int min2_int max_two min_two max_three min_three max_four min_four
set_option linter.unusedVariables false
set_option linter.unusedSimpArgs false
set_option maxRecDepth 100000 in
set_option maxHeartbeats 4000000 in
theorem join_0 (l r : Tr) (it : ByteArray) (z : Int) (vl vm vr : Value) (w : World) (hl : At w (l) vl) (hm : Mid w it z vm) (hr : At w (r) vr) (hf : FitL (toL (l) ++ (it, z) :: toL (r))) (h1 : ¬ 1 < depT l - depT r ∧ ¬ depT l - depT r < -1) :
    Calls Try.prog 27 #[vl, vm, vr] w fun e w' => Row w w' e (toL (l) ++ (it, z) :: toL (r)) := by
  obtain ⟨a1, rfl⟩ := hl.ptr
  obtain ⟨a2, rfl⟩ := hr.ptr
  obtain ⟨a3, rfl⟩ : ∃ a, vm = .pointer a := by obtain ⟨b, rfl, _⟩ := hm; exact ⟨_, rfl⟩
  have HL := Aside0.mk hl
  have HR := Aside0.mk hr
  have HM := Aside0.mk hm
  have HF := Aside0.mk hf
  have hdl := depT_bd l
  have hdr := depT_bd r
  have hnl : cntT l ≤ 8388608 := by rw [cntT_toL]; have := hf.n; simp only [List.length_append] at this; omega
  have hnr : cntT r ≤ 8388608 := by rw [cntT_toL]; have := hf.n; simp only [List.length_append, List.length_cons] at this; omega
  have hd1 := fun w' h => depth_c l (.pointer a1) w' h
  have hd2 := fun w' h => depth_c r (.pointer a2) w' h
  obtain ⟨dl, edl⟩ : ∃ x, depT l = x := ⟨_, rfl⟩
  obtain ⟨dr, edr⟩ : ∃ x, depT r = x := ⟨_, rfl⟩
  rw [edl] at hd1 hdl h1
  rw [edr] at hd2 hdr h1
  have D1 := Aside0.mk hd1
  have D2 := Aside0.mk hd2
  have hw1 : IntKind.i64.wrap (dl - dr) = dl - dr := IntWalk.i64_in _ (by omega)
  clear hl hr hm hf hd1 hd2 edl edr hnl hnr
  obtain ⟨h1a, h1b⟩ := h1
  go_enter Try.func27, Try.ntmps27
  go_wp2_with (first
      | (refine (D1.out w HL.out).mono ?_; rintro _ w9 ⟨rfl, h9⟩; rw [h9]; clear h9 w9)
      | (refine (D2.out w HR.out).mono ?_; rintro _ w9 ⟨rfl, h9⟩; rw [h9]; clear h9 w9)
      | (refine (lnk l r it z (.pointer a1) (.pointer a3) (.pointer a2) w HL.out HM.out HR.out (a := []) (c := []) HF.out (by simp)).mono ?_))
  rintro _ w5 ⟨v5, rfl, h5, hb5⟩
  have H5 := Aside0.mk h5
  have HB := Aside0.mk hb5
  clear h5 hb5
  go_wp2_with (fail)
  go_ret
  exact ⟨_, _, rfl, H5.out, rfl, HB.out⟩
set_option maxRecDepth 100000 in
set_option maxHeartbeats 4000000 in
theorem join_1 (n : Nat) (ih : ∀ (l r : Tr) (it : ByteArray) (z : Int) (vl vm vr : Value) (w : World), (toL l).length + (toL r).length ≤ n → At w l vl → Mid w it z vm → At w r vr → FitL (toL l ++ (it, z) :: toL r) →
    Calls Try.prog 27 #[vl, vm, vr] w fun e w' => Row w w' e (toL l ++ (it, z) :: toL r)) (ll lr r : Tr) (li : ByteArray) (lz : Int) (it : ByteArray) (z : Int) (vl vm vr : Value) (w : World) (hn : (toL (.node ll li lz lr)).length + (toL r).length ≤ n + 1) (hl : At w (.node ll li lz lr) vl) (hm : Mid w it z vm) (hr : At w (r) vr) (hf : FitL (toL (.node ll li lz lr) ++ (it, z) :: toL (r))) (h1 : 1 < depT (.node ll li lz lr) - depT r) :
    Calls Try.prog 27 #[vl, vm, vr] w fun e w' => Row w w' e (toL (.node ll li lz lr) ++ (it, z) :: toL (r)) := by
  obtain ⟨a1, rfl⟩ := hl.ptr
  obtain ⟨a2, rfl⟩ := hr.ptr
  obtain ⟨a3, rfl⟩ : ∃ a, vm = .pointer a := by obtain ⟨b, rfl, _⟩ := hm; exact ⟨_, rfl⟩
  have HL := Aside0.mk hl
  have HR := Aside0.mk hr
  have HM := Aside0.mk hm
  have HF := Aside0.mk hf
  have hdl := depT_bd (.node ll li lz lr)
  have hdr := depT_bd (r)
  have hnl : cntT (.node ll li lz lr) ≤ 8388608 := by rw [cntT_toL]; have := hf.n; simp only [List.length_append] at this; omega
  have hnr : cntT (r) ≤ 8388608 := by rw [cntT_toL]; have := hf.n; simp only [List.length_append, List.length_cons] at this; omega
  have hd1 := fun w' h => depth_c (.node ll li lz lr) (.pointer a1) w' h
  have hd2 := fun w' h => depth_c (r) (.pointer a2) w' h
  obtain ⟨dl, edl⟩ : ∃ x, depT (.node ll li lz lr) = x := ⟨_, rfl⟩
  obtain ⟨dr, edr⟩ : ∃ x, depT (r) = x := ⟨_, rfl⟩
  rw [edl] at hd1 hdl h1
  rw [edr] at hd2 hdr h1
  have D1 := Aside0.mk hd1
  have D2 := Aside0.mk hd2
  have hw1 : IntKind.i64.wrap (dl - dr) = dl - dr := IntWalk.i64_in _ (by omega)
  clear hl hr hm hf hd1 hd2 edl edr hnl hnr
  obtain ⟨b, v1, v2, ha1, hb, hx1, hx2⟩ := HL.out
  injection ha1 with ha1
  subst ha1
  have d0 : w.cell? ⟨b, 0, none⟩ = some v1 := cell_of_row _ _ _ _ _ _ hb
  have d1 : w.cell? ⟨b, 1, none⟩ = some v2 := cell_of_row _ _ _ _ _ _ hb
  obtain ⟨q1, rfl⟩ := hx1.ptr
  obtain ⟨q2, rfl⟩ := hx2.ptr
  have H1 := Aside0.mk hx1
  have H2 := Aside0.mk hx2
  have B0 : Below w.heap.size w w.drew := below_drew (Below.refl _ w)
  clear hb hx1 hx2
  go_enter Try.func27, Try.ntmps27
  go_upto_region 3 with (first
      | (refine (D1.out w HL.out).mono ?_; rintro _ w9 ⟨rfl, h9⟩; rw [h9]; clear h9 w9)
      | (refine (D2.out w HR.out).mono ?_; rintro _ w9 ⟨rfl, h9⟩; rw [h9]; clear h9 w9))
  refine wp_region_noPanic ?_
  refine wp_region_held_drew (S := (fun w' => w'.cell? ⟨b, 0, none⟩ = some (.pointer q1) ∧ w'.cell? ⟨b, 1, none⟩ = some (.pointer q2))) (by kernel_rfl) ?_ (fun hHeld => ?_)
  · exact ⟨d0, d1⟩
  refine wpAnyH_take (i := 0) (v := ?_) rfl (by kernel_rfl) (by kernel_rfl) (by kernel_rfl) (fun _ _ _ h => h) (Or.inl ⟨by rfl, ?_⟩) (by assumption) ?_
  rotate_left
  · intro w hSw
    go_simp
    try with_reducible rfl
  simp only [Act.put, List.getElem_toArray, List.getElem_cons_zero, List.getElem_cons_succ, List.setIfInBounds_toArray, List.set_cons_zero, List.set_cons_succ]
  refine wpAnyH_take (i := 1) (v := ?_) rfl (by kernel_rfl) (by kernel_rfl) (by kernel_rfl) (fun _ _ _ h => h) (Or.inl ⟨by rfl, ?_⟩) (by assumption) ?_
  rotate_left
  · intro w hSw
    go_simp
    try with_reducible rfl
  simp only [Act.put, List.getElem_toArray, List.getElem_cons_zero, List.getElem_cons_succ, List.setIfInBounds_toArray, List.set_cons_zero, List.set_cons_succ]
  refine wpAnyH_take (i := 2) (v := ?_) rfl (by kernel_rfl) (by kernel_rfl) (by kernel_rfl) (fun _ _ _ h => h) (Or.inl ⟨by rfl, ?_⟩) (by assumption) ?_
  rotate_left
  · intro w hSw
    go_simp
    try with_reducible rfl
  simp only [Act.put, List.getElem_toArray, List.getElem_cons_zero, List.getElem_cons_succ, List.setIfInBounds_toArray, List.set_cons_zero, List.set_cons_succ]
  refine wpAnyH_take (i := 3) (v := ?_) rfl (by kernel_rfl) (by kernel_rfl) (by kernel_rfl) (fun _ _ _ h => h) (Or.inl ⟨by rfl, ?_⟩) (by assumption) ?_
  rotate_left
  · intro w hSw
    go_simp
    try with_reducible rfl
  simp only [Act.put, List.getElem_toArray, List.getElem_cons_zero, List.getElem_cons_succ, List.setIfInBounds_toArray, List.set_cons_zero, List.set_cons_succ]
  refine wpAnyH_take (i := 4) (v := ?_) rfl (by kernel_rfl) (by kernel_rfl) (by kernel_rfl) (fun _ _ _ h => h) (Or.inl ⟨by rfl, ?_⟩) (by assumption) ?_
  rotate_left
  · intro w hSw
    go_simp
    try with_reducible rfl
  simp only [Act.put, List.getElem_toArray, List.getElem_cons_zero, List.getElem_cons_succ, List.setIfInBounds_toArray, List.set_cons_zero, List.set_cons_succ]
  refine wpAnyH_take (i := 5) (v := ?_) rfl (by kernel_rfl) (by kernel_rfl) (by kernel_rfl) (fun _ _ _ h => h) (Or.inl ⟨by rfl, ?_⟩) (by assumption) ?_
  rotate_left
  · intro w hSw
    go_simp
    try with_reducible rfl
  simp only [Act.put, List.getElem_toArray, List.getElem_cons_zero, List.getElem_cons_succ, List.setIfInBounds_toArray, List.set_cons_zero, List.set_cons_succ]
  refine wpAnyH_take (i := 6) (v := ?_) rfl (by kernel_rfl) (by kernel_rfl) (by kernel_rfl) (fun _ _ _ h => h) (Or.inl ⟨by rfl, ?_⟩) (by assumption) ?_
  rotate_left
  · intro w hSw
    go_simp
    try with_reducible rfl
  simp only [Act.put, List.getElem_toArray, List.getElem_cons_zero, List.getElem_cons_succ, List.setIfInBounds_toArray, List.set_cons_zero, List.set_cons_succ]
  refine wpAnyH_take (i := 7) (v := ?_) rfl (by kernel_rfl) (by kernel_rfl) (by kernel_rfl) (fun _ _ _ h => h) (Or.inl ⟨by rfl, ?_⟩) (by assumption) ?_
  rotate_left
  · intro w hSw
    go_simp
    try with_reducible rfl
  simp only [Act.put, List.getElem_toArray, List.getElem_cons_zero, List.getElem_cons_succ, List.setIfInBounds_toArray, List.set_cons_zero, List.set_cons_succ]
  refine wpAnyH_take (i := 8) (v := ?_) rfl (by kernel_rfl) (by kernel_rfl) (by kernel_rfl) (fun _ _ _ h => h) (Or.inl ⟨by rfl, ?_⟩) (by assumption) ?_
  rotate_left
  · intro w hSw
    go_simp
    try with_reducible rfl
  simp only [Act.put, List.getElem_toArray, List.getElem_cons_zero, List.getElem_cons_succ, List.setIfInBounds_toArray, List.set_cons_zero, List.set_cons_succ]
  refine wpAnyH_take (i := 9) (v := ?_) rfl (by kernel_rfl) (by kernel_rfl) (by kernel_rfl) (fun _ _ _ h => h) (Or.inl ⟨by rfl, ?_⟩) (by assumption) ?_
  rotate_left
  · intro w hSw
    go_simp
    try with_reducible rfl
  simp only [Act.put, List.getElem_toArray, List.getElem_cons_zero, List.getElem_cons_succ, List.setIfInBounds_toArray, List.set_cons_zero, List.set_cons_succ]
  refine wpAnyH_take (i := 10) (v := ?_) rfl (by kernel_rfl) (by kernel_rfl) (by kernel_rfl) (fun _ _ _ h => h) (Or.inl ⟨by rfl, ?_⟩) (by assumption) ?_
  rotate_left
  · intro w hSw
    go_simp
    try with_reducible rfl
  simp only [Act.put, List.getElem_toArray, List.getElem_cons_zero, List.getElem_cons_succ, List.setIfInBounds_toArray, List.set_cons_zero, List.set_cons_succ]
  refine wpAnyH_ready (rs := [11]) (by kernel_rfl) (by simp) ?_
  refine AllReadyH.cons rfl (fun K hK => ?_) AllReadyH.nil
  go_simp
  refine (ih lr r it z (.pointer q2) (.pointer a3) (.pointer a2) w.drew (by simp only [toL, List.length_append, List.length_cons] at hn; omega) (H2.out.move (fun _ _ => rfl)) HM.out (HR.out.move (fun _ _ => rfl)) (by have h := HF.out; simp only [toL] at h; exact FitL.part (a := toL ll ++ [(li, lz)]) (c := []) (by simpa using h))).mono ?_
  rintro _ w5 ⟨t5, v5, rfl, h5, e5, hb5⟩
  have B1 := B0.trans (hb5.mono B0.size)
  refine hK.out _ _ ⟨pw_cell_below B1 d0, pw_cell_below B1 d1⟩ (fun hHeld2 => ?_)
  clear hK K hHeld
  have hHeld := hHeld2
  clear hHeld2
  try simp only [Act.put, List.getElem_toArray, List.getElem_cons_zero, List.getElem_cons_succ, List.setIfInBounds_toArray, List.set_cons_zero, List.set_cons_succ]
  refine wpAnyH_ready (rs := [12]) (by kernel_rfl) (by simp) ?_
  refine AllReadyH.cons rfl (fun K hK => ?_) AllReadyH.nil
  go_simp
  refine (even_c ll t5 li lz (.pointer q1) (.pointer (some ⟨b, 0, none⟩)) v5 w5 (H1.out.below B1) (HL.out.mid.below B1) h5 (by rw [e5]; have h := HF.out; simp only [toL] at h; simpa using h)).mono ?_
  rintro _ w6 ⟨t6, v6, rfl, h6, e6, hb6⟩
  have B3 := B1.trans (hb6.mono B1.size)
  refine hK.out _ _ ⟨pw_cell_below B3 d0, pw_cell_below B3 d1⟩ (fun hHeld2 => ?_)
  clear hK K hHeld
  have hHeld := hHeld2
  clear hHeld2
  try simp only [Act.put, List.getElem_toArray, List.getElem_cons_zero, List.getElem_cons_succ, List.setIfInBounds_toArray, List.set_cons_zero, List.set_cons_succ]
  refine wpAnyH_take (i := 13) (v := ?_) rfl (by kernel_rfl) (by kernel_rfl) (by kernel_rfl) (fun _ _ _ h => h) (Or.inl ⟨by rfl, ?_⟩) (by assumption) ?_
  rotate_left
  · intro w hSw
    go_simp
    try with_reducible rfl
  simp only [Act.put, List.getElem_toArray, List.getElem_cons_zero, List.getElem_cons_succ, List.setIfInBounds_toArray, List.set_cons_zero, List.set_cons_succ]
  refine wpAnyH_done (by kernel_rfl) ?_ _
  refine NoPanic.normal ?_
  go_wp2_with (fail)
  go_ret
  exact ⟨t6, _, rfl, h6, by rw [e6, e5]; simp [toL], B3⟩
set_option maxRecDepth 100000 in
set_option maxHeartbeats 4000000 in
theorem join_2 (n : Nat) (ih : ∀ (l r : Tr) (it : ByteArray) (z : Int) (vl vm vr : Value) (w : World), (toL l).length + (toL r).length ≤ n → At w l vl → Mid w it z vm → At w r vr → FitL (toL l ++ (it, z) :: toL r) →
    Calls Try.prog 27 #[vl, vm, vr] w fun e w' => Row w w' e (toL l ++ (it, z) :: toL r)) (l rl rr : Tr) (ri : ByteArray) (rz : Int) (it : ByteArray) (z : Int) (vl vm vr : Value) (w : World) (hn : (toL l).length + (toL (.node rl ri rz rr)).length ≤ n + 1) (hl : At w (l) vl) (hm : Mid w it z vm) (hr : At w (.node rl ri rz rr) vr) (hf : FitL (toL (l) ++ (it, z) :: toL (.node rl ri rz rr))) (h1 : depT l - depT (.node rl ri rz rr) < -1) :
    Calls Try.prog 27 #[vl, vm, vr] w fun e w' => Row w w' e (toL (l) ++ (it, z) :: toL (.node rl ri rz rr)) := by
  obtain ⟨a1, rfl⟩ := hl.ptr
  obtain ⟨a2, rfl⟩ := hr.ptr
  obtain ⟨a3, rfl⟩ : ∃ a, vm = .pointer a := by obtain ⟨b, rfl, _⟩ := hm; exact ⟨_, rfl⟩
  have HL := Aside0.mk hl
  have HR := Aside0.mk hr
  have HM := Aside0.mk hm
  have HF := Aside0.mk hf
  have hdl := depT_bd (l)
  have hdr := depT_bd (.node rl ri rz rr)
  have hnl : cntT (l) ≤ 8388608 := by rw [cntT_toL]; have := hf.n; simp only [List.length_append] at this; omega
  have hnr : cntT (.node rl ri rz rr) ≤ 8388608 := by rw [cntT_toL]; have := hf.n; simp only [List.length_append, List.length_cons] at this; omega
  have hd1 := fun w' h => depth_c (l) (.pointer a1) w' h
  have hd2 := fun w' h => depth_c (.node rl ri rz rr) (.pointer a2) w' h
  obtain ⟨dl, edl⟩ : ∃ x, depT (l) = x := ⟨_, rfl⟩
  obtain ⟨dr, edr⟩ : ∃ x, depT (.node rl ri rz rr) = x := ⟨_, rfl⟩
  rw [edl] at hd1 hdl h1
  rw [edr] at hd2 hdr h1
  have D1 := Aside0.mk hd1
  have D2 := Aside0.mk hd2
  have hw1 : IntKind.i64.wrap (dl - dr) = dl - dr := IntWalk.i64_in _ (by omega)
  clear hl hr hm hf hd1 hd2 edl edr hnl hnr
  have h1' : ¬ 1 < dl - dr := by omega
  obtain ⟨b, v1, v2, ha1, hb, hx1, hx2⟩ := HR.out
  injection ha1 with ha1
  subst ha1
  have d0 : w.cell? ⟨b, 0, none⟩ = some v1 := cell_of_row _ _ _ _ _ _ hb
  have d1 : w.cell? ⟨b, 1, none⟩ = some v2 := cell_of_row _ _ _ _ _ _ hb
  obtain ⟨q1, rfl⟩ := hx1.ptr
  obtain ⟨q2, rfl⟩ := hx2.ptr
  have H1 := Aside0.mk hx1
  have H2 := Aside0.mk hx2
  have B0 : Below w.heap.size w w.drew := below_drew (Below.refl _ w)
  clear hb hx1 hx2
  go_enter Try.func27, Try.ntmps27
  go_upto_region 5 with (first
      | (refine (D1.out w HL.out).mono ?_; rintro _ w9 ⟨rfl, h9⟩; rw [h9]; clear h9 w9)
      | (refine (D2.out w HR.out).mono ?_; rintro _ w9 ⟨rfl, h9⟩; rw [h9]; clear h9 w9))
  refine wp_region_noPanic ?_
  refine wp_region_held_drew (S := (fun w' => w'.cell? ⟨b, 0, none⟩ = some (.pointer q1) ∧ w'.cell? ⟨b, 1, none⟩ = some (.pointer q2))) (by kernel_rfl) ?_ (fun hHeld => ?_)
  · exact ⟨d0, d1⟩
  refine wpAnyH_take (i := 0) (v := ?_) rfl (by kernel_rfl) (by kernel_rfl) (by kernel_rfl) (fun _ _ _ h => h) (Or.inl ⟨by rfl, ?_⟩) (by assumption) ?_
  rotate_left
  · intro w hSw
    go_simp
    try with_reducible rfl
  simp only [Act.put, List.getElem_toArray, List.getElem_cons_zero, List.getElem_cons_succ, List.setIfInBounds_toArray, List.set_cons_zero, List.set_cons_succ]
  refine wpAnyH_take (i := 1) (v := ?_) rfl (by kernel_rfl) (by kernel_rfl) (by kernel_rfl) (fun _ _ _ h => h) (Or.inl ⟨by rfl, ?_⟩) (by assumption) ?_
  rotate_left
  · intro w hSw
    go_simp
    try with_reducible rfl
  simp only [Act.put, List.getElem_toArray, List.getElem_cons_zero, List.getElem_cons_succ, List.setIfInBounds_toArray, List.set_cons_zero, List.set_cons_succ]
  refine wpAnyH_take (i := 2) (v := ?_) rfl (by kernel_rfl) (by kernel_rfl) (by kernel_rfl) (fun _ _ _ h => h) (Or.inl ⟨by rfl, ?_⟩) (by assumption) ?_
  rotate_left
  · intro w hSw
    go_simp
    try with_reducible rfl
  simp only [Act.put, List.getElem_toArray, List.getElem_cons_zero, List.getElem_cons_succ, List.setIfInBounds_toArray, List.set_cons_zero, List.set_cons_succ]
  refine wpAnyH_take (i := 3) (v := ?_) rfl (by kernel_rfl) (by kernel_rfl) (by kernel_rfl) (fun _ _ _ h => h) (Or.inl ⟨by rfl, ?_⟩) (by assumption) ?_
  rotate_left
  · intro w hSw
    go_simp
    try with_reducible rfl
  simp only [Act.put, List.getElem_toArray, List.getElem_cons_zero, List.getElem_cons_succ, List.setIfInBounds_toArray, List.set_cons_zero, List.set_cons_succ]
  refine wpAnyH_take (i := 4) (v := ?_) rfl (by kernel_rfl) (by kernel_rfl) (by kernel_rfl) (fun _ _ _ h => h) (Or.inl ⟨by rfl, ?_⟩) (by assumption) ?_
  rotate_left
  · intro w hSw
    go_simp
    try with_reducible rfl
  simp only [Act.put, List.getElem_toArray, List.getElem_cons_zero, List.getElem_cons_succ, List.setIfInBounds_toArray, List.set_cons_zero, List.set_cons_succ]
  refine wpAnyH_take (i := 5) (v := ?_) rfl (by kernel_rfl) (by kernel_rfl) (by kernel_rfl) (fun _ _ _ h => h) (Or.inl ⟨by rfl, ?_⟩) (by assumption) ?_
  rotate_left
  · intro w hSw
    go_simp
    try with_reducible rfl
  simp only [Act.put, List.getElem_toArray, List.getElem_cons_zero, List.getElem_cons_succ, List.setIfInBounds_toArray, List.set_cons_zero, List.set_cons_succ]
  refine wpAnyH_take (i := 7) (v := ?_) rfl (by kernel_rfl) (by kernel_rfl) (by kernel_rfl) (fun _ _ _ h => h) (Or.inl ⟨by rfl, ?_⟩) (by assumption) ?_
  rotate_left
  · intro w hSw
    go_simp
    try with_reducible rfl
  simp only [Act.put, List.getElem_toArray, List.getElem_cons_zero, List.getElem_cons_succ, List.setIfInBounds_toArray, List.set_cons_zero, List.set_cons_succ]
  refine wpAnyH_take (i := 8) (v := ?_) rfl (by kernel_rfl) (by kernel_rfl) (by kernel_rfl) (fun _ _ _ h => h) (Or.inl ⟨by rfl, ?_⟩) (by assumption) ?_
  rotate_left
  · intro w hSw
    go_simp
    try with_reducible rfl
  simp only [Act.put, List.getElem_toArray, List.getElem_cons_zero, List.getElem_cons_succ, List.setIfInBounds_toArray, List.set_cons_zero, List.set_cons_succ]
  refine wpAnyH_take (i := 9) (v := ?_) rfl (by kernel_rfl) (by kernel_rfl) (by kernel_rfl) (fun _ _ _ h => h) (Or.inl ⟨by rfl, ?_⟩) (by assumption) ?_
  rotate_left
  · intro w hSw
    go_simp
    try with_reducible rfl
  simp only [Act.put, List.getElem_toArray, List.getElem_cons_zero, List.getElem_cons_succ, List.setIfInBounds_toArray, List.set_cons_zero, List.set_cons_succ]
  refine wpAnyH_take (i := 10) (v := ?_) rfl (by kernel_rfl) (by kernel_rfl) (by kernel_rfl) (fun _ _ _ h => h) (Or.inl ⟨by rfl, ?_⟩) (by assumption) ?_
  rotate_left
  · intro w hSw
    go_simp
    try with_reducible rfl
  simp only [Act.put, List.getElem_toArray, List.getElem_cons_zero, List.getElem_cons_succ, List.setIfInBounds_toArray, List.set_cons_zero, List.set_cons_succ]
  refine wpAnyH_take (i := 11) (v := ?_) rfl (by kernel_rfl) (by kernel_rfl) (by kernel_rfl) (fun _ _ _ h => h) (Or.inl ⟨by rfl, ?_⟩) (by assumption) ?_
  rotate_left
  · intro w hSw
    go_simp
    try with_reducible rfl
  simp only [Act.put, List.getElem_toArray, List.getElem_cons_zero, List.getElem_cons_succ, List.setIfInBounds_toArray, List.set_cons_zero, List.set_cons_succ]
  refine wpAnyH_ready (rs := [6]) (by kernel_rfl) (by simp) ?_
  refine AllReadyH.cons rfl (fun K hK => ?_) AllReadyH.nil
  go_simp
  refine (ih l rl it z (.pointer a1) (.pointer a3) (.pointer q1) w.drew (by simp only [toL, List.length_append, List.length_cons] at hn; omega) (HL.out.move (fun _ _ => rfl)) HM.out (H1.out.move (fun _ _ => rfl)) (by have h := HF.out; simp only [toL] at h; exact FitL.part (a := []) (c := (ri, rz) :: toL rr) (by simpa using h))).mono ?_
  rintro _ w5 ⟨t5, v5, rfl, h5, e5, hb5⟩
  have B1 := B0.trans (hb5.mono B0.size)
  refine hK.out _ _ ⟨pw_cell_below B1 d0, pw_cell_below B1 d1⟩ (fun hHeld2 => ?_)
  clear hK K hHeld
  have hHeld := hHeld2
  clear hHeld2
  try simp only [Act.put, List.getElem_toArray, List.getElem_cons_zero, List.getElem_cons_succ, List.setIfInBounds_toArray, List.set_cons_zero, List.set_cons_succ]
  refine wpAnyH_ready (rs := [12]) (by kernel_rfl) (by simp) ?_
  refine AllReadyH.cons rfl (fun K hK => ?_) AllReadyH.nil
  go_simp
  refine (even_c t5 rr ri rz v5 (.pointer (some ⟨b, 0, none⟩)) (.pointer q2) w5 h5 (HR.out.mid.below B1) (H2.out.below B1) (by rw [e5]; have h := HF.out; simp only [toL] at h; simpa using h)).mono ?_
  rintro _ w6 ⟨t6, v6, rfl, h6, e6, hb6⟩
  have B3 := B1.trans (hb6.mono B1.size)
  refine hK.out _ _ ⟨pw_cell_below B3 d0, pw_cell_below B3 d1⟩ (fun hHeld2 => ?_)
  clear hK K hHeld
  have hHeld := hHeld2
  clear hHeld2
  try simp only [Act.put, List.getElem_toArray, List.getElem_cons_zero, List.getElem_cons_succ, List.setIfInBounds_toArray, List.set_cons_zero, List.set_cons_succ]
  refine wpAnyH_take (i := 13) (v := ?_) rfl (by kernel_rfl) (by kernel_rfl) (by kernel_rfl) (fun _ _ _ h => h) (Or.inl ⟨by rfl, ?_⟩) (by assumption) ?_
  rotate_left
  · intro w hSw
    go_simp
    try with_reducible rfl
  simp only [Act.put, List.getElem_toArray, List.getElem_cons_zero, List.getElem_cons_succ, List.setIfInBounds_toArray, List.set_cons_zero, List.set_cons_succ]
  refine wpAnyH_done (by kernel_rfl) ?_ _
  refine NoPanic.normal ?_
  go_wp2_with (fail)
  go_ret
  exact ⟨t6, _, rfl, h6, by rw [e6, e5]; simp [toL], B3⟩
theorem join_s (n : Nat) (ih : ∀ (l r : Tr) (it : ByteArray) (z : Int) (vl vm vr : Value) (w : World), (toL l).length + (toL r).length ≤ n → At w l vl → Mid w it z vm → At w r vr → FitL (toL l ++ (it, z) :: toL r) →
    Calls Try.prog 27 #[vl, vm, vr] w fun e w' => Row w w' e (toL l ++ (it, z) :: toL r)) (l r : Tr) (it : ByteArray) (z : Int) (vl vm vr : Value) (w : World) (hn : (toL l).length + (toL r).length ≤ n + 1) (hl : At w l vl) (hm : Mid w it z vm) (hr : At w r vr) (hf : FitL (toL l ++ (it, z) :: toL r)) :
    Calls Try.prog 27 #[vl, vm, vr] w fun e w' => Row w w' e (toL l ++ (it, z) :: toL r) := by
  by_cases h1 : 1 < depT l - depT r
  · cases l with
    | nil => have := (depT_bd r).1; exact absurd h1 (by simp only [depT]; omega)
    | node ll li lz lr => exact join_1 n ih ll lr r li lz it z vl vm vr w hn hl hm hr hf h1
  · by_cases h3 : depT l - depT r < -1
    · cases r with
      | nil => have := (depT_bd l).1; exact absurd h3 (by simp only [depT]; omega)
      | node rl ri rz rr => exact join_2 n ih l rl rr ri rz it z vl vm vr w hn hl hm hr hf h3
    · exact join_0 l r it z vl vm vr w hl hm hr hf ⟨h1, h3⟩

theorem join_n : ∀ (n : Nat) (l r : Tr) (it : ByteArray) (z : Int) (vl vm vr : Value) (w : World), (toL l).length + (toL r).length ≤ n → At w l vl → Mid w it z vm → At w r vr → FitL (toL l ++ (it, z) :: toL r) →
    Calls Try.prog 27 #[vl, vm, vr] w fun e w' => Row w w' e (toL l ++ (it, z) :: toL r) := by
  intro n
  induction n with
  | zero => exact fun l r it z vl vm vr w hn hl hm hr hf => join_0 l r it z vl vm vr w hl hm hr hf (by
      have e1 : toL l = [] := List.eq_nil_of_length_eq_zero (by omega)
      have e2 : toL r = [] := List.eq_nil_of_length_eq_zero (by omega)
      have h1 := depT_bd l
      have h2 := depT_bd r
      rw [cntT_toL, e1] at h1
      rw [cntT_toL, e2] at h2
      simp at h1 h2
      omega)
  | succ n ih => exact fun l r it z vl vm vr w hn hl hm hr hf => join_s n (fun l r it z vl vm vr w => ih l r it z vl vm vr w) l r it z vl vm vr w hn hl hm hr hf
theorem join_c (l r : Tr) (it : ByteArray) (z : Int) (vl vm vr : Value) (w : World) (hl : At w l vl) (hm : Mid w it z vm) (hr : At w r vr) (hf : FitL (toL l ++ (it, z) :: toL r)) :
    Calls Try.prog 27 #[vl, vm, vr] w fun e w' => Row w w' e (toL l ++ (it, z) :: toL r) := join_n _ l r it z vl vm vr w (Nat.le_refl _) hl hm hr hf
end Go.Proofs.Ytpchkligbfmeiaa.Se
