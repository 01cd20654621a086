/- The reference's Put. -/
import Derived.Test.YtfaibpdoalbkpaaRc
namespace Go.Proofs.Ytfaibpdoalbkpaa.Bu
open Go.RowKit Go.Proofs.YtfaibpdoalbkpaaW.PrintWords Go.Proofs.YtfaibpdoalbkpaaW.PrintLast Go.Proofs.YtfaibpdoalbkpaaW.PrintMore
attribute [local go_sem] max2_int min2_int max_two min_two max_three min_three max_four min_four
set_option linter.unusedVariables false
set_option linter.unusedSimpArgs false
set_option maxRecDepth 100000 in
set_option maxHeartbeats 8000000 in
theorem rput_c (b : Nat) (m : Bl) (vL vO : Value) (A : Option Addr) (N c : Nat) (l : List Ev) (at_ : Int) (w : World) (fp : Nat → Prop) (h : RT w fp b m vL vO) (hs : Srt m) (hR : ReadsRow REv 4 w A N l) (n0 : Nat) (hwf : WF m n0) (hN : n0 + N ≤ 1000000) :
    Calls Try.prog 16 #[pv b, .slice A N c, .int .i64 at_] w fun e w' => RPutP w fp b m at_ l e w' := by
  have H := Aside0.mk h
  have HR := Aside0.mk hR
  have HWF := Aside0.mk hwf
  have HS := Aside0.mk hs
  have HLN := Aside0.mk hR.1
  have hfail : Aside0 (∀ (r : Int) (w' : World), putE m at_ l = r → r ≠ 0 → Below w.heap.size w w' → RPutP w fp b m at_ l (.returned (.int .i64 r)) w') := ⟨fun r w' hr h0 hb => ⟨by rw [hr], ⟨vL, vO, by rw [hr, if_neg h0]; exact (h.below hb).mono (fun k hk => .inl hk)⟩, Fr.of_below hb⟩⟩
  have g0 := h.cL
  have g1 := h.cO
  have g2 := h.cF
  obtain ⟨AL, cL, hvL, hcL, hCL⟩ := Kd.R_reads h.rL
  obtain ⟨AO, cO, hvO, hcO, hCO⟩ := Kd.R_reads h.rO
  obtain ⟨NL, hNL⟩ : ∃ D, (doneL m (-1)).length = D := ⟨_, rfl⟩
  obtain ⟨NO, hNO⟩ : ∃ D, m.O.length = D := ⟨_, rfl⟩
  obtain ⟨far, hfar⟩ : ∃ D, m.far = D := ⟨_, rfl⟩
  rw [hNL] at hvL hCL
  rw [hNO] at hvO hCO
  rw [hvL] at g0
  rw [hvO] at g1
  rw [hfar] at g2
  have hNL8 : NL ≤ 1000000 := by rw [len_doneL] at hNL; have := HWF.out.L; omega
  have hNO8 : NO ≤ 1000000 := by have := HWF.out.O; omega
  have HCL := Aside0.mk hCL
  have HCO := Aside0.mk hCO
  have HFAR := Aside0.mk hfar
  clear h hR hwf hs hvL hvO hCL hCO hfar hNL hNO hcL hcO
  by_cases ha0 : at_ < 0
  · have HF := Aside0.mk (hfail.out 1 w (by simp [putE, ha0]) (by decide) (Below.refl _ _))
    clear hfail
    go_enter Try.func16, Try.ntmps16
    go_wp2_with (fail)
    go_ret
    exact HF.out
  by_cases ha1 : 1048576 < at_
  · have HF := Aside0.mk (hfail.out 1 w (by simp [putE, ha1]) (by decide) (Below.refl _ _))
    clear hfail
    go_enter Try.func16, Try.ntmps16
    go_wp2_with (fail)
    go_ret
    exact HF.out
  have hpe : putE m at_ l = soundB at_ m.far ((m.O.length : Int) - 1) l := by unfold putE; rw [if_neg (by omega)]
  have HPE := Aside0.mk hpe
  clear hpe
  go_enter Try.func16, Try.ntmps16
  go_upto_region 3 with (fail)
  refine wp_region_noPanic ?_
  refine wp_region_held_drew (S := (fun w' => w'.cell? ⟨b, 0, none⟩ = some (.slice AL NL cL) ∧ w'.cell? ⟨b, 1, none⟩ = some (.slice AO NO cO) ∧ w'.cell? ⟨b, 2, none⟩ = some (.int .i64 far))) (by kernel_rfl) ?_ (fun hHeld => ?_)
  · exact ⟨g0, g1, g2⟩
  refine wpAnyH_take (i := 0) (v := ?_) rfl (by kernel_rfl) (by kernel_rfl) (by kernel_rfl) (fun _ _ _ h => h) (Or.inl ⟨by rfl, ?_⟩) (by assumption) ?_
  rotate_left
  · intro w hSw
    go_simp
    try with_reducible rfl
  simp only [Act.put, List.getElem_toArray, List.getElem_cons_zero, List.getElem_cons_succ, List.setIfInBounds_toArray, List.set_cons_zero, List.set_cons_succ]
  refine wpAnyH_take (i := 1) (v := ?_) rfl (by kernel_rfl) (by kernel_rfl) (by kernel_rfl) (fun _ _ _ h => h) (Or.inl ⟨by rfl, ?_⟩) (by assumption) ?_
  rotate_left
  · intro w hSw
    go_simp
    try with_reducible rfl
  simp only [Act.put, List.getElem_toArray, List.getElem_cons_zero, List.getElem_cons_succ, List.setIfInBounds_toArray, List.set_cons_zero, List.set_cons_succ]
  refine wpAnyH_take (i := 2) (v := ?_) rfl (by kernel_rfl) (by kernel_rfl) (by kernel_rfl) (fun _ _ _ h => h) (Or.inl ⟨by rfl, ?_⟩) (by assumption) ?_
  rotate_left
  · intro w hSw
    go_simp
    try with_reducible rfl
  simp only [Act.put, List.getElem_toArray, List.getElem_cons_zero, List.getElem_cons_succ, List.setIfInBounds_toArray, List.set_cons_zero, List.set_cons_succ]
  refine wpAnyH_take (i := 3) (v := ?_) rfl (by kernel_rfl) (by kernel_rfl) (by kernel_rfl) (fun _ _ _ h => h) (Or.inl ⟨by rfl, ?_⟩) (by assumption) ?_
  rotate_left
  · intro w hSw
    go_simp
    try with_reducible rfl
  simp only [Act.put, List.getElem_toArray, List.getElem_cons_zero, List.getElem_cons_succ, List.setIfInBounds_toArray, List.set_cons_zero, List.set_cons_succ]
  refine wpAnyH_take (i := 5) (v := ?_) rfl (by kernel_rfl) (by kernel_rfl) (by kernel_rfl) (fun _ _ _ h => h) (Or.inl ⟨by rfl, ?_⟩) (by assumption) ?_
  rotate_left
  · intro w hSw
    go_simp
    try with_reducible rfl
  simp only [Act.put, List.getElem_toArray, List.getElem_cons_zero, List.getElem_cons_succ, List.setIfInBounds_toArray, List.set_cons_zero, List.set_cons_succ]
  refine wpAnyH_take (i := 6) (v := ?_) rfl (by kernel_rfl) (by kernel_rfl) (by kernel_rfl) (fun _ _ _ h => h) (Or.inl ⟨by rfl, ?_⟩) (by assumption) ?_
  rotate_left
  · intro w hSw
    go_simp
    try with_reducible rfl
  simp only [Act.put, List.getElem_toArray, List.getElem_cons_zero, List.getElem_cons_succ, List.setIfInBounds_toArray, List.set_cons_zero, List.set_cons_succ]
  refine wpAnyH_take (i := 7) (v := ?_) rfl (by kernel_rfl) (by kernel_rfl) (by kernel_rfl) (fun _ _ _ h => h) (Or.inl ⟨by rfl, ?_⟩) (by assumption) ?_
  rotate_left
  · intro w hSw
    go_simp
    try with_reducible rfl
  simp only [Act.put, List.getElem_toArray, List.getElem_cons_zero, List.getElem_cons_succ, List.setIfInBounds_toArray, List.set_cons_zero, List.set_cons_succ]
  refine wpAnyH_take (i := 8) (v := ?_) rfl (by kernel_rfl) (by kernel_rfl) (by kernel_rfl) (fun _ _ _ h => h) (Or.inl ⟨by rfl, ?_⟩) (by assumption) ?_
  rotate_left
  · intro w hSw
    go_simp
    try with_reducible rfl
  simp only [Act.put, List.getElem_toArray, List.getElem_cons_zero, List.getElem_cons_succ, List.setIfInBounds_toArray, List.set_cons_zero, List.set_cons_succ]
  refine wpAnyH_take (i := 10) (v := ?_) rfl (by kernel_rfl) (by kernel_rfl) (by kernel_rfl) (fun _ _ _ h => h) (Or.inl ⟨by rfl, ?_⟩) (by assumption) ?_
  rotate_left
  · intro w hSw
    go_simp
    try with_reducible rfl
  simp only [Act.put, List.getElem_toArray, List.getElem_cons_zero, List.getElem_cons_succ, List.setIfInBounds_toArray, List.set_cons_zero, List.set_cons_succ]
  refine wpAnyH_take (i := 11) (v := ?_) rfl (by kernel_rfl) (by kernel_rfl) (by kernel_rfl) (fun _ _ _ h => h) (Or.inl ⟨by rfl, ?_⟩) (by assumption) ?_
  rotate_left
  · intro w hSw
    go_simp
    try with_reducible rfl
  simp only [Act.put, List.getElem_toArray, List.getElem_cons_zero, List.getElem_cons_succ, List.setIfInBounds_toArray, List.set_cons_zero, List.set_cons_succ]
  refine wpAnyH_take (i := 12) (v := ?_) rfl (by kernel_rfl) (by kernel_rfl) (by kernel_rfl) (fun _ _ _ h => h) (Or.inl ⟨by rfl, ?_⟩) (by assumption) ?_
  rotate_left
  · intro w hSw
    go_simp
    try with_reducible rfl
  simp only [Act.put, List.getElem_toArray, List.getElem_cons_zero, List.getElem_cons_succ, List.setIfInBounds_toArray, List.set_cons_zero, List.set_cons_succ]
  refine wpAnyH_take (i := 13) (v := ?_) rfl (by kernel_rfl) (by kernel_rfl) (by kernel_rfl) (fun _ _ _ h => h) (Or.inl ⟨by rfl, ?_⟩) (by assumption) ?_
  rotate_left
  · intro w hSw
    go_simp
    try with_reducible rfl
  simp only [Act.put, List.getElem_toArray, List.getElem_cons_zero, List.getElem_cons_succ, List.setIfInBounds_toArray, List.set_cons_zero, List.set_cons_succ]
  refine wpAnyH_ready (rs := [4]) (by kernel_rfl) (by simp) ?_
  refine AllReadyH.cons rfl (fun K hK => ?_) AllReadyH.nil
  refine Kd.R_append_rows_step (W := w.drew) kN (w0 := w.drew) 0 (by rfl) (.const (.slice none 0 0)) (.tmp 19) 32 38 (.agg #[.int .u8 0, .int .i64 0, .int .i64 0, .int .i64 0]) 32 rfl Try.underlying32 info38 rfl (by decide) (by decide) (.slice none 0 0) [] (doneL m (-1)) AL NL cL (fun k => w.heap.size ≤ k) (fun _ => False) rfl rfl (Kd.R_nil _ _ _ _ _) HCL.out (fun _ _ h => h) (fun _ h => h.elim) (fun _ h => h) (Below.refl _ _) (Nat.zero_le _) (by simp; omega) ?_
  intro v1 w1 hR1 _ hg1 hat1
  rw [List.nil_append] at hR1
  obtain ⟨A1, c1, hv1, _, _⟩ := Kd.R_reads hR1
  have hb1 : Below w.heap.size w w1 := ⟨hg1.os, hg1.tape, hg1.output, hg1.size, fun k hk => hg1.block k hk (by simp [Value.ownBlock])⟩
  have HR1 := Aside0.mk hR1
  have HB1 := Aside0.mk hb1
  have HV1 := Aside0.mk hv1
  subst hv1
  obtain ⟨D1, hD1⟩ : ∃ D, (doneL m (-1)).length = D := ⟨_, rfl⟩
  rw [hD1] at HR1 HV1 ⊢
  have k10 := pw_cell_below hb1 g0
  have k11 := pw_cell_below hb1 g1
  have k12 := pw_cell_below hb1 g2
  have HCO1 := Aside0.mk (Kd.C_below HCO.out hb1)
  clear hR1 hg1 hat1 hb1 HV1
  refine hK.out _ _ ⟨k10, k11, k12⟩ (fun hHeld2 => ?_)
  clear hK K hHeld
  have hHeld := hHeld2
  clear hHeld2
  try simp only [Act.put, List.getElem_toArray, List.getElem_cons_zero, List.getElem_cons_succ, List.setIfInBounds_toArray, List.set_cons_zero, List.set_cons_succ]
  refine wpAnyH_ready (rs := [9]) (by kernel_rfl) (by simp) ?_
  refine AllReadyH.cons rfl (fun K hK => ?_) AllReadyH.nil
  refine Kd.R_append_rows_step (W := w1) kI (w0 := w1) 0 (by rfl) (.const (.slice none 0 0)) (.tmp 24) 43 3 (.int .i64 0) 8 rfl Try.underlying43 info3a rfl (by decide) (by decide) (.slice none 0 0) [] m.O AO NO cO (fun k => w.heap.size ≤ k) (fun _ => False) rfl rfl (Kd.R_nil _ _ _ _ _) HCO1.out (fun _ _ h => h) (fun _ h => h.elim) (fun k h => Nat.le_trans HB1.out.size h) (Below.refl _ _) (Nat.zero_le _) (by simp; omega) ?_
  intro v2 w2 hR2 _ hg2 hat2
  rw [List.nil_append] at hR2
  obtain ⟨A2, c2, hv2, _, _⟩ := Kd.R_reads hR2
  have hb2 : Below w1.heap.size w1 w2 := ⟨hg2.os, hg2.tape, hg2.output, hg2.size, fun k hk => hg2.block k hk (by simp [Value.ownBlock])⟩
  have HR2 := Aside0.mk hR2
  have HB2 := Aside0.mk hb2
  subst hv2
  obtain ⟨D2, hD2⟩ : ∃ D, m.O.length = D := ⟨_, rfl⟩
  rw [hD2] at HR2 ⊢
  have k20 := pw_cell_below hb2 k10
  have k21 := pw_cell_below hb2 k11
  have k22 := pw_cell_below hb2 k12
  clear hR2 hg2 hat2 hb2 k10 k11 k12
  refine hK.out _ _ ⟨k20, k21, k22⟩ (fun hHeld2 => ?_)
  clear hK K hHeld
  have hHeld := hHeld2
  clear hHeld2
  try simp only [Act.put, List.getElem_toArray, List.getElem_cons_zero, List.getElem_cons_succ, List.setIfInBounds_toArray, List.set_cons_zero, List.set_cons_succ]
  refine wpAnyH_take (i := 14) (v := ?_) rfl (by kernel_rfl) (by kernel_rfl) (by kernel_rfl) (fun _ _ _ h => h) (Or.inl ⟨by rfl, ?_⟩) (by assumption) ?_
  rotate_left
  · intro w hSw
    go_simp
    try with_reducible rfl
  simp only [Act.put, List.getElem_toArray, List.getElem_cons_zero, List.getElem_cons_succ, List.setIfInBounds_toArray, List.set_cons_zero, List.set_cons_succ]
  refine wpAnyH_ready (rs := [15]) (by kernel_rfl) (by simp) ?_
  refine AllReadyH.cons rfl (fun K hK => ?_) AllReadyH.nil
  go_simp
  refine hK.out _ _ ⟨pw_cell_below (below_alloc (Below.refl _ w2) _) k20, pw_cell_below (below_alloc (Below.refl _ w2) _) k21, pw_cell_below (below_alloc (Below.refl _ w2) _) k22⟩ (fun hHeld2 => ?_)
  clear hK K hHeld
  have hHeld := hHeld2
  clear hHeld2
  try simp only [Act.put, List.getElem_toArray, List.getElem_cons_zero, List.getElem_cons_succ, List.setIfInBounds_toArray, List.set_cons_zero, List.set_cons_succ]
  refine wpAnyH_take (i := 16) (v := ?_) rfl (by kernel_rfl) (by kernel_rfl) (by kernel_rfl) (fun _ _ _ h => h) (Or.inl ⟨by rfl, ?_⟩) (by assumption) ?_
  rotate_left
  · intro w hSw
    go_simp
    try with_reducible rfl
  simp only [Act.put, List.getElem_toArray, List.getElem_cons_zero, List.getElem_cons_succ, List.setIfInBounds_toArray, List.set_cons_zero, List.set_cons_succ]
  refine wpAnyH_done (by kernel_rfl) ?_ _
  refine NoPanic.normal ?_
  obtain ⟨bc, hbc⟩ : ∃ p, w2.heap.size = p := ⟨_, rfl⟩
  obtain ⟨wX, hwX⟩ : ∃ X, w2.alloc (.cells #[.slice A1 D1 c1, .slice A2 D2 c2, .int .i64 far] 45) = X := ⟨_, rfl⟩
  rw [hwX, hbc]
  have hbX : Below w2.heap.size w2 wX := by rw [← hwX]; exact below_alloc (Below.refl _ w2) _
  have hB2 : Below w.heap.size w w2 := HB1.out.trans (HB2.out.mono HB1.out.size)
  have HBX : Aside0 (Below w.heap.size w wX) := ⟨hB2.trans (hbX.mono hB2.size)⟩
  have HRX : Aside0 (RT wX (fun j => w.heap.size ≤ j) bc m (.slice A1 D1 c1) (.slice A2 D2 c2)) := ⟨by
    refine RT.of ?_ ?_ ?_ (by rw [← hbc]; exact hB2.size)
    · rw [← hwX, ← hbc, HFAR.out]
      exact heap_alloc_new _ _
    · exact Kd.R_below (Kd.R_below HR1.out HB2.out) hbX
    · exact Kd.R_below HR2.out hbX⟩
  clear hbc hwX hbX hB2 k20 k21 k22 hHeld HR1 HR2 HB1 HB2 HCL HCO HCO1 hD1 hD2 g0 g1 g2
  go_upto_block 0 with (fail)
  go_wp2_with (fail)
  go_loopg [8] N (fun gk v8 wr => ∃ (k : Nat) (vL' vO' : Value), v8 = .int .i64 (k : Int) ∧ Aside0 (k + gk = N) ∧ Aside0 (Below w.heap.size w wr) ∧ Aside0 (RT wr (fun j => w.heap.size ≤ j) bc (putB at_ m (l.take k)) vL' vO') ∧ Aside0 (WF (putB at_ m (l.take k)) (n0 + k)) ∧ Aside0 (Srt (putB at_ m (l.take k))) ∧ Aside0 (putE m at_ l = soundB at_ (putB at_ m (l.take k)).far (((putB at_ m (l.take k)).O.length : Int) - 1) (l.drop k)))
  case atStart => exact ⟨0, _, _, rfl, ⟨by omega⟩, HBX, HRX, HWF, HS, HPE⟩
  case round =>
    clear HBX HRX
    obtain ⟨k, vL', vO', rfl, HK, HB, HRT, HWK, HSK, HPK⟩ := hrel
    by_cases hkn : k < N
    · obtain ⟨gn, rfl⟩ : ∃ gn, gk = gn + 1 := ⟨gk - 1, by have := HK.out; omega⟩
      obtain ⟨x, hx⟩ : ∃ x, l[k]? = some x := ⟨_, List.getElem?_eq_getElem (by rw [HLN.out]; exact hkn)⟩
      obtain ⟨ad, hA, _⟩ := HR.out.2.2 (by omega)
      subst hA
      obtain ⟨e0, e1, e2, e3⟩ := ev_at (evs_below HR.out HB.out) hx
      have p0 : (0 : Int) ≤ (k : Int) := by omega
      have p1 : (k : Int) < (N : Int) := by omega
      have hwk : IntKind.i64.wrap ((k : Int) + 1) = (k : Int) + 1 := IntWalk.i64_in _ (by omega)
      have hdr : l.drop k = x :: l.drop (k + 1) := by
        rw [List.drop_eq_getElem_cons (by rw [HLN.out]; exact hkn)]
        congr 1
        have h := List.getElem?_eq_getElem (l := l) (i := k) (by rw [HLN.out]; exact hkn)
        rw [hx] at h
        injection h with h
        exact h.symm
      have HDR := Aside0.mk hdr
      have HTK : Aside0 (putB at_ m (l.take (k + 1)) = stepB (putB at_ m (l.take k)) (shE at_ x)) := ⟨by rw [take_snoc hx]; simp [putB]⟩
      obtain ⟨mk, hmk⟩ : ∃ q, putB at_ m (l.take k) = q := ⟨_, rfl⟩
      rw [hmk] at HTK HRT HWK HSK HPK
      have HON := Aside0.mk (rone_c bc mk vL' vO' x at_ wr _ (n0 + k) HRT.out HSK.out HWK.out (by omega) (by omega))
      have HSZ : Aside0 (w.heap.size ≤ wr.heap.size) := ⟨HB.out.size⟩
      clear hx hdr hmk
      go_wp2_with (refine HON.out.mono ?_)
      rintro _ w4 ⟨rfl, h4, f4⟩
      have HB4 : Aside0 (Below w.heap.size w w4) := ⟨HB.out.trans (f4.below HB.out.size (fun j hj => hj))⟩
      obtain ⟨r, hr⟩ : ∃ r, oneE at_ mk.far ((mk.O.length : Int) - 1) x = r := ⟨_, rfl⟩
      rw [hr] at h4 ⊢
      by_cases hr0 : r = 0
      · subst hr0
        obtain ⟨vL4, vO4, h5⟩ := h4 rfl
        have H5 := Aside0.mk h5
        have HE0 := Aside0.mk hr
        clear h4 h5 f4 hr HON e0 e1 e2 e3
        go_wp2_with (fail)
        go_roundg gn
        case measure => exact Nat.lt_succ_self _
        case rel =>
          refine ⟨k + 1, vL4, vO4, by simp, ⟨by have := HK.out; omega⟩, HB4, ⟨?_⟩, ⟨?_⟩, ⟨?_⟩, ⟨?_⟩⟩
          · rw [HTK.out]
            exact H5.out.mono (fun j hj => hj.elim (fun h => h) (fun h => Nat.le_trans HSZ.out h))
          · rw [HTK.out]
            exact (one_cases (by omega) HWK.out HE0.out).2
          · rw [HTK.out]
            exact HSK.out.step _
          · rw [HTK.out, HPK.out, HDR.out]
            exact sound_good (by omega) HWK.out HE0.out
      · have br : (r != 0) = true := by simp [bne, beq_eq_false_iff_ne.mpr hr0]
        have hpr : putE m at_ l = r := by
          rw [HPK.out, HDR.out, ← hr]
          exact sound_bad (by rw [hr]; exact hr0)
        have HF := Aside0.mk (hfail.out r w4 hpr hr0 HB4.out)
        clear h4 f4 hr HON e0 e1 e2 e3 hfail hpr hr0
        go_wp2_with (fail)
        go_ret
        exact HF.out
    · have hke : k = N := by have := HK.out; omega
      have hpe : putE m at_ l = 0 := by
        rw [HPK.out, hke, List.drop_of_length_le (by rw [HLN.out]; omega)]
        rfl
      have hT : l.take k = l := List.take_of_length_le (by rw [HLN.out]; omega)
      rw [hT] at HRT
      obtain ⟨M, hM⟩ : ∃ q, putB at_ m l = q := ⟨_, rfl⟩
      rw [hM] at HRT
      obtain ⟨f2, hf2⟩ : ∃ q, M.far = q := ⟨_, rfl⟩
      have k0 := HRT.out.cL
      have k1 := HRT.out.cO
      have k2 := HRT.out.cF
      rw [hf2] at k2
      have hb0 := (HB.out.block b (blk_lt H.out.hb)).trans H.out.hb
      have b0 : wr.cell? ⟨b, 0, none⟩ = some vL := cell_of_row _ _ _ _ _ _ hb0
      have b1 : wr.cell? ⟨b, 1, none⟩ = some vO := cell_of_row _ _ _ _ _ _ hb0
      have b2 : wr.cell? ⟨b, 2, none⟩ = some (.int .i64 m.far) := cell_of_row _ _ _ _ _ _ hb0
      have fb := fun j => blk_frozen hb0 j
      have hbne : bc ≠ b := fun e => by
        have h1 := blk_lt H.out.hb
        have h2 := HRT.out.fb
        omega
      obtain ⟨A5, c5, h5, _, _⟩ := Kd.R_reads HRT.out.rL
      obtain ⟨A6, c6, h6, _, _⟩ := Kd.R_reads HRT.out.rO
      obtain ⟨n5, hn5⟩ : ∃ q, (doneL M (-1)).length = q := ⟨_, rfl⟩
      obtain ⟨n6, hn6⟩ : ∃ q, M.O.length = q := ⟨_, rfl⟩
      rw [hn5] at h5
      rw [hn6] at h6
      rw [h5] at k0 HRT
      rw [h6] at HRT
      have HPE0 := Aside0.mk hpe
      have HF2 := Aside0.mk hf2
      have HM := Aside0.mk hM
      have HB0 := Aside0.mk hb0
      have HBN := Aside0.mk hbne
      have q1 : ¬ ((k : Int) < (N : Int)) := by omega
      have hfl := fb 0
      clear h5 h6 hn5 hn6 hf2 hM hpe hT k1 k2 b1 b2 hbne hb0 fb hfail HPK HWK HSK
      go_upto_region 11 with (fail)
      obtain ⟨wP, hwP⟩ : ∃ X, wr.setCell ⟨b, 0, none⟩ (.slice A5 n5 c5) = X := ⟨_, rfl⟩
      rw [hwP]
      have hbP := blk_set HB0.out 0 (.slice A5 n5 c5)
      have hcP := blk_far HRT.out.hb (p := ⟨b, 0, none⟩) HBN.out (.slice A5 n5 c5)
      rw [hwP] at hbP hcP
      have HBP := Aside0.mk hbP
      have HCP := Aside0.mk hcP
      have HWP := Aside0.mk hwP
      have k1 : wP.cell? ⟨bc, 1, none⟩ = some (.slice A6 n6 c6) := cell_of_row _ _ _ _ _ _ hcP
      have b1 : wP.cell? ⟨b, 1, none⟩ = some vO := cell_of_row _ _ _ _ _ _ hbP
      have hf1 := blk_frozen hbP 1
      clear hwP hbP hcP k0 b0 hfl
      go_upto_region 12 with (fail)
      obtain ⟨wQ, hwQ⟩ : ∃ X, wP.setCell ⟨b, 1, none⟩ (.slice A6 n6 c6) = X := ⟨_, rfl⟩
      rw [hwQ]
      have hbQ := blk_set HBP.out 1 (.slice A6 n6 c6)
      have hcQ := blk_far HCP.out (p := ⟨b, 1, none⟩) HBN.out (.slice A6 n6 c6)
      rw [hwQ] at hbQ hcQ
      have HBQ := Aside0.mk hbQ
      have HWQ := Aside0.mk hwQ
      have k2 : wQ.cell? ⟨bc, 2, none⟩ = some (.int .i64 M.far) := cell_of_row _ _ _ _ _ _ hcQ
      rw [HF2.out] at k2
      have b2 : wQ.cell? ⟨b, 2, none⟩ = some (.int .i64 m.far) := cell_of_row _ _ _ _ _ _ hbQ
      have hf2 := blk_frozen hbQ 2
      clear hwQ hbQ hcQ k1 b1 hf1
      go_wp2_with (fail)
      go_ret
      refine ⟨by rw [HPE0.out]; rfl, ⟨.slice A5 n5 c5, .slice A6 n6 c6, ?_⟩, ?_⟩
      · rw [if_pos HPE0.out, HM.out]
        refine RT.of ?_ ?_ ?_ (.inl H.out.fb)
        · rw [HF2.out]
          exact blk_set HBQ.out 2 _
        · refine Kd.R_set ?_ HBQ.out (by decide) 2 _
          rw [← HWQ.out]
          refine Kd.R_set ?_ HBP.out (by decide) 1 _
          rw [← HWP.out]
          exact Kd.R_set (kd_mono HRT.out.rL (fun j hj => .inr (HRT.out.rL.1 j hj))) HB0.out (by decide) 0 _
        · refine Kd.R_set ?_ HBQ.out (by decide) 2 _
          rw [← HWQ.out]
          refine Kd.R_set ?_ HBP.out (by decide) 1 _
          rw [← HWP.out]
          exact Kd.R_set (kd_mono HRT.out.rO (fun j hj => .inr (HRT.out.rO.1 j hj))) HB0.out (by decide) 0 _
      · rw [← HWQ.out, ← HWP.out]
        exact (((Fr.of_below (fp := fp) HB.out).set ⟨b, 0, none⟩ (.inl H.out.fb) _).set ⟨b, 1, none⟩ (.inl H.out.fb) _).set ⟨b, 2, none⟩ (.inl H.out.fb) _
end Go.Proofs.Ytfaibpdoalbkpaa.Bu
