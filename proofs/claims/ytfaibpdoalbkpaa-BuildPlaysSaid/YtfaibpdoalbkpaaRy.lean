/- The reference's one: a beginning. -/
import Derived.Test.YtfaibpdoalbkpaaRx
namespace Go.Proofs.Ytfaibpdoalbkpaa.Bu
open Go.RowKit Go.Proofs.YtfaibpdoalbkpaaW.PrintWords Go.Proofs.YtfaibpdoalbkpaaW.PrintLast Go.Proofs.YtfaibpdoalbkpaaW.PrintMore
attribute [local go_sem] max2_int min2_int max_two min_two max_three min_three max_four min_four
set_option linter.unusedVariables false
set_option linter.unusedSimpArgs false
theorem info3a : (Try.prog.info? 3).map (fun i => (i.zero, i.size, i.bytes)) = some (some (.int .i64 0), 1, 8) := by kernel_rfl
set_option maxRecDepth 100000 in
set_option maxHeartbeats 8000000 in
theorem rone_begin (b : Nat) (m : Bl) (vL vO : Value) (x : Ev) (at_ : Int) (w : World) (fp : Nat → Prop) (n0 : Nat) (h0 : RT w fp b m vL vO) (hs : Srt m) (hwf : WF m n0) (hn0 : n0 ≤ 1000000) (ha : 0 ≤ at_ ∧ at_ ≤ 1048576) (ho : x.o = 1) (hnb : ¬ Bad at_ m.far x.a) :
    Calls Try.prog 23 #[pv b, .agg (evc x), .int .i64 at_] w fun e w' => ROneP w fp b m at_ x e w' := by
  have h1 := h0.bound
  obtain ⟨W, hW⟩ : ∃ W, w.alloc (.cells (evc x) 41) = W := ⟨_, rfl⟩
  have hbw : Below w.heap.size w W := by rw [← hW]; exact below_alloc (Below.refl _ w) _
  have hsz : W.heap.size = w.heap.size + 1 := by rw [← hW]; simp
  have rE : W.heap[w.heap.size]? = some (.cells (evc x) 41 (0, 0)) := by rw [← hW]; exact heap_alloc_new _ _
  have e0 : W.cell? ⟨w.heap.size, 0, none⟩ = some (.int .u8 x.o) := cell_of_row _ _ _ _ _ _ rE
  have e1 : W.cell? ⟨w.heap.size, 1, none⟩ = some (.int .u8 x.k) := cell_of_row _ _ _ _ _ _ rE
  have e2 : W.cell? ⟨w.heap.size, 2, none⟩ = some (.int .i64 x.a) := cell_of_row _ _ _ _ _ _ rE
  have e3 : W.cell? ⟨w.heap.size, 3, none⟩ = some (.int .i64 x.t) := cell_of_row _ _ _ _ _ _ rE
  have hT := h1.below hbw
  have gF := hT.cF
  have HT := Aside0.mk hT
  have HBW := Aside0.mk hbw
  have HRE := Aside0.mk rE
  have HWF := Aside0.mk hwf
  have hfar := hwf.f
  clear h0 h1 hT rE hbw hwf
  have hz : oneE at_ m.far ((m.O.length : Int) - 1) x = 0 := by rw [oneE_cons, if_neg (by omega), if_neg hnb, if_neg (by omega), if_pos ho]
  have HO := Aside0.mk ho
  have HZ := Aside0.mk hz
  have HPL := Aside0.mk (rplace_c b x.a at_ m.far W gF ha hfar)
  have HNB := Aside0.mk hnb
  have gL := HT.out.cL
  have gO := HT.out.cO
  obtain ⟨AL, cL, hvL, _, _⟩ := Kd.R_reads HT.out.rL
  obtain ⟨AO, cO, hvO, _, _⟩ := Kd.R_reads HT.out.rO
  obtain ⟨NL, hNL⟩ : ∃ D, (doneL m (-1)).length = D := ⟨_, rfl⟩
  obtain ⟨NO, hNO⟩ : ∃ D, m.O.length = D := ⟨_, rfl⟩
  rw [hNL] at hvL
  rw [hNO] at hvO
  rw [hvL] at gL
  rw [hvO] at gO
  have hNL8 : NL ≤ 1000000 := by rw [len_doneL] at hNL; have := HWF.out.L; omega
  have hNO8 : NO ≤ 1000000 := by have := HWF.out.O; omega
  have hwn : IntKind.i64.wrap (NL : Int) = (NL : Int) := IntWalk.i64_in _ (by omega)
  have HVL := Aside0.mk hvL
  have HVO := Aside0.mk hvO
  have HNL := Aside0.mk hNL
  have HNO := Aside0.mk hNO
  rw [ho] at e0
  have HSZ := Aside0.mk hsz
  clear hnb ho hz hvL hvO hNL hNO hsz
  go_enter Try.func23, Try.ntmps23
  go_wp2_with (refine HPL.out.mono ?_)
  rintro _ w2 ⟨(⟨hb, _⟩ | ⟨hn, rfl⟩), rfl⟩
  · exact absurd hb HNB.out
  go_upto_region 13 with (fail)
  refine wp_region_noPanic ?_
  refine wp_region_last_drew (S := (fun w' => w'.cell? ⟨b, 0, none⟩ = some (.slice AL NL cL) ∧ w'.cell? ⟨b, 1, none⟩ = some (.slice AO NO cO) ∧ w'.cell? ⟨w.heap.size, 1, none⟩ = some (.int .u8 x.k))) (ds := [18]) (by kernel_rfl) ?_ (fun hHeld => ?_)
  · exact ⟨gL, gO, e1⟩
  refine wpAnyLast_take (i := 0) (v := ?_) rfl (by kernel_rfl) (by kernel_rfl) (by kernel_rfl) (by kernel_rfl) (by kernel_rfl) (fun _ _ _ h => h) (Or.inl ⟨by rfl, ?_⟩) (by assumption) ?_
  rotate_left
  · intro w hSw
    go_simp
    try with_reducible rfl
  simp only [Act.put, List.getElem_toArray, List.getElem_cons_zero, List.getElem_cons_succ, List.setIfInBounds_toArray, List.set_cons_zero, List.set_cons_succ]
  refine wpAnyLast_take (i := 1) (v := ?_) rfl (by kernel_rfl) (by kernel_rfl) (by kernel_rfl) (by kernel_rfl) (by kernel_rfl) (fun _ _ _ h => h) (Or.inl ⟨by rfl, ?_⟩) (by assumption) ?_
  rotate_left
  · intro w hSw
    go_simp
    try with_reducible rfl
  simp only [Act.put, List.getElem_toArray, List.getElem_cons_zero, List.getElem_cons_succ, List.setIfInBounds_toArray, List.set_cons_zero, List.set_cons_succ]
  refine wpAnyLast_take (i := 2) (v := ?_) rfl (by kernel_rfl) (by kernel_rfl) (by kernel_rfl) (by kernel_rfl) (by kernel_rfl) (fun _ _ _ h => h) (Or.inl ⟨by rfl, ?_⟩) (by assumption) ?_
  rotate_left
  · intro w hSw
    go_simp
    try with_reducible rfl
  simp only [Act.put, List.getElem_toArray, List.getElem_cons_zero, List.getElem_cons_succ, List.setIfInBounds_toArray, List.set_cons_zero, List.set_cons_succ]
  refine wpAnyLast_take (i := 3) (v := ?_) rfl (by kernel_rfl) (by kernel_rfl) (by kernel_rfl) (by kernel_rfl) (by kernel_rfl) (fun _ _ _ h => h) (Or.inl ⟨by rfl, ?_⟩) (by assumption) ?_
  rotate_left
  · intro w hSw
    go_simp
    try with_reducible rfl
  simp only [Act.put, List.getElem_toArray, List.getElem_cons_zero, List.getElem_cons_succ, List.setIfInBounds_toArray, List.set_cons_zero, List.set_cons_succ]
  refine wpAnyLast_take (i := 4) (v := ?_) rfl (by kernel_rfl) (by kernel_rfl) (by kernel_rfl) (by kernel_rfl) (by kernel_rfl) (fun _ _ _ h => h) (Or.inl ⟨by rfl, ?_⟩) (by assumption) ?_
  rotate_left
  · intro w hSw
    go_simp
    try with_reducible rfl
  simp only [Act.put, List.getElem_toArray, List.getElem_cons_zero, List.getElem_cons_succ, List.setIfInBounds_toArray, List.set_cons_zero, List.set_cons_succ]
  refine wpAnyLast_take (i := 5) (v := ?_) rfl (by kernel_rfl) (by kernel_rfl) (by kernel_rfl) (by kernel_rfl) (by kernel_rfl) (fun _ _ _ h => h) (Or.inl ⟨by rfl, ?_⟩) (by assumption) ?_
  rotate_left
  · intro w hSw
    go_simp
    try with_reducible rfl
  simp only [Act.put, List.getElem_toArray, List.getElem_cons_zero, List.getElem_cons_succ, List.setIfInBounds_toArray, List.set_cons_zero, List.set_cons_succ]
  refine wpAnyLast_take (i := 6) (v := ?_) rfl (by kernel_rfl) (by kernel_rfl) (by kernel_rfl) (by kernel_rfl) (by kernel_rfl) (fun _ _ _ h => h) (Or.inl ⟨by rfl, ?_⟩) (by assumption) ?_
  rotate_left
  · intro w hSw
    go_simp
    try with_reducible rfl
  simp only [Act.put, List.getElem_toArray, List.getElem_cons_zero, List.getElem_cons_succ, List.setIfInBounds_toArray, List.set_cons_zero, List.set_cons_succ]
  refine wpAnyLast_take (i := 7) (v := ?_) rfl (by kernel_rfl) (by kernel_rfl) (by kernel_rfl) (by kernel_rfl) (by kernel_rfl) (fun _ _ _ h => h) (Or.inl ⟨by rfl, ?_⟩) (by assumption) ?_
  rotate_left
  · intro w hSw
    go_simp
    try with_reducible rfl
  simp only [Act.put, List.getElem_toArray, List.getElem_cons_zero, List.getElem_cons_succ, List.setIfInBounds_toArray, List.set_cons_zero, List.set_cons_succ]
  refine wpAnyLast_take (i := 8) (v := ?_) rfl (by kernel_rfl) (by kernel_rfl) (by kernel_rfl) (by kernel_rfl) (by kernel_rfl) (fun _ _ _ h => h) (Or.inl ⟨by rfl, ?_⟩) (by assumption) ?_
  rotate_left
  · intro w hSw
    go_simp
    try with_reducible rfl
  simp only [Act.put, List.getElem_toArray, List.getElem_cons_zero, List.getElem_cons_succ, List.setIfInBounds_toArray, List.set_cons_zero, List.set_cons_succ]
  refine wpAnyLast_take (i := 9) (v := ?_) rfl (by kernel_rfl) (by kernel_rfl) (by kernel_rfl) (by kernel_rfl) (by kernel_rfl) (fun _ _ _ h => h) (Or.inl ⟨by rfl, ?_⟩) (by assumption) ?_
  rotate_left
  · intro w hSw
    go_simp
    try with_reducible rfl
  simp only [Act.put, List.getElem_toArray, List.getElem_cons_zero, List.getElem_cons_succ, List.setIfInBounds_toArray, List.set_cons_zero, List.set_cons_succ]
  refine wpAnyLast_take (i := 10) (v := ?_) rfl (by kernel_rfl) (by kernel_rfl) (by kernel_rfl) (by kernel_rfl) (by kernel_rfl) (fun _ _ _ h => h) (Or.inl ⟨by rfl, ?_⟩) (by assumption) ?_
  rotate_left
  · intro w hSw
    go_simp
    try with_reducible rfl
  simp only [Act.put, List.getElem_toArray, List.getElem_cons_zero, List.getElem_cons_succ, List.setIfInBounds_toArray, List.set_cons_zero, List.set_cons_succ]
  refine wpAnyLast_take (i := 11) (v := ?_) rfl (by kernel_rfl) (by kernel_rfl) (by kernel_rfl) (by kernel_rfl) (by kernel_rfl) (fun _ _ _ h => h) (Or.inl ⟨by rfl, ?_⟩) (by assumption) ?_
  rotate_left
  · intro w hSw
    go_simp
    try with_reducible rfl
  simp only [Act.put, List.getElem_toArray, List.getElem_cons_zero, List.getElem_cons_succ, List.setIfInBounds_toArray, List.set_cons_zero, List.set_cons_succ]
  refine wpAnyLast_take (i := 12) (v := ?_) rfl (by kernel_rfl) (by kernel_rfl) (by kernel_rfl) (by kernel_rfl) (by kernel_rfl) (fun _ _ _ h => h) (Or.inl ⟨by rfl, ?_⟩) (by assumption) ?_
  rotate_left
  · intro w hSw
    go_simp
    try with_reducible rfl
  simp only [Act.put, List.getElem_toArray, List.getElem_cons_zero, List.getElem_cons_succ, List.setIfInBounds_toArray, List.set_cons_zero, List.set_cons_succ]
  refine wpAnyLast_take (i := 13) (v := ?_) rfl (by kernel_rfl) (by kernel_rfl) (by kernel_rfl) (by kernel_rfl) (by kernel_rfl) (fun _ _ _ h => h) (Or.inl ⟨by rfl, ?_⟩) (by assumption) ?_
  rotate_left
  · intro w hSw
    go_simp
    try with_reducible rfl
  simp only [Act.put, List.getElem_toArray, List.getElem_cons_zero, List.getElem_cons_succ, List.setIfInBounds_toArray, List.set_cons_zero, List.set_cons_succ]
  refine wpAnyLast_ready (rs := [14]) (by kernel_rfl) (by simp) ?_
  refine AllReadyL.cons rfl (by decide) (fun K hK => ?_) AllReadyL.nil
  go_simp
  refine hK.out _ _ ⟨pw_cell_below (below_alloc (Below.refl _ w2) _) gL, pw_cell_below (below_alloc (Below.refl _ w2) _) gO, pw_cell_below (below_alloc (Below.refl _ w2) _) e1⟩ (fun hHeld2 => ?_)
  clear hK K hHeld
  have hHeld := hHeld2
  clear hHeld2
  try simp only [Act.put, List.getElem_toArray, List.getElem_cons_zero, List.getElem_cons_succ, List.setIfInBounds_toArray, List.set_cons_zero, List.set_cons_succ]
  have HRL : Aside0 (kN.R 38 w2.drew 0 (more fp w.heap.size) (.slice AL NL cL) (doneL m (-1))) := ⟨by
    have h := (HT.out.mono (fp' := more fp w.heap.size) (fun k hk => .inl hk.1)).rL
    rw [HVL.out] at h
    exact Kd.R_below h (below_drew (Below.refl _ w2))⟩
  refine wpAnyLast_ready (rs := [15]) (by kernel_rfl) (by simp) ?_
  refine AllReadyL.cons rfl (by decide) (fun K hK => ?_) AllReadyL.nil
  refine Kd.R_append_step (W := w2.drew) kN (w0 := w2.drew) 0 (by rfl) (.tmp 78) (.tmp 88) 32 38 (.agg #[.int .u8 0, .int .i64 0, .int .i64 0, .int .i64 0]) 32 rfl Try.underlying32 info38 rfl (by decide) (by decide) (.slice AL NL cL) (doneL m (-1)) ⟨x.k, at_ + x.a, -1, (NO : Int)⟩ [.int .u8 x.k, .int .i64 (at_ + x.a), .int .i64 (-1), .int .i64 (NO : Int)] (more fp w.heap.size) (fun _ => False) rfl rfl rfl (fun _ h => h.elim) (fun k hk => .inr (by have h : w2.heap.size ≤ k := hk; have := HSZ.out; omega)) HRL.out (Below.refl _ _) (Nat.zero_le _) (by rw [HNL.out]; omega) ?_
  intro v3 w3 hR3 _ hg3 hat3
  obtain ⟨A3, c3, hv3, _, _⟩ := Kd.R_reads hR3
  have hl3 : (doneL m (-1) ++ [(⟨x.k, at_ + x.a, -1, (NO : Int)⟩ : Nd)]).length = NL + 1 := (by rw [List.length_append, HNL.out]; rfl)
  rw [hl3] at hv3
  subst hv3
  have HR3 := Aside0.mk hR3
  have HG3 := Aside0.mk hg3
  have hB3 : w3.heap[b]? = some (.cells #[vL, vO, .int .i64 m.far] 45 (0, 0)) := (hg3.block b (blk_lt HT.out.hb) (Kd.R_ne HRL.out HT.out.hb (by decide))).trans HT.out.hb
  have hE3 : w3.heap[w.heap.size]? = some (.cells (evc x) 41 (0, 0)) := (hg3.block w.heap.size (blk_lt HRE.out) (Kd.R_ne HRL.out HRE.out (by decide))).trans HRE.out
  rw [HVL.out, HVO.out] at hB3
  have HB3 := Aside0.mk hB3
  have c30 : w3.cell? ⟨b, 0, none⟩ = some (.slice AL NL cL) := cell_of_row _ _ _ _ _ _ hB3
  have c31 : w3.cell? ⟨b, 1, none⟩ = some (.slice AO NO cO) := cell_of_row _ _ _ _ _ _ hB3
  have c3e : w3.cell? ⟨w.heap.size, 1, none⟩ = some (.int .u8 x.k) := cell_of_row _ _ _ _ _ _ hE3
  have fb3 : ∀ j, w3.frozen? ⟨b, j, none⟩ = false := fun j => blk_frozen hB3 j
  clear hR3 hg3 hat3 hB3 hE3
  refine hK.out _ _ ⟨c30, c31, c3e⟩ (fun hHeld2 => ?_)
  clear hK K hHeld
  have hHeld := hHeld2
  clear hHeld2
  try simp only [Act.put, List.getElem_toArray, List.getElem_cons_zero, List.getElem_cons_succ, List.setIfInBounds_toArray, List.set_cons_zero, List.set_cons_succ]
  refine wpAnyLast_take (i := 16) (v := ?_) rfl (by kernel_rfl) (by kernel_rfl) (by kernel_rfl) (by kernel_rfl) (by kernel_rfl) (fun _ _ _ h => h) (Or.inl ⟨by rfl, ?_⟩) (by assumption) ?_
  rotate_left
  · intro w hSw
    go_simp
    try with_reducible rfl
  simp only [Act.put, List.getElem_toArray, List.getElem_cons_zero, List.getElem_cons_succ, List.setIfInBounds_toArray, List.set_cons_zero, List.set_cons_succ]
  refine wpAnyLast_take (i := 17) (v := ?_) rfl (by kernel_rfl) (by kernel_rfl) (by kernel_rfl) (by kernel_rfl) (by kernel_rfl) (fun _ _ _ h => h) (Or.inl ⟨by rfl, ?_⟩) (by assumption) ?_
  rotate_left
  · intro w hSw
    go_simp
    try with_reducible rfl
  simp only [Act.put, List.getElem_toArray, List.getElem_cons_zero, List.getElem_cons_succ, List.setIfInBounds_toArray, List.set_cons_zero, List.set_cons_succ]
  refine wpAnyLast_ready (rs := [18]) (by kernel_rfl) (by simp) ?_
  refine AllReadyL.cons_last rfl (by decide) (fun K hK => ?_) AllReadyL.nil
  go_simp
  refine hK.out _ _ ?_
  clear hK K hHeld
  try simp only [Act.put, List.getElem_toArray, List.getElem_cons_zero, List.getElem_cons_succ, List.setIfInBounds_toArray, List.set_cons_zero, List.set_cons_succ]
  refine wpAnyLast_done (by kernel_rfl) ?_ _
  refine NoPanic.normal ?_
  obtain ⟨wD, hwD⟩ : ∃ X, w3.setCell ⟨b, 0, none⟩ (.slice A3 (NL + 1) c3) = X := ⟨_, rfl⟩
  rw [hwD]
  have hBD := blk_set HB3.out 0 (.slice A3 (NL + 1) c3)
  rw [hwD] at hBD
  have gD0 : wD.cell? ⟨b, 0, none⟩ = some (.slice A3 (NL + 1) c3) := cell_of_row _ _ _ _ _ _ hBD
  have gD1 : wD.cell? ⟨b, 1, none⟩ = some (.slice AO NO cO) := cell_of_row _ _ _ _ _ _ hBD
  have HRO : Aside0 (kI.R 3 wD.drew 0 (more fp w.heap.size) (.slice AO NO cO) m.O) := ⟨by
    have h := Kd.R_over (d' := kN) (w1 := w3) (Kd.R_below (kd_mono HT.out.rO (ok' := more fp w.heap.size) (fun k hk => .inl (HT.out.rO.1 k hk).1)) (below_drew (Below.refl _ w2))) HRL.out (by decide) HG3.out
    rw [HVO.out] at h
    have h2 := Kd.R_set h HB3.out (by decide) 0 (.slice A3 (NL + 1) c3)
    rw [hwD] at h2
    exact Kd.R_drew h2⟩
  have HRD : Aside0 (kN.R 38 wD.drew 0 (more fp w.heap.size) (.slice A3 (NL + 1) c3) (doneL m (-1) ++ [(⟨x.k, at_ + x.a, -1, (NO : Int)⟩ : Nd)])) := ⟨by
    have h2 := Kd.R_set HR3.out HB3.out (by decide) 0 (.slice A3 (NL + 1) c3)
    rw [hwD] at h2
    exact Kd.R_drew h2⟩
  have HFD : Aside0 (Fr fp w wD.drew) := ⟨by
    have h := (((Fr.of_below (fp := fp) HBW.out).trans (Fr.of_below (fp := fp) (below_drew (Below.refl _ w2))) (fun j hj => .inl hj)).grown HG3.out (fun k e => HRL.out.1 k e)).set ⟨b, 0, none⟩ (.inl HT.out.fb.1) (.slice A3 (NL + 1) c3)
    rw [hwD] at h
    exact h.trans (Fr.of_below (fp := fp) (below_drew (Below.refl _ wD))) (fun j hj => .inl hj)⟩
  have HBD := Aside0.mk hBD
  clear hwD hBD fb3 c30 c31 c3e gL gO e1 e0 e2 e3 gF
  go_upto_region 14 with (fail)
  refine wp_region_noPanic ?_
  refine wp_region_last_drew (S := (fun w' => w'.cell? ⟨b, 0, none⟩ = some (.slice A3 (NL + 1) c3) ∧ w'.cell? ⟨b, 1, none⟩ = some (.slice AO NO cO))) (ds := [15]) (by kernel_rfl) ?_ (fun hHeld => ?_)
  · exact ⟨gD0, gD1⟩
  refine wpAnyLast_take (i := 0) (v := ?_) rfl (by kernel_rfl) (by kernel_rfl) (by kernel_rfl) (by kernel_rfl) (by kernel_rfl) (fun _ _ _ h => h) (Or.inl ⟨by rfl, ?_⟩) (by assumption) ?_
  rotate_left
  · intro w hSw
    go_simp
    try with_reducible rfl
  simp only [Act.put, List.getElem_toArray, List.getElem_cons_zero, List.getElem_cons_succ, List.setIfInBounds_toArray, List.set_cons_zero, List.set_cons_succ]
  refine wpAnyLast_take (i := 1) (v := ?_) rfl (by kernel_rfl) (by kernel_rfl) (by kernel_rfl) (by kernel_rfl) (by kernel_rfl) (fun _ _ _ h => h) (Or.inl ⟨by rfl, ?_⟩) (by assumption) ?_
  rotate_left
  · intro w hSw
    go_simp
    try with_reducible rfl
  simp only [Act.put, List.getElem_toArray, List.getElem_cons_zero, List.getElem_cons_succ, List.setIfInBounds_toArray, List.set_cons_zero, List.set_cons_succ]
  refine wpAnyLast_take (i := 2) (v := ?_) rfl (by kernel_rfl) (by kernel_rfl) (by kernel_rfl) (by kernel_rfl) (by kernel_rfl) (fun _ _ _ h => h) (Or.inl ⟨by rfl, ?_⟩) (by assumption) ?_
  rotate_left
  · intro w hSw
    go_simp
    try with_reducible rfl
  simp only [Act.put, List.getElem_toArray, List.getElem_cons_zero, List.getElem_cons_succ, List.setIfInBounds_toArray, List.set_cons_zero, List.set_cons_succ]
  refine wpAnyLast_take (i := 3) (v := ?_) rfl (by kernel_rfl) (by kernel_rfl) (by kernel_rfl) (by kernel_rfl) (by kernel_rfl) (fun _ _ _ h => h) (Or.inl ⟨by rfl, ?_⟩) (by assumption) ?_
  rotate_left
  · intro w hSw
    go_simp
    try with_reducible rfl
  simp only [Act.put, List.getElem_toArray, List.getElem_cons_zero, List.getElem_cons_succ, List.setIfInBounds_toArray, List.set_cons_zero, List.set_cons_succ]
  refine wpAnyLast_take (i := 4) (v := ?_) rfl (by kernel_rfl) (by kernel_rfl) (by kernel_rfl) (by kernel_rfl) (by kernel_rfl) (fun _ _ _ h => h) (Or.inl ⟨by rfl, ?_⟩) (by assumption) ?_
  rotate_left
  · intro w hSw
    go_simp
    try with_reducible rfl
  simp only [Act.put, List.getElem_toArray, List.getElem_cons_zero, List.getElem_cons_succ, List.setIfInBounds_toArray, List.set_cons_zero, List.set_cons_succ]
  refine wpAnyLast_take (i := 5) (v := ?_) rfl (by kernel_rfl) (by kernel_rfl) (by kernel_rfl) (by kernel_rfl) (by kernel_rfl) (fun _ _ _ h => h) (Or.inl ⟨by rfl, ?_⟩) (by assumption) ?_
  rotate_left
  · intro w hSw
    go_simp
    try with_reducible rfl
  simp only [Act.put, List.getElem_toArray, List.getElem_cons_zero, List.getElem_cons_succ, List.setIfInBounds_toArray, List.set_cons_zero, List.set_cons_succ]
  refine wpAnyLast_take (i := 6) (v := ?_) rfl (by kernel_rfl) (by kernel_rfl) (by kernel_rfl) (by kernel_rfl) (by kernel_rfl) (fun _ _ _ h => h) (Or.inl ⟨by rfl, ?_⟩) (by assumption) ?_
  rotate_left
  · intro w hSw
    go_simp
    try with_reducible rfl
  simp only [Act.put, List.getElem_toArray, List.getElem_cons_zero, List.getElem_cons_succ, List.setIfInBounds_toArray, List.set_cons_zero, List.set_cons_succ]
  refine wpAnyLast_take (i := 7) (v := ?_) rfl (by kernel_rfl) (by kernel_rfl) (by kernel_rfl) (by kernel_rfl) (by kernel_rfl) (fun _ _ _ h => h) (Or.inl ⟨by rfl, ?_⟩) (by assumption) ?_
  rotate_left
  · intro w hSw
    go_simp
    try with_reducible rfl
  simp only [Act.put, List.getElem_toArray, List.getElem_cons_zero, List.getElem_cons_succ, List.setIfInBounds_toArray, List.set_cons_zero, List.set_cons_succ]
  refine wpAnyLast_take (i := 8) (v := ?_) rfl (by kernel_rfl) (by kernel_rfl) (by kernel_rfl) (by kernel_rfl) (by kernel_rfl) (fun _ _ _ h => h) (Or.inl ⟨by rfl, ?_⟩) (by assumption) ?_
  rotate_left
  · intro w hSw
    go_simp
    try with_reducible rfl
  simp only [Act.put, List.getElem_toArray, List.getElem_cons_zero, List.getElem_cons_succ, List.setIfInBounds_toArray, List.set_cons_zero, List.set_cons_succ]
  refine wpAnyLast_take (i := 9) (v := ?_) rfl (by kernel_rfl) (by kernel_rfl) (by kernel_rfl) (by kernel_rfl) (by kernel_rfl) (fun _ _ _ h => h) (Or.inl ⟨by rfl, ?_⟩) (by assumption) ?_
  rotate_left
  · intro w hSw
    go_simp
    try with_reducible rfl
  simp only [Act.put, List.getElem_toArray, List.getElem_cons_zero, List.getElem_cons_succ, List.setIfInBounds_toArray, List.set_cons_zero, List.set_cons_succ]
  refine wpAnyLast_take (i := 10) (v := ?_) rfl (by kernel_rfl) (by kernel_rfl) (by kernel_rfl) (by kernel_rfl) (by kernel_rfl) (fun _ _ _ h => h) (Or.inl ⟨by rfl, ?_⟩) (by assumption) ?_
  rotate_left
  · intro w hSw
    go_simp
    try with_reducible rfl
  simp only [Act.put, List.getElem_toArray, List.getElem_cons_zero, List.getElem_cons_succ, List.setIfInBounds_toArray, List.set_cons_zero, List.set_cons_succ]
  refine wpAnyLast_ready (rs := [11]) (by kernel_rfl) (by simp) ?_
  refine AllReadyL.cons rfl (by decide) (fun K hK => ?_) AllReadyL.nil
  go_simp
  refine hK.out _ _ ⟨pw_cell_below (below_alloc (Below.refl _ wD) _) gD0, pw_cell_below (below_alloc (Below.refl _ wD) _) gD1⟩ (fun hHeld2 => ?_)
  clear hK K hHeld
  have hHeld := hHeld2
  clear hHeld2
  try simp only [Act.put, List.getElem_toArray, List.getElem_cons_zero, List.getElem_cons_succ, List.setIfInBounds_toArray, List.set_cons_zero, List.set_cons_succ]
  refine wpAnyLast_ready (rs := [12]) (by kernel_rfl) (by simp) ?_
  refine AllReadyL.cons rfl (by decide) (fun K hK => ?_) AllReadyL.nil
  refine Kd.R_append_step (W := wD.drew) kI (w0 := wD.drew) 0 (by rfl) (.tmp 96) (.tmp 103) 43 3 (.int .i64 0) 8 rfl Try.underlying43 info3a rfl (by decide) (by decide) (.slice AO NO cO) m.O NL [.int .i64 (NL : Int)] (more fp w.heap.size) (fun _ => False) rfl rfl rfl (fun _ h => h.elim) (fun k hk => .inr (by have h : wD.heap.size ≤ k := hk; have h2 : w.heap.size ≤ wD.heap.size := HFD.out.size; omega)) HRO.out (Below.refl _ _) (Nat.zero_le _) (by rw [HNO.out]; omega) ?_
  intro v4 w4 hR4 _ hg4 hat4
  obtain ⟨A4, c4, hv4, _, _⟩ := Kd.R_reads hR4
  have hl4 : (m.O ++ [NL]).length = NO + 1 := (by rw [List.length_append, HNO.out]; rfl)
  rw [hl4] at hv4
  subst hv4
  have HR4 := Aside0.mk hR4
  have HG4 := Aside0.mk hg4
  have hB4 := (hg4.block b (blk_lt HBD.out) (Kd.R_ne HRO.out HBD.out (by decide))).trans HBD.out
  have HB4 := Aside0.mk hB4
  have c40 : w4.cell? ⟨b, 0, none⟩ = some (.slice A3 (NL + 1) c3) := cell_of_row _ _ _ _ _ _ hB4
  have c41 : w4.cell? ⟨b, 1, none⟩ = some (.slice AO NO cO) := cell_of_row _ _ _ _ _ _ hB4
  have fb4 : ∀ j, w4.frozen? ⟨b, j, none⟩ = false := fun j => blk_frozen hB4 j
  clear hR4 hg4 hat4 hB4
  refine hK.out _ _ ⟨c40, c41⟩ (fun hHeld2 => ?_)
  clear hK K hHeld
  have hHeld := hHeld2
  clear hHeld2
  try simp only [Act.put, List.getElem_toArray, List.getElem_cons_zero, List.getElem_cons_succ, List.setIfInBounds_toArray, List.set_cons_zero, List.set_cons_succ]
  refine wpAnyLast_take (i := 13) (v := ?_) rfl (by kernel_rfl) (by kernel_rfl) (by kernel_rfl) (by kernel_rfl) (by kernel_rfl) (fun _ _ _ h => h) (Or.inl ⟨by rfl, ?_⟩) (by assumption) ?_
  rotate_left
  · intro w hSw
    go_simp
    try with_reducible rfl
  simp only [Act.put, List.getElem_toArray, List.getElem_cons_zero, List.getElem_cons_succ, List.setIfInBounds_toArray, List.set_cons_zero, List.set_cons_succ]
  refine wpAnyLast_take (i := 14) (v := ?_) rfl (by kernel_rfl) (by kernel_rfl) (by kernel_rfl) (by kernel_rfl) (by kernel_rfl) (fun _ _ _ h => h) (Or.inl ⟨by rfl, ?_⟩) (by assumption) ?_
  rotate_left
  · intro w hSw
    go_simp
    try with_reducible rfl
  simp only [Act.put, List.getElem_toArray, List.getElem_cons_zero, List.getElem_cons_succ, List.setIfInBounds_toArray, List.set_cons_zero, List.set_cons_succ]
  refine wpAnyLast_ready (rs := [15]) (by kernel_rfl) (by simp) ?_
  refine AllReadyL.cons_last rfl (by decide) (fun K hK => ?_) AllReadyL.nil
  go_simp
  refine hK.out _ _ ?_
  clear hK K hHeld
  try simp only [Act.put, List.getElem_toArray, List.getElem_cons_zero, List.getElem_cons_succ, List.setIfInBounds_toArray, List.set_cons_zero, List.set_cons_succ]
  refine wpAnyLast_done (by kernel_rfl) ?_ _
  refine NoPanic.normal ?_
  obtain ⟨wF, hwF⟩ : ∃ X, w4.setCell ⟨b, 1, none⟩ (.slice A4 (NO + 1) c4) = X := ⟨_, rfl⟩
  rw [hwF]
  have hBF := blk_set HB4.out 1 (.slice A4 (NO + 1) c4)
  rw [hwF] at hBF
  have fbF := blk_frozen hBF 2
  have gF2 : wF.cell? ⟨b, 2, none⟩ = some (.int .i64 m.far) := cell_of_row _ _ _ _ _ _ hBF
  have HBF := Aside0.mk hBF
  have HWF2 := Aside0.mk hwF
  clear hwF hBF fb4 c40 c41 gD0 gD1
  go_wp2_with (fail)
  go_ret
  have hA := HNB.out
  unfold Bad at hA
  have hwa : wrap64 (x.a + at_) = at_ + x.a := by rw [← i64_w, Int.add_comm]; exact IntWalk.i64_in _ (by omega)
  have hst : stepB m (shE at_ x) = beginB m (shE at_ x) := by simp [stepB, shE, HO.out]
  have hfb : more fp w.heap.size b := .inl HT.out.fb.1
  refine ⟨by rw [HZ.out]; rfl, fun _ => ⟨.slice A3 (NL + 1) c3, .slice A4 (NO + 1) c4, ?_⟩, ?_⟩
  · rw [hst]
    have h1 : (beginB m (shE at_ x)).far = at_ + x.a := hwa
    have h2 : doneL (beginB m (shE at_ x)) (-1) = doneL m (-1) ++ [(⟨x.k, at_ + x.a, -1, (NO : Int)⟩ : Nd)] := by
      rw [rl_begin hs, HNO.out]
      simp only [shE, hwa]
    have h3 : (beginB m (shE at_ x)).O = m.O ++ [NL] := by
      have h := HNL.out
      rw [len_doneL] at h
      rw [← h]
      rfl
    refine RT.of ?_ ?_ ?_ hfb
    · rw [h1]
      exact blk_set HBF.out 2 _
    · rw [h2]
      refine Kd.R_set ?_ HBF.out (by decide) 2 _
      rw [← HWF2.out]
      exact Kd.R_set (Kd.R_over (d' := kI) HRD.out HRO.out (by decide) HG4.out) HB4.out (by decide) 1 _
    · rw [h3]
      refine Kd.R_set ?_ HBF.out (by decide) 2 _
      rw [← HWF2.out]
      exact Kd.R_set HR4.out HB4.out (by decide) 1 _
  · rw [← HWF2.out]
    exact ((HFD.out.grown HG4.out (fun k e => HRO.out.1 k e)).set ⟨b, 1, none⟩ (.inl HT.out.fb.1) _).set ⟨b, 2, none⟩ (.inl HT.out.fb.1) _
end Go.Proofs.Ytfaibpdoalbkpaa.Bu
