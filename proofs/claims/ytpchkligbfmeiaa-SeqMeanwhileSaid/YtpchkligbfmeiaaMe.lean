/- SeqMeanwhile walked. -/
import Derived.Test.YtpchkligbfmeiaaMb
import Derived.Sort.LoopGhostIn
import Derived.Sort.CutIn
namespace Go.Proofs.Ytpchkligbfmeiaa.Se
open Go.RowKit Go.Shelf Go.Proofs.YtpchkligbfmeiaaW.PrintWords Go.Proofs.YtpchkligbfmeiaaW.PrintLast Go.Proofs.YtpchkligbfmeiaaW.PrintMore
attribute [local go_sem] max2_int min2_int max_two min_two max_three min_three max_four min_four
attribute [local go_sem] Oper.semAt_some
set_option linter.unusedVariables false
set_option linter.unusedSimpArgs false
theorem FitL.fit' {T : Tr} {L : Items} (h : FitL L) (e : toL T = L) : cntT T ≤ 8388608 := by
  have := h.n
  have := cntT_toL T
  rw [e] at this
  omega
theorem info9b : (Try.prog.info? 9).map (fun i => (i.zero, i.size, i.bytes)) = some (some (.string ByteArray.empty), 1, 16) := by kernel_rfl

set_option maxRecDepth 100000 in
set_option maxHeartbeats 4000000 in
theorem meanwhile_in (n : Nat) (hn : 8 ≤ n) (A : Option Addr) (N c : Nat) (l : List ActM) (ax : ActM) (A1 : Option Addr) (c1 : Nat) (A2 : Option Addr) (c2 : Nat) (w : World) (hR : ReadsRow (RAct w) 5 w A N l) (hA : Legs w ax A1 c1 A2 c2) :
    CallsIn Fence.wide n Try.prog 3 #[.slice A N c, .agg #[.int .i64 ax.d, .int .i64 ax.i, .int .i64 ax.n, .slice A1 ax.xs.length c1, .slice A2 ax.ys.length c2]] w fun e W' => e = .returned (.bool true) ∧ Below w.heap.size w W' := by
  have h1 : 1 ≤ n := by omega
  have hq := eqFn
  have hln := hR.1
  have hn8 := hR.2.1
  have HR := Aside0.mk hR
  have HA := Aside0.mk hA
  have HLN := Aside0.mk hln
  clear hR hln hA
  refine callsIn_of_wp_marks Try.func3 rfl trivial ?_ rfl
  simp only [Try.ntmps3, List.size_toArray, List.length_cons, List.length_nil, Nat.reduceAdd, Nat.reduceSub, Array.replicate_succ, Array.replicate_zero, List.push_toArray, List.append_toArray, List.nil_append, List.cons_append]
  obtain ⟨w2, hw2⟩ : ∃ w2, (w.alloc (.cells #[.int .i64 ax.d, .int .i64 ax.i, .int .i64 ax.n, .slice A1 ax.xs.length c1, .slice A2 ax.ys.length c2] 26)).alloc (.cells #[.bool false] 4) = w2 := ⟨_, rfl⟩
  have hb2 : Below w.heap.size w w2 := by rw [← hw2]; exact below_alloc (below_alloc (Below.refl _ w) _) _
  have hs2 : w2.heap.size = w.heap.size + 2 := by rw [← hw2, size_al, size_al]
  have r1 : w2.heap[w.heap.size]? = some (.cells #[.int .i64 ax.d, .int .i64 ax.i, .int .i64 ax.n, .slice A1 ax.xs.length c1, .slice A2 ax.ys.length c2] 26 (0, 0)) := by
    rw [← hw2]
    exact (Below.heap_alloc _ _ _ (by rw [size_al]; omega)).trans (heap_alloc_new _ _)
  have r2 : w2.heap[w.heap.size + 1]? = some (.cells #[.bool false] 4 (0, 0)) := by
    rw [← hw2]
    exact alloc_at (size_al _ _)
  have k3 : w2.cell? ⟨w.heap.size, 3, none⟩ = some (.slice A1 ax.xs.length c1) := cell_of_row _ _ _ _ _ _ r1
  have HR2 := Aside0.mk (reads_below HR.out hb2)
  have HB2 := Aside0.mk hb2
  have HR1 := Aside0.mk r1
  have e2 : decide ((200 : Int) < (ax.xs.length : Int)) = decide (200 < ax.xs.length) := by simp only [decide_eq_decide]; omega
  clear hb2 r1
  gi_wp2_with (first
    | (refine ⟨trivial, ?_⟩; gi_at_call 7; refine (callsIn_wide.2 (great_c A N c l w2 HR2.out)).mono ?_; rintro _ w9 ⟨⟨b, rfl, hsm⟩, h9⟩; rw [h9]; clear h9 w9)
    | (refine ⟨trivial, ?_⟩; gi_at_call 8; refine (callsIn_wide.2 (wakes_c _)).mono ?_; rintro _ w5 ⟨rfl, hb5⟩; have q5 := (hb5.block _ (blk_lt r2)).trans r2; have c5 := cell_of_row _ _ 0 _ _ _ q5; have f5 := blk_frozen q5 0; clear hsm)
    | (refine ⟨trivial, ?_⟩; gi_at_call 9; refine (callsIn_wide.2 (new_c _)).mono ?_; rintro _ w5 ⟨p, rfl, hs5, hb5⟩))
  · have hcf := World.cell?_setCell_same' w5 ⟨w.heap.size + 1, 0, none⟩ (.bool true) (by rw [c5]; rfl)
    refine ⟨.bool true, ?_, rfl, ((HB2.out.trans (hb5.mono HB2.out.size)).setCell (p := ⟨w.heap.size + 1, 0, none⟩) (by simp) _)⟩
    simp [results, Try.f3, go_sem, hcf]
  · have hcf := World.cell?_setCell_same' w5 ⟨w.heap.size + 1, 0, none⟩ (.bool true) (by rw [c5]; rfl)
    refine ⟨.bool true, ?_, rfl, ((HB2.out.trans (hb5.mono HB2.out.size)).setCell (p := ⟨w.heap.size + 1, 0, none⟩) (by simp) _)⟩
    simp [results, Try.f3, go_sem, hcf]
  have hb200 : ax.xs.length ≤ 200 := by omega
  have hsm : Small l := by
    cases b
    · exact hsm rfl
    · simp_all
  obtain ⟨b5, hb5e⟩ : ∃ b, w5.heap.size = b := ⟨_, rfl⟩
  obtain ⟨W0, hW0⟩ : ∃ W, w5.alloc (.cells #[.pointer (some ⟨p, 0, none⟩)] 29) = W := ⟨_, rfl⟩
  rw [hW0, hb5e]
  have hp5 : p < b5 := by rw [← hb5e]; exact hs5.lt
  have hpw : w.heap.size + 2 ≤ p := by
    obtain ⟨_, _, _, _, _, _, h⟩ := hs5.out
    omega
  have hb0 : Below w2.heap.size w2 W0 := by rw [← hW0]; exact hb5.trans (below_alloc (Below.refl _ w5) _ |>.mono hb5.size)
  have HSM := Aside0.mk hsm
  have H1 : Aside0 (SAt W0 p p []) := ⟨by rw [← hW0]; exact hs5.self.below (below_alloc (Below.refl _ w5) _)⟩
  have HC5 : Aside0 (W0.cell? ⟨b5, 0, none⟩ = some (.pointer (some ⟨p, 0, none⟩))) := ⟨by rw [← hW0, ← hb5e]; exact cell_of_row _ _ _ _ _ _ (heap_alloc_new _ _)⟩
  have HS0 : Aside0 (W0.heap.size = b5 + 1) := ⟨by rw [← hW0, ← hb5e, size_al]⟩
  have HB0 : Aside0 (Below w.heap.size w W0) := ⟨HB2.out.trans (hb0.mono HB2.out.size)⟩
  have HB20 := Aside0.mk hb0
  have HPW : Aside0 (w.heap.size ≤ p) := ⟨by omega⟩
  have HNE : Aside0 (b5 ≠ p) := ⟨by omega⟩
  have R2 := Aside0.mk r2
  clear hb5 hs5 hW0 hb5e hsm hb0 hw2 HR2 r2 k3
  gi_loopg [6] N (fun gk v6 wr => ∃ (k : Nat) (L : Items), v6 = .int .i64 (k : Int) ∧ Aside0 (SAt wr p p L) ∧ Aside0 (KG p W0 wr) ∧ Aside0 (k + gk = N))
  case atStart => exact ⟨0, [], rfl, H1, ⟨KG.refl _ _⟩, ⟨by omega⟩⟩
  case round =>
    clear H1
    obtain ⟨k, L, rfl, HS, HKG, HK⟩ := hrel
    have d5 : wr.cell? ⟨b5, 0, none⟩ = some (.pointer (some ⟨p, 0, none⟩)) := HKG.out.cell HNE.out HC5.out
    by_cases hkn : k < N
    · obtain ⟨gn, rfl⟩ : ∃ gn, gk = gn + 1 := ⟨gk - 1, by have := HK.out; omega⟩
      obtain ⟨x, hx⟩ : ∃ x, l[k]? = some x := ⟨_, List.getElem?_eq_getElem (by rw [HLN.out]; exact hkn)⟩
      obtain ⟨ad, hA, _⟩ := HR.out.2.2 (by omega)
      subst hA
      obtain ⟨A3, c3, A4, c4, hL, e0, e1, e2, e3, e4⟩ := act_at HR.out hx
      have HSMX := Aside0.mk (HSM.out.a x (List.mem_of_getElem? hx))
      have hBW : Below w.heap.size w wr := HB0.out.trans ((HKG.out.gb (Nat.le_refl _)).below HB0.out.size HPW.out)
      obtain ⟨m1, hm1⟩ : ∃ m, x.xs.length = m := ⟨_, rfl⟩
      obtain ⟨m2, hm2⟩ : ∃ m, x.ys.length = m := ⟨_, rfl⟩
      obtain ⟨xd, hxd⟩ : ∃ m, x.d = m := ⟨_, rfl⟩
      obtain ⟨xi, hxi⟩ : ∃ m, x.i = m := ⟨_, rfl⟩
      obtain ⟨xn, hxn⟩ : ∃ m, x.n = m := ⟨_, rfl⟩
      have hL2 := hL.below hBW
      have hlx := hL2.x
      have hly := hL2.y
      have hle1 := hL2.le1
      have hle2 := hL2.le2
      rw [hm1] at e3 hlx hle1
      rw [hm2] at e4 hly hle2
      rw [hxd] at e0
      rw [hxi] at e1
      rw [hxn] at e2
      have D1 := Aside0.mk e1
      have D2 := Aside0.mk e2
      have D3 := Aside0.mk e3
      have D4 := Aside0.mk e4
      have d0 := pw_cell_below hBW e0
      have d1 := pw_cell_below hBW e1
      have d2 := pw_cell_below hBW e2
      have d3 := pw_cell_below hBW e3
      have d4 := pw_cell_below hBW e4
      have HM1 := Aside0.mk hm1
      have HM2 := Aside0.mk hm2
      have HLX := Aside0.mk hlx
      have HLY := Aside0.mk hly
      have HLE1 := Aside0.mk hle1
      have HLE2 := Aside0.mk hle2
      have p0 : (0 : Int) ≤ (k : Int) := by omega
      have p1 : (k : Int) < (N : Int) := by omega
      have hw1 : IntKind.i64.wrap ((k : Int) + 1) = (k : Int) + 1 := IntWalk.i64_in _ (by omega)
      clear hx hL hL2 hlx hly hle1 hle2 hm1 hm2 hxd hxi hxn e0 e1 e2 e3 e4 hBW
      by_cases hd : xd = 0
      · subst hd
        gi_upto_region 8 with (fail)
        refine wpIn_wide.2 ?_
        refine wp_region_noPanic ?_
        refine wp_region_held_drew (S := (fun w' => w'.cell? ⟨b5, 0, none⟩ = some (.pointer (some ⟨p, 0, none⟩)) ∧ w'.cell? ⟨(ad.add (k * 5)).block, (ad.add (k * 5)).off + 1, none⟩ = some (.int .i64 xi) ∧ w'.cell? ⟨(ad.add (k * 5)).block, (ad.add (k * 5)).off + 2, none⟩ = some (.int .i64 xn) ∧ w'.cell? ⟨(ad.add (k * 5)).block, (ad.add (k * 5)).off + 3, none⟩ = some (.slice A3 m1 c3) ∧ w'.cell? ⟨(ad.add (k * 5)).block, (ad.add (k * 5)).off + 4, none⟩ = some (.slice A4 m2 c4))) (by kernel_rfl) ?_ (fun hHeld => ?_)
        · exact ⟨d5, d1, d2, d3, d4⟩
        refine wpAnyH_take (i := 0) (v := ?_) rfl (by kernel_rfl) (by kernel_rfl) (by kernel_rfl) (fun _ _ _ h => h) (Or.inl ⟨by rfl, ?_⟩) (by assumption) ?_
        rotate_left
        · intro w hSw
          go_simp
          try with_reducible rfl
        simp only [Act.put, List.getElem_toArray, List.getElem_cons_zero, List.getElem_cons_succ, List.setIfInBounds_toArray, List.set_cons_zero, List.set_cons_succ]
        refine wpAnyH_take (i := 1) (v := ?_) rfl (by kernel_rfl) (by kernel_rfl) (by kernel_rfl) (fun _ _ _ h => h) (Or.inl ⟨by rfl, ?_⟩) (by assumption) ?_
        rotate_left
        · intro w hSw
          go_simp
          try with_reducible rfl
        simp only [Act.put, List.getElem_toArray, List.getElem_cons_zero, List.getElem_cons_succ, List.setIfInBounds_toArray, List.set_cons_zero, List.set_cons_succ]
        refine wpAnyH_take (i := 2) (v := ?_) rfl (by kernel_rfl) (by kernel_rfl) (by kernel_rfl) (fun _ _ _ h => h) (Or.inl ⟨by rfl, ?_⟩) (by assumption) ?_
        rotate_left
        · intro w hSw
          go_simp
          try with_reducible rfl
        simp only [Act.put, List.getElem_toArray, List.getElem_cons_zero, List.getElem_cons_succ, List.setIfInBounds_toArray, List.set_cons_zero, List.set_cons_succ]
        refine wpAnyH_take (i := 3) (v := ?_) rfl (by kernel_rfl) (by kernel_rfl) (by kernel_rfl) (fun _ _ _ h => h) (Or.inl ⟨by rfl, ?_⟩) (by assumption) ?_
        rotate_left
        · intro w hSw
          go_simp
          try with_reducible rfl
        simp only [Act.put, List.getElem_toArray, List.getElem_cons_zero, List.getElem_cons_succ, List.setIfInBounds_toArray, List.set_cons_zero, List.set_cons_succ]
        refine wpAnyH_take (i := 4) (v := ?_) rfl (by kernel_rfl) (by kernel_rfl) (by kernel_rfl) (fun _ _ _ h => h) (Or.inl ⟨by rfl, ?_⟩) (by assumption) ?_
        rotate_left
        · intro w hSw
          go_simp
          try with_reducible rfl
        simp only [Act.put, List.getElem_toArray, List.getElem_cons_zero, List.getElem_cons_succ, List.setIfInBounds_toArray, List.set_cons_zero, List.set_cons_succ]
        refine wpAnyH_take (i := 5) (v := ?_) rfl (by kernel_rfl) (by kernel_rfl) (by kernel_rfl) (fun _ _ _ h => h) (Or.inl ⟨by rfl, ?_⟩) (by assumption) ?_
        rotate_left
        · intro w hSw
          go_simp
          try with_reducible rfl
        simp only [Act.put, List.getElem_toArray, List.getElem_cons_zero, List.getElem_cons_succ, List.setIfInBounds_toArray, List.set_cons_zero, List.set_cons_succ]
        refine wpAnyH_take (i := 6) (v := ?_) rfl (by kernel_rfl) (by kernel_rfl) (by kernel_rfl) (fun _ _ _ h => h) (Or.inl ⟨by rfl, ?_⟩) (by assumption) ?_
        rotate_left
        · intro w hSw
          go_simp
          try with_reducible rfl
        simp only [Act.put, List.getElem_toArray, List.getElem_cons_zero, List.getElem_cons_succ, List.setIfInBounds_toArray, List.set_cons_zero, List.set_cons_succ]
        refine wpAnyH_take (i := 7) (v := ?_) rfl (by kernel_rfl) (by kernel_rfl) (by kernel_rfl) (fun _ _ _ h => h) (Or.inl ⟨by rfl, ?_⟩) (by assumption) ?_
        rotate_left
        · intro w hSw
          go_simp
          try with_reducible rfl
        simp only [Act.put, List.getElem_toArray, List.getElem_cons_zero, List.getElem_cons_succ, List.setIfInBounds_toArray, List.set_cons_zero, List.set_cons_succ]
        refine wpAnyH_take (i := 8) (v := ?_) rfl (by kernel_rfl) (by kernel_rfl) (by kernel_rfl) (fun _ _ _ h => h) (Or.inl ⟨by rfl, ?_⟩) (by assumption) ?_
        rotate_left
        · intro w hSw
          go_simp
          try with_reducible rfl
        simp only [Act.put, List.getElem_toArray, List.getElem_cons_zero, List.getElem_cons_succ, List.setIfInBounds_toArray, List.set_cons_zero, List.set_cons_succ]
        refine wpAnyH_take (i := 9) (v := ?_) rfl (by kernel_rfl) (by kernel_rfl) (by kernel_rfl) (fun _ _ _ h => h) (Or.inl ⟨by rfl, ?_⟩) (by assumption) ?_
        rotate_left
        · intro w hSw
          go_simp
          try with_reducible rfl
        simp only [Act.put, List.getElem_toArray, List.getElem_cons_zero, List.getElem_cons_succ, List.setIfInBounds_toArray, List.set_cons_zero, List.set_cons_succ]
        refine wpAnyH_take (i := 10) (v := ?_) rfl (by kernel_rfl) (by kernel_rfl) (by kernel_rfl) (fun _ _ _ h => h) (Or.inl ⟨by rfl, ?_⟩) (by assumption) ?_
        rotate_left
        · intro w hSw
          go_simp
          try with_reducible rfl
        simp only [Act.put, List.getElem_toArray, List.getElem_cons_zero, List.getElem_cons_succ, List.setIfInBounds_toArray, List.set_cons_zero, List.set_cons_succ]
        refine wpAnyH_take (i := 11) (v := ?_) rfl (by kernel_rfl) (by kernel_rfl) (by kernel_rfl) (fun _ _ _ h => h) (Or.inl ⟨by rfl, ?_⟩) (by assumption) ?_
        rotate_left
        · intro w hSw
          go_simp
          try with_reducible rfl
        simp only [Act.put, List.getElem_toArray, List.getElem_cons_zero, List.getElem_cons_succ, List.setIfInBounds_toArray, List.set_cons_zero, List.set_cons_succ]
        refine wpAnyH_take (i := 12) (v := ?_) rfl (by kernel_rfl) (by kernel_rfl) (by kernel_rfl) (fun _ _ _ h => h) (Or.inl ⟨by rfl, ?_⟩) (by assumption) ?_
        rotate_left
        · intro w hSw
          go_simp
          try with_reducible rfl
        simp only [Act.put, List.getElem_toArray, List.getElem_cons_zero, List.getElem_cons_succ, List.setIfInBounds_toArray, List.set_cons_zero, List.set_cons_succ]
        refine wpAnyH_take (i := 13) (v := ?_) rfl (by kernel_rfl) (by kernel_rfl) (by kernel_rfl) (fun _ _ _ h => h) (Or.inl ⟨by rfl, ?_⟩) (by assumption) ?_
        rotate_left
        · intro w hSw
          go_simp
          try with_reducible rfl
        simp only [Act.put, List.getElem_toArray, List.getElem_cons_zero, List.getElem_cons_succ, List.setIfInBounds_toArray, List.set_cons_zero, List.set_cons_succ]
        refine wpAnyH_take (i := 14) (v := ?_) rfl (by kernel_rfl) (by kernel_rfl) (by kernel_rfl) (fun _ _ _ h => h) (Or.inl ⟨by rfl, ?_⟩) (by assumption) ?_
        rotate_left
        · intro w hSw
          go_simp
          try with_reducible rfl
        simp only [Act.put, List.getElem_toArray, List.getElem_cons_zero, List.getElem_cons_succ, List.setIfInBounds_toArray, List.set_cons_zero, List.set_cons_succ]
        refine wpAnyH_take (i := 15) (v := ?_) rfl (by kernel_rfl) (by kernel_rfl) (by kernel_rfl) (fun _ _ _ h => h) (Or.inl ⟨by rfl, ?_⟩) (by assumption) ?_
        rotate_left
        · intro w hSw
          go_simp
          try with_reducible rfl
        simp only [Act.put, List.getElem_toArray, List.getElem_cons_zero, List.getElem_cons_succ, List.setIfInBounds_toArray, List.set_cons_zero, List.set_cons_succ]
        refine wpAnyH_take (i := 16) (v := ?_) rfl (by kernel_rfl) (by kernel_rfl) (by kernel_rfl) (fun _ _ _ h => h) (Or.inl ⟨by rfl, ?_⟩) (by assumption) ?_
        rotate_left
        · intro w hSw
          go_simp
          try with_reducible rfl
        simp only [Act.put, List.getElem_toArray, List.getElem_cons_zero, List.getElem_cons_succ, List.setIfInBounds_toArray, List.set_cons_zero, List.set_cons_succ]
        refine wpAnyH_take (i := 17) (v := ?_) rfl (by kernel_rfl) (by kernel_rfl) (by kernel_rfl) (fun _ _ _ h => h) (Or.inl ⟨by rfl, ?_⟩) (by assumption) ?_
        rotate_left
        · intro w hSw
          go_simp
          try with_reducible rfl
        simp only [Act.put, List.getElem_toArray, List.getElem_cons_zero, List.getElem_cons_succ, List.setIfInBounds_toArray, List.set_cons_zero, List.set_cons_succ]
        refine wpAnyH_take (i := 18) (v := ?_) rfl (by kernel_rfl) (by kernel_rfl) (by kernel_rfl) (fun _ _ _ h => h) (Or.inl ⟨by rfl, ?_⟩) (by assumption) ?_
        rotate_left
        · intro w hSw
          go_simp
          try with_reducible rfl
        simp only [Act.put, List.getElem_toArray, List.getElem_cons_zero, List.getElem_cons_succ, List.setIfInBounds_toArray, List.set_cons_zero, List.set_cons_succ]
        refine wpAnyH_take (i := 19) (v := ?_) rfl (by kernel_rfl) (by kernel_rfl) (by kernel_rfl) (fun _ _ _ h => h) (Or.inl ⟨by rfl, ?_⟩) (by assumption) ?_
        rotate_left
        · intro w hSw
          go_simp
          try with_reducible rfl
        simp only [Act.put, List.getElem_toArray, List.getElem_cons_zero, List.getElem_cons_succ, List.setIfInBounds_toArray, List.set_cons_zero, List.set_cons_succ]
        refine wpAnyH_take (i := 20) (v := ?_) rfl (by kernel_rfl) (by kernel_rfl) (by kernel_rfl) (fun _ _ _ h => h) (Or.inl ⟨by rfl, ?_⟩) (by assumption) ?_
        rotate_left
        · intro w hSw
          go_simp
          try with_reducible rfl
        simp only [Act.put, List.getElem_toArray, List.getElem_cons_zero, List.getElem_cons_succ, List.setIfInBounds_toArray, List.set_cons_zero, List.set_cons_succ]
        refine wpAnyH_ready (rs := [21]) (by kernel_rfl) (by simp) ?_
        refine AllReadyH.cons rfl (fun K hK => ?_) AllReadyH.nil
        go_simp
        refine (splice_c p L xi xn m1 m2 x.xs x.ys A3 c3 A4 c4 wr.drew p (HS.out.below (below_drew (Below.refl _ wr))) HM1.out HM2.out HLE1.out HLE2.out (by have := HSMX.out.1; have := HM1.out; omega) (Kd.C_below HLX.out (below_drew (Below.refl _ wr))) (Kd.C_below HLY.out (below_drew (Below.refl _ wr)))).mono ?_
        rintro _ w6 ⟨er, L', rfl, -, hs6, -, hg6⟩
        have hk6 : KG p W0 w6 := HKG.out.trans ((KG.of_below (below_drew (Below.refl _ wr))).trans hg6)
        have hb6 : Below w.heap.size w w6 := HB0.out.trans ((hk6.gb (Nat.le_refl _)).below HB0.out.size HPW.out)
        refine hK.out _ _ ⟨hk6.cell HNE.out HC5.out, pw_cell_below hb6 D1.out, pw_cell_below hb6 D2.out, pw_cell_below hb6 D3.out, pw_cell_below hb6 D4.out⟩ (fun hHeld2 => ?_)
        clear hK K hHeld
        have hHeld := hHeld2
        clear hHeld2
        try simp only [Act.put, List.getElem_toArray, List.getElem_cons_zero, List.getElem_cons_succ, List.setIfInBounds_toArray, List.set_cons_zero, List.set_cons_succ]
        refine wpAnyH_done (by kernel_rfl) ?_ _
        refine NoPanic.normal ?_
        have HS6 := Aside0.mk hs6
        have HK6 := Aside0.mk hk6
        clear hs6 hg6 hk6 hb6 hHeld d0 d1 d2 d3 d4 d5
        gi_wp2
        gi_roundg gn
        case measure => exact Nat.lt_succ_self _
        case rel => exact ⟨k + 1, L', by simp, HS6, HK6, ⟨by have := HK.out; omega⟩⟩
      · have hd2 : (xd == 0) = false := beq_eq_false_iff_ne.mpr hd
        clear d1 d2 d3 d4
        gi_wp2
        gi_roundg gn
        case measure => exact Nat.lt_succ_self _
        case rel => exact ⟨k + 1, L, by simp, HS, HKG, ⟨by have := HK.out; omega⟩⟩
    · have hkm : N ≤ k := by omega
      have b1 : decide (k < N) = false := decide_eq_false hkn
      clear HK HSM
      obtain ⟨T, v, hpc, hT, hTL, hfit, -⟩ := HS.out.out
      obtain ⟨a, rfl⟩ := hT.ptr
      have HLTS : Aside0 (p < wr.heap.size ∧ b5 < wr.heap.size) := ⟨blk_lt hpc, World.block_lt_of_cell? wr _ d5⟩
      clear d5
      gi_upto_region 10 with (fail)
      obtain ⟨bw, hbw⟩ : ∃ b, wr.heap.size = b := ⟨_, rfl⟩
      obtain ⟨wA, hwA⟩ : ∃ W, wr.alloc (.cells #[.slice none 0 0] 23) = W := ⟨_, rfl⟩
      rw [hwA, hbw]
      have hbA : Below bw wr wA := by rw [← hwA, ← hbw]; exact below_alloc (Below.refl _ wr) _
      have hsA : wA.heap.size = bw + 1 := by rw [← hwA, ← hbw, size_al]
      have bxA : Boxed wA bw 23 (.slice none 0 0) := by rw [← hwA, ← hbw]; exact Boxed.new _ _ _
      have hpA : wA.heap[p]? = some (.cells #[.pointer a] 48 (0, 0)) := (hbA.block _ (by rw [← hbw]; exact blk_lt hpc)).trans hpc
      have hKA : KG p W0 wA := HKG.out.trans (KG.of_below (by rw [hbw]; exact hbA))
      have d5 : wA.cell? ⟨b5, 0, none⟩ = some (.pointer (some ⟨p, 0, none⟩)) := hKA.cell HNE.out HC5.out
      have HALL := Aside0.mk (all_c p a wA hpA)
      have HTA : Aside0 (At wA T (.pointer a)) := ⟨hT.below (by rw [hbw]; exact hbA)⟩
      have HPA := Aside0.mk hpA
      have HTR := Aside0.mk hT
      have HBA := Aside0.mk hbA
      have HKA := Aside0.mk hKA
      have HBX := Aside0.mk bxA
      have HFIT := Aside0.mk hfit
      have HTL := Aside0.mk hTL
      have HC8 : Aside0 (cntT T ≤ 8388608) := ⟨hfit.fit' hTL⟩
      clear hwA hbA bxA hpA hKA hfit hTL hT hpc HS HKG
      gi_wp2_with ((refine ⟨trivial, ?_⟩; gi_at_call 11; refine (callsIn_wide.2 HALL.out).mono ?_; rintro _ w9 ⟨rfl, hc9, hs9, hb9⟩))
      rw [hsA] at hc9 hb9 hs9
      have hbx9 : Boxed w9 bw 23 (.slice none 0 0) := (hb9.block _ (by omega)).trans HBX.out
      have hT9 : At w9 T (.pointer a) := HTA.out.below (by rw [hsA]; exact hb9)
      have hK9 : KG p W0 w9 := HKA.out.trans (KG.of_below (by rw [hsA]; exact hb9))
      have hp9 : w9.heap[p]? = some (.cells #[.pointer a] 48 (0, 0)) := (hb9.block _ (by have := blk_lt HPA.out; omega)).trans HPA.out
      obtain ⟨i0, hi, hz0, hz1, hz2⟩ := info_parts info9b
      have hC8 := HC8.out
      have hNT : (toL T).length ≤ 8388608 := by have := cntT_toL T; omega
      clear HALL d5
      refine wpIn_rangeFunc_ownF (α := NItem) (F := Fence.wide) rfl h1 (gf := 23) (lb := #[.pointer (some ⟨bw + 1, 0, none⟩)]) rfl trivial (enters_of Try.func23 (by kernel_rfl) rfl)
        (all_stops (n - 1) (bw + 1) (.pointer a) T w9 (by omega) hc9 hT9 hC8) K58.trans k58_b (Below.refl _ _) (fun _ => rfl)
        (fun pre W => (∃ v, Boxed W bw 23 v ∧ W.ownsRow bw 9 1 v pre.length (pre.map fun x => Value.string x.2) ∧ (v = .slice none 0 0 ↔ pre = [])) ∧ Below bw w9 W)
        (fun _ _ _ => False)
        (OwnFrom.and (Own.from (holdsRow_own bw bw 23 9 1 (fun pre : List NItem => pre.length) (fun pre => pre.map fun x => Value.string x.2) (fun pre v => v = .slice none 0 0 ↔ pre = [])) _) (ownFrom_below (by omega) (by omega)))
        (fun _ _ _ _ _ hs _ _ => hs)
        ⟨⟨_, hbx9, World.ownsRow_nil _ _ _ _, by simp⟩, Below.refl _ _⟩
        ?a1 ?assign ?body ?done ?stop
      case assign =>
        intro l x W K hK
        dsimp only [encN]
        gi_wp2
        exact hK
      case stop =>
        rintro D c pre W _ _ h _
        exact h.elim
      case body =>
        rintro l pre x W ⟨⟨v, hv, hrow, hnil⟩, hB⟩ hlt
        have hc := hv.cell
        gi_wp2_with (gi_at_builtin; refine wpListIn_append_own _ rfl _ _ 23 rfl bw 9 i0 (.string ByteArray.empty) 1 16 Try.underlying23 hi hz0 hz1 hz2 rfl (by decide) _ _ _ rfl (hrow.alloc _) ⟨W.heap.size, 0, none⟩ 1 1 [.string x.2] rfl rfl (cell_one_new _ _ _) (by simp [Value.oneCell']) (by unfold maxLen; omega) (by omega) (by have := hB.size; simp; omega) ?_; intro v' w1 hown' hgrow _; obtain ⟨g', cap', rfl⟩ := ownsRow_succ hown'; obtain ⟨hv1, hv2, hr2, hk2, hb2⟩ := hv.appended (by decide) hrow (by have := hB.size; omega) (Nat.le_refl _) hown' hgrow; have hc1 := hv1.cell; have hf1 := hv1.frozen)
        exact ⟨hk2, k58_appended hv1 (by decide) (by decide) hrow hgrow, ⟨_, hv2, by simpa using hr2, by simp⟩, hB.trans hb2⟩
      case done =>
        rintro D1 ys W1 hD1 hys ⟨⟨v, hv, hrow, hnil⟩, hB⟩ hK1
        subst hys
        gi_upto_region 17 with (fail)
        obtain ⟨b11, hb11⟩ : ∃ b, W1.heap.size = b := ⟨_, rfl⟩
        obtain ⟨wB, hwB⟩ : ∃ W, W1.alloc (.cells #[.int .i64 0] 3) = W := ⟨_, rfl⟩
        rw [hwB, hb11]
        have hw9W1 : w9.heap.size ≤ W1.heap.size := hB.size
        have hD1lt : D1 < b11 := by rw [← hb11]; exact blk_lt hK1
        have hb11w : bw + 2 ≤ b11 := by omega
        have hD1w : bw + 2 ≤ D1 := by omega
        have hpbw : p < bw := by rw [← hbw]; exact HLTS.out.1
        have hbB : Below b11 W1 wB := by rw [← hwB, ← hb11]; exact below_alloc (Below.refl _ W1) _
        have hsB : wB.heap.size = b11 + 1 := by rw [← hwB, ← hb11, size_al]
        have bxB : Boxed wB b11 3 (.int .i64 0) := by rw [← hwB, ← hb11]; exact Boxed.new _ _ _
        have hp1 : W1.heap[p]? = some (.cells #[.pointer a] 48 (0, 0)) := (hB.block _ hpbw).trans hp9
        have hpB : wB.heap[p]? = some (.cells #[.pointer a] 48 (0, 0)) := (hbB.block _ (by omega)).trans hp1
        have hb5lt : b5 < bw := by rw [← hbw]; exact HLTS.out.2
        have hc51 : W1.cell? ⟨b5, 0, none⟩ = some (.pointer (some ⟨p, 0, none⟩)) := (hB.cell (p := ⟨b5, 0, none⟩) hb5lt).trans (hK9.cell HNE.out HC5.out)
        have d5 : wB.cell? ⟨b5, 0, none⟩ = some (.pointer (some ⟨p, 0, none⟩)) := (hbB.cell (p := ⟨b5, 0, none⟩) (by show b5 < b11; omega)).trans hc51
        have hbw9 : Below (w.heap.size + 2) w2 w9 := by
          have := HS0.out
          have h := ((hK9.gb (n := w.heap.size + 2) (by omega)).below (Nat.le_refl _) hpw)
          exact (HB20.out.mono (by omega)).trans h
        have hbw1 : Below (w.heap.size + 2) w2 W1 := hbw9.trans (hB.mono (by omega))
        have r21 : W1.heap[w.heap.size + 1]? = some (.cells #[.bool false] 4 (0, 0)) := (hbw1.block _ (by omega)).trans R2.out
        have r11 : W1.heap[w.heap.size]? = some (.cells #[.int .i64 ax.d, .int .i64 ax.i, .int .i64 ax.n, .slice A1 ax.xs.length c1, .slice A2 ax.ys.length c2] 26 (0, 0)) := (hbw1.block _ (by omega)).trans HR1.out
        have hBW1 : Below w.heap.size w W1 := HB2.out.trans (hbw1.mono (by omega))
        obtain ⟨Av, cv, rfl, hrc⟩ := row_cells hrow
        have HRC := Aside0.mk hrc
        have HTB : Aside0 (At wB T (.pointer a)) := ⟨HTR.out.below (by rw [hbw]; exact (HBA.out.trans ((hb9.mono (by omega)).trans (hB.trans (hbB.mono (by omega))))))⟩
        have HALL := Aside0.mk (all_c p a wB hpB)
        clear hwB hrow hrc hnil hT9 hc9 hs9 hb9 hbx9 hp9
        gi_wp2_with ((refine ⟨trivial, ?_⟩; gi_at_call 11; refine (callsIn_wide.2 HALL.out).mono ?_; rintro _ w12 ⟨rfl, hc12, hs12, hb12⟩))
        rw [hsB] at hc12 hb12 hs12
        have hbx12 : Boxed w12 b11 3 (.int .i64 0) := (hb12.block _ (by omega)).trans bxB
        have hT12 : At w12 T (.pointer a) := HTB.out.below (by rw [hsB]; exact hb12)
        have hp12 : w12.heap[p]? = some (.cells #[.pointer a] 48 (0, 0)) := (hb12.block _ (by omega)).trans hpB
        have hS12 : SAt w12 p p L := ⟨⟨T, .pointer a, hp12, hT12, HTL.out, HFIT.out, Nat.le_refl _⟩⟩
        have hG12 : GB p b11 W1 w12 := GB.of_below (hbB.trans (hb12.mono (by omega)))
        have HV := Aside0.mk hv
        have HC51 := Aside0.mk hc51
        have HR21 := Aside0.mk r21
        have HR11 := Aside0.mk r11
        have HBW1 := Aside0.mk hBW1
        have HK1 := Aside0.mk hK1
        have HP1 := Aside0.mk hp1
        clear HALL d5 bxB hpB hv hc51 r21 r11 hBW1 hK1 hbB hp1 hbw1 hbw9
        obtain ⟨ys, hys⟩ : ∃ ys, numb 0 (toL T) = ys := ⟨_, rfl⟩
        have hyl : ys.length = (toL T).length := by rw [← hys, numb_len]
        have HNG : Aside0 (∀ (k : Nat) (y : NItem), ys[k]? = some y → y.1 = (k : Int)) := ⟨fun k y h => by rw [← hys] at h; have := numb_get 0 _ _ _ h; omega⟩
        rw [hys] at HRC HV
        refine wpIn_rangeFunc_ownF (α := NItem) (F := Fence.wide) rfl h1 (gf := 23) (lb := #[.pointer (some ⟨b11 + 1, 0, none⟩)]) rfl trivial (enters_of Try.func23 (by kernel_rfl) rfl)
          (all_stops (n - 1) (b11 + 1) (.pointer a) T w12 (by omega) hc12 hT12 hC8) K58.trans k58_b (Below.refl _ _) (fun _ => rfl)
          (fun pre W => ((∃ L', SAt W p p L') ∧ Boxed W b11 3 (.int .i64 (pre.length : Int)) ∧ pre <+: ys) ∧ GB p b11 W1 W)
          (fun _ pre _ => ¬ pre <+: ys)
          (OwnFrom.and (Own.from (fun s X Y row hs hg hr => ⟨hs.1.imp fun _ h => h.kept hg hr, hs.2.1.kept hg (fun e => by
            obtain ⟨o, ho, hc⟩ := hr _ e.symm
            rw [show X.heap[b11]? = _ from hs.2.1] at ho
            cases ho
            cases hc), hs.2.2⟩) _) (GB.own (by omega) (by omega)))
          (fun _ _ _ _ _ hs _ _ => hs)
          ⟨⟨⟨L, hS12⟩, hbx12, by simp⟩, hG12⟩
          ?a2 ?assign ?body ?done ?stop
        case assign =>
          intro l x W K hK
          dsimp only [encN]
          gi_wp2
          exact hK
        case stop =>
          rintro D c pre W _ hp hx _
          rw [hys] at hp
          exact absurd hp hx
        case body =>
          rintro l2 pre ⟨x1, x2⟩ W ⟨⟨⟨L1, hS⟩, hbx, hpre⟩, hG⟩ hlt
          obtain ⟨kk, hkk⟩ : ∃ k, pre.length = k := ⟨_, rfl⟩
          rw [← hyl, hkk] at hlt
          rw [hkk] at hbx
          obtain ⟨⟨y1, y2⟩, hy⟩ : ∃ y, ys[kk]? = some y := ⟨_, List.getElem?_eq_getElem hlt⟩
          have hy1 : y1 = (kk : Int) := HNG.out kk _ hy
          obtain ⟨ad, rfl, hab, ⟨cur, hcur⟩, hcell⟩ := HRC.out kk _ hy
          have hap : ad.block ≠ p := by
            intro e
            rw [e, HP1.out] at hcur
            cases hcur
          have hc11 := hbx.cell
          have hf11 := hbx.frozen
          have hcw : W.cell? ⟨bw, 0, none⟩ = some (.slice (some ad) ys.length cv) := hG.cell (by show bw < b11; omega) (by show bw ≠ p; omega) HV.out.cell
          have hce : W.cell? (ad.add kk) = some (.string y2) := hG.cell (by rw [add_block]; omega) (by rw [add_block]; exact hap) hcell
          have hd5 : W.cell? ⟨b5, 0, none⟩ = some (.pointer (some ⟨p, 0, none⟩)) := hG.cell (by show b5 < b11; omega) HNE.out HC51.out
          have hr2 : W.heap[w.heap.size + 1]? = some (.cells #[.bool false] 4 (0, 0)) := (hG.block _ (by omega) (by omega)).trans HR21.out
          have hr1 : W.heap[w.heap.size]? = some (.cells #[.int .i64 ax.d, .int .i64 ax.i, .int .i64 ax.n, .slice A1 ax.xs.length c1, .slice A2 ax.ys.length c2] 26 (0, 0)) := (hG.block _ (by omega) (by omega)).trans HR11.out
          have hc4 : W.cell? ⟨w.heap.size + 1, 0, none⟩ = some (.bool false) := cell_of_row _ _ _ _ _ _ hr2
          have hf4 : W.frozen? ⟨w.heap.size + 1, 0, none⟩ = false := blk_frozen hr2 0
          have e1 : W.cell? ⟨w.heap.size, 1, none⟩ = some (.int .i64 ax.i) := cell_of_row _ _ _ _ _ _ hr1
          have e2 : W.cell? ⟨w.heap.size, 2, none⟩ = some (.int .i64 ax.n) := cell_of_row _ _ _ _ _ _ hr1
          have e3 : W.cell? ⟨w.heap.size, 3, none⟩ = some (.slice A1 ax.xs.length c1) := cell_of_row _ _ _ _ _ _ hr1
          have e4 : W.cell? ⟨w.heap.size, 4, none⟩ = some (.slice A2 ax.ys.length c2) := cell_of_row _ _ _ _ _ _ hr1
          have hLW := HA.out.below (HBW1.out.trans (hG.below (by omega) (by omega)))
          have HSP1 := Aside0.mk (splice_c p L1 ax.i ax.n ax.xs.length ax.ys.length ax.xs ax.ys A1 c1 A2 c2 W p hS rfl rfl hLW.le1 hLW.le2 (by omega) hLW.x hLW.y)
          have HS := Aside0.mk hS
          have HBX := Aside0.mk hbx
          have HG := Aside0.mk hG
          have HPRE := Aside0.mk hpre
          have HY := Aside0.mk hy
          have HKK := Aside0.mk hkk
          obtain ⟨M, hM⟩ : ∃ M, ys.length = M := ⟨_, rfl⟩
          rw [hM] at hcw hlt hyl
          have b3 : decide ((M : Int) ≤ (kk : Int)) = false := decide_eq_false (by omega)
          have p0 : (0 : Int) ≤ (kk : Int) := by omega
          have p1 : (kk : Int) < (M : Int) := by omega
          have hw1 : IntKind.i64.wrap ((kk : Int) + 1) = (kk : Int) + 1 := IntWalk.i64_in _ (by omega)
          clear hS hbx hG hpre hy hkk hr2 hr1 hLW hcell hcur hab hS12 hG12 hT12 hp12 hbx12 hc12
          by_cases hx1 : x1 = (kk : Int)
          case neg =>
            have bx1 : (x1 == (kk : Int)) = false := beq_eq_false_iff_ne.mpr hx1
            clear e1 e2 e3 e4
            gi_wp2
            refine ⟨KeepsOthers.setCell _ _ _, fun hpp => hx1 ?_⟩
            have := prefix_last hpp (by rw [HKK.out]; exact HY.out)
            injection this with h _
            rw [h, hy1]
          subst hx1
          by_cases hx2 : x2 = y2
          case neg =>
            have bx2 : (x2.toList == y2.toList) = false := beq_eq_false_iff_ne.mpr (fun h => hx2 (by rw [Go.ByteArray.toList_eq, Go.ByteArray.toList_eq] at h; exact ByteArray.ext (Array.toList_inj.mp h)))
            clear e1 e2 e3 e4
            gi_wp2
            refine ⟨KeepsOthers.setCell _ _ _, fun hpp => hx2 ?_⟩
            have := prefix_last hpp (by rw [HKK.out]; exact HY.out)
            injection this with _ h
          subst hx2
          have HNX : Aside0 (pre ++ [((kk : Int), x2)] <+: ys) := ⟨by
            refine prefix_snoc HPRE.out ?_
            rw [HKK.out, ← hy1]
            exact HY.out⟩
          by_cases h5 : (kk : Int) < 5
          · skip
            gi_upto_region 27 with (refine ⟨trivial, fun h => (by simp [Fence.wide] at h), ?_⟩; gi_at_call 10; refine (CallsIn.inRound l2 (callsIn_wide.2 HSP1.out)).mono ?_; rintro _ w6 ⟨er, L2, rfl, -, hs6, -, hg6⟩)
            have d56 : w6.cell? ⟨b5, 0, none⟩ = some (.pointer (some ⟨p, 0, none⟩)) := hg6.cell HNE.out hd5
            have HG6 := Aside0.mk hg6
            have HS6 := Aside0.mk hs6
            have HD56 := Aside0.mk d56
            clear hg6 hs6
            refine wpIn_region_held_round (fun w' => w'.cell? ⟨b5, 0, none⟩ = some (.pointer (some ⟨p, 0, none⟩))) (by kernel_rfl) ?_ ?_ (fun hHeld => ?_)
            · intro i o ho c
              have := Array.mem_of_getElem? ho
              simp at this
              rcases this with rfl | rfl | rfl | rfl | rfl <;> (intro h; cases h)
            · exact d56
            refine wpAnyH_take (i := 0) (v := ?_) rfl (by kernel_rfl) (by kernel_rfl) (by kernel_rfl) (fun _ _ _ h => h) (Or.inl ⟨by rfl, ?_⟩) (by assumption) ?_
            rotate_left
            · intro w hSw
              go_simp
              try with_reducible rfl
            simp only [Act.put, List.getElem_toArray, List.getElem_cons_zero, List.getElem_cons_succ, List.setIfInBounds_toArray, List.set_cons_zero, List.set_cons_succ]
            refine wpAnyH_take (i := 1) (v := ?_) rfl (by kernel_rfl) (by kernel_rfl) (by kernel_rfl) (fun _ _ _ h => h) (Or.inl ⟨by rfl, ?_⟩) (by assumption) ?_
            rotate_left
            · intro w hSw
              go_simp
              try with_reducible rfl
            simp only [Act.put, List.getElem_toArray, List.getElem_cons_zero, List.getElem_cons_succ, List.setIfInBounds_toArray, List.set_cons_zero, List.set_cons_succ]
            refine wpAnyH_ready (rs := [2]) (by kernel_rfl) (by simp) ?_
            refine AllReadyH.cons rfl (fun K hK => ?_) AllReadyH.nil
            go_simp
            refine (len_c p L2 w6.drew p (HS6.out.below (below_drew (Below.refl _ w6)))).mono ?_
            rintro _ w9' ⟨rfl, h9⟩
            rw [h9]
            clear h9 w9'
            refine hK.out _ _ HD56.out (fun hHeld2 => ?_)
            clear hK K hHeld
            have hHeld := hHeld2
            clear hHeld2
            try simp only [Act.put, List.getElem_toArray, List.getElem_cons_zero, List.getElem_cons_succ, List.setIfInBounds_toArray, List.set_cons_zero, List.set_cons_succ]
            refine wpAnyH_take (i := 3) (v := ?_) rfl (by kernel_rfl) (by kernel_rfl) (by kernel_rfl) (fun _ _ _ h => h) (Or.inl ⟨by rfl, ?_⟩) (by assumption) ?_
            rotate_left
            · intro w hSw
              go_simp
              try with_reducible rfl
            simp only [Act.put, List.getElem_toArray, List.getElem_cons_zero, List.getElem_cons_succ, List.setIfInBounds_toArray, List.set_cons_zero, List.set_cons_succ]
            refine wpAnyH_ready (rs := [4]) (by kernel_rfl) (by simp) ?_
            refine AllReadyH.cons rfl (fun K hK => ?_) AllReadyH.nil
            go_simp
            refine (splice_c p L2 0 _ 0 0 [] [] none 0 none 0 w6.drew p (HS6.out.below (below_drew (Below.refl _ w6))) rfl rfl (Nat.le_refl _) (Nat.le_refl _) (by decide) (nilX _) (nilY _)).mono ?_
            rintro _ w7 ⟨er2, L3, rfl, -, hs7, -, hg7⟩
            have hk7 : KG p W w7 := HG6.out.trans ((KG.of_below (below_drew (Below.refl _ w6))).trans hg7)
            have d57 : w7.cell? ⟨b5, 0, none⟩ = some (.pointer (some ⟨p, 0, none⟩)) := hk7.cell HNE.out hd5
            refine hK.out _ _ d57 (fun hHeld2 => ?_)
            clear hK K hHeld
            have hHeld := hHeld2
            clear hHeld2
            try simp only [Act.put, List.getElem_toArray, List.getElem_cons_zero, List.getElem_cons_succ, List.setIfInBounds_toArray, List.set_cons_zero, List.set_cons_succ]
            refine wpAnyH_done (by kernel_rfl) ?_ _
            refine Only.normal ?_
            have hg7' := HG.out.trans (hk7.gb (n := b11) (by have := HG.out.size; omega))
            have hbx7 : Boxed w7 b11 3 (.int .i64 (kk : Int)) := (hk7.g.block b11 HBX.out.lt (by simp; omega)).trans HBX.out
            have hc117 := hbx7.cell
            have hf117 := hbx7.frozen
            have HF : Aside0 (SAt w7 p p L3) := ⟨hs7⟩
            have HK7 := Aside0.mk hk7
            have HG7 := Aside0.mk hg7'
            have HBX7 := Aside0.mk hbx7
            clear hk7 hg7 hs7 hHeld d57 d56 hg7' hbx7 hc11 hf11 hcw hce hd5 hc4 hf4 e1 e2 e3 e4
            gi_wp2
            all_goals exact ⟨(HK7.out.others HS.out).trans (KeepsOthers.setCell _ _ _), HK7.out.k.trans (k58_box HBX7.out (by decide) _), ⟨⟨L3, HF.out.box HBX7.out (by decide) (by decide) _⟩, by simpa [HKK.out] using HBX7.out.set _, HNX.out⟩, HG7.out.setCell (q := ⟨b11, 0, none⟩) (Nat.le_refl _) _⟩
          · have hc117 := HBX.out.cell
            clear e1 e2 e3 e4
            gi_wp2
            refine ⟨KeepsOthers.setCell _ _ _, k58_box HBX.out (by decide) _, ⟨⟨L1, HS.out.box HBX.out (by decide) (by decide) _⟩, by simpa [HKK.out] using HBX.out.set _, HNX.out⟩, HG.out.setCell (q := ⟨b11, 0, none⟩) (Nat.le_refl _) _⟩
        case done =>
          rintro D2 ys2 W2 hD2 hys2 ⟨⟨⟨L1, hS⟩, hbx, hpre⟩, hG⟩ hK2
          rw [hys] at hys2
          subst hys2
          have hc11 := hbx.cell
          have hcw : W2.cell? ⟨bw, 0, none⟩ = some (.slice Av ys2.length cv) := hG.cell (by show bw < b11; omega) (by show bw ≠ p; omega) HV.out.cell
          have hr2 : W2.heap[w.heap.size + 1]? = some (.cells #[.bool false] 4 (0, 0)) := (hG.block _ (by omega) (by omega)).trans HR21.out
          have hK1 : W2.heap[D1]? = some (.deferred (some [])) := (hG.block _ hD1lt (by
            intro e
            have h := HK1.out
            rw [e, HP1.out] at h
            cases h)).trans HK1.out
          gi_wp2_with ((refine ⟨trivial, ?_⟩; gi_at_call 8; refine (callsIn_wide.2 (wakes_c _)).mono ?_; rintro _ w15 ⟨rfl, hb15⟩; have q5 := (hb15.block _ (blk_lt hr2)).trans hr2; have c5 := cell_of_row _ _ 0 _ _ _ q5; have f5 := blk_frozen q5 0; have hK25 := (hb15.block _ (blk_lt hK2)).trans hK2; have hK15 := (hb15.block _ (blk_lt hK1)).trans hK1))
          have HQ := q5
          have hKS : (w15.setCell ⟨w.heap.size + 1, 0, none⟩ (.bool true)).heap[D2]? = some (.deferred (some [])) := (KeepsOthers.setCell _ _ _).same D2 _ hK25 rfl
          have hKS1 : (w15.setCell ⟨w.heap.size + 1, 0, none⟩ (.bool true)).heap[D1]? = some (.deferred (some [])) := (KeepsOthers.setCell _ _ _).same D1 _ hK15 rfl
          have qS := blk_set q5 0 (.bool true)
          refine ⟨by simp, .inl ⟨_, _, rfl, run_takeDeferred hKS, ?_⟩⟩
          refine ⟨by simp, .inl ⟨_, _, rfl, run_takeDeferred ((World.putObj_heap_other (by omega)).trans hKS1), ?_⟩⟩
          have q6 : ((w15.setCell ⟨w.heap.size + 1, 0, none⟩ (.bool true)).putObj D2 (.deferred none)).heap[w.heap.size + 1]? = _ := (World.putObj_heap_other (by omega)).trans qS
          have q7 : (((w15.setCell ⟨w.heap.size + 1, 0, none⟩ (.bool true)).putObj D2 (.deferred none)).putObj D1 (.deferred none)).heap[w.heap.size + 1]? = _ := (World.putObj_heap_other (by omega)).trans q6
          have hcf := cell_of_row _ _ 0 _ _ _ q7
          refine ⟨.bool true, ?_, rfl, ?_⟩
          · simp [results, Try.f3, go_sem, hcf]
          · have hbW := (HBW1.out.trans (hG.below (by omega) (by omega))).trans (hb15.mono (by have := HBW1.out.size; have := hG.size; omega))
            have h1 := hbW.setCell (p := ⟨w.heap.size + 1, 0, none⟩) (by simp) (.bool true)
            exact (h1.trans (belowK_b (w := w) (Nat.le_refl _) _ D2 _ _ (by omega) hKS rfl rfl)).trans (belowK_b (w := w) (Nat.le_refl _) _ D1 _ _ (by omega) ((World.putObj_heap_other (by omega)).trans hKS1) rfl rfl)
end Go.Proofs.Ytpchkligbfmeiaa.Se
