/- Id of the document's table of states. -/
import Derived.Test.YtbmjeopnahmbgaaRf
namespace Go.Proofs.Ytbmjeopnahmbgaa.In
open Go.RowKit Go.Proofs.YtbmjeopnahmbgaaW.PrintWords Go.Proofs.YtbmjeopnahmbgaaW.PrintLast Go.Proofs.YtbmjeopnahmbgaaW.PrintMore
open Go.WideShapes
set_option linter.unusedVariables false

def RIdPost (w : World) (B : Nat) (ok : Nat → Prop) (p : Nat) (L : List (Array Value)) (x : Array Value) (e : Ending) (w' : World) : Prop :=
  ∃ i L', e = .returned (.int .i64 i) ∧ IdR L x i L' ∧ RT w' B (fun k => ok k ∨ w.heap.size ≤ k) p L' ∧ Below B w w' ∧ ∀ k, k < w.heap.size → ¬ ok k → w'.heap[k]? = w.heap[k]?

set_option maxRecDepth 100000 in
set_option maxHeartbeats 1000000 in
theorem rid_c (p : Nat) (L : List (Array Value)) (x : Array Value) (hx : IsSt x) (hl : L.length ≤ 999) (w : World) (B : Nat) (ok : Nat → Prop) (h : RT w B ok p L) (hB : B ≤ w.heap.size) : Calls Try.prog 9 #[.pointer (some ⟨p, 0, none⟩), .agg x] w fun e w' => RIdPost w B ok p L x e w' := by
  obtain ⟨A, c, h1, c0, hf, hc, hR, _⟩ := h.open
  have HX := Aside0.mk hx
  have H := Aside0.mk h.bound
  have hp := blk_lt h1
  have hix : (Try.prog.info? 37).map (·.size) = some x.size := by rw [infoS, hx.size]
  have HIX := Aside0.mk hix
  clear h1 hx h hR hix c0 hf
  go_enter Try.func9, Try.ntmps9
  go_wp2_with (first
    | (refine wpList_load_row (by rfl) 37 _ (by rfl) w.heap.size (by rfl) 37 x (0, 0) _ (heap_alloc_new _ _) Try.underlying37 rfl HIX.out ?_)
    | (refine (rfind_c p L x HX.out (by omega) _ B _ (H.out.below (below_alloc (Below.refl _ w) _))).mono ?_))
  rintro _ w1 ⟨⟨i, b, rfl, hfr⟩, hb⟩
  have hb0 : Below w.heap.size w w1 := (below_alloc (Below.refl _ w) (.cells x 37)).trans (hb.mono (by rw [World.size_alloc]; omega))
  have hs1 : w.heap.size < w1.heap.size := by have := hb.size; rw [World.size_alloc] at this; omega
  have h1 := H.out.below hb0
  have hbx : w1.heap[w.heap.size]? = some (.cells x 37 (0, 0)) := (hb.block _ (by rw [World.size_alloc]; omega)).trans (heap_alloc_new w _)
  have HB := Aside0.mk (hb0.mono hB)
  have HB0 := Aside0.mk hb0
  have HBX := Aside0.mk hbx
  rcases hfr with ⟨rfl, k, rfl, hk⟩ | ⟨rfl, rfl, hnx⟩
  · have hfin : Aside0 (RIdPost w B ok p L x (.returned (.int .i64 (k : Int))) w1) := ⟨⟨_, L, rfl, .inl ⟨k, rfl, hk, rfl⟩, h1.mono (fun _ h => .inl h.1), hb0.mono hB, fun j hj _ => hb0.block j hj⟩⟩
    clear hb hb0 h1 hbx hk
    go_wp2_with (fail)
    go_ret
    exact hfin.out
  · obtain ⟨A1, c1', e1, d1, df, dc, dR, dok, dB⟩ := h1.open
    have hrx : w1.rangeAt w.heap.size 0 x.toList := fun j v hj => by
      rw [Nat.zero_add, cell_of_row _ _ _ _ _ _ HBX.out]
      simpa using hj
    have hu := Try.underlying37
    have hix := infoSL HX.out
    have E1 := Aside0.mk e1
    have DR := Aside0.mk dR
    have HR1 : Aside0 (kS.R 37 w1 B (fun k => ok k ∨ w.heap.size ≤ k) (.slice A1 L.length c1') L) := ⟨Kd.R_mono dR (fun k hk => .inl hk.1)⟩
    have hnp : some p ≠ (Value.slice A1 L.length c1').ownBlock := Kd.R_ne dR e1 (by decide)
    have hnb : some w.heap.size ≠ (Value.slice A1 L.length c1').ownBlock := fun e => by have := (dR.1 _ e.symm).2; omega
    have hdz : w1.drew.heap.size = w1.heap.size := rfl
    clear hb hb0 h1 e1 dR df
    go_upto_region 3 with (fail)
    refine wp_region_noPanic ?_
    refine wp_region_held_drew (S := (fun w' => w'.rangeAt w.heap.size 0 x.toList)) (by kernel_rfl) ?_ (fun hHeld => ?_)
    · exact hrx
    refine wpAnyH_take (i := 0) (v := ?_) rfl (by kernel_rfl) (by kernel_rfl) (by kernel_rfl) (fun _ _ _ h => h) (Or.inl ⟨by rfl, ?_⟩) (by assumption) ?_
    rotate_left
    · intro w hSw
      go_simp
      try with_reducible rfl
    simp only [Act.put, List.getElem_toArray, List.getElem_cons_zero, List.getElem_cons_succ, List.setIfInBounds_toArray, List.set_cons_zero, List.set_cons_succ]
    refine wpAnyH_take (i := 1) (v := ?_) rfl (by kernel_rfl) (by kernel_rfl) (by kernel_rfl) (fun _ _ _ h => h) (Or.inl ⟨by rfl, ?_⟩) (by assumption) ?_
    rotate_left
    · intro w hSw
      go_simp
      try with_reducible rfl
    simp only [Act.put, List.getElem_toArray, List.getElem_cons_zero, List.getElem_cons_succ, List.setIfInBounds_toArray, List.set_cons_zero, List.set_cons_succ]
    refine wpAnyH_take (i := 2) (v := ?_) rfl (by kernel_rfl) (by kernel_rfl) (by kernel_rfl) (fun _ _ _ h => h) (Or.inl ⟨by rfl, ?_⟩) (by assumption) ?_
    rotate_left
    · intro w hSw
      go_simp
      try with_reducible rfl
    simp only [Act.put, List.getElem_toArray, List.getElem_cons_zero, List.getElem_cons_succ, List.setIfInBounds_toArray, List.set_cons_zero, List.set_cons_succ]
    refine wpAnyH_take (i := 3) (v := ?_) rfl (by kernel_rfl) (by kernel_rfl) (by kernel_rfl) (fun _ _ _ h => h) (Or.inl ⟨by rfl, ?_⟩) (by assumption) ?_
    rotate_left
    · intro w hSw
      go_simp
      try with_reducible rfl
    simp only [Act.put, List.getElem_toArray, List.getElem_cons_zero, List.getElem_cons_succ, List.setIfInBounds_toArray, List.set_cons_zero, List.set_cons_succ]
    refine wpAnyH_take (i := 5) rfl (by kernel_rfl) (by kernel_rfl) (by kernel_rfl) (fun _ _ _ h => h) (yieldsIf_load_mid (by rfl) _ _ rfl _ _ rfl _ _ (fun w hSw => hSw) Try.underlying37 rfl hix) (by assumption) ?_
    simp only [Act.put, List.getElem_toArray, List.getElem_cons_zero, List.getElem_cons_succ, List.setIfInBounds_toArray, List.set_cons_zero, List.set_cons_succ]
    refine wpAnyH_ready (rs := [4, 6]) (by kernel_rfl) (by simp) ?_
    refine AllReadyH.cons rfl (fun K hK => ?_) (AllReadyH.cons rfl (fun K hK => ?_) AllReadyH.nil)
    · go_simp
      refine hK.out _ _ hrx (fun hHeld2 => ?_)
      clear hK K
      refine wpAnyH_ready (rs := [6]) (by kernel_rfl) (by simp) ?_
      refine AllReadyH.cons rfl (fun K hK => ?_) AllReadyH.nil
      refine step_bsS HX.out _ (by rfl) (by rfl) (by rfl) ?_
      refine hK.out _ _ (World.rangeAt_alloc hrx _) (fun hHeld2 => ?_)
      clear hK K
      refine wpAnyH_ready (rs := [7]) (by kernel_rfl) (by simp) ?_
      refine AllReadyH.cons rfl (fun K hK => ?_) AllReadyH.nil
      refine Kd.R_append_step kS (w0 := w) B (by rfl) (.tmp 19) (.tmp 21) 27 37 (.agg zS) 384 (by rfl) Try.underlying27 info37 (by kernel_rfl) (by decide) (by decide) (.slice A1 L.length c1') L x x.toList (fun k => ok k ∨ w.heap.size ≤ k) (fun _ => False) (by rfl) (by rfl) ⟨HX.out, rfl⟩ (fun _ h => h.elim) (fun k hk => .inr (by have := hs1; have := hdz; omega)) HR1.out (below_drew HB.out) (by have := hs1; have := hdz; omega) (by omega) ?_
      intro v1 w3 hR3 hB3 hg3 hat3
      obtain ⟨A3, c3, rfl⟩ := Kd.R_slice hR3
      have hl3 : (L ++ [x]).length = L.length + 1 := by simp
      rw [hl3] at hR3
      have hp3 : w3.heap[p]? = some (.cells #[.slice A1 L.length c1'] 29 (0, 0)) := (hg3.block p (blk_lt E1.out) hnp).trans E1.out
      have r1 : w3.cell? ⟨p, 0, none⟩ = some (.slice A1 L.length c1') := cell_of_row _ _ _ _ _ _ hp3
      have r2 : ∀ j, w3.frozen? ⟨p, j, none⟩ = false := fun j => blk_frozen hp3 j
      have hrx3 : w3.rangeAt w.heap.size 0 x.toList := fun j v hj => hg3.cell (a := ⟨w.heap.size, 0 + j, none⟩) (hrx j v hj) hnb
      have HR3 := Aside0.mk hR3
      have HB3 := Aside0.mk hB3
      have HP3 := Aside0.mk hp3
      refine hK.out _ _ hrx3 (fun hHeld3 => ?_)
      clear hK K hHeld2 hR3 hB3 hp3 d1
      simp only [Act.put, List.getElem_toArray, List.getElem_cons_zero, List.getElem_cons_succ, List.setIfInBounds_toArray, List.set_cons_zero, List.set_cons_succ]
      refine wpAnyH_take (i := 8) (v := ?_) rfl (by kernel_rfl) (by kernel_rfl) (by kernel_rfl) (fun _ _ _ h => h) (Or.inl ⟨by rfl, ?_⟩) (by assumption) ?_
      rotate_left
      · intro w hSw
        go_simp
        try with_reducible rfl
      simp only [Act.put, List.getElem_toArray, List.getElem_cons_zero, List.getElem_cons_succ, List.setIfInBounds_toArray, List.set_cons_zero, List.set_cons_succ]
      refine wpAnyH_take (i := 9) (v := ?_) rfl (by kernel_rfl) (by kernel_rfl) (by kernel_rfl) (fun _ _ _ h => h) (Or.inl ⟨by rfl, ?_⟩) (by assumption) ?_
      rotate_left
      · intro w hSw
        go_simp
        try with_reducible rfl
      simp only [Act.put, List.getElem_toArray, List.getElem_cons_zero, List.getElem_cons_succ, List.setIfInBounds_toArray, List.set_cons_zero, List.set_cons_succ]
      refine wpAnyH_ready (rs := [10]) (by kernel_rfl) (by simp) ?_
      refine AllReadyH.cons rfl (fun K hK => ?_) AllReadyH.nil
      go_simp
      refine hK.out _ _ (fun j v hj => (World.cell?_of_block (Below.heap_setCell w3 ⟨p, 0, none⟩ _ w.heap.size (by have := hp; show w.heap.size ≠ p; omega))).trans (hrx3 j v hj)) (fun hHeld4 => ?_)
      clear hK K hHeld3 hHeld4
      refine wpAnyH_done (by kernel_rfl) ?_ _
      refine NoPanic.normal ?_
      have hfin : Aside0 (RIdPost w B ok p L x (.returned (.int .i64 (L.length : Int))) (w3.setCell ⟨p, 0, none⟩ (.slice A3 (L.length + 1) c3))) := ⟨by
        refine ⟨_, L ++ [x], rfl, .inr ⟨hnx, rfl, rfl⟩, ⟨.slice A3 (L.length + 1) c3, by rw [blk_set HP3.out]; rfl, .inl dok.1, dB, Kd.R_set HR3.out HP3.out (by decide) 0 _⟩, HB3.out.setCell (p := ⟨p, 0, none⟩) dB _, fun k hk hok => ?_⟩
        have e4 : (w3.setCell ⟨p, 0, none⟩ (.slice A3 (L.length + 1) c3)).heap[k]? = w3.heap[k]? := Below.heap_setCell w3 ⟨p, 0, none⟩ _ k (fun e => hok (by rw [e]; exact dok.1))
        have e3 : w3.heap[k]? = w1.heap[k]? := hg3.block k (by have := hdz; omega) (fun e => hok (DR.out.1 _ e.symm).1)
        exact e4.trans (e3.trans (HB0.out.block k hk))⟩
      have s0 : (w3.setCell ⟨p, 0, none⟩ (.slice A3 (L.length + 1) c3)).cell? ⟨p, 0, none⟩ = some (.slice A3 (L.length + 1) c3) := cell_of_row _ _ _ _ _ _ (blk_set HP3.out 0 _)
      obtain ⟨w4, hw4⟩ : ∃ w4, w3.setCell ⟨p, 0, none⟩ (.slice A3 (L.length + 1) c3) = w4 := ⟨_, rfl⟩
      rw [hw4] at hfin s0 ⊢
      clear hw4 r1 r2 hrx3 hg3 hat3
      have hwn : IntKind.i64.wrap (L.length : Int) = (L.length : Int) := IntWalk.i64_in _ (by omega)
      go_wp2_with (fail)
      go_ret
      exact hfin.out
    · have q1' := pw_cell_below (below_alloc (Below.refl _ w1) (.cells x 37)) d1
      refine step_bsS HX.out _ (by rfl) (by rfl) (by rfl) ?_
      refine hK.out _ _ (World.rangeAt_alloc hrx _) (fun hHeld2 => ?_)
      clear hK K
      simp only [Act.put, List.getElem_toArray, List.getElem_cons_zero, List.getElem_cons_succ, List.setIfInBounds_toArray, List.set_cons_zero, List.set_cons_succ]
      refine wpAnyH_ready (rs := [4]) (by kernel_rfl) (by simp) ?_
      refine AllReadyH.cons rfl (fun K hK => ?_) AllReadyH.nil
      go_simp
      refine hK.out _ (w1.drew.alloc (.cells x 37)) (World.rangeAt_alloc hrx _) (fun hHeld2 => ?_)
      clear hK K
      refine wpAnyH_ready (rs := [7]) (by kernel_rfl) (by simp) ?_
      refine AllReadyH.cons rfl (fun K hK => ?_) AllReadyH.nil
      refine Kd.R_append_step kS (w0 := w) B (by rfl) (.tmp 19) (.tmp 21) 27 37 (.agg zS) 384 (by rfl) Try.underlying27 info37 (by kernel_rfl) (by decide) (by decide) (.slice A1 L.length c1') L x x.toList (fun k => ok k ∨ w.heap.size ≤ k) (fun _ => False) (by rfl) (by rfl) ⟨HX.out, rfl⟩ (fun _ h => h.elim) (fun k hk => .inr (by have := hs1; have := hdz; omega)) HR1.out (below_drew HB.out) (by have := hs1; have := hdz; omega) (by omega) ?_
      intro v1 w3 hR3 hB3 hg3 hat3
      obtain ⟨A3, c3, rfl⟩ := Kd.R_slice hR3
      have hl3 : (L ++ [x]).length = L.length + 1 := by simp
      rw [hl3] at hR3
      have hp3 : w3.heap[p]? = some (.cells #[.slice A1 L.length c1'] 29 (0, 0)) := (hg3.block p (blk_lt E1.out) hnp).trans E1.out
      have r1 : w3.cell? ⟨p, 0, none⟩ = some (.slice A1 L.length c1') := cell_of_row _ _ _ _ _ _ hp3
      have r2 : ∀ j, w3.frozen? ⟨p, j, none⟩ = false := fun j => blk_frozen hp3 j
      have hrx3 : w3.rangeAt w.heap.size 0 x.toList := fun j v hj => hg3.cell (a := ⟨w.heap.size, 0 + j, none⟩) (hrx j v hj) hnb
      have HR3 := Aside0.mk hR3
      have HB3 := Aside0.mk hB3
      have HP3 := Aside0.mk hp3
      refine hK.out _ _ hrx3 (fun hHeld3 => ?_)
      clear hK K hHeld2 hR3 hB3 hp3 d1 q1'
      simp only [Act.put, List.getElem_toArray, List.getElem_cons_zero, List.getElem_cons_succ, List.setIfInBounds_toArray, List.set_cons_zero, List.set_cons_succ]
      refine wpAnyH_take (i := 8) (v := ?_) rfl (by kernel_rfl) (by kernel_rfl) (by kernel_rfl) (fun _ _ _ h => h) (Or.inl ⟨by rfl, ?_⟩) (by assumption) ?_
      rotate_left
      · intro w hSw
        go_simp
        try with_reducible rfl
      simp only [Act.put, List.getElem_toArray, List.getElem_cons_zero, List.getElem_cons_succ, List.setIfInBounds_toArray, List.set_cons_zero, List.set_cons_succ]
      refine wpAnyH_take (i := 9) (v := ?_) rfl (by kernel_rfl) (by kernel_rfl) (by kernel_rfl) (fun _ _ _ h => h) (Or.inl ⟨by rfl, ?_⟩) (by assumption) ?_
      rotate_left
      · intro w hSw
        go_simp
        try with_reducible rfl
      simp only [Act.put, List.getElem_toArray, List.getElem_cons_zero, List.getElem_cons_succ, List.setIfInBounds_toArray, List.set_cons_zero, List.set_cons_succ]
      refine wpAnyH_ready (rs := [10]) (by kernel_rfl) (by simp) ?_
      refine AllReadyH.cons rfl (fun K hK => ?_) AllReadyH.nil
      go_simp
      refine hK.out _ _ (fun j v hj => (World.cell?_of_block (Below.heap_setCell w3 ⟨p, 0, none⟩ _ w.heap.size (by have := hp; show w.heap.size ≠ p; omega))).trans (hrx3 j v hj)) (fun hHeld4 => ?_)
      clear hK K hHeld3 hHeld4
      refine wpAnyH_done (by kernel_rfl) ?_ _
      refine NoPanic.normal ?_
      have hfin : Aside0 (RIdPost w B ok p L x (.returned (.int .i64 (L.length : Int))) (w3.setCell ⟨p, 0, none⟩ (.slice A3 (L.length + 1) c3))) := ⟨by
        refine ⟨_, L ++ [x], rfl, .inr ⟨hnx, rfl, rfl⟩, ⟨.slice A3 (L.length + 1) c3, by rw [blk_set HP3.out]; rfl, .inl dok.1, dB, Kd.R_set HR3.out HP3.out (by decide) 0 _⟩, HB3.out.setCell (p := ⟨p, 0, none⟩) dB _, fun k hk hok => ?_⟩
        have e4 : (w3.setCell ⟨p, 0, none⟩ (.slice A3 (L.length + 1) c3)).heap[k]? = w3.heap[k]? := Below.heap_setCell w3 ⟨p, 0, none⟩ _ k (fun e => hok (by rw [e]; exact dok.1))
        have e3 : w3.heap[k]? = w1.heap[k]? := hg3.block k (by have := hdz; omega) (fun e => hok (DR.out.1 _ e.symm).1)
        exact e4.trans (e3.trans (HB0.out.block k hk))⟩
      have s0 : (w3.setCell ⟨p, 0, none⟩ (.slice A3 (L.length + 1) c3)).cell? ⟨p, 0, none⟩ = some (.slice A3 (L.length + 1) c3) := cell_of_row _ _ _ _ _ _ (blk_set HP3.out 0 _)
      obtain ⟨w4, hw4⟩ : ∃ w4, w3.setCell ⟨p, 0, none⟩ (.slice A3 (L.length + 1) c3) = w4 := ⟨_, rfl⟩
      rw [hw4] at hfin s0 ⊢
      clear hw4 r1 r2 hrx3 hg3 hat3
      have hwn : IntKind.i64.wrap (L.length : Int) = (L.length : Int) := IntWalk.i64_in _ (by omega)
      go_wp2_with (fail)
      go_ret
      exact hfin.out
end Go.Proofs.Ytbmjeopnahmbgaa.In
