/- Id of a table of states: the number of the state that there is, or a new one's. -/
import Derived.Test.YtbmjeopnahmbgaaFi
namespace Go.Proofs.Ytbmjeopnahmbgaa.In
open Go.RowKit Go.Proofs.YtbmjeopnahmbgaaW.PrintWords Go.Proofs.YtbmjeopnahmbgaaW.PrintLast Go.Proofs.YtbmjeopnahmbgaaW.PrintMore
open Go.WideShapes
set_option linter.unusedVariables false

theorem cell_none_of_map {w : World} {b j : Nat} {es : Array MapEntry} {clock : Nat} (h : w.heap[b]? = some (.map es clock)) : w.cell? ⟨b, j, none⟩ = none := by simp [World.cell?, h]
/-- What Id tells, and what the table is then. -/
def IdR (L : List (Array Value)) (x : Array Value) (i : Int) (L' : List (Array Value)) : Prop :=
  (∃ k : Nat, i = (k : Int) ∧ L[k]? = some x ∧ L' = L) ∨ (x ∉ L ∧ i = (L.length : Int) ∧ L' = L ++ [x])

def IdPost (w : World) (B : Nat) (ok : Nat → Prop) (p : Nat) (L : List (Array Value)) (x : Array Value) (e : Ending) (w' : World) : Prop :=
  ∃ i L', e = .returned (.int .i64 i) ∧ IdR L x i L' ∧ IT w' B (fun k => ok k ∨ w.heap.size ≤ k) p L' ∧ Below B w w' ∧ ∀ k, k < w.heap.size → ¬ ok k → w'.heap[k]? = w.heap[k]?

theorem tied_snoc {D : DataW Unit} {L : List (Array Value)} {x : Array Value} {l : Lit} (h : Tied D L) (hD : Maps.IsMap D) (hkl : keyOf Try.prog 37 (.agg x) = some l) (hx : x ∉ L) : Tied (D.put l (.lit (.int .i64 ((L.length : Nat) : Int)))) (L ++ [x]) := by
  intro y ly hy
  by_cases e : y = x
  · subst e
    have : ly = l := Option.some.inj (hy.symm.trans hkl)
    subst this
    refine ⟨by rw [Maps.has_put_same hD (keyedS.key hkl)]; simp, fun i hi => ?_⟩
    rw [Maps.atKey_put_same hD (keyedS.key hkl)]
    have hil := (List.getElem?_eq_some_iff.1 hi).1
    rw [List.length_append, List.length_singleton] at hil
    by_cases hlt : i < L.length
    · rw [List.getElem?_append_left hlt] at hi
      exact absurd (List.mem_of_getElem? hi) hx
    · have : i = L.length := by omega
      rw [this]
  · have hne : ly ≠ l := fun he => e (key_inj hy (by rw [he]; exact hkl))
    obtain ⟨h1, h2⟩ := h y ly hy
    refine ⟨by rw [Maps.has_put_other hne, h1]; simp [e], fun i hi => ?_⟩
    rw [Maps.atKey_put_other hne]
    have hil := (List.getElem?_eq_some_iff.1 hi).1
    rw [List.length_append, List.length_singleton] at hil
    by_cases hlt : i < L.length
    · rw [List.getElem?_append_left hlt] at hi
      exact h2 i hi
    · have : i = L.length := by omega
      subst this
      simp at hi
      exact absurd hi.symm e

/-- The table behind a new state. -/
theorem it_new {w3 : World} {B : Nat} {ok : Nat → Prop} {p mb n c3 : Nat} {A3 : Option Addr} {L' : List (Array Value)} {D' : DataW Unit} {old : Value} (hp3 : w3.heap[p]? = some (.cells #[.map (some mb), old] 53 (0, 0)))
    (hm3 : World.ownsMap (H := Unit) w3 Try.prog 37 (plainElem Try.prog 3) mb L'.length D') (hR3 : kS.R 37 w3 B ok (.slice A3 n c3) L') (hnd : L'.Nodup) (htd : Tied D' L') (h1 : ok p) (h2 : ok mb) (h3 : B ≤ p) (h4 : B ≤ mb) (hne : p ≠ mb) :
    IT (w3.setCell ⟨p, 1, none⟩ (.slice A3 n c3)) B ok p L' :=
  ⟨mb, .slice A3 n c3, D', by rw [blk_set hp3]; rfl, h1, h2, h3, h4, hm3.setCell (fun e => hne e.symm) _, Kd.R_set hR3 hp3 (by decide) 1 _, hnd, htd⟩

set_option maxRecDepth 100000 in
set_option maxHeartbeats 1000000 in
theorem id_c (p : Nat) (L : List (Array Value)) (x : Array Value) (hx : IsSt x) (hl : L.length ≤ 999) (w : World) (B : Nat) (ok : Nat → Prop) (h : IT w B ok p L) (hB : B ≤ w.heap.size) : Calls Try.prog 8 #[.pointer (some ⟨p, 0, none⟩), .agg x] w fun e w' => IdPost w B ok p L x e w' := by
  obtain ⟨mb, A, c, D, h1, c0, c1, hf, hc, hm, hR, hnd, htd, _⟩ := h.open
  have HX := Aside0.mk hx
  have H := Aside0.mk h.bound
  have hp := blk_lt h1
  have hix : (Try.prog.info? 37).map (·.size) = some x.size := by rw [infoS, hx.size]
  have HIX := Aside0.mk hix
  clear h1 hx h hm hR htd hnd hix c0 c1 hf
  go_enter Try.func8, Try.ntmps8
  go_wp2_with (first
    | (refine wpList_load_row (by rfl) 37 _ (by rfl) w.heap.size (by rfl) 37 x (0, 0) _ (heap_alloc_new _ _) Try.underlying37 rfl HIX.out ?_)
    | (refine (find_c p L x HX.out (by omega) _ B _ (H.out.below (below_alloc (Below.refl _ w) _))).mono ?_))
  rintro _ w1 ⟨⟨i, b, rfl, hfr⟩, hb⟩
  have hb0 : Below w.heap.size w w1 := (below_alloc (Below.refl _ w) (.cells x 37)).trans (hb.mono (by rw [World.size_alloc]; omega))
  have hs1 : w.heap.size < w1.heap.size := by have := hb.size; rw [World.size_alloc] at this; omega
  have h1 := H.out.below hb0
  have hbx : w1.heap[w.heap.size]? = some (.cells x 37 (0, 0)) := (hb.block _ (by rw [World.size_alloc]; omega)).trans (heap_alloc_new w _)
  have HB := Aside0.mk (hb0.mono hB)
  have HB0 := Aside0.mk hb0
  have H1 := Aside0.mk h1
  have HBX := Aside0.mk hbx
  rcases hfr with ⟨rfl, k, rfl, hk⟩ | ⟨rfl, rfl, hnx⟩
  · have hfin : Aside0 (IdPost w B ok p L x (.returned (.int .i64 (k : Int))) w1) := ⟨⟨_, L, rfl, .inl ⟨k, rfl, hk, rfl⟩, h1.mono (fun _ h => .inl h.1), hb0.mono hB, fun j hj _ => hb0.block j hj⟩⟩
    clear hb hb0 h1 hbx hk
    go_wp2_with (fail)
    go_ret
    exact hfin.out
  · obtain ⟨mb1, A1, c1', D1, e1, d0, d1, df, dc, dm, dR, dnd, dtd, dok, dokm, dB, dBm⟩ := h1.open
    obtain ⟨l, hkl⟩ := HX.out
    have hwf : (Lit.int .i64 (L.length : Int)).wf = true := WalkArith.wf_i64 (by omega)
    obtain ⟨w2, hrun, hm2, hturn⟩ := (dm.drew).store keyedS Try.underlying51 (show L.length < maxLen by unfold maxLen; omega) hkl (plainElem_int (H := Unit) Try.underlying3 hwf)
    have hrx : w1.rangeAt w.heap.size 0 x.toList := fun j v hj => by
      rw [Nat.zero_add, cell_of_row _ _ _ _ _ _ HBX.out]
      simpa using hj
    have hu := Try.underlying37
    have hix := infoSL HX.out
    have hsx : x.toList.length = 82 := by rw [Array.length_toList, HX.out.size]
    have hox := HX.out.one
    have E1 := Aside0.mk e1
    have DR := Aside0.mk dR
    clear hb hb0 h1 e1 hwf
    go_upto_region 6 with (fail)
    refine wp_region_noPanic ?_
    refine wp_region_held_drew (S := (fun w' => w'.cell? ⟨p, 0, none⟩ = some (.map (some mb1)) ∧ w'.rangeAt w.heap.size 0 x.toList)) (by kernel_rfl) ?_ (fun hHeld => ?_)
    · exact ⟨d0, hrx⟩
    refine wpAnyH_take (i := 0) (v := ?_) rfl (by kernel_rfl) (by kernel_rfl) (by kernel_rfl) (fun _ _ _ h => h) (Or.inl ⟨by rfl, ?_⟩) (by assumption) ?_
    rotate_left
    · intro w hSw
      go_simp
      try with_reducible rfl
    simp only [Act.put, List.getElem_toArray, List.getElem_cons_zero, List.getElem_cons_succ, List.setIfInBounds_toArray, List.set_cons_zero, List.set_cons_succ]
    refine wpAnyH_take (i := 1) (v := ?_) rfl (by kernel_rfl) (by kernel_rfl) (by kernel_rfl) (fun _ _ _ h => h) (Or.inl ⟨by rfl, ?_⟩) (by assumption) ?_
    rotate_left
    · intro w hSw
      go_simp
      try with_reducible rfl
    simp only [Act.put, List.getElem_toArray, List.getElem_cons_zero, List.getElem_cons_succ, List.setIfInBounds_toArray, List.set_cons_zero, List.set_cons_succ]
    refine wpAnyH_take (i := 2) (v := ?_) rfl (by kernel_rfl) (by kernel_rfl) (by kernel_rfl) (fun _ _ _ h => h) (Or.inl ⟨by rfl, ?_⟩) (by assumption) ?_
    rotate_left
    · intro w hSw
      go_simp
      try with_reducible rfl
    simp only [Act.put, List.getElem_toArray, List.getElem_cons_zero, List.getElem_cons_succ, List.setIfInBounds_toArray, List.set_cons_zero, List.set_cons_succ]
    refine wpAnyH_take (i := 3) (v := ?_) rfl (by kernel_rfl) (by kernel_rfl) (by kernel_rfl) (fun _ _ _ h => h) (Or.inl ⟨by rfl, ?_⟩) (by assumption) ?_
    rotate_left
    · intro w hSw
      go_simp
      try with_reducible rfl
    simp only [Act.put, List.getElem_toArray, List.getElem_cons_zero, List.getElem_cons_succ, List.setIfInBounds_toArray, List.set_cons_zero, List.set_cons_succ]
    refine wpAnyH_take (i := 5) (v := ?_) rfl (by kernel_rfl) (by kernel_rfl) (by kernel_rfl) (fun _ _ _ h => h) (Or.inl ⟨by rfl, ?_⟩) (by assumption) ?_
    rotate_left
    · intro w hSw
      go_simp
      try with_reducible rfl
    simp only [Act.put, List.getElem_toArray, List.getElem_cons_zero, List.getElem_cons_succ, List.setIfInBounds_toArray, List.set_cons_zero, List.set_cons_succ]
    refine wpAnyH_take (i := 4) rfl (by kernel_rfl) (by kernel_rfl) (by kernel_rfl) (fun _ _ _ h => h) (yieldsIf_load_mid (by rfl) _ _ rfl _ _ rfl _ _ (fun w hSw => hSw.2) Try.underlying37 rfl hix) (by assumption) ?_
    simp only [Act.put, List.getElem_toArray, List.getElem_cons_zero, List.getElem_cons_succ, List.setIfInBounds_toArray, List.set_cons_zero, List.set_cons_succ]
    have hpm : p ≠ mb1 := fun e => by
      obtain ⟨es, clock, he, _⟩ := dm
      rw [← e] at he
      rw [cell_none_of_map he] at d0
      cases d0
    have hxm : w.heap.size ≠ mb1 := fun e => by
      obtain ⟨es, clock, he, _⟩ := dm
      rw [← e, HBX.out] at he
      cases he
    refine wpAnyH_ready (rs := [6]) (by kernel_rfl) (by simp) ?_
    refine AllReadyH.cons rfl (fun K hK => ?_) AllReadyH.nil
    go_simp
    have hg2 := hturn.grown
    have q1 : w2.cell? ⟨p, 1, none⟩ = some (.slice A1 L.length c1') := (hg2.cell (a := ⟨p, 1, none⟩) d1 (by simpa using hpm))
    have hrx2 : w2.rangeAt w.heap.size 0 x.toList := fun j v hj => hg2.cell (a := ⟨w.heap.size, 0 + j, none⟩) (hrx j v hj) (by simpa using hxm)
    have hpk : w2.cell? ⟨p, 0, none⟩ = some (.map (some mb1)) := (hg2.cell (a := ⟨p, 0, none⟩) d0 (by simpa using hpm))
    refine hK.out _ _ ⟨hpk, hrx2⟩ (fun hHeld2 => ?_)
    clear hK K hHeld hHeld2
    refine wpAnyH_done (by kernel_rfl) ?_ _
    refine NoPanic.normal ?_
    have hR2 : kS.R 37 w2 B (fun k => ok k ∨ w.heap.size ≤ k) (.slice A1 L.length c1') L := by
      have a1 : kS.R 37 w1 B (fun k => (ok k ∧ k < w.heap.size) ∧ k ≠ mb1) (.slice A1 L.length c1') L := Kd.R_mono (Kd.R_bound dR) (fun k hk => ⟨hk.1, fun e => by
        obtain ⟨es, clock, he, _⟩ := dm
        obtain ⟨_, _, _, _, _, cells, hc⟩ := hk
        rw [e, he] at hc
        cases hc⟩)
      exact Kd.R_mono (Kd.R_grown (w := w1) a1 (w1 := w2) ⟨hg2.os, hg2.tape, hg2.output, hg2.size, hg2.block⟩ (fun k hk e => hk.2 (by injection e))) (fun k hk => .inl hk.1.1)
    have hb2 : Below B w w2 := pw_below_grown HB.out (some mb1) (by omega) ⟨hg2.os, hg2.tape, hg2.output, hg2.size, hg2.block⟩ (fun k hk => by injection hk with hk; omega)
    have hp2 : w2.heap[p]? = some (.cells #[.map (some mb1), .slice A1 L.length c1'] 53 (0, 0)) := (hg2.block p (blk_lt E1.out) (by simpa using hpm)).trans E1.out
    have hnp : some p ≠ (Value.slice A1 L.length c1').ownBlock := Kd.R_ne hR2 hp2 (by decide)
    have hnb : some w.heap.size ≠ (Value.slice A1 L.length c1').ownBlock := fun e => by have := (DR.out.1 _ e.symm).2; omega
    have HP2 := Aside0.mk hp2
    have hdz : w2.drew.heap.size = w2.heap.size := rfl
    have hsz2 : w.heap.size < w2.heap.size := Nat.lt_of_lt_of_le hs1 hg2.size
    have HR2 := Aside0.mk hR2
    have HB2 := Aside0.mk hb2
    clear hrun hR2 hb2
    go_upto_region 7 with (fail)
    refine wp_region_noPanic ?_
    refine wp_region_held_drew (S := (fun w' => w'.rangeAt w.heap.size 0 x.toList)) (by kernel_rfl) ?_ (fun hHeld => ?_)
    · exact hrx2
    refine wpAnyH_take (i := 0) (v := ?_) rfl (by kernel_rfl) (by kernel_rfl) (by kernel_rfl) (fun _ _ _ h => h) (Or.inl ⟨by rfl, ?_⟩) (by assumption) ?_
    rotate_left
    · intro w hSw
      go_simp
      try with_reducible rfl
    simp only [Act.put, List.getElem_toArray, List.getElem_cons_zero, List.getElem_cons_succ, List.setIfInBounds_toArray, List.set_cons_zero, List.set_cons_succ]
    refine wpAnyH_take (i := 1) (v := ?_) rfl (by kernel_rfl) (by kernel_rfl) (by kernel_rfl) (fun _ _ _ h => h) (Or.inl ⟨by rfl, ?_⟩) (by assumption) ?_
    rotate_left
    · intro w hSw
      go_simp
      try with_reducible rfl
    simp only [Act.put, List.getElem_toArray, List.getElem_cons_zero, List.getElem_cons_succ, List.setIfInBounds_toArray, List.set_cons_zero, List.set_cons_succ]
    refine wpAnyH_take (i := 2) (v := ?_) rfl (by kernel_rfl) (by kernel_rfl) (by kernel_rfl) (fun _ _ _ h => h) (Or.inl ⟨by rfl, ?_⟩) (by assumption) ?_
    rotate_left
    · intro w hSw
      go_simp
      try with_reducible rfl
    simp only [Act.put, List.getElem_toArray, List.getElem_cons_zero, List.getElem_cons_succ, List.setIfInBounds_toArray, List.set_cons_zero, List.set_cons_succ]
    refine wpAnyH_take (i := 3) (v := ?_) rfl (by kernel_rfl) (by kernel_rfl) (by kernel_rfl) (fun _ _ _ h => h) (Or.inl ⟨by rfl, ?_⟩) (by assumption) ?_
    rotate_left
    · intro w hSw
      go_simp
      try with_reducible rfl
    simp only [Act.put, List.getElem_toArray, List.getElem_cons_zero, List.getElem_cons_succ, List.setIfInBounds_toArray, List.set_cons_zero, List.set_cons_succ]
    refine wpAnyH_take (i := 5) rfl (by kernel_rfl) (by kernel_rfl) (by kernel_rfl) (fun _ _ _ h => h) (yieldsIf_load_mid (by rfl) _ _ rfl _ _ rfl _ _ (fun w hSw => hSw) Try.underlying37 rfl hix) (by assumption) ?_
    simp only [Act.put, List.getElem_toArray, List.getElem_cons_zero, List.getElem_cons_succ, List.setIfInBounds_toArray, List.set_cons_zero, List.set_cons_succ]
    refine wpAnyH_ready (rs := [4, 6]) (by kernel_rfl) (by simp) ?_
    refine AllReadyH.cons rfl (fun K hK => ?_) (AllReadyH.cons rfl (fun K hK => ?_) AllReadyH.nil)
    · go_simp
      refine hK.out _ _ hrx2 (fun hHeld2 => ?_)
      clear hK K
      refine wpAnyH_ready (rs := [6]) (by kernel_rfl) (by simp) ?_
      refine AllReadyH.cons rfl (fun K hK => ?_) AllReadyH.nil
      refine step_bsS HX.out _ (by rfl) (by rfl) (by rfl) ?_
      refine hK.out _ _ (World.rangeAt_alloc hrx2 _) (fun hHeld2 => ?_)
      clear hK K
      refine wpAnyH_ready (rs := [7]) (by kernel_rfl) (by simp) ?_
      refine AllReadyH.cons rfl (fun K hK => ?_) AllReadyH.nil
      refine Kd.R_append_step kS (w0 := w) B (by rfl) (.tmp 32) (.tmp 34) 27 37 (.agg zS) 384 (by rfl) Try.underlying27 info37 (by kernel_rfl) (by decide) (by decide) (.slice A1 L.length c1') L x x.toList (fun k => ok k ∨ w.heap.size ≤ k) (fun _ => False) (by rfl) (by rfl) ⟨HX.out, rfl⟩ (fun _ h => h.elim) (fun k hk => .inr (by have := hsz2; have := hdz; omega)) HR2.out (below_drew HB2.out) (by have := hsz2; have := hdz; omega) (by omega) ?_
      intro v1 w3 hR3 hB3 hg3 hat3
      obtain ⟨A3, c3, rfl⟩ := Kd.R_slice hR3
      have hl3 : (L ++ [x]).length = L.length + 1 := by simp
      rw [hl3] at hR3
      have hp3 : w3.heap[p]? = some (.cells #[.map (some mb1), .slice A1 L.length c1'] 53 (0, 0)) := (hg3.block p (blk_lt HP2.out) hnp).trans HP2.out
      have r1 : w3.cell? ⟨p, 1, none⟩ = some (.slice A1 L.length c1') := cell_of_row _ _ _ _ _ _ hp3
      have r2 : ∀ j, w3.frozen? ⟨p, j, none⟩ = false := fun j => blk_frozen hp3 j
      have hrx3 : w3.rangeAt w.heap.size 0 x.toList := fun j v hj => hg3.cell (a := ⟨w.heap.size, 0 + j, none⟩) (hrx2 j v hj) hnb
      have HR3 := Aside0.mk hR3
      have HB3 := Aside0.mk hB3
      have HP3 := Aside0.mk hp3
      refine hK.out _ _ hrx3 (fun hHeld3 => ?_)
      clear hK K hHeld2 hR3 hB3 hp3 q1
      simp only [Act.put, List.getElem_toArray, List.getElem_cons_zero, List.getElem_cons_succ, List.setIfInBounds_toArray, List.set_cons_zero, List.set_cons_succ]
      refine wpAnyH_take (i := 8) (v := ?_) rfl (by kernel_rfl) (by kernel_rfl) (by kernel_rfl) (fun _ _ _ h => h) (Or.inl ⟨by rfl, ?_⟩) (by assumption) ?_
      rotate_left
      · intro w hSw
        go_simp
        try with_reducible rfl
      simp only [Act.put, List.getElem_toArray, List.getElem_cons_zero, List.getElem_cons_succ, List.setIfInBounds_toArray, List.set_cons_zero, List.set_cons_succ]
      refine wpAnyH_take (i := 9) (v := ?_) rfl (by kernel_rfl) (by kernel_rfl) (by kernel_rfl) (fun _ _ _ h => h) (Or.inl ⟨by rfl, ?_⟩) (by assumption) ?_
      rotate_left
      · intro w hSw
        go_simp
        try with_reducible rfl
      simp only [Act.put, List.getElem_toArray, List.getElem_cons_zero, List.getElem_cons_succ, List.setIfInBounds_toArray, List.set_cons_zero, List.set_cons_succ]
      refine wpAnyH_ready (rs := [10]) (by kernel_rfl) (by simp) ?_
      refine AllReadyH.cons rfl (fun K hK => ?_) AllReadyH.nil
      go_simp
      refine hK.out _ _ (fun j v hj => (World.cell?_of_block (Below.heap_setCell w3 ⟨p, 1, none⟩ _ w.heap.size (by have := hp; show w.heap.size ≠ p; omega))).trans (hrx3 j v hj)) (fun hHeld4 => ?_)
      clear hK K hHeld3 hHeld4
      refine wpAnyH_done (by kernel_rfl) ?_ _
      refine NoPanic.normal ?_
      go_wp2_with (fail)
      go_ret
      have hl5 : (L ++ [x]).length = L.length + 1 := by simp
      have hmb : some mb1 ≠ (Value.slice A1 L.length c1').ownBlock := fun e => by
        obtain ⟨cells, hc⟩ := Kd.R_typed HR2.out _ e.symm
        obtain ⟨es, clock, he, _⟩ := hm2
        rw [he] at hc
        cases hc
      have hm3 : World.ownsMap (H := Unit) w3 Try.prog 37 (plainElem Try.prog 3) mb1 (L ++ [x]).length (D1.put l (.lit (.int .i64 ((L.length : Nat) : Int)))) := by
        rw [hl5]
        exact hm2.kept (w' := w3) ⟨hg3.os, hg3.tape, hg3.output, hg3.size, hg3.block⟩ hmb
      refine ⟨_, L ++ [x], rfl, .inr ⟨hnx, rfl, rfl⟩, it_new HP3.out hm3 HR3.out (by rw [List.nodup_append]; refine ⟨dnd, by simp, ?_⟩; intro a ha b hb; rw [List.mem_singleton.1 hb]; exact fun e => hnx (e ▸ ha)) (tied_snoc dtd dm.isMap hkl hnx) (.inl dok.1) (.inl dokm.1) dB dBm hpm, HB3.out.setCell (p := ⟨p, 1, none⟩) dB _, fun k hk hok => ?_⟩
      have e4 : (w3.setCell ⟨p, 1, none⟩ (.slice A3 (L.length + 1) c3)).heap[k]? = w3.heap[k]? := Below.heap_setCell w3 ⟨p, 1, none⟩ _ k (fun e => hok (by rw [e]; exact dok.1))
      have e3 : w3.heap[k]? = w2.heap[k]? := hg3.block k (by have := hdz; omega) (fun e => hok (DR.out.1 _ e.symm).1)
      have e2 : w2.heap[k]? = w1.heap[k]? := hg2.block k (by show k < w1.heap.size; omega) (fun e => hok (by injection e with e; rw [e]; exact dokm.1))
      exact e4.trans (e3.trans (e2.trans (HB0.out.block k hk)))
    · have q1' := pw_cell_below (below_alloc (Below.refl _ w2) (.cells x 37)) q1
      refine step_bsS HX.out _ (by rfl) (by rfl) (by rfl) ?_
      refine hK.out _ _ (World.rangeAt_alloc hrx2 _) (fun hHeld2 => ?_)
      clear hK K
      simp only [Act.put, List.getElem_toArray, List.getElem_cons_zero, List.getElem_cons_succ, List.setIfInBounds_toArray, List.set_cons_zero, List.set_cons_succ]
      refine wpAnyH_ready (rs := [4]) (by kernel_rfl) (by simp) ?_
      refine AllReadyH.cons rfl (fun K hK => ?_) AllReadyH.nil
      go_simp
      refine hK.out _ (w2.drew.alloc (.cells x 37)) (World.rangeAt_alloc hrx2 _) (fun hHeld2 => ?_)
      clear hK K
      refine wpAnyH_ready (rs := [7]) (by kernel_rfl) (by simp) ?_
      refine AllReadyH.cons rfl (fun K hK => ?_) AllReadyH.nil
      refine Kd.R_append_step kS (w0 := w) B (by rfl) (.tmp 32) (.tmp 34) 27 37 (.agg zS) 384 (by rfl) Try.underlying27 info37 (by kernel_rfl) (by decide) (by decide) (.slice A1 L.length c1') L x x.toList (fun k => ok k ∨ w.heap.size ≤ k) (fun _ => False) (by rfl) (by rfl) ⟨HX.out, rfl⟩ (fun _ h => h.elim) (fun k hk => .inr (by have := hsz2; have := hdz; omega)) HR2.out (below_drew HB2.out) (by have := hsz2; have := hdz; omega) (by omega) ?_
      intro v1 w3 hR3 hB3 hg3 hat3
      obtain ⟨A3, c3, rfl⟩ := Kd.R_slice hR3
      have hl3 : (L ++ [x]).length = L.length + 1 := by simp
      rw [hl3] at hR3
      have hp3 : w3.heap[p]? = some (.cells #[.map (some mb1), .slice A1 L.length c1'] 53 (0, 0)) := (hg3.block p (blk_lt HP2.out) hnp).trans HP2.out
      have r1 : w3.cell? ⟨p, 1, none⟩ = some (.slice A1 L.length c1') := cell_of_row _ _ _ _ _ _ hp3
      have r2 : ∀ j, w3.frozen? ⟨p, j, none⟩ = false := fun j => blk_frozen hp3 j
      have hrx3 : w3.rangeAt w.heap.size 0 x.toList := fun j v hj => hg3.cell (a := ⟨w.heap.size, 0 + j, none⟩) (hrx2 j v hj) hnb
      have HR3 := Aside0.mk hR3
      have HB3 := Aside0.mk hB3
      have HP3 := Aside0.mk hp3
      refine hK.out _ _ hrx3 (fun hHeld3 => ?_)
      clear hK K hHeld2 hR3 hB3 hp3 q1 q1'
      simp only [Act.put, List.getElem_toArray, List.getElem_cons_zero, List.getElem_cons_succ, List.setIfInBounds_toArray, List.set_cons_zero, List.set_cons_succ]
      refine wpAnyH_take (i := 8) (v := ?_) rfl (by kernel_rfl) (by kernel_rfl) (by kernel_rfl) (fun _ _ _ h => h) (Or.inl ⟨by rfl, ?_⟩) (by assumption) ?_
      rotate_left
      · intro w hSw
        go_simp
        try with_reducible rfl
      simp only [Act.put, List.getElem_toArray, List.getElem_cons_zero, List.getElem_cons_succ, List.setIfInBounds_toArray, List.set_cons_zero, List.set_cons_succ]
      refine wpAnyH_take (i := 9) (v := ?_) rfl (by kernel_rfl) (by kernel_rfl) (by kernel_rfl) (fun _ _ _ h => h) (Or.inl ⟨by rfl, ?_⟩) (by assumption) ?_
      rotate_left
      · intro w hSw
        go_simp
        try with_reducible rfl
      simp only [Act.put, List.getElem_toArray, List.getElem_cons_zero, List.getElem_cons_succ, List.setIfInBounds_toArray, List.set_cons_zero, List.set_cons_succ]
      refine wpAnyH_ready (rs := [10]) (by kernel_rfl) (by simp) ?_
      refine AllReadyH.cons rfl (fun K hK => ?_) AllReadyH.nil
      go_simp
      refine hK.out _ _ (fun j v hj => (World.cell?_of_block (Below.heap_setCell w3 ⟨p, 1, none⟩ _ w.heap.size (by have := hp; show w.heap.size ≠ p; omega))).trans (hrx3 j v hj)) (fun hHeld4 => ?_)
      clear hK K hHeld3 hHeld4
      refine wpAnyH_done (by kernel_rfl) ?_ _
      refine NoPanic.normal ?_
      go_wp2_with (fail)
      go_ret
      have hl5 : (L ++ [x]).length = L.length + 1 := by simp
      have hmb : some mb1 ≠ (Value.slice A1 L.length c1').ownBlock := fun e => by
        obtain ⟨cells, hc⟩ := Kd.R_typed HR2.out _ e.symm
        obtain ⟨es, clock, he, _⟩ := hm2
        rw [he] at hc
        cases hc
      have hm3 : World.ownsMap (H := Unit) w3 Try.prog 37 (plainElem Try.prog 3) mb1 (L ++ [x]).length (D1.put l (.lit (.int .i64 ((L.length : Nat) : Int)))) := by
        rw [hl5]
        exact hm2.kept (w' := w3) ⟨hg3.os, hg3.tape, hg3.output, hg3.size, hg3.block⟩ hmb
      refine ⟨_, L ++ [x], rfl, .inr ⟨hnx, rfl, rfl⟩, it_new HP3.out hm3 HR3.out (by rw [List.nodup_append]; refine ⟨dnd, by simp, ?_⟩; intro a ha b hb; rw [List.mem_singleton.1 hb]; exact fun e => hnx (e ▸ ha)) (tied_snoc dtd dm.isMap hkl hnx) (.inl dok.1) (.inl dokm.1) dB dBm hpm, HB3.out.setCell (p := ⟨p, 1, none⟩) dB _, fun k hk hok => ?_⟩
      have e4 : (w3.setCell ⟨p, 1, none⟩ (.slice A3 (L.length + 1) c3)).heap[k]? = w3.heap[k]? := Below.heap_setCell w3 ⟨p, 1, none⟩ _ k (fun e => hok (by rw [e]; exact dok.1))
      have e3 : w3.heap[k]? = w2.heap[k]? := hg3.block k (by have := hdz; omega) (fun e => hok (DR.out.1 _ e.symm).1)
      have e2 : w2.heap[k]? = w1.heap[k]? := hg2.block k (by show k < w1.heap.size; omega) (fun e => hok (by injection e with e; rw [e]; exact dokm.1))
      exact e4.trans (e3.trans (e2.trans (HB0.out.block k hk)))
end Go.Proofs.Ytbmjeopnahmbgaa.In
