/- Events carried out: begin, end, leaf. -/
import Derived.Test.YtfaibpdoalbkpaaBt
namespace Go.Proofs.Ytfaibpdoalbkpaa.Bu
open Go.RowKit Go.Proofs.YtfaibpdoalbkpaaW.PrintWords Go.Proofs.YtfaibpdoalbkpaaW.PrintLast Go.Proofs.YtfaibpdoalbkpaaW.PrintMore
attribute [local go_sem] max2_int min2_int max_two min_two max_three min_three max_four min_four
set_option linter.unusedVariables false
set_option linter.unusedSimpArgs false
/-- An event. -/
structure Ev where
  o : Int
  k : Int
  a : Int
  t : Int
abbrev evc (x : Ev) : Array Value := #[.int .u8 x.o, .int .u8 x.k, .int .i64 x.a, .int .i64 x.t]
def beginB (m : Bl) (e : Ev) : Bl := ⟨m.L ++ [⟨e.k, e.a, 0, (m.O.length : Int)⟩], m.O ++ [m.L.length], e.a⟩
def leafB (m : Bl) (e : Ev) : Bl := ⟨m.L ++ [⟨e.k, e.a, e.t, (m.O.length : Int)⟩], m.O, e.t⟩
def shutN (e : Ev) (x : Nd) : Nd := ⟨if e.k = 0 then x.k else e.k, x.f, e.a, x.d⟩
def endB (m : Bl) (e : Ev) : Bl := ⟨m.L.modify (m.O.getLastD 0) (shutN e), m.O.dropLast, e.a⟩
/-- What an event's function tells. -/
def OpP (w : World) (fp : Nat → Prop) (b : Nat) (m' : Bl) (e : Ending) (w' : World) : Prop :=
  (∃ v, e = .returned v) ∧ (∃ ps' vN' vO', BT w' (more fp w.heap.size) b ps' m' vN' vO') ∧ Fr fp w w'
theorem OpP.drew_ {w w' : World} {fp : Nat → Prop} {b : Nat} {m' : Bl} {e : Ending} (h : OpP w fp b m' e w') : OpP w fp b m' e w'.drew :=
  ⟨h.1, h.2.1.imp fun ps' h => h.imp fun vN h => h.imp fun vO h => h.below (below_drew (Below.refl _ w')), h.2.2.trans (Fr.of_below (fp := fp) (below_drew (Below.refl _ w'))) (fun j hj => .inl hj)⟩
theorem BT.far_ {w : World} {fp : Nat → Prop} {b : Nat} {ps : List Nat} {m : Bl} {vN vO : Value} (h : BT w fp b ps m vN vO) (x : Int) : BT (w.setCell ⟨b, 2, none⟩ (.int .i64 x)) fp b ps ⟨m.L, m.O, x⟩ vN vO :=
  ⟨blk_set h.hb 2 _, own_setCell h.rN (own_ne h.rN h.hb (by decide)) _, own_setCell h.rO (own_ne h.rO h.hb (by decide)) _, h.ne, h.len, h.nd, fun i y p hy hp => blk_far (h.nodes i y p hy hp) (blk_ne (h.nodes i y p hy hp) h.hb (by decide)) _, h.op, h.fb, h.fN, h.fO, h.fps⟩

set_option maxRecDepth 100000 in
set_option maxHeartbeats 4000000 in
theorem leaf_c (b : Nat) (ps : List Nat) (m : Bl) (vN vO : Value) (e : Ev) (w : World) (fp : Nat → Prop) (h0 : BT w fp b ps m vN vO) (hl : m.L.length ≤ 1000000) :
    Calls Try.prog 27 #[pv b, .agg (evc e)] w fun en w' => OpP w fp b (leafB m e) en w' := by
  have h := h0.bound
  obtain ⟨W, hW⟩ : ∃ W, w.alloc (.cells (evc e) 41) = W := ⟨_, rfl⟩
  have hbw : Below w.heap.size w W := by rw [← hW]; exact below_alloc (Below.refl _ w) _
  have hsz : W.heap.size = w.heap.size + 1 := by rw [← hW]; simp
  have rE : W.heap[w.heap.size]? = some (.cells (evc e) 41 (0, 0)) := by rw [← hW]; exact heap_alloc_new _ _
  have e1 : W.cell? ⟨w.heap.size, 1, none⟩ = some (.int .u8 e.k) := cell_of_row _ _ _ _ _ _ rE
  have e2 : W.cell? ⟨w.heap.size, 2, none⟩ = some (.int .i64 e.a) := cell_of_row _ _ _ _ _ _ rE
  have e3 : W.cell? ⟨w.heap.size, 3, none⟩ = some (.int .i64 e.t) := cell_of_row _ _ _ _ _ _ rE
  have HA := Aside0.mk (add_c b ps m vN vO e.k e.a e.t W _ (h.below hbw) hl)
  have HBW := Aside0.mk hbw
  have HE := Aside0.mk rE
  clear h h0 hbw rE
  go_enter Try.func27, Try.ntmps27
  go_wp2_with (refine HA.out.mono ?_)
  rintro _ w2 ⟨p, vN2, rfl, h2, f2⟩
  have hE2 : w2.heap[w.heap.size]? = some (.cells (evc e) 41 (0, 0)) := (f2.block _ (blk_lt HE.out) (fun hh => by have := hh.2; omega)).trans HE.out
  have g3 : w2.cell? ⟨w.heap.size, 3, none⟩ = some (.int .i64 e.t) := cell_of_row _ _ _ _ _ _ hE2
  have g2 := h2.cF
  have f2b := blk_frozen h2.hb 2
  have H2 := Aside0.mk h2
  have F2 := Aside0.mk f2
  clear h2 f2 hE2 e1 e2 e3 HA
  go_wp2_with (fail)
  go_end0
  refine ⟨⟨_, rfl⟩, ⟨_, _, _, (H2.out.far_ e.t).mono ?_⟩, ?_⟩
  · rintro k (hk | hk)
    · exact .inl hk.1
    · exact .inr (by omega)
  · exact (Fr.trans (fp := fp) (Fr.of_below HBW.out) F2.out (fun j hj => .inl hj.1)).set ⟨b, 2, none⟩ (H2.out.fb.elim (fun h => .inl h.1) (fun h => .inr (by show w.heap.size ≤ b; omega))) _

set_option maxRecDepth 100000 in
set_option maxHeartbeats 4000000 in
theorem begin_c (b : Nat) (ps : List Nat) (m : Bl) (vN vO : Value) (e : Ev) (w : World) (fp : Nat → Prop) (h0 : BT w fp b ps m vN vO) (hl : m.L.length ≤ 1000000) (hlO : m.O.length ≤ 1000000) :
    Calls Try.prog 25 #[pv b, .agg (evc e)] w fun en w' => OpP w fp b (beginB m e) en w' := by
  have h := h0.bound
  obtain ⟨A2, c2, hvO, hc2, _⟩ := own_cells h.rO
  obtain ⟨nO, hnO⟩ : ∃ D, m.O.length = D := ⟨_, rfl⟩
  rw [hnO] at hvO
  obtain ⟨W, hW⟩ : ∃ W, w.alloc (.cells (evc e) 41) = W := ⟨_, rfl⟩
  have hbw : Below w.heap.size w W := by rw [← hW]; exact below_alloc (Below.refl _ w) _
  have hsz : W.heap.size = w.heap.size + 1 := by rw [← hW]; simp
  have rE : W.heap[w.heap.size]? = some (.cells (evc e) 41 (0, 0)) := by rw [← hW]; exact heap_alloc_new _ _
  have e1 : W.cell? ⟨w.heap.size, 1, none⟩ = some (.int .u8 e.k) := cell_of_row _ _ _ _ _ _ rE
  have e2 : W.cell? ⟨w.heap.size, 2, none⟩ = some (.int .i64 e.a) := cell_of_row _ _ _ _ _ _ rE
  have hw1 := h.below hbw
  have g1 := hw1.cO
  rw [hvO] at g1
  have HA := Aside0.mk (add_c b ps m vN vO e.k e.a 0 W.drew _ (hw1.below (below_drew (Below.refl _ W))) hl)
  have HBW := Aside0.mk hbw
  have HE := Aside0.mk rE
  have HVO := Aside0.mk hvO
  have HNO := Aside0.mk hnO
  have HM := Aside0.mk hw1
  have hnO8 : nO ≤ 1000000 := by omega
  clear h h0 hbw rE hvO hnO hw1
  go_enter Try.func25, Try.ntmps25
  go_upto_region 1 with (fail)
  refine wp_region_noPanic ?_
  refine wp_region_last_drew (S := (fun w' => w'.cell? ⟨b, 1, none⟩ = some (.slice A2 nO c2) ∧ w'.cell? ⟨w.heap.size, 1, none⟩ = some (.int .u8 e.k) ∧ w'.cell? ⟨w.heap.size, 2, none⟩ = some (.int .i64 e.a))) (ds := [15]) (by kernel_rfl) ?_ (fun hHeld => ?_)
  · exact ⟨g1, e1, e2⟩
  refine wpAnyLast_take (i := 0) (v := ?_) rfl (by kernel_rfl) (by kernel_rfl) (by kernel_rfl) (by kernel_rfl) (by kernel_rfl) (fun _ _ _ h => h) (Or.inl ⟨by rfl, ?_⟩) (by assumption) ?_
  rotate_left
  · intro w hSw
    go_simp
    try with_reducible rfl
  simp only [Act.put, List.getElem_toArray, List.getElem_cons_zero, List.getElem_cons_succ, List.setIfInBounds_toArray, List.set_cons_zero, List.set_cons_succ]
  refine wpAnyLast_take (i := 1) (v := ?_) rfl (by kernel_rfl) (by kernel_rfl) (by kernel_rfl) (by kernel_rfl) (by kernel_rfl) (fun _ _ _ h => h) (Or.inl ⟨by rfl, ?_⟩) (by assumption) ?_
  rotate_left
  · intro w hSw
    go_simp
    try with_reducible rfl
  simp only [Act.put, List.getElem_toArray, List.getElem_cons_zero, List.getElem_cons_succ, List.setIfInBounds_toArray, List.set_cons_zero, List.set_cons_succ]
  refine wpAnyLast_take (i := 2) (v := ?_) rfl (by kernel_rfl) (by kernel_rfl) (by kernel_rfl) (by kernel_rfl) (by kernel_rfl) (fun _ _ _ h => h) (Or.inl ⟨by rfl, ?_⟩) (by assumption) ?_
  rotate_left
  · intro w hSw
    go_simp
    try with_reducible rfl
  simp only [Act.put, List.getElem_toArray, List.getElem_cons_zero, List.getElem_cons_succ, List.setIfInBounds_toArray, List.set_cons_zero, List.set_cons_succ]
  refine wpAnyLast_take (i := 3) (v := ?_) rfl (by kernel_rfl) (by kernel_rfl) (by kernel_rfl) (by kernel_rfl) (by kernel_rfl) (fun _ _ _ h => h) (Or.inl ⟨by rfl, ?_⟩) (by assumption) ?_
  rotate_left
  · intro w hSw
    go_simp
    try with_reducible rfl
  simp only [Act.put, List.getElem_toArray, List.getElem_cons_zero, List.getElem_cons_succ, List.setIfInBounds_toArray, List.set_cons_zero, List.set_cons_succ]
  refine wpAnyLast_take (i := 4) (v := ?_) rfl (by kernel_rfl) (by kernel_rfl) (by kernel_rfl) (by kernel_rfl) (by kernel_rfl) (fun _ _ _ h => h) (Or.inl ⟨by rfl, ?_⟩) (by assumption) ?_
  rotate_left
  · intro w hSw
    go_simp
    try with_reducible rfl
  simp only [Act.put, List.getElem_toArray, List.getElem_cons_zero, List.getElem_cons_succ, List.setIfInBounds_toArray, List.set_cons_zero, List.set_cons_succ]
  refine wpAnyLast_take (i := 5) (v := ?_) rfl (by kernel_rfl) (by kernel_rfl) (by kernel_rfl) (by kernel_rfl) (by kernel_rfl) (fun _ _ _ h => h) (Or.inl ⟨by rfl, ?_⟩) (by assumption) ?_
  rotate_left
  · intro w hSw
    go_simp
    try with_reducible rfl
  simp only [Act.put, List.getElem_toArray, List.getElem_cons_zero, List.getElem_cons_succ, List.setIfInBounds_toArray, List.set_cons_zero, List.set_cons_succ]
  refine wpAnyLast_take (i := 6) (v := ?_) rfl (by kernel_rfl) (by kernel_rfl) (by kernel_rfl) (by kernel_rfl) (by kernel_rfl) (fun _ _ _ h => h) (Or.inl ⟨by rfl, ?_⟩) (by assumption) ?_
  rotate_left
  · intro w hSw
    go_simp
    try with_reducible rfl
  simp only [Act.put, List.getElem_toArray, List.getElem_cons_zero, List.getElem_cons_succ, List.setIfInBounds_toArray, List.set_cons_zero, List.set_cons_succ]
  refine wpAnyLast_take (i := 7) (v := ?_) rfl (by kernel_rfl) (by kernel_rfl) (by kernel_rfl) (by kernel_rfl) (by kernel_rfl) (fun _ _ _ h => h) (Or.inl ⟨by rfl, ?_⟩) (by assumption) ?_
  rotate_left
  · intro w hSw
    go_simp
    try with_reducible rfl
  simp only [Act.put, List.getElem_toArray, List.getElem_cons_zero, List.getElem_cons_succ, List.setIfInBounds_toArray, List.set_cons_zero, List.set_cons_succ]
  refine wpAnyLast_take (i := 8) (v := ?_) rfl (by kernel_rfl) (by kernel_rfl) (by kernel_rfl) (by kernel_rfl) (by kernel_rfl) (fun _ _ _ h => h) (Or.inl ⟨by rfl, ?_⟩) (by assumption) ?_
  rotate_left
  · intro w hSw
    go_simp
    try with_reducible rfl
  simp only [Act.put, List.getElem_toArray, List.getElem_cons_zero, List.getElem_cons_succ, List.setIfInBounds_toArray, List.set_cons_zero, List.set_cons_succ]
  refine wpAnyLast_take (i := 9) (v := ?_) rfl (by kernel_rfl) (by kernel_rfl) (by kernel_rfl) (by kernel_rfl) (by kernel_rfl) (fun _ _ _ h => h) (Or.inl ⟨by rfl, ?_⟩) (by assumption) ?_
  rotate_left
  · intro w hSw
    go_simp
    try with_reducible rfl
  simp only [Act.put, List.getElem_toArray, List.getElem_cons_zero, List.getElem_cons_succ, List.setIfInBounds_toArray, List.set_cons_zero, List.set_cons_succ]
  refine wpAnyLast_ready (rs := [10]) (by kernel_rfl) (by simp) ?_
  refine AllReadyL.cons rfl (by decide) (fun K hK => ?_) AllReadyL.nil
  go_simp
  refine HA.out.mono ?_
  rintro _ w2 ⟨p, vN2, rfl, h2, f2⟩
  have hE2 : w2.heap[w.heap.size]? = some (.cells (evc e) 41 (0, 0)) := (f2.block _ (blk_lt HE.out) (fun hh => by have := hh.2; omega)).trans HE.out
  have g12 := h2.cO
  rw [HVO.out] at g12
  have e12 : w2.cell? ⟨w.heap.size, 1, none⟩ = some (.int .u8 e.k) := cell_of_row _ _ _ _ _ _ hE2
  have e22 : w2.cell? ⟨w.heap.size, 2, none⟩ = some (.int .i64 e.a) := cell_of_row _ _ _ _ _ _ hE2
  have H2 := Aside0.mk h2
  have F2 := Aside0.mk f2
  have HE2 := Aside0.mk hE2
  clear h2 f2 hE2 HA
  refine hK.out _ _ ⟨g12, e12, e22⟩ (fun hHeld2 => ?_)
  clear hK K hHeld
  have hHeld := hHeld2
  clear hHeld2
  try simp only [Act.put, List.getElem_toArray, List.getElem_cons_zero, List.getElem_cons_succ, List.setIfInBounds_toArray, List.set_cons_zero, List.set_cons_succ]
  refine wpAnyLast_ready (rs := [11]) (by kernel_rfl) (by simp) ?_
  refine AllReadyL.cons rfl (by decide) (fun K hK => ?_) AllReadyL.nil
  go_simp
  refine hK.out _ _ ⟨pw_cell_below (below_alloc (Below.refl _ w2) _) g12, pw_cell_below (below_alloc (Below.refl _ w2) _) e12, pw_cell_below (below_alloc (Below.refl _ w2) _) e22⟩ (fun hHeld2 => ?_)
  clear hK K hHeld
  have hHeld := hHeld2
  clear hHeld2
  try simp only [Act.put, List.getElem_toArray, List.getElem_cons_zero, List.getElem_cons_succ, List.setIfInBounds_toArray, List.set_cons_zero, List.set_cons_succ]
  refine wpAnyLast_ready (rs := [12]) (by kernel_rfl) (by simp) ?_
  refine AllReadyL.cons rfl (by decide) (fun K hK => ?_) AllReadyL.nil
  have HROW : w2.ownsRow 0 54 1 (.slice A2 nO c2) nO (m.O.map fun i => pv ((ps ++ [p]).getD i 0)) := by
    have hr := H2.out.rO
    rw [HVO.out] at hr
    rw [HNO.out] at hr
    exact hr
  refine step_append_cells (w0 := w2) 0 (by rfl) (.tmp 8) (.tmp 15) 55 54 (.pointer none) 1 8 (by rfl) Try.underlying55 info54 rfl (by decide) (by decide) (.slice A2 nO c2) nO _ [pv p] (by rfl) (by rfl) rfl (by simp [Value.oneCell']) HROW (Below.refl _ _) (Nat.zero_le _) (by omega) ?_
  intro v1 w3 hown3 _ hg3 hat3
  obtain ⟨A3, c3, hv1, _⟩ := own_cells hown3
  subst hv1
  have hneb : some b ≠ (Value.slice A2 nO c2).ownBlock := own_ne HROW H2.out.hb (by decide)
  have hnee : some w.heap.size ≠ (Value.slice A2 nO c2).ownBlock := own_ne HROW HE2.out (by decide)
  have hb3 : w3.heap[b]? = _ := (hg3.block b (blk_lt H2.out.hb) hneb).trans H2.out.hb
  rw [HVO.out] at hb3
  have hE3 : w3.heap[w.heap.size]? = _ := (hg3.block _ (blk_lt HE2.out) hnee).trans HE2.out
  have g13 : w3.cell? ⟨b, 1, none⟩ = some (.slice A2 nO c2) := cell_of_row _ _ _ _ _ _ hb3
  have f13 := blk_frozen hb3 1
  have e13 : w3.cell? ⟨w.heap.size, 1, none⟩ = some (.int .u8 e.k) := cell_of_row _ _ _ _ _ _ hE3
  have e23 : w3.cell? ⟨w.heap.size, 2, none⟩ = some (.int .i64 e.a) := cell_of_row _ _ _ _ _ _ hE3
  have HROW3 := Aside0.mk hown3
  have HG3 := Aside0.mk hg3
  have HAT3 := Aside0.mk hat3
  have HB3 := Aside0.mk hb3
  have HE3 := Aside0.mk hE3
  have HROWA := Aside0.mk HROW
  clear hown3 hg3 hat3 hb3 hE3 HROW hneb hnee g12 e12 e22
  refine hK.out _ _ ⟨g13, e13, e23⟩ (fun hHeld2 => ?_)
  clear hK K hHeld
  have hHeld := hHeld2
  clear hHeld2
  try simp only [Act.put, List.getElem_toArray, List.getElem_cons_zero, List.getElem_cons_succ, List.setIfInBounds_toArray, List.set_cons_zero, List.set_cons_succ]
  refine wpAnyLast_take (i := 13) (v := ?_) rfl (by kernel_rfl) (by kernel_rfl) (by kernel_rfl) (by kernel_rfl) (by kernel_rfl) (fun _ _ _ h => h) (Or.inl ⟨by rfl, ?_⟩) (by assumption) ?_
  rotate_left
  · intro w hSw
    go_simp
    try with_reducible rfl
  simp only [Act.put, List.getElem_toArray, List.getElem_cons_zero, List.getElem_cons_succ, List.setIfInBounds_toArray, List.set_cons_zero, List.set_cons_succ]
  refine wpAnyLast_take (i := 14) (v := ?_) rfl (by kernel_rfl) (by kernel_rfl) (by kernel_rfl) (by kernel_rfl) (by kernel_rfl) (fun _ _ _ h => h) (Or.inl ⟨by rfl, ?_⟩) (by assumption) ?_
  rotate_left
  · intro w hSw
    go_simp
    try with_reducible rfl
  simp only [Act.put, List.getElem_toArray, List.getElem_cons_zero, List.getElem_cons_succ, List.setIfInBounds_toArray, List.set_cons_zero, List.set_cons_succ]
  refine wpAnyLast_ready (rs := [15]) (by kernel_rfl) (by simp) ?_
  refine AllReadyL.cons_last rfl (by decide) (fun K hK => ?_) AllReadyL.nil
  go_simp
  refine hK.out _ _ ?_
  clear hK K hHeld
  try simp only [Act.put, List.getElem_toArray, List.getElem_cons_zero, List.getElem_cons_succ, List.setIfInBounds_toArray, List.set_cons_zero, List.set_cons_succ]
  refine wpAnyLast_done (by kernel_rfl) ?_ _
  refine NoPanic.normal ?_
  have hE4 : (w3.setCell ⟨b, 1, none⟩ (.slice A3 (nO + 1) c3)).heap[w.heap.size]? = _ := blk_far HE3.out (blk_ne HE3.out HB3.out (by decide)) _
  have e24 : (w3.setCell ⟨b, 1, none⟩ (.slice A3 (nO + 1) c3)).cell? ⟨w.heap.size, 2, none⟩ = some (.int .i64 e.a) := cell_of_row _ _ _ _ _ _ hE4
  have hb4 := blk_set HB3.out 1 (.slice A3 (nO + 1) c3)
  have g24 : (w3.setCell ⟨b, 1, none⟩ (.slice A3 (nO + 1) c3)).cell? ⟨b, 2, none⟩ = some (.int .i64 m.far) := cell_of_row _ _ _ _ _ _ hb4
  have f24 := blk_frozen hb4 2
  obtain ⟨w4, hw4⟩ : ∃ w4, w3.setCell ⟨b, 1, none⟩ (.slice A3 (nO + 1) c3) = w4 := ⟨_, rfl⟩
  have hfin : BT w4 (more fp w.heap.size) b (ps ++ [p]) ⟨m.L ++ [⟨e.k, e.a, 0, (m.O.length : Int)⟩], m.O ++ [m.L.length], m.far⟩ vN2 (.slice A3 (nO + 1) c3) ∧ Fr fp w w4 := by
    have HH := H2.out
    have hbo : some b ≠ (Value.slice A3 (nO + 1) c3).ownBlock := own_ne HROW3.out HB3.out (by decide)
    have hno : ∀ j, (Value.slice A2 nO c2).ownBlock = some j → more fp w.heap.size j := fun j ej => by
      rcases HH.fO j (by rw [HVO.out]; exact ej) with h | h
      · exact .inl h.1
      · exact .inr (by have : W.drew.heap.size = W.heap.size := rfl; omega)
    have hsN : vN2.ownBlock = none ∨ vN2.ownBlock ≠ (Value.slice A2 nO c2).ownBlock := by
      cases hq : vN2.ownBlock with
      | none => exact .inl rfl
      | some j =>
        refine .inr (fun ej => ?_)
        exact HH.ne j (by rw [HVO.out]; exact ej.symm) hq.symm
    have hrN3 : w3.ownsRow 0 54 1 vN2 (ps ++ [p]).length ((ps ++ [p]).map pv) := HH.rN.kept HG3.out hsN
    have hbN : some b ≠ vN2.ownBlock := own_ne hrN3 HB3.out (by decide)
    have hnodes : ∀ (j : Nat) (row : Array Value), w2.heap[j]? = some (.cells row 38 (0, 0)) → w4.heap[j]? = some (.cells row 38 (0, 0)) := fun j row hj => by
      have h3 : w3.heap[j]? = _ := (HG3.out.block j (blk_lt hj) (own_ne HROWA.out hj (by decide))).trans hj
      rw [← hw4]
      exact blk_far h3 (blk_ne h3 HB3.out (by decide)) _
    have hmf : ∀ j, more (fun k => fp k ∧ k < w.heap.size) W.drew.heap.size j → more fp w.heap.size j := fun j hj => hj.elim (fun h => .inl h.1) (fun h => .inr (by have : W.drew.heap.size = W.heap.size := rfl; omega))
    refine ⟨⟨?_, ?_, ?_, ?_, HH.len, HH.nd, fun i x q hx hq => hnodes q _ (HH.nodes i x q hx hq), ?_, hmf _ HH.fb, fun j hj => hmf _ (HH.fN j hj), ?_, fun q hq => hmf _ (HH.fps q hq)⟩, ?_⟩
    · rw [← hw4]
      exact hb4
    · rw [← hw4]
      exact own_setCell hrN3 (p := ⟨b, 1, none⟩) hbN _
    · have ho := own_setCell HROW3.out (p := ⟨b, 1, none⟩) hbo (.slice A3 (nO + 1) c3)
      rw [hw4] at ho
      have hl2 : m.L.length < (ps ++ [p]).length := by rw [HH.len]; simp
      have e5 : (ps ++ [p])[m.L.length]?.getD 0 = p := by
        have := HH.len
        simp at this
        simp [← this]
      simpa [HNO.out, List.map_append, e5] using ho
    · intro j hj ej
      rcases HAT3.out with hat | ⟨b', hb', hlt⟩
      · rw [hat] at hj
        exact HH.ne j (by rw [HVO.out]; exact hj) ej
      · rw [hb'] at hj
        injection hj with hj
        have := own_lt HH.rN j ej.symm
        omega
    · intro i hi
      rcases List.mem_append.1 hi with hi | hi
      · exact HH.op i hi
      · simp at hi
        subst hi
        simp
    · intro j hj
      rcases HAT3.out with hat | ⟨b', hb', hlt⟩
      · exact hno j (by rw [← hat]; exact hj)
      · rw [hb'] at hj
        injection hj with hj
        exact .inr (by have := F2.out.size; have : W.drew.heap.size = W.heap.size := rfl; omega)
    · rw [← hw4]
      refine ((Fr.trans (fp := fp) (Fr.of_below (below_drew HBW.out)) F2.out (fun j hj => .inl hj.1)).grown HG3.out (fun j ej => hno j ej)).set ⟨b, 1, none⟩ ?_ _
      rcases HH.fb with h | h
      · exact .inl h.1
      · exact .inr (by have : W.drew.heap.size = W.heap.size := rfl; show w.heap.size ≤ b; omega)
  rw [hw4] at e24 g24 f24
  try rw [hw4]
  have HF := Aside0.mk hfin.1
  have HFF := Aside0.mk hfin.2
  clear hfin hE4 hb4 hw4 g13 f13 e13 e23
  go_wp2_with (fail)
  go_end0
  exact ⟨⟨_, rfl⟩, ⟨_, _, _, HF.out.far_ e.a⟩, HFF.out.set ⟨b, 2, none⟩ HF.out.fb _⟩

theorem info54s : (Try.prog.info? 54).map (·.size) = some 1 := by kernel_rfl
theorem run_cutH {t e : TypeId} (hu : Try.prog.underlying t = some (.slice e)) (hi : (Try.prog.info? e).map (·.size) = some 1) (A : Option Addr) (n c k : Nat) (hk : k ≤ c) (w : World) : (Instr.slice t (.slice A n c) none (some (.int .i64 (k : Int))) none).run Try.prog w = .ok (.slice A k c) w := by
  obtain ⟨i, hi, hs⟩ := Option.map_eq_some_iff.1 hi
  have hel : Try.prog.elem t = e := by simp [Program.elem, hu]
  have hu' : Try.prog.underlying t = some (.slice (Try.prog.elem t)) := by rw [hel]; exact hu
  rw [run_slice_h w t A n c hu' .i64 (k : Int) (by omega) (by omega), hel]
  cases A <;> simp [sizeOf, typeInfo, hi, hs, sliced, Result.andThen, Addr.add]
theorem exec_cutH {t e : TypeId} (hu : Try.prog.underlying t = some (.slice e)) (hi : (Try.prog.info? e).map (·.size) = some 1) (A : Option Addr) (n c k : Nat) (hk : k ≤ c) (ρ : Operand → Value) (o : Oper) (X H : Operand) (ho : o.op = .slice t X none (some H) none) (hX : ρ X = .slice A n c) (hH : ρ H = .int .i64 (k : Int)) (w : World) :
    (execOp ρ o).run Try.prog w = .ok (.value (.slice A k c)) w := by
  have hs := run_sliceAt_slice (P := Try.prog) w t (.slice A n c) none (some (.int .i64 (k : Int))) none (by rw [hu]; simp [Program.elem, hu])
  rw [run_cutH hu hi A n c k hk w] at hs
  unfold execOp
  simp only [ho, hX, hH, Option.map_some, Option.map_none, Sem.run_bind, hs, Result.andThen_ok, Sem.run_pure]
theorem own_cut {w : World} {base : Nat} {e : TypeId} {A : Option Addr} {k c : Nat} {xs : List Value} {u : Value} (h : w.ownsRow base e 1 (.slice A (k + 1) c) (k + 1) (xs ++ [u])) : w.ownsRow base e 1 (.slice A k c) k xs := by
  have hl : xs.length = k := by have := h.1; simp at this; omega
  refine ⟨by omega, ?_⟩
  rcases h.2 with ⟨hv, h0⟩ | ⟨g, cap, cur, hv, hb, hg, hle, hm, hsz, htk⟩
  · omega
  · injection hv with h1 h2 h3
    subst h1
    subst h3
    refine .inr ⟨g, c, cur, rfl, hb, hg, by omega, hm, hsz, ?_⟩
    have h4 : (cur.toList.take ((k + 1) * 1)).take k = xs := by rw [htk, ← hl]; simp
    rw [List.take_take] at h4
    rw [← h4]
    congr 1
    omega
theorem BT.node_ {w : World} {fp : Nat → Prop} {b : Nat} {ps : List Nat} {m : Bl} {vN vO : Value} (h : BT w fp b ps m vN vO) {i x : Nat} {y y' : Nd} {j : Nat} {u : Value} (hx : ps[i]? = some x) (hy : m.L[i]? = some y) (hj : (ndc y).setIfInBounds j u = ndc y') :
    BT (w.setCell ⟨x, j, none⟩ u) fp b ps ⟨m.L.set i y', m.O, m.far⟩ vN vO := by
  have hxb := h.nodes i y x hy hx
  have hi := (List.getElem?_eq_some_iff.1 hy).1
  refine ⟨blk_far h.hb (blk_ne h.hb hxb (by decide)) _, own_setCell h.rN (own_ne h.rN hxb (by decide)) _, own_setCell h.rO (own_ne h.rO hxb (by decide)) _, h.ne, by simpa using h.len, h.nd, ?_, fun i' hi' => by simpa using h.op i' hi', h.fb, h.fN, h.fO, h.fps⟩
  intro i2 z p hz hp
  by_cases hii : i = i2
  · subst hii
    rw [hx] at hp
    injection hp with hp
    subst hp
    rw [List.getElem?_set_self hi] at hz
    injection hz with hz
    subst hz
    rw [← hj]
    exact blk_set hxb j u
  · rw [List.getElem?_set_ne hii] at hz
    have hpx : p ≠ x := fun e => hii (by
      subst e
      have h1 := List.getElem?_eq_some_iff.1 hx
      have h2 := List.getElem?_eq_some_iff.1 hp
      exact (List.getElem_inj h.nd).1 (h1.2.trans h2.2.symm))
    exact blk_far (h.nodes i2 z p hz hp) hpx _
theorem BT.cut_ {w : World} {fp : Nat → Prop} {b : Nat} {ps : List Nat} {L : List Nd} {O' : List Nat} {i : Nat} {far : Int} {vN : Value} {A : Option Addr} {k c : Nat} (h : BT w fp b ps ⟨L, O' ++ [i], far⟩ vN (.slice A (k + 1) c)) (hk : O'.length = k) (x : Int) :
    BT ((w.setCell ⟨b, 1, none⟩ (.slice A k c)).setCell ⟨b, 2, none⟩ (.int .i64 x)) fp b ps ⟨L, O', x⟩ vN (.slice A k c) := by
  have hr := h.rO
  simp only [List.map_append, List.map_cons, List.map_nil, List.length_append, List.length_singleton, hk] at hr
  have hc := own_cut hr
  have hb1 := blk_set h.hb 1 (.slice A k c)
  have hn1 := own_setCell h.rN (p := ⟨b, 1, none⟩) (own_ne h.rN h.hb (by decide)) (.slice A k c)
  have hc1 := own_setCell hc (p := ⟨b, 1, none⟩) (own_ne hc h.hb (by decide)) (.slice A k c)
  exact BT.far_ (m := ⟨L, O', far⟩) ⟨hb1, hn1, by rw [hk]; exact hc1, fun j hj => h.ne j (by cases A <;> exact hj), h.len, h.nd, fun j y p hy hp => blk_far (h.nodes j y p hy hp) (blk_ne (h.nodes j y p hy hp) h.hb (by decide)) _, fun j hj => h.op j (List.mem_append_left _ hj), h.fb, h.fN, fun j hj => h.fO j (by cases A <;> exact hj), h.fps⟩ x

set_option maxRecDepth 100000 in
set_option maxHeartbeats 4000000 in
theorem end_c (b : Nat) (ps : List Nat) (m : Bl) (vN vO : Value) (e : Ev) (w : World) (fp : Nat → Prop) (h0 : BT w fp b ps m vN vO) (O' : List Nat) (i : Nat) (hO : m.O = O' ++ [i]) (hlO : m.O.length ≤ 1000000) :
    Calls Try.prog 26 #[pv b, .agg (evc e)] w fun en w' => OpP w fp b (endB m e) en w' := by
  have h := h0.bound
  obtain ⟨A2, c2, hvO, hc2, hcells⟩ := own_cells h.rO
  obtain ⟨k, hk⟩ : ∃ k, O'.length = k := ⟨_, rfl⟩
  have hnO : m.O.length = k + 1 := by rw [hO]; simp [hk]
  rw [hnO] at hvO hc2
  have hi : i < m.L.length := h.op i (by rw [hO]; simp)
  obtain ⟨x, hx⟩ : ∃ x, ps[i]? = some x := ⟨_, List.getElem?_eq_getElem (by rw [h.len]; exact hi)⟩
  obtain ⟨y, hy⟩ : ∃ y, m.L[i]? = some y := ⟨_, List.getElem?_eq_getElem hi⟩
  obtain ⟨g, hA2, hgo, ⟨cur, hcur⟩, hcx⟩ := hcells k (pv x) (by rw [hO, List.map_append, List.getElem?_append_right (by simp [hk])]; simp [hk, hx])
  subst hA2
  obtain ⟨W, hW⟩ : ∃ W, w.alloc (.cells (evc e) 41) = W := ⟨_, rfl⟩
  have hbw : Below w.heap.size w W := by rw [← hW]; exact below_alloc (Below.refl _ w) _
  have hsz : W.heap.size = w.heap.size + 1 := by rw [← hW]; simp
  have rE : W.heap[w.heap.size]? = some (.cells (evc e) 41 (0, 0)) := by rw [← hW]; exact heap_alloc_new _ _
  have e1 : W.cell? ⟨w.heap.size, 1, none⟩ = some (.int .u8 e.k) := cell_of_row _ _ _ _ _ _ rE
  have e2 : W.cell? ⟨w.heap.size, 2, none⟩ = some (.int .i64 e.a) := cell_of_row _ _ _ _ _ _ rE
  have hw1 := h.below hbw
  have hxb := hw1.nodes i y x hy hx
  have hcxW : W.cell? (Addr.add ⟨g, 0, none⟩ k) = some (pv x) := by rw [add_plain]; exact pw_cell_below hbw hcx
  have hcxW' : W.cell? ⟨g, k, none⟩ = some (pv x) := pw_cell_below hbw hcx
  have g1 := hw1.cO
  rw [hvO] at g1
  have c2x : W.cell? ⟨x, 2, none⟩ = some (.int .i64 y.t) := cell_of_row _ _ _ _ _ _ hxb
  have c0x : W.cell? ⟨x, 0, none⟩ = some (.int .u8 y.k) := cell_of_row _ _ _ _ _ _ hxb
  have fx := fun j => blk_frozen hxb j
  have fx2 := fx 2
  have hwk : IntKind.i64.wrap ((k : Int) + 1 - 1) = (k : Int) := by
    rw [show (k : Int) + 1 - 1 = (k : Int) from by omega]
    exact IntWalk.i64_in _ (by omega)
  have p0 : (0 : Int) ≤ (k : Int) := by omega
  have p1 : (k : Int) < ((k + 1 : Nat) : Int) := by omega
  -- behind the first store
  have n1 := hw1.node_ (j := 2) (u := .int .i64 e.a) (y' := ⟨y.k, y.f, e.a, y.d⟩) hx hy rfl
  have hE1 : (W.setCell ⟨x, 2, none⟩ (.int .i64 e.a)).heap[w.heap.size]? = _ := blk_far rE (blk_ne rE hxb (by decide)) _
  have e1' : (W.setCell ⟨x, 2, none⟩ (.int .i64 e.a)).cell? ⟨w.heap.size, 1, none⟩ = some (.int .u8 e.k) := cell_of_row _ _ _ _ _ _ hE1
  have hfr1 : Fr fp w (W.setCell ⟨x, 2, none⟩ (.int .i64 e.a)) := (Fr.of_below hbw).set ⟨x, 2, none⟩ (.inl (h.fps x (List.mem_of_getElem? hx)).1) _
  have hlast : m.O.getLastD 0 = i := by rw [hO]; simp
  have hdl : m.O.dropLast = O' := by rw [hO]; simp
  have hmod : ∀ z : Nd, z = shutN e y → m.L.modify (m.O.getLastD 0) (shutN e) = m.L.set i z := fun z hz => by
    rw [hlast, hz]
    apply List.ext_getElem?
    intro j
    rw [List.getElem?_modify, List.getElem?_set]
    by_cases hij : i = j
    · subst hij
      obtain ⟨_, hyi⟩ := List.getElem?_eq_some_iff.1 hy
      simp [hi, hyi]
    · simp [hij]
  have hfpm : ∀ j, (fp j ∧ j < w.heap.size) → more fp w.heap.size j := fun j hj => .inl hj.1
  by_cases hk0 : e.k = 0
  · obtain ⟨wX, hwX⟩ : ∃ X, W.setCell ⟨x, 2, none⟩ (.int .i64 e.a) = X := ⟨_, rfl⟩
    rw [hwX] at n1 hE1 hfr1 e1'
    have e2X : wX.cell? ⟨w.heap.size, 2, none⟩ = some (.int .i64 e.a) := cell_of_row _ _ _ _ _ _ hE1
    have bk : (e.k == 0) = true := beq_iff_eq.mpr hk0
    have hbX := n1.hb
    have gX := n1.cO
    rw [hvO] at hbX gX n1
    simp only [hO] at n1
    have HBX := Aside0.mk hbX
    have HEX := Aside0.mk hE1
    have HFIN : Aside0 (OpP w fp b (endB m e) (.returned (.tuple #[])) ((wX.setCell ⟨b, 1, none⟩ (.slice (some ⟨g, 0, none⟩) k c2)).setCell ⟨b, 2, none⟩ (.int .i64 e.a))) := ⟨⟨⟨_, rfl⟩, ⟨ps, vN, .slice (some ⟨g, 0, none⟩) k c2, by
      have hc := (n1.cut_ hk e.a).mono hfpm
      unfold endB
      rw [hdl, hmod ⟨y.k, y.f, e.a, y.d⟩ (by simp [shutN, hk0])]
      exact hc⟩, (hfr1.set ⟨b, 1, none⟩ (.inl h0.fb) _).set ⟨b, 2, none⟩ (.inl h0.fb) _⟩⟩
    have fb1 := blk_frozen hbX 1
    clear h h0 hbw rE hw1 n1 hE1 hfr1 hlast hdl hmod hfpm hcells hcx hgo hcur hbX hk hx hy hi hO fx hvO hxb
    go_enter Try.func26, Try.ntmps26
    go_upto_region 6 with (fail)
    refine wp_region_noPanic ?_
    refine wp_region_held_drew (S := (fun w' => w'.cell? ⟨w.heap.size, 2, none⟩ = some (.int .i64 e.a))) (by kernel_rfl) ?_ (fun hHeld => ?_)
    · exact e2X
    refine wpAnyH_take (i := 0) (v := ?_) rfl (by kernel_rfl) (by kernel_rfl) (by kernel_rfl) (fun _ _ _ h => h) (Or.inl ⟨by rfl, ?_⟩) (by assumption) ?_
    rotate_left
    · intro w hSw
      go_simp
      try with_reducible rfl
    simp only [Act.put, List.getElem_toArray, List.getElem_cons_zero, List.getElem_cons_succ, List.setIfInBounds_toArray, List.set_cons_zero, List.set_cons_succ]
    refine wpAnyH_take (i := 1) (v := ?_) rfl (by kernel_rfl) (by kernel_rfl) (by kernel_rfl) (fun _ _ _ h => h) (Or.inl ⟨by rfl, ?_⟩) (by assumption) ?_
    rotate_left
    · intro w hSw
      go_simp
      try with_reducible rfl
    simp only [Act.put, List.getElem_toArray, List.getElem_cons_zero, List.getElem_cons_succ, List.setIfInBounds_toArray, List.set_cons_zero, List.set_cons_succ]
    refine wpAnyH_take (i := 2) (v := ?_) rfl (by kernel_rfl) (by kernel_rfl) (by kernel_rfl) (fun _ _ _ h => h) (Or.inl ⟨by rfl, ?_⟩) (by assumption) ?_
    rotate_left
    · intro w hSw
      go_simp
      try with_reducible rfl
    simp only [Act.put, List.getElem_toArray, List.getElem_cons_zero, List.getElem_cons_succ, List.setIfInBounds_toArray, List.set_cons_zero, List.set_cons_succ]
    refine wpAnyH_take (i := 3) (v := ?_) rfl (by kernel_rfl) (by kernel_rfl) (by kernel_rfl) (fun _ _ _ h => h) (Or.inl ⟨by rfl, ?_⟩) (by assumption) ?_
    rotate_left
    · intro w hSw
      go_simp
      try with_reducible rfl
    simp only [Act.put, List.getElem_toArray, List.getElem_cons_zero, List.getElem_cons_succ, List.setIfInBounds_toArray, List.set_cons_zero, List.set_cons_succ]
    refine wpAnyH_take (i := 4) (v := ?_) rfl (by kernel_rfl) (by kernel_rfl) (by kernel_rfl) (fun _ _ _ h => h) (Or.inl ⟨by rfl, ?_⟩) (by assumption) ?_
    rotate_left
    · intro w hSw
      go_simp
      try with_reducible rfl
    simp only [Act.put, List.getElem_toArray, List.getElem_cons_zero, List.getElem_cons_succ, List.setIfInBounds_toArray, List.set_cons_zero, List.set_cons_succ]
    refine wpAnyH_take (i := 6) (v := ?_) rfl (by kernel_rfl) (by kernel_rfl) (by kernel_rfl) (fun _ _ _ h => h) (Or.inl ⟨by rfl, ?_⟩) (by assumption) ?_
    rotate_left
    · intro w hSw
      go_simp
      try with_reducible rfl
    simp only [Act.put, List.getElem_toArray, List.getElem_cons_zero, List.getElem_cons_succ, List.setIfInBounds_toArray, List.set_cons_zero, List.set_cons_succ]
    refine wpAnyH_take (i := 8) (v := ?_) rfl (by kernel_rfl) (by kernel_rfl) (by kernel_rfl) (fun _ _ _ h => h) (Or.inl ⟨by rfl, ?_⟩) (by assumption) ?_
    rotate_left
    · intro w hSw
      go_simp
      try with_reducible rfl
    simp only [Act.put, List.getElem_toArray, List.getElem_cons_zero, List.getElem_cons_succ, List.setIfInBounds_toArray, List.set_cons_zero, List.set_cons_succ]
    refine wpAnyH_take (i := 9) (v := ?_) rfl (by kernel_rfl) (by kernel_rfl) (by kernel_rfl) (fun _ _ _ h => h) (Or.inl ⟨by rfl, ?_⟩) (by assumption) ?_
    rotate_left
    · intro w hSw
      go_simp
      try with_reducible rfl
    simp only [Act.put, List.getElem_toArray, List.getElem_cons_zero, List.getElem_cons_succ, List.setIfInBounds_toArray, List.set_cons_zero, List.set_cons_succ]
    refine wpAnyH_ready (rs := [5]) (by kernel_rfl) (by simp) ?_
    refine AllReadyH.cons rfl (fun K hK => ?_) AllReadyH.nil
    go_simp
    refine hK.out _ _ e2X (fun hHeld2 => ?_)
    clear hK K hHeld
    have hHeld := hHeld2
    clear hHeld2
    try simp only [Act.put, List.getElem_toArray, List.getElem_cons_zero, List.getElem_cons_succ, List.setIfInBounds_toArray, List.set_cons_zero, List.set_cons_succ]
    refine wpAnyH_take (i := 7) (v := .slice (some ⟨g, 0, none⟩) k c2) rfl (by kernel_rfl) (by kernel_rfl) (by kernel_rfl) (fun _ _ _ h => h) (Or.inl ⟨by rfl, fun w _ => exec_cutH Try.underlying55 info54s (some ⟨g, 0, none⟩) (k + 1) c2 k (by omega) _ _ _ _ (by rfl) (by rfl) (by rfl) w⟩) (by assumption) ?_
    simp only [Act.put, List.getElem_toArray, List.getElem_cons_zero, List.getElem_cons_succ, List.setIfInBounds_toArray, List.set_cons_zero, List.set_cons_succ]
    refine wpAnyH_take (i := 10) (v := ?_) rfl (by kernel_rfl) (by kernel_rfl) (by kernel_rfl) (fun _ _ _ h => h) (Or.inl ⟨by rfl, ?_⟩) (by assumption) ?_
    rotate_left
    · intro w hSw
      go_simp
      try with_reducible rfl
    simp only [Act.put, List.getElem_toArray, List.getElem_cons_zero, List.getElem_cons_succ, List.setIfInBounds_toArray, List.set_cons_zero, List.set_cons_succ]
    refine wpAnyH_take (i := 11) (v := ?_) rfl (by kernel_rfl) (by kernel_rfl) (by kernel_rfl) (fun _ _ _ h => h) (Or.inl ⟨by rfl, ?_⟩) (by assumption) ?_
    rotate_left
    · intro w hSw
      go_simp
      try with_reducible rfl
    simp only [Act.put, List.getElem_toArray, List.getElem_cons_zero, List.getElem_cons_succ, List.setIfInBounds_toArray, List.set_cons_zero, List.set_cons_succ]
    refine wpAnyH_ready (rs := [12]) (by kernel_rfl) (by simp) ?_
    refine AllReadyH.cons rfl (fun K hK => ?_) AllReadyH.nil
    go_simp
    have hb5 := blk_set HBX.out 1 (.slice (some ⟨g, 0, none⟩) k c2)
    have hE5 : (wX.setCell ⟨b, 1, none⟩ (.slice (some ⟨g, 0, none⟩) k c2)).heap[w.heap.size]? = _ := blk_far HEX.out (blk_ne HEX.out HBX.out (by decide)) _
    have e25 : (wX.setCell ⟨b, 1, none⟩ (.slice (some ⟨g, 0, none⟩) k c2)).cell? ⟨w.heap.size, 2, none⟩ = some (.int .i64 e.a) := cell_of_row _ _ _ _ _ _ hE5
    have g25 : (wX.setCell ⟨b, 1, none⟩ (.slice (some ⟨g, 0, none⟩) k c2)).cell? ⟨b, 2, none⟩ = some (.int .i64 m.far) := cell_of_row _ _ _ _ _ _ hb5
    have f25 := blk_frozen hb5 2
    clear hb5 hE5
    refine hK.out _ _ e25 (fun hHeld2 => ?_)
    clear hK K hHeld
    have hHeld := hHeld2
    clear hHeld2
    try simp only [Act.put, List.getElem_toArray, List.getElem_cons_zero, List.getElem_cons_succ, List.setIfInBounds_toArray, List.set_cons_zero, List.set_cons_succ]
    refine wpAnyH_take (i := 13) (v := ?_) rfl (by kernel_rfl) (by kernel_rfl) (by kernel_rfl) (fun _ _ _ h => h) (Or.inl ⟨by rfl, ?_⟩) (by assumption) ?_
    rotate_left
    · intro w hSw
      go_simp
      try with_reducible rfl
    simp only [Act.put, List.getElem_toArray, List.getElem_cons_zero, List.getElem_cons_succ, List.setIfInBounds_toArray, List.set_cons_zero, List.set_cons_succ]
    refine wpAnyH_take (i := 14) (v := ?_) rfl (by kernel_rfl) (by kernel_rfl) (by kernel_rfl) (fun _ _ _ h => h) (Or.inl ⟨by rfl, ?_⟩) (by assumption) ?_
    rotate_left
    · intro w hSw
      go_simp
      try with_reducible rfl
    simp only [Act.put, List.getElem_toArray, List.getElem_cons_zero, List.getElem_cons_succ, List.setIfInBounds_toArray, List.set_cons_zero, List.set_cons_succ]
    refine wpAnyH_ready (rs := [15]) (by kernel_rfl) (by simp) ?_
    refine AllReadyH.cons rfl (fun K hK => ?_) AllReadyH.nil
    go_simp
    have hb6 := blk_set (blk_set HBX.out 1 (.slice (some ⟨g, 0, none⟩) k c2)) 2 (.int .i64 e.a)
    have hE6 : ((wX.setCell ⟨b, 1, none⟩ (.slice (some ⟨g, 0, none⟩) k c2)).setCell ⟨b, 2, none⟩ (.int .i64 e.a)).heap[w.heap.size]? = _ := blk_far (blk_far HEX.out (blk_ne HEX.out HBX.out (by decide)) _) (blk_ne HEX.out HBX.out (by decide)) _
    refine hK.out _ _ (cell_of_row _ _ _ _ _ _ hE6) (fun hHeld2 => ?_)
    clear hK K hHeld hHeld2 hb6 hE6
    try simp only [Act.put, List.getElem_toArray, List.getElem_cons_zero, List.getElem_cons_succ, List.setIfInBounds_toArray, List.set_cons_zero, List.set_cons_succ]
    refine wpAnyH_done (by kernel_rfl) ?_ _
    refine NoPanic.normal ?_
    go_end0
    exact HFIN.out.drew_
  · obtain ⟨wX, hwX⟩ : ∃ X, (W.setCell ⟨x, 2, none⟩ (.int .i64 e.a)).setCell ⟨x, 0, none⟩ (.int .u8 e.k) = X := ⟨_, rfl⟩
    have hy2 : (m.L.set i ⟨y.k, y.f, e.a, y.d⟩)[i]? = some ⟨y.k, y.f, e.a, y.d⟩ := by simp [hi]
    have hxb2 := n1.nodes i _ x hy2 hx
    have fx0 := blk_frozen hxb2 0
    have c0x2 : (W.setCell ⟨x, 2, none⟩ (.int .i64 e.a)).cell? ⟨x, 0, none⟩ = some (.int .u8 y.k) := cell_of_row _ _ _ _ _ _ hxb2
    have n1 := n1.node_ (j := 0) (u := .int .u8 e.k) (y' := ⟨e.k, y.f, e.a, y.d⟩) hx hy2 rfl
    have hE1 := blk_far hE1 (p := ⟨x, 0, none⟩) (blk_ne hE1 hxb2 (by decide)) (.int .u8 e.k)
    have hfr1 := hfr1.set ⟨x, 0, none⟩ (.inl (h.fps x (List.mem_of_getElem? hx)).1) (.int .u8 e.k)
    rw [List.set_set] at n1
    rw [hwX] at n1 hE1 hfr1
    have e2X : wX.cell? ⟨w.heap.size, 2, none⟩ = some (.int .i64 e.a) := cell_of_row _ _ _ _ _ _ hE1
    have bk : (e.k == 0) = false := beq_eq_false_iff_ne.mpr hk0
    have hbX := n1.hb
    have gX := n1.cO
    rw [hvO] at hbX gX n1
    simp only [hO] at n1
    have HBX := Aside0.mk hbX
    have HEX := Aside0.mk hE1
    have HFIN : Aside0 (OpP w fp b (endB m e) (.returned (.tuple #[])) ((wX.setCell ⟨b, 1, none⟩ (.slice (some ⟨g, 0, none⟩) k c2)).setCell ⟨b, 2, none⟩ (.int .i64 e.a))) := ⟨⟨⟨_, rfl⟩, ⟨ps, vN, .slice (some ⟨g, 0, none⟩) k c2, by
      have hc := (n1.cut_ hk e.a).mono hfpm
      unfold endB
      rw [hdl, hmod ⟨e.k, y.f, e.a, y.d⟩ (by simp [shutN, hk0])]
      exact hc⟩, (hfr1.set ⟨b, 1, none⟩ (.inl h0.fb) _).set ⟨b, 2, none⟩ (.inl h0.fb) _⟩⟩
    have fb1 := blk_frozen hbX 1
    clear hy2 hxb2 h h0 hbw rE hw1 n1 hE1 hfr1 hlast hdl hmod hfpm hcells hcx hgo hcur hbX hk hx hy hi hO fx hvO hxb
    go_enter Try.func26, Try.ntmps26
    go_upto_region 6 with (fail)
    refine wp_region_noPanic ?_
    refine wp_region_held_drew (S := (fun w' => w'.cell? ⟨w.heap.size, 2, none⟩ = some (.int .i64 e.a))) (by kernel_rfl) ?_ (fun hHeld => ?_)
    · exact e2X
    refine wpAnyH_take (i := 0) (v := ?_) rfl (by kernel_rfl) (by kernel_rfl) (by kernel_rfl) (fun _ _ _ h => h) (Or.inl ⟨by rfl, ?_⟩) (by assumption) ?_
    rotate_left
    · intro w hSw
      go_simp
      try with_reducible rfl
    simp only [Act.put, List.getElem_toArray, List.getElem_cons_zero, List.getElem_cons_succ, List.setIfInBounds_toArray, List.set_cons_zero, List.set_cons_succ]
    refine wpAnyH_take (i := 1) (v := ?_) rfl (by kernel_rfl) (by kernel_rfl) (by kernel_rfl) (fun _ _ _ h => h) (Or.inl ⟨by rfl, ?_⟩) (by assumption) ?_
    rotate_left
    · intro w hSw
      go_simp
      try with_reducible rfl
    simp only [Act.put, List.getElem_toArray, List.getElem_cons_zero, List.getElem_cons_succ, List.setIfInBounds_toArray, List.set_cons_zero, List.set_cons_succ]
    refine wpAnyH_take (i := 2) (v := ?_) rfl (by kernel_rfl) (by kernel_rfl) (by kernel_rfl) (fun _ _ _ h => h) (Or.inl ⟨by rfl, ?_⟩) (by assumption) ?_
    rotate_left
    · intro w hSw
      go_simp
      try with_reducible rfl
    simp only [Act.put, List.getElem_toArray, List.getElem_cons_zero, List.getElem_cons_succ, List.setIfInBounds_toArray, List.set_cons_zero, List.set_cons_succ]
    refine wpAnyH_take (i := 3) (v := ?_) rfl (by kernel_rfl) (by kernel_rfl) (by kernel_rfl) (fun _ _ _ h => h) (Or.inl ⟨by rfl, ?_⟩) (by assumption) ?_
    rotate_left
    · intro w hSw
      go_simp
      try with_reducible rfl
    simp only [Act.put, List.getElem_toArray, List.getElem_cons_zero, List.getElem_cons_succ, List.setIfInBounds_toArray, List.set_cons_zero, List.set_cons_succ]
    refine wpAnyH_take (i := 4) (v := ?_) rfl (by kernel_rfl) (by kernel_rfl) (by kernel_rfl) (fun _ _ _ h => h) (Or.inl ⟨by rfl, ?_⟩) (by assumption) ?_
    rotate_left
    · intro w hSw
      go_simp
      try with_reducible rfl
    simp only [Act.put, List.getElem_toArray, List.getElem_cons_zero, List.getElem_cons_succ, List.setIfInBounds_toArray, List.set_cons_zero, List.set_cons_succ]
    refine wpAnyH_take (i := 6) (v := ?_) rfl (by kernel_rfl) (by kernel_rfl) (by kernel_rfl) (fun _ _ _ h => h) (Or.inl ⟨by rfl, ?_⟩) (by assumption) ?_
    rotate_left
    · intro w hSw
      go_simp
      try with_reducible rfl
    simp only [Act.put, List.getElem_toArray, List.getElem_cons_zero, List.getElem_cons_succ, List.setIfInBounds_toArray, List.set_cons_zero, List.set_cons_succ]
    refine wpAnyH_take (i := 8) (v := ?_) rfl (by kernel_rfl) (by kernel_rfl) (by kernel_rfl) (fun _ _ _ h => h) (Or.inl ⟨by rfl, ?_⟩) (by assumption) ?_
    rotate_left
    · intro w hSw
      go_simp
      try with_reducible rfl
    simp only [Act.put, List.getElem_toArray, List.getElem_cons_zero, List.getElem_cons_succ, List.setIfInBounds_toArray, List.set_cons_zero, List.set_cons_succ]
    refine wpAnyH_take (i := 9) (v := ?_) rfl (by kernel_rfl) (by kernel_rfl) (by kernel_rfl) (fun _ _ _ h => h) (Or.inl ⟨by rfl, ?_⟩) (by assumption) ?_
    rotate_left
    · intro w hSw
      go_simp
      try with_reducible rfl
    simp only [Act.put, List.getElem_toArray, List.getElem_cons_zero, List.getElem_cons_succ, List.setIfInBounds_toArray, List.set_cons_zero, List.set_cons_succ]
    refine wpAnyH_ready (rs := [5]) (by kernel_rfl) (by simp) ?_
    refine AllReadyH.cons rfl (fun K hK => ?_) AllReadyH.nil
    go_simp
    refine hK.out _ _ e2X (fun hHeld2 => ?_)
    clear hK K hHeld
    have hHeld := hHeld2
    clear hHeld2
    try simp only [Act.put, List.getElem_toArray, List.getElem_cons_zero, List.getElem_cons_succ, List.setIfInBounds_toArray, List.set_cons_zero, List.set_cons_succ]
    refine wpAnyH_take (i := 7) (v := .slice (some ⟨g, 0, none⟩) k c2) rfl (by kernel_rfl) (by kernel_rfl) (by kernel_rfl) (fun _ _ _ h => h) (Or.inl ⟨by rfl, fun w _ => exec_cutH Try.underlying55 info54s (some ⟨g, 0, none⟩) (k + 1) c2 k (by omega) _ _ _ _ (by rfl) (by rfl) (by rfl) w⟩) (by assumption) ?_
    simp only [Act.put, List.getElem_toArray, List.getElem_cons_zero, List.getElem_cons_succ, List.setIfInBounds_toArray, List.set_cons_zero, List.set_cons_succ]
    refine wpAnyH_take (i := 10) (v := ?_) rfl (by kernel_rfl) (by kernel_rfl) (by kernel_rfl) (fun _ _ _ h => h) (Or.inl ⟨by rfl, ?_⟩) (by assumption) ?_
    rotate_left
    · intro w hSw
      go_simp
      try with_reducible rfl
    simp only [Act.put, List.getElem_toArray, List.getElem_cons_zero, List.getElem_cons_succ, List.setIfInBounds_toArray, List.set_cons_zero, List.set_cons_succ]
    refine wpAnyH_take (i := 11) (v := ?_) rfl (by kernel_rfl) (by kernel_rfl) (by kernel_rfl) (fun _ _ _ h => h) (Or.inl ⟨by rfl, ?_⟩) (by assumption) ?_
    rotate_left
    · intro w hSw
      go_simp
      try with_reducible rfl
    simp only [Act.put, List.getElem_toArray, List.getElem_cons_zero, List.getElem_cons_succ, List.setIfInBounds_toArray, List.set_cons_zero, List.set_cons_succ]
    refine wpAnyH_ready (rs := [12]) (by kernel_rfl) (by simp) ?_
    refine AllReadyH.cons rfl (fun K hK => ?_) AllReadyH.nil
    go_simp
    have hb5 := blk_set HBX.out 1 (.slice (some ⟨g, 0, none⟩) k c2)
    have hE5 : (wX.setCell ⟨b, 1, none⟩ (.slice (some ⟨g, 0, none⟩) k c2)).heap[w.heap.size]? = _ := blk_far HEX.out (blk_ne HEX.out HBX.out (by decide)) _
    have e25 : (wX.setCell ⟨b, 1, none⟩ (.slice (some ⟨g, 0, none⟩) k c2)).cell? ⟨w.heap.size, 2, none⟩ = some (.int .i64 e.a) := cell_of_row _ _ _ _ _ _ hE5
    have g25 : (wX.setCell ⟨b, 1, none⟩ (.slice (some ⟨g, 0, none⟩) k c2)).cell? ⟨b, 2, none⟩ = some (.int .i64 m.far) := cell_of_row _ _ _ _ _ _ hb5
    have f25 := blk_frozen hb5 2
    clear hb5 hE5
    refine hK.out _ _ e25 (fun hHeld2 => ?_)
    clear hK K hHeld
    have hHeld := hHeld2
    clear hHeld2
    try simp only [Act.put, List.getElem_toArray, List.getElem_cons_zero, List.getElem_cons_succ, List.setIfInBounds_toArray, List.set_cons_zero, List.set_cons_succ]
    refine wpAnyH_take (i := 13) (v := ?_) rfl (by kernel_rfl) (by kernel_rfl) (by kernel_rfl) (fun _ _ _ h => h) (Or.inl ⟨by rfl, ?_⟩) (by assumption) ?_
    rotate_left
    · intro w hSw
      go_simp
      try with_reducible rfl
    simp only [Act.put, List.getElem_toArray, List.getElem_cons_zero, List.getElem_cons_succ, List.setIfInBounds_toArray, List.set_cons_zero, List.set_cons_succ]
    refine wpAnyH_take (i := 14) (v := ?_) rfl (by kernel_rfl) (by kernel_rfl) (by kernel_rfl) (fun _ _ _ h => h) (Or.inl ⟨by rfl, ?_⟩) (by assumption) ?_
    rotate_left
    · intro w hSw
      go_simp
      try with_reducible rfl
    simp only [Act.put, List.getElem_toArray, List.getElem_cons_zero, List.getElem_cons_succ, List.setIfInBounds_toArray, List.set_cons_zero, List.set_cons_succ]
    refine wpAnyH_ready (rs := [15]) (by kernel_rfl) (by simp) ?_
    refine AllReadyH.cons rfl (fun K hK => ?_) AllReadyH.nil
    go_simp
    have hb6 := blk_set (blk_set HBX.out 1 (.slice (some ⟨g, 0, none⟩) k c2)) 2 (.int .i64 e.a)
    have hE6 : ((wX.setCell ⟨b, 1, none⟩ (.slice (some ⟨g, 0, none⟩) k c2)).setCell ⟨b, 2, none⟩ (.int .i64 e.a)).heap[w.heap.size]? = _ := blk_far (blk_far HEX.out (blk_ne HEX.out HBX.out (by decide)) _) (blk_ne HEX.out HBX.out (by decide)) _
    refine hK.out _ _ (cell_of_row _ _ _ _ _ _ hE6) (fun hHeld2 => ?_)
    clear hK K hHeld hHeld2 hb6 hE6
    try simp only [Act.put, List.getElem_toArray, List.getElem_cons_zero, List.getElem_cons_succ, List.setIfInBounds_toArray, List.set_cons_zero, List.set_cons_succ]
    refine wpAnyH_done (by kernel_rfl) ?_ _
    refine NoPanic.normal ?_
    go_end0
    exact HFIN.out.drew_

end Go.Proofs.Ytfaibpdoalbkpaa.Bu
