/- The document's table of states: a row; Find, State. -/
import Derived.Test.YtbmjeopnahmbgaaSa
namespace Go.Proofs.Ytbmjeopnahmbgaa.In
open Go.RowKit Go.Proofs.YtbmjeopnahmbgaaW.PrintWords Go.Proofs.YtbmjeopnahmbgaaW.PrintLast Go.Proofs.YtbmjeopnahmbgaaW.PrintMore
open Go.WideShapes
set_option linter.unusedVariables false

/-- The document's table behind p. -/
structure RT (w : World) (B : Nat) (ok : Nat → Prop) (p : Nat) (L : List (Array Value)) : Prop where
  mk ::
  out : ∃ v, w.heap[p]? = some (.cells #[v] 29 (0, 0)) ∧ ok p ∧ B ≤ p ∧ kS.R 37 w B ok v L
theorem RT.move {w w' : World} {B : Nat} {ok : Nat → Prop} {p : Nat} {L : List (Array Value)} (h : RT w B ok p L) (hm : ∀ k, ok k → k < w.heap.size → w'.heap[k]? = w.heap[k]?) : RT w' B ok p L := by
  obtain ⟨v, h1, h2, h3, h4⟩ := h.out
  exact ⟨v, (hm p h2 (blk_lt h1)).trans h1, h2, h3, Kd.R_step h4 hm⟩
theorem RT.below {w w' : World} {B : Nat} {ok : Nat → Prop} {p : Nat} {L : List (Array Value)} (h : RT w B ok p L) (hb : Below w.heap.size w w') : RT w' B ok p L := h.move fun k _ hk => hb.block k hk
theorem RT.mono {w : World} {B : Nat} {ok ok' : Nat → Prop} {p : Nat} {L : List (Array Value)} (h : RT w B ok p L) (hm : ∀ k, ok k → ok' k) : RT w B ok' p L := by
  obtain ⟨v, h1, h2, h3, h4⟩ := h.out
  exact ⟨v, h1, hm _ h2, h3, Kd.R_mono h4 hm⟩
theorem RT.bound {w : World} {B : Nat} {ok : Nat → Prop} {p : Nat} {L : List (Array Value)} (h : RT w B ok p L) : RT w B (fun k => ok k ∧ k < w.heap.size) p L := by
  obtain ⟨v, h1, h2, h3, h4⟩ := h.out
  exact ⟨v, h1, ⟨h2, blk_lt h1⟩, h3, Kd.R_mono (Kd.R_bound h4) (fun k hk => ⟨hk.1, hk.2.2.1⟩)⟩
theorem RT.st {w : World} {B : Nat} {ok : Nat → Prop} {p : Nat} {L : List (Array Value)} (h : RT w B ok p L) : ∀ x ∈ L, IsSt x := by
  obtain ⟨v, _, _, _, _, inner, _, hr⟩ := h.out
  intro x hx
  obtain ⟨j, hj⟩ := List.mem_iff_getElem?.1 hx
  exact (hr.2 j x hj).1
theorem RT.open {w : World} {B : Nat} {ok : Nat → Prop} {p : Nat} {L : List (Array Value)} (h : RT w B ok p L) : ∃ A c, w.heap[p]? = some (.cells #[.slice A L.length c] 29 (0, 0)) ∧ w.cell? ⟨p, 0, none⟩ = some (.slice A L.length c) ∧ (∀ j, w.frozen? ⟨p, j, none⟩ = false) ∧ L.length ≤ c ∧
    kS.R 37 w B ok (.slice A L.length c) L ∧ ok p ∧ B ≤ p := by
  obtain ⟨v, h1, h2, h3, h4⟩ := h.out
  obtain ⟨A, c, rfl, hl, hC⟩ := Kd.R_reads h4
  exact ⟨A, c, h1, cell_of_row _ _ _ _ _ _ h1, fun j => blk_frozen h1 j, hl, h4, h2, h3⟩
theorem FindR.one {L : List (Array Value)} {x : Array Value} {i i' : Int} {b b' : Bool} (hn : L.Nodup) (h : FindR L x i b) (h' : FindR L x i' b') : i = i' ∧ b = b' := by
  rcases h with ⟨rfl, k, rfl, hk⟩ | ⟨rfl, rfl, hx⟩ <;> rcases h' with ⟨rfl, k', rfl, hk'⟩ | ⟨rfl, rfl, hx'⟩
  · have := (List.getElem?_inj (List.getElem?_eq_some_iff.1 hk).1 hn).1 (hk.trans hk'.symm)
    exact ⟨by rw [this], rfl⟩
  · exact absurd (List.mem_of_getElem? hk) hx'
  · exact absurd (List.mem_of_getElem? hk') hx
  · exact ⟨rfl, rfl⟩

set_option maxRecDepth 100000 in
set_option maxHeartbeats 1000000 in
theorem rstate_c (p : Nat) (L : List (Array Value)) (id : Int) (hl : L.length ≤ 1000) (w : World) (B : Nat) (ok : Nat → Prop) (h : RT w B ok p L) : Calls Try.prog 13 #[.pointer (some ⟨p, 0, none⟩), .int .i64 id] w fun e w' => StatePost L id e ∧ Below w.heap.size w w' := by
  obtain ⟨A, c, h1, c0, hf, hc, hR, _⟩ := h.open
  have hp := blk_lt h1
  have H := Aside0.mk h
  have HR := Aside0.mk hR
  have HZ : Aside0 ((w.alloc (.cells zS 37)).heap[w.heap.size]? = some (.cells zS 37 (0, 0))) := ⟨heap_alloc_new _ _⟩
  have hbel : Aside0 (Below w.heap.size w (w.alloc (.cells zS 37))) := ⟨below_alloc (Below.refl _ w) _⟩
  clear h1 h hR
  go_enter Try.func13, Try.ntmps13
  by_cases h0 : id < 0
  · have b0 : decide (id < 0) = true := decide_eq_true h0
    have hfin : Aside0 (StatePost L id (.returned (.tuple #[.agg zS, .int .i64 5]))) := ⟨⟨zS, 5, rfl, .inr ⟨by omega, rfl, rfl⟩⟩⟩
    clear h0
    go_wp2_with (first
      | (refine wpList_runV (by rfl) _ (exec_allocS _ _ (by rfl) _) ?_)
      | (refine wpList_runV (by rfl) _ (exec_build0 _ _ (by rfl) _) ?_)
      | (refine wpList_store_row (by rfl) 37 _ _ (by rfl) w.heap.size zS (by rfl) (by rfl) 37 zS HZ.out (by rw [infoS, sizeZ]) rfl (oneAll isSt_z) ?_))
    refine bodyPost_ret (results_cell_tmp rfl _ _ _ w.heap.size 37 zS _ rfl rfl (setRow_heap _ _ _ _ _ _ HZ.out) Try.underlying37 (by rw [infoS, sizeZ])) rfl ?_
    exact ⟨hfin.out, below_setRowS hbel.out (Nat.le_refl _) _⟩
  · by_cases h1 : (L.length : Int) ≤ id
    · have b0 : decide (id < 0) = false := decide_eq_false h0
      have b1 : decide ((L.length : Int) ≤ id) = true := decide_eq_true h1
      have hfin : Aside0 (StatePost L id (.returned (.tuple #[.agg zS, .int .i64 5]))) := ⟨⟨zS, 5, rfl, .inr ⟨by omega, rfl, rfl⟩⟩⟩
      clear h0 h1
      go_wp2_with (first
        | (refine wpList_runV (by rfl) _ (exec_allocS _ _ (by rfl) _) ?_)
        | (refine wpList_runV (by rfl) _ (exec_build0 _ _ (by rfl) _) ?_)
        | (refine wpList_store_row (by rfl) 37 _ _ (by rfl) w.heap.size zS (by rfl) (by rfl) 37 zS HZ.out (by rw [infoS, sizeZ]) rfl (oneAll isSt_z) ?_))
      refine bodyPost_ret (results_cell_tmp rfl _ _ _ w.heap.size 37 zS _ rfl rfl (setRow_heap _ _ _ _ _ _ HZ.out) Try.underlying37 (by rw [infoS, sizeZ])) rfl ?_
      exact ⟨hfin.out, below_setRowS hbel.out (Nat.le_refl _) _⟩
    · obtain ⟨y, hy⟩ : ∃ y, L[id.toNat]? = some y := ⟨_, List.getElem?_eq_getElem (by omega)⟩
      have hsy : IsSt y := H.out.st y (List.mem_of_getElem? hy)
      obtain ⟨g, cap, hv, hg0, hg1, _⟩ := Kd.R_form HR.out (by omega)
      injection hv with hv1 hv2 hv3
      subst hv1
      obtain ⟨q, hq1, hq2, hq3, hq4⟩ := Kd.R_elem HR.out #[] id (by omega) (by omega)
      have hq5 : q = y.toList := by
        rw [hq2.2, List.getD_eq_getElem?_getD, hy]
        rfl
      subst hq5
      have hry : Aside0 ((w.alloc (.cells zS 37)).rangeAt g (id.toNat * 82) y.toList) := ⟨World.rangeAt_alloc (fun j v hj => by simpa [kS] using hq3 j v hj) _⟩
      have hfin : Aside0 (StatePost L id (.returned (.tuple #[.agg y, .int .i64 0]))) := ⟨⟨y, 0, rfl, .inl ⟨by omega, by omega, hy, rfl⟩⟩⟩
      have HY := Aside0.mk hsy
      have b0 : decide (id < 0) = false := decide_eq_false h0
      have b1 : decide ((L.length : Int) ≤ id) = false := decide_eq_false h1
      have p0 : 0 ≤ id := by omega
      have p1 : id < (L.length : Int) := by omega
      replace p0 := eq_true p0
      replace p1 := eq_true p1
      clear h0 h1 hy hsy hq1 hq2 hq3 hq4
      go_wp2_with (first
        | (refine wpList_runV (by rfl) _ (exec_allocS _ _ (by rfl) _) ?_)
        | (refine wpList_load_mid (by rfl) 37 _ (by rfl) g (id.toNat * 82) (by rfl) y.toList _ hry.out Try.underlying37 rfl (infoSL HY.out) ?_; rw [Array.toArray_toList])
        | (refine wpList_store_row (by rfl) 37 _ _ (by rfl) w.heap.size y (by rfl) (by rfl) 37 zS HZ.out (by rw [infoS, HY.out.size]) (by rw [sizeZ, HY.out.size]) (oneAll HY.out) ?_))
      refine bodyPost_ret (results_cell_tmp rfl _ _ _ w.heap.size 37 y _ rfl rfl (setRow_heap _ _ _ _ _ _ HZ.out) Try.underlying37 (by rw [infoS, HY.out.size])) rfl ?_
      exact ⟨hfin.out, below_setRowS hbel.out (Nat.le_refl _) _⟩

set_option maxRecDepth 100000 in
set_option maxHeartbeats 2000000 in
theorem rfind_c (p : Nat) (L : List (Array Value)) (x : Array Value) (hx : IsSt x) (hl : L.length ≤ 1000) (w : World) (B : Nat) (ok : Nat → Prop) (h : RT w B ok p L) : Calls Try.prog 11 #[.pointer (some ⟨p, 0, none⟩), .agg x] w fun e w' => Found L x e ∧ Below w.heap.size w w' := by
  obtain ⟨A, c, h1, c0, hf, hc, hR, _⟩ := h.open
  have HX := Aside0.mk hx
  have H := Aside0.mk h
  have HR := Aside0.mk hR
  have hp := blk_lt h1
  obtain ⟨W1, hW1⟩ : ∃ W1, w.alloc (.cells x 37) = W1 := ⟨_, rfl⟩
  have hrx : Aside0 (W1.rangeAt w.heap.size 0 x.toList) := ⟨fun j v hj => by
      rw [Nat.zero_add, cell_of_row _ _ _ _ _ _ (by rw [← hW1]; exact heap_alloc_new w _)]
      simpa using hj⟩
  have hbel : Aside0 (∀ k, Below w.heap.size w (W1.drewN k)) := ⟨fun k => by rw [← hW1]; exact pw_below_drewN (below_alloc (Below.refl _ w) _) k⟩
  have d0 : W1.cell? ⟨p, 0, none⟩ = some (.slice A L.length c) := by rw [← hW1]; exact pw_cell_below (below_alloc (Below.refl _ w) _) c0
  have HW1 := Aside0.mk hW1
  clear h1 hx h hR c0 hf hc
  go_enter Try.func11, Try.ntmps11
  go_upto_block 0 with (fail)
  try rw [HW1.out]
  clear hW1
  go_wp2_with (fail)
  go_loopg [6] L.length (fun gk v6 wr => ∃ (k n : Nat), v6 = .int .i64 (k : Int) ∧ wr = W1.drewN n ∧ Aside0 (k + gk = L.length) ∧ Aside0 (∀ j, j < k → L[j]? ≠ some x))
  case atStart => exact ⟨0, 0, rfl, rfl, ⟨by omega⟩, ⟨fun j hj => absurd hj (by omega)⟩⟩
  case round =>
    obtain ⟨k, n, rfl, rfl, hk, hno⟩ := hrel
    by_cases hkl : k < L.length
    · obtain ⟨gn, rfl⟩ : ∃ gn, gk = gn + 1 := ⟨gk - 1, by have := hk.out; omega⟩
      obtain ⟨y, hy⟩ : ∃ y, L[k]? = some y := ⟨_, List.getElem?_eq_getElem hkl⟩
      have hsy : IsSt y := H.out.st y (List.mem_of_getElem? hy)
      obtain ⟨g, cap, hv, hg0, hg1, _⟩ := Kd.R_form HR.out (by omega)
      injection hv with hv1 hv2 hv3
      subst hv1
      obtain ⟨q, hq1, hq2, hq3, hq4⟩ := Kd.R_elem HR.out #[] (k : Int) (by omega) (by omega)
      have hq5 : q = y.toList := by
        rw [hq2.2, List.getD_eq_getElem?_getD, Int.toNat_natCast, hy]
        rfl
      subst hq5
      have hry : Aside0 (W1.rangeAt g (k * 82) y.toList) := ⟨by rw [← HW1.out]; exact World.rangeAt_alloc (fun j v hj => by simpa [kS] using hq3 j v hj) _⟩
      have HY := Aside0.mk hsy
      have HYL := Aside0.mk hy
      have p0 : (0 : Int) ≤ (k : Int) := by omega
      have p1 : (k : Int) < (L.length : Int) := by omega
      have b1 : decide ((k : Int) < (L.length : Int)) = true := decide_eq_true p1
      clear hy hsy hq1 hq2 hq3 hq4 hg0 hg1 hkl
      go_upto_region 4 with (fail)
      refine wp_region_quiet_lit (by kernel_rfl) (by kernel_rfl) ?_
      iterate 6 (quiet_step (fail))
      refine wpQuiet_step (fun K hK => ?_)
      refine quiet_load 37 _ (by rfl) g (k * 82) (by rfl) y _ (by rintro w' ⟨q, rfl⟩; exact hry.out) Try.underlying37 rfl (infoSL HY.out) (by go_simp) ?_
      refine hK _ ?_
      clear hK K
      refine wpQuiet_step (fun K hK => ?_)
      refine quiet_load 37 _ (by rfl) w.heap.size 0 (by rfl) x _ (by rintro w' ⟨q, rfl⟩; exact hrx.out) Try.underlying37 rfl (infoSL HX.out) (by go_simp) ?_
      refine hK _ ?_
      clear hK K
      refine wpQuiet_step (fun K hK => ?_)
      refine quiet_eqS HY.out HX.out _ _ _ (by rfl) (by rfl) (by rfl) (by go_simp) (fun r hiff => ?_)
      refine hK _ ?_
      clear hK K
      refine wpQuiet_nil ?_
      intro _ hw'
      obtain ⟨nq, hw''⟩ := hw'
      subst hw''
      cases r with
      | true =>
        have hfin : Aside0 (Found L x (.returned (.tuple #[.int .i64 (k : Int), .bool true]))) := ⟨⟨_, _, rfl, .inl ⟨rfl, k, rfl, by rw [← hiff.1 rfl]; exact HYL.out⟩⟩⟩
        clear hiff
        go_wp2_with (fail)
        go_ret2
        exact ⟨hfin.out, by first | exact hbel.out _ | (rw [World.drewN_drewN]; exact hbel.out _)⟩
      | false =>
        have hne : Aside0 (y ≠ x) := ⟨fun e => by have := hiff.2 e; cases this⟩
        clear hiff
        go_wp2_with (fail)
        go_roundg gn
        case measure => exact Nat.lt_succ_self _
        case rel => exact ⟨k + 1, n + nq, by simp, by first | rfl | rw [World.drewN_drewN], ⟨by have := hk.out; omega⟩, ⟨fun j hj => by
          by_cases e : j = k
          · rw [e, HYL.out]; exact fun h => hne.out (Option.some.inj h)
          · exact hno.out j (by omega)⟩⟩
    · have b1 : decide ((k : Int) < (L.length : Int)) = false := decide_eq_false (by omega)
      have hfin : Aside0 (Found L x (.returned (.tuple #[.int .i64 0, .bool false]))) := ⟨⟨_, _, rfl, .inr ⟨rfl, rfl, fun hm => by
        obtain ⟨j, hj⟩ := List.mem_iff_getElem?.1 hm
        exact hno.out j (by have := (List.getElem?_eq_some_iff.1 hj).1; omega) hj⟩⟩⟩
      clear hk
      go_wp2_with (fail)
      go_ret2
      exact ⟨hfin.out, by first | exact hbel.out _ | (rw [World.drewN_drewN]; exact hbel.out _)⟩
end Go.Proofs.Ytbmjeopnahmbgaa.In
