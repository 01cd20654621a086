/- A table of states in memory, and what its functions do to it: Len, New. -/
import Derived.Test.YtbmjeopnahmbgaaSt
namespace Go.Proofs.Ytbmjeopnahmbgaa.In
open Go.RowKit Go.Proofs.YtbmjeopnahmbgaaW.PrintWords Go.Proofs.YtbmjeopnahmbgaaW.PrintLast Go.Proofs.YtbmjeopnahmbgaaW.PrintMore
open Go.WideShapes
set_option linter.unusedVariables false

/-- What the map holds: each state of the row, and its place. -/
def Tied (D : DataW Unit) (L : List (Array Value)) : Prop :=
  ∀ x l, keyOf Try.prog 37 (.agg x) = some l → (Maps.has D l = true ↔ x ∈ L) ∧ ∀ i, L[i]? = some x → D.atKey l (.lit (.int .i64 0)) = .lit (.int .i64 ((i : Nat) : Int))

/-- The table behind p: its map and its row lie in blocks that are ok. -/
structure IT (w : World) (B : Nat) (ok : Nat → Prop) (p : Nat) (L : List (Array Value)) : Prop where
  mk ::
  out : ∃ mb v D, w.heap[p]? = some (.cells #[.map (some mb), v] 53 (0, 0)) ∧ ok p ∧ ok mb ∧ B ≤ p ∧ B ≤ mb ∧ World.ownsMap (H := Unit) w Try.prog 37 (plainElem Try.prog 3) mb L.length D ∧ kS.R 37 w B ok v L ∧ L.Nodup ∧ Tied D L

theorem Tied.nil : Tied (.map []) [] := by
  intro x l _
  refine ⟨by simp [Maps.has], fun i hi => by simp at hi⟩

theorem IT.move {w w' : World} {B : Nat} {ok : Nat → Prop} {p : Nat} {L : List (Array Value)} (h : IT w B ok p L) (hm : ∀ k, ok k → k < w.heap.size → w'.heap[k]? = w.heap[k]?) : IT w' B ok p L := by
  obtain ⟨mb, v, D, h1, h2, h3, h4, h5, h6, h7, h8, h9⟩ := h.out
  have h6' := h6
  obtain ⟨es, clock, hb, F, hs, hD⟩ := h6
  exact ⟨mb, v, D, (hm p h2 (blk_lt h1)).trans h1, h2, h3, h4, h5, ⟨es, clock, (hm mb h3 h6'.lt).trans hb, F, hs, hD⟩, Kd.R_step h7 hm, h8, h9⟩
theorem IT.below {w w' : World} {B : Nat} {ok : Nat → Prop} {p : Nat} {L : List (Array Value)} (h : IT w B ok p L) (hb : Below w.heap.size w w') : IT w' B ok p L := h.move fun k _ hk => hb.block k hk
theorem IT.mono {w : World} {B : Nat} {ok ok' : Nat → Prop} {p : Nat} {L : List (Array Value)} (h : IT w B ok p L) (hm : ∀ k, ok k → ok' k) : IT w B ok' p L := by
  obtain ⟨mb, v, D, h1, h2, h3, h4, h5, h6, h7, h8, h9⟩ := h.out
  exact ⟨mb, v, D, h1, hm _ h2, hm _ h3, h4, h5, h6, Kd.R_mono h7 hm, h8, h9⟩
theorem IT.bound {w : World} {B : Nat} {ok : Nat → Prop} {p : Nat} {L : List (Array Value)} (h : IT w B ok p L) : IT w B (fun k => ok k ∧ k < w.heap.size) p L := by
  obtain ⟨mb, v, D, h1, h2, h3, h4, h5, h6, h7, h8, h9⟩ := h.out
  exact ⟨mb, v, D, h1, ⟨h2, blk_lt h1⟩, ⟨h3, h6.lt⟩, h4, h5, h6, Kd.R_mono (Kd.R_bound h7) (fun k hk => ⟨hk.1, hk.2.2.1⟩), h8, h9⟩
theorem IT.st {w : World} {B : Nat} {ok : Nat → Prop} {p : Nat} {L : List (Array Value)} (h : IT w B ok p L) : ∀ x ∈ L, IsSt x := by
  obtain ⟨mb, v, D, h1, h2, h3, h4, h5, h6, h7, h8, h9⟩ := h.out
  obtain ⟨_, inner, _, hr⟩ := h7
  intro x hx
  obtain ⟨j, hj⟩ := List.mem_iff_getElem?.1 hx
  exact (hr.2 j x hj).1
/-- What a walk reads of it. -/
theorem IT.open {w : World} {B : Nat} {ok : Nat → Prop} {p : Nat} {L : List (Array Value)} (h : IT w B ok p L) : ∃ mb A c D, w.heap[p]? = some (.cells #[.map (some mb), .slice A L.length c] 53 (0, 0)) ∧ w.cell? ⟨p, 0, none⟩ = some (.map (some mb)) ∧ w.cell? ⟨p, 1, none⟩ = some (.slice A L.length c) ∧ (∀ j, w.frozen? ⟨p, j, none⟩ = false) ∧ L.length ≤ c ∧
    World.ownsMap (H := Unit) w Try.prog 37 (plainElem Try.prog 3) mb L.length D ∧ kS.R 37 w B ok (.slice A L.length c) L ∧ L.Nodup ∧ Tied D L ∧ ok p ∧ ok mb ∧ B ≤ p ∧ B ≤ mb := by
  obtain ⟨mb, v, D, h1, h2, h3, h4, h5, h6, h7, h8, h9⟩ := h.out
  obtain ⟨A, c, rfl, hl, hC⟩ := Kd.R_reads h7
  exact ⟨mb, A, c, D, h1, cell_of_row _ _ _ _ _ _ h1, cell_of_row _ _ _ _ _ _ h1, fun j => blk_frozen h1 j, hl, h6, h7, h8, h9, h2, h3, h4, h5⟩

set_option maxHeartbeats 1000000 in
theorem len_c (p : Nat) (L : List (Array Value)) (w : World) (B : Nat) (ok : Nat → Prop) (h : IT w B ok p L) : Calls Try.prog 14 #[.pointer (some ⟨p, 0, none⟩)] w fun e w' => e = .returned (.int .i64 (L.length : Int)) ∧ w' = w := by
  obtain ⟨mb, A, c, D, h1, c0, c1, hf, hc, _⟩ := h.open
  clear h1
  go_enter Try.func14, Try.ntmps14
  go_wp2_with (fail)
  go_ret
  exact ⟨rfl, rfl⟩

set_option maxHeartbeats 1000000 in
theorem new_c (w : World) : Calls Try.prog 7 #[] w fun e w' => ∃ p, e = .returned (.pointer (some ⟨p, 0, none⟩)) ∧ IT w' w.heap.size (fun k => w.heap.size ≤ k) p [] ∧ Below w.heap.size w w' := by
  have hmm := @run_makeMap Try.prog
  go_enter Try.func7, Try.ntmps7
  go_wp2_with (fail)
  go_ret
  refine ⟨w.heap.size + 1, rfl, ⟨w.heap.size, .slice none 0 0, .map [], ?_, by omega, by omega, by omega, by omega, ?_, Kd.R_nil _ _ _ _ _, List.nodup_nil, Tied.nil⟩, ((Below.refl _ w).alloc (Nat.le_refl _) _).alloc (by rw [World.size_alloc]; omega) _⟩
  · exact heap_alloc2_new w _ _
  · exact (World.ownsMap_made w _ _ _).alloc _
end Go.Proofs.Ytbmjeopnahmbgaa.In
