/- SeqNil walked: no row has no items. -/
import Derived.Test.YtpchkligbfmeiaaAl
import Derived.Test.YtpchkligbfmeiaaWa
namespace Go.Proofs.Ytpchkligbfmeiaa.Se
open Go.RowKit Go.Shelf Go.Proofs.YtpchkligbfmeiaaW.PrintWords Go.Proofs.YtpchkligbfmeiaaW.PrintLast Go.Proofs.YtpchkligbfmeiaaW.PrintMore
attribute [local go_sem] Oper.semAt_some
set_option linter.unusedVariables false
set_option linter.unusedSimpArgs false
theorem eqFn (b : Nat) (w : World) : (binOp .eql 34 (.func (.func 23) #[] #[.pointer (some ⟨b, 0, none⟩)]) .nilFunc).run Try.prog w = .ok (.bool false) w := by kernel_rfl
theorem k58_b {B : Nat} (W : World) (l : Nat) (o o' : Obj) (_ : B ≤ l) (h : W.heap[l]? = some o) (ho : o.isCells = false) (_ : o.isWalk = false) : K58 W (W.putObj l o') := by
  intro k row hk
  have hne : k ≠ l := by
    rintro rfl
    rw [hk] at h
    injection h with h
    subst h
    simp [Obj.isCells] at ho
  exact (World.putObj_heap_other hne).trans hk

theorem row_kept {W W' : World} {k : Nat} {cs : Array Value} {t : TypeId} {row : Option Nat} (h : W.heap[k]? = some (.cells cs t (0, 0))) (hg : W.grownBy W' row) (hr : ∀ r, row = some r → ∃ o : Obj, W.heap[r]? = some o ∧ o.isCells = false) : W'.heap[k]? = some (.cells cs t (0, 0)) := by
  refine (hg.block k (blk_lt h) (fun e => ?_)).trans h
  obtain ⟨o, ho, hc⟩ := hr k (by first | exact e | exact e.symm)
  rw [h] at ho
  injection ho with ho
  subst ho
  simp [Obj.isCells] at hc

set_option maxRecDepth 100000 in
set_option maxHeartbeats 4000000 in
theorem nil_in (n : Nat) (hn : 6 ≤ n) (d i m : Int) (A1 A2 : Option Addr) (n1 c1 n2 c2 : Nat) (w : World) :
    CallsIn Fence.wide n Try.prog 6 #[.agg #[.int .i64 d, .int .i64 i, .int .i64 m, .slice A1 n1 c1, .slice A2 n2 c2]] w fun e W' => e = .returned (.bool true) ∧ Below w.heap.size w W' := by
  have h1 : 1 ≤ n := by omega
  have hq := eqFn
  refine callsIn_of_wp_marks Try.func6 rfl trivial ?_ rfl
  simp only [Try.ntmps6, List.size_toArray, List.length_cons, List.length_nil, Nat.reduceAdd, Nat.reduceSub, Array.replicate_succ, Array.replicate_zero, List.push_toArray, List.append_toArray, List.nil_append, List.cons_append]
  gi_wp2_with (first
    | (refine ⟨trivial, ?_⟩; gi_at_call 14; refine (callsIn_wide.2 (at_nil _ _)).mono ?_; rintro _ w9 ⟨rfl, h9⟩; rw [h9]; clear h9 w9)
    | (refine ⟨trivial, ?_⟩; gi_at_call 15; refine (callsIn_wide.2 (sums_nil _ _)).mono ?_; rintro _ w9 ⟨rfl, h9⟩; rw [h9]; clear h9 w9)
    | (refine ⟨trivial, ?_⟩; gi_at_call 16; refine (callsIn_wide.2 (find_nil _ _)).mono ?_; rintro _ w9 ⟨rfl, h9⟩; rw [h9]; clear h9 w9)
    | (refine ⟨trivial, ?_⟩; gi_at_call 11; refine (callsIn_wide.2 (all_nil _)).mono ?_; rintro _ w9 ⟨rfl, hc, hs, hb⟩))
  have r1 : w9.heap[w.heap.size]? = some (.cells #[.int .i64 d, .int .i64 i, .int .i64 m, .slice A1 n1 c1, .slice A2 n2 c2] 26 (0, 0)) := (hb.block _ (by rw [size_al, size_al]; omega)).trans ((Below.heap_alloc _ _ _ (by rw [size_al]; omega)).trans (heap_alloc_new _ _))
  have r2 : w9.heap[w.heap.size + 1]? = some (.cells #[.bool false] 4 (0, 0)) := (hb.block _ (by rw [size_al, size_al]; omega)).trans (alloc_at (size_al _ _))
  have hs9 : w9.heap.size = w.heap.size + 3 := by rw [hs, size_al, size_al]
  have hc9 : w9.cell? ⟨w.heap.size + 1 + 1, 0, none⟩ = some (.pointer none) := by
    rw [size_al, size_al] at hc
    exact hc
  have hB0 : Below w.heap.size w w9 := (below_alloc (below_alloc (Below.refl _ w) _) _).trans (hb.mono (by rw [size_al, size_al]; omega))
  clear hc hs hb
  refine wpIn_rangeFunc_ownF (α := NItem) (F := Fence.wide) rfl h1 (gf := 23) (lb := #[.pointer (some ⟨w.heap.size + 1 + 1, 0, none⟩)]) rfl trivial (enters_of Try.func23 (by kernel_rfl) rfl)
    (all_stops (n - 1) (w.heap.size + 1 + 1) (.pointer none) .nil w9 (by omega) hc9 rfl (by simp [cntT])) K58.trans k58_b (Below.refl _ _) (fun _ => rfl)
    (fun pre W => (W.heap[w.heap.size]? = some (.cells #[.int .i64 d, .int .i64 i, .int .i64 m, .slice A1 n1 c1, .slice A2 n2 c2] 26 (0, 0)) ∧ W.heap[w.heap.size + 1]? = some (.cells #[.bool false] 4 (0, 0))) ∧ Below w.heap.size w W)
    (fun _ _ _ => False)
    (OwnFrom.and (Own.from (fun s A B row hs hg hr => ⟨row_kept hs.1 hg hr, row_kept hs.2 hg hr⟩) _) (ownFrom_below (Nat.le_refl _) (by omega)))
    (fun _ _ _ _ _ hs _ _ => hs)
    ⟨⟨r1, r2⟩, hB0⟩
    ?a1 ?assign ?body ?done ?stop
  case assign =>
    intro l x W K hK
    gi_wp2
    exact hK
  case body =>
    rintro l pre x W _ hlt
    exact absurd hlt (by simp [toL])
  case stop =>
    rintro D c pre W _ _ h _
    exact h.elim
  case done =>
    rintro D ys W hD - ⟨⟨q1, q2⟩, hB⟩ hK
    have e1 : W.cell? ⟨w.heap.size, 1, none⟩ = some (.int .i64 i) := cell_of_row _ _ _ _ _ _ q1
    have e2 : W.cell? ⟨w.heap.size, 2, none⟩ = some (.int .i64 m) := cell_of_row _ _ _ _ _ _ q1
    have e3 : W.cell? ⟨w.heap.size, 3, none⟩ = some (.slice A1 n1 c1) := cell_of_row _ _ _ _ _ _ q1
    have e4 : W.cell? ⟨w.heap.size, 4, none⟩ = some (.slice A2 n2 c2) := cell_of_row _ _ _ _ _ _ q1
    gi_wp2_with (first
      | (refine ⟨trivial, ?_⟩; gi_at_call 10; refine (callsIn_wide.2 (splice_nil _ _ _ _ _ _ _ _ _)).mono ?_; rintro _ w9 ⟨rfl, h9⟩; rw [h9]; clear h9 w9)
      | (refine ⟨trivial, ?_⟩; gi_at_call 12; refine (callsIn_wide.2 (len_nil _)).mono ?_; rintro _ w9 ⟨rfl, h9⟩; rw [h9]; clear h9 w9)
      | (refine ⟨trivial, ?_⟩; gi_at_call 13; refine (callsIn_wide.2 (size_nil _)).mono ?_; rintro _ w9 ⟨rfl, h9⟩; rw [h9]; clear h9 w9)
      | (refine ⟨trivial, ?_⟩; gi_at_call 17; refine (callsIn_wide.2 (deep_nil _)).mono ?_; rintro _ w9 ⟨rfl, h9⟩; rw [h9]; clear h9 w9)
      | (refine ⟨trivial, ?_⟩; gi_at_call 8; refine (callsIn_wide.2 (wakes_c _)).mono ?_; rintro _ w5 ⟨rfl, hb5⟩; have q5 := (hb5.block _ (blk_lt q2)).trans q2; have c5 := cell_of_row _ _ 0 _ _ _ q5; have f5 := blk_frozen q5 0; have hK5 := (hb5.block _ (blk_lt hK)).trans hK))
    have hK' := (KeepsOthers.setCell w5 ⟨w.heap.size + 1, 0, none⟩ (.bool true)).same D _ hK5 rfl
    refine ⟨by simp, .inl ⟨_, _, rfl, run_takeDeferred hK', ?_⟩⟩
    have hcf := cell_kept (World.cell?_setCell_same' w5 ⟨w.heap.size + 1, 0, none⟩ (.bool true) (by rw [c5]; rfl)) (grownBy_putObj' _ D (.deferred none)) (fun r e => by cases e; exact ⟨_, hK', rfl⟩)
    refine ⟨.bool true, ?_, rfl, ((hB.trans (hb5.mono hB.size)).setCell (p := ⟨w.heap.size + 1, 0, none⟩) (by simp) _).trans (belowK_b (w := w) (Nat.le_refl _) _ D _ _ (by omega) hK' rfl rfl)⟩
    simp [results, Try.f6, go_sem, hcf]
theorem nil_c (d i m : Int) (A1 A2 : Option Addr) (n1 c1 n2 c2 : Nat) (w : World) :
    Calls Try.prog 6 #[.agg #[.int .i64 d, .int .i64 i, .int .i64 m, .slice A1 n1 c1, .slice A2 n2 c2]] w fun e W' => e = .returned (.bool true) ∧ Below w.heap.size w W' :=
  callsIn_wide.1 (nil_in 6 (Nat.le_refl _) d i m A1 A2 n1 c1 n2 c2 w)
end Go.Proofs.Ytpchkligbfmeiaa.Se
