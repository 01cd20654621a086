/- The reference's New and place. -/
import Derived.Test.YtfaibpdoalbkpaaRt
namespace Go.Proofs.Ytfaibpdoalbkpaa.Bu
open Go.RowKit Go.Proofs.YtfaibpdoalbkpaaW.PrintWords Go.Proofs.YtfaibpdoalbkpaaW.PrintLast Go.Proofs.YtfaibpdoalbkpaaW.PrintMore
attribute [local go_sem] max2_int min2_int max_two min_two max_three min_three max_four min_four
set_option linter.unusedVariables false
set_option linter.unusedSimpArgs false
def RNewP (w : World) (k : Int) (e : Ending) (w' : World) : Prop := ∃ b vL vO, e = .returned (pv b) ∧ RT w' (fun j => w.heap.size ≤ j) b (newB k) vL vO ∧ Below w.heap.size w w'
theorem one_N (w : World) (x : Nd) (ok : Nat → Prop) (hok : ok w.heap.size) : kN.R 38 (w.alloc (.cells (ndc x) 38)) 0 ok (.slice (some ⟨w.heap.size, 0, none⟩) 1 1) [x] := by
  refine ⟨fun k hk => by simp [Value.ownBlock] at hk; subst hk; exact hok, (ndc x).toList, ⟨rfl, .inr ⟨w.heap.size, 1, ndc x, rfl, Nat.zero_le _, heap_alloc_new _ _, Nat.le_refl _, by decide, rfl, rfl⟩⟩, ⟨rfl, ?_⟩⟩
  intro j q hq
  cases j with
  | zero =>
    simp at hq
    subst hq
    rfl
  | succ j => simp at hq
theorem one_I (w : World) (i : Nat) (ok : Nat → Prop) (hok : ok w.heap.size) : kI.R 3 (w.alloc (.cells #[.int .i64 (i : Int)] 3)) 0 ok (.slice (some ⟨w.heap.size, 0, none⟩) 1 1) [i] := by
  refine ⟨fun k hk => by simp [Value.ownBlock] at hk; subst hk; exact hok, [.int .i64 (i : Int)], ⟨rfl, .inr ⟨w.heap.size, 1, #[.int .i64 (i : Int)], rfl, Nat.zero_le _, heap_alloc_new _ _, Nat.le_refl _, by decide, rfl, rfl⟩⟩, ⟨rfl, ?_⟩⟩
  intro j q hq
  cases j with
  | zero =>
    simp at hq
    subst hq
    rfl
  | succ j => simp at hq
set_option maxRecDepth 100000 in
set_option maxHeartbeats 4000000 in
theorem rnew_c (k : Int) (w : World) : Calls Try.prog 11 #[.int .u8 k] w fun e w' => RNewP w k e w' := by
  obtain ⟨w1, h1⟩ : ∃ X, w.alloc (.cells #[.int .u8 k, .int .i64 0, .int .i64 (-1), .int .i64 0] 38) = X := ⟨_, rfl⟩
  obtain ⟨w2, h2⟩ : ∃ X, w1.alloc (.cells #[.int .i64 0] 3) = X := ⟨_, rfl⟩
  have s1 : w1.heap.size = w.heap.size + 1 := by rw [← h1]; simp
  have s2 : w2.heap.size = w.heap.size + 2 := by rw [← h2]; simp [s1]
  have hfin : RNewP w k (.returned (pv (w.heap.size + 2))) (w2.alloc (.cells #[.slice (some ⟨w.heap.size, 0, none⟩) 1 1, .slice (some ⟨w.heap.size + 1, 0, none⟩) 1 1, .int .i64 0] 45)) := by
    have b2 : Below w1.heap.size w1 w2 := by rw [← h2]; exact below_alloc (Below.refl _ w1) _
    have b3 := below_alloc (Below.refl _ w2) (.cells #[.slice (some ⟨w.heap.size, 0, none⟩) 1 1, .slice (some ⟨w.heap.size + 1, 0, none⟩) 1 1, .int .i64 0] 45)
    have r1 := one_N w ⟨k, 0, -1, 0⟩ (fun j => w.heap.size ≤ j) (Nat.le_refl _)
    have r1' : kN.R 38 w1 0 (fun j => w.heap.size ≤ j) (.slice (some ⟨w.heap.size, 0, none⟩) 1 1) [⟨k, 0, -1, 0⟩] := by rw [← h1]; exact r1
    have r2 := one_I w1 0 (fun j => w.heap.size ≤ j) (by show w.heap.size ≤ w1.heap.size; omega)
    have r2' : kI.R 3 w2 0 (fun j => w.heap.size ≤ j) (.slice (some ⟨w.heap.size + 1, 0, none⟩) 1 1) [0] := by rw [← h2, ← s1]; exact r2
    have hb := heap_alloc_new w2 (.cells #[.slice (some ⟨w.heap.size, 0, none⟩) 1 1, .slice (some ⟨w.heap.size + 1, 0, none⟩) 1 1, .int .i64 0] 45)
    rw [s2] at hb
    refine ⟨_, _, _, rfl, ⟨hb, Kd.R_below (Kd.R_below r1' b2) b3, Kd.R_below r2' b3, ?_, ?_⟩, ?_⟩
    · intro j hj hk
      simp [Value.ownBlock] at hj hk
      omega
    · show w.heap.size ≤ w.heap.size + 2
      omega
    · rw [← h2, ← h1]
      exact below_alloc (below_alloc (below_alloc (Below.refl _ w) _) _) _
  rw [← h2, ← h1] at hfin
  have HF := Aside0.mk hfin
  clear hfin h1 h2 s1 s2
  go_enter Try.func11, Try.ntmps11
  go_wp2_with (fail)
  go_ret
  exact HF.out
/-- What place tells. -/
def RPlP (at_ far a : Int) (e : Ending) : Prop := (Bad at_ far a ∧ e = .returned (.tuple #[.int .i64 0, .bool false])) ∨ (¬ Bad at_ far a ∧ e = .returned (.tuple #[.int .i64 (at_ + a), .bool true]))
set_option maxRecDepth 100000 in
set_option maxHeartbeats 4000000 in
theorem rplace_c (b : Nat) (a at_ far : Int) (w : World) (hc : w.cell? ⟨b, 2, none⟩ = some (.int .i64 far)) (ha : 0 ≤ at_ ∧ at_ ≤ 1048576) (hf : 0 ≤ far ∧ far ≤ 1048576) : Calls Try.prog 28 #[pv b, .int .i64 a, .int .i64 at_] w fun e w' => RPlP at_ far a e ∧ w' = w := by
  by_cases h0 : a < 0
  · have HF : Aside0 (RPlP at_ far a (.returned (.tuple #[.int .i64 0, .bool false]))) := ⟨.inl ⟨.inl h0, rfl⟩⟩
    go_enter Try.func28, Try.ntmps28
    go_wp2_with (fail)
    all_goals go_ret2
    all_goals exact ⟨HF.out, rfl⟩
  by_cases h1 : 1048576 < a
  · have HF : Aside0 (RPlP at_ far a (.returned (.tuple #[.int .i64 0, .bool false]))) := ⟨.inl ⟨by unfold Bad; omega, rfl⟩⟩
    go_enter Try.func28, Try.ntmps28
    go_wp2_with (fail)
    all_goals go_ret2
    all_goals exact ⟨HF.out, rfl⟩
  have hw : IntKind.i64.wrap (at_ + a) = at_ + a := IntWalk.i64_in _ (by omega)
  by_cases h2 : at_ + a < far
  · have HF : Aside0 (RPlP at_ far a (.returned (.tuple #[.int .i64 0, .bool false]))) := ⟨.inl ⟨by unfold Bad; omega, rfl⟩⟩
    go_enter Try.func28, Try.ntmps28
    go_wp2_with (fail)
    all_goals go_ret2
    all_goals exact ⟨HF.out, rfl⟩
  by_cases h3 : 1048576 < at_ + a
  · have HF : Aside0 (RPlP at_ far a (.returned (.tuple #[.int .i64 0, .bool false]))) := ⟨.inl ⟨by unfold Bad; omega, rfl⟩⟩
    go_enter Try.func28, Try.ntmps28
    go_wp2_with (fail)
    all_goals go_ret2
    all_goals exact ⟨HF.out, rfl⟩
  · have HF : Aside0 (RPlP at_ far a (.returned (.tuple #[.int .i64 (at_ + a), .bool true]))) := ⟨.inr ⟨by unfold Bad; omega, rfl⟩⟩
    go_enter Try.func28, Try.ntmps28
    go_wp2_with (fail)
    all_goals go_ret2
    all_goals exact ⟨HF.out, rfl⟩
end Go.Proofs.Ytfaibpdoalbkpaa.Bu
