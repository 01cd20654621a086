/- New, Open, Far, Done. -/
import Derived.Test.YtfaibpdoalbkpaaPu
namespace Go.Proofs.Ytfaibpdoalbkpaa.Bu
open Go.RowKit Go.Proofs.YtfaibpdoalbkpaaW.PrintWords Go.Proofs.YtfaibpdoalbkpaaW.PrintLast Go.Proofs.YtfaibpdoalbkpaaW.PrintMore
attribute [local go_sem] max2_int min2_int max_two min_two max_three min_three max_four min_four
set_option linter.unusedVariables false
set_option linter.unusedSimpArgs false
/-- Elements of n cells that hold no row. -/
def flat {α : Type} (n : Nat) (enc : α → List Value) (hl : ∀ x, (enc x).length = n) (h1 : ∀ x, ∀ u ∈ enc x, u.oneCell' = true) : Kd α where
  sz := n
  E := []
  K := fun _ x cs => cs = enc x
  M := fun _ _ _ x cs => cs = enc x
  K_len := fun h => by rw [h]; exact hl _
  K_one := fun h u hu => by rw [h] at hu; exact h1 _ u hu
  K_below := fun _ h => h
  K_of_M := fun h => h
  M_mono := fun _ h => h
  M_bound := fun h => h
  M_move := fun _ h => h
  M_lower := fun _ h => h
def kN : Kd Nd := flat 4 (fun x => (ndc x).toList) (fun _ => rfl) (fun x u hu => by simp [ndc] at hu; rcases hu with rfl | rfl | rfl | rfl <;> rfl)
def kE : Kd Ev := flat 4 (fun x => (evc x).toList) (fun _ => rfl) (fun x u hu => by simp at hu; rcases hu with rfl | rfl | rfl | rfl <;> rfl)
theorem info38 : (Try.prog.info? 38).map (fun i => (i.zero, i.size, i.bytes)) = some (some (.agg #[.int .u8 0, .int .i64 0, .int .i64 0, .int .i64 0]), 4, 32) := by kernel_rfl
theorem info41 : (Try.prog.info? 41).map (fun i => (i.zero, i.size, i.bytes)) = some (some (.agg #[.int .u8 0, .int .u8 0, .int .i64 0, .int .i64 0]), 4, 24) := by kernel_rfl
theorem info38s : (Try.prog.info? 38).map (·.size) = some 4 := by kernel_rfl
theorem info3s : (Try.prog.info? 3).map (·.size) = some 1 := by kernel_rfl

/-- A builder as it is made. -/
def newB (k : Int) : Bl := ⟨[⟨k, 0, 0, 0⟩], [0], 0⟩
def NewP (w : World) (k : Int) (e : Ending) (w' : World) : Prop := ∃ b ps vN vO, e = .returned (pv b) ∧ BT w' (fun j => w.heap.size ≤ j) b ps (newB k) vN vO ∧ Below w.heap.size w w'
theorem own_one (w : World) (x : Value) : (w.alloc (.cells #[x] 54)).ownsRow 0 54 1 (.slice (some ⟨w.heap.size, 0, none⟩) 1 1) 1 [x] :=
  ⟨rfl, .inr ⟨w.heap.size, 1, #[x], rfl, Nat.zero_le _, heap_alloc_new _ _, Nat.le_refl _, by decide, rfl, rfl⟩⟩
set_option maxRecDepth 100000 in
set_option maxHeartbeats 4000000 in
theorem new_c (k : Int) (w : World) : Calls Try.prog 10 #[.int .u8 k] w fun e w' => NewP w k e w' := by
  obtain ⟨w1, h1⟩ : ∃ X, w.alloc (.cells #[.int .u8 k, .int .i64 0, .int .i64 0, .int .i64 0] 38) = X := ⟨_, rfl⟩
  obtain ⟨w2, h2⟩ : ∃ X, w1.alloc (.cells #[pv w.heap.size] 54) = X := ⟨_, rfl⟩
  obtain ⟨w3, h3⟩ : ∃ X, w2.alloc (.cells #[pv w.heap.size] 54) = X := ⟨_, rfl⟩
  have s1 : w1.heap.size = w.heap.size + 1 := by rw [← h1]; simp
  have s2 : w2.heap.size = w.heap.size + 2 := by rw [← h2]; simp [s1]
  have s3 : w3.heap.size = w.heap.size + 3 := by rw [← h3]; simp [s2]
  have hfin : NewP w k (.returned (pv (w.heap.size + 3))) (w3.alloc (.cells #[.slice (some ⟨w.heap.size + 1, 0, none⟩) 1 1, .slice (some ⟨w.heap.size + 2, 0, none⟩) 1 1, .int .i64 0] 57)) := by
    have b1 : Below w1.heap.size w1 w2 := by rw [← h2]; exact below_alloc (Below.refl _ w1) _
    have b2 : Below w2.heap.size w2 w3 := by rw [← h3]; exact below_alloc (Below.refl _ w2) _
    have b3 := below_alloc (Below.refl _ w3) (.cells #[.slice (some ⟨w.heap.size + 1, 0, none⟩) 1 1, .slice (some ⟨w.heap.size + 2, 0, none⟩) 1 1, .int .i64 0] 57)
    have n0 : w1.heap[w.heap.size]? = some (.cells (ndc ⟨k, 0, 0, 0⟩) 38 (0, 0)) := by rw [← h1]; exact heap_alloc_new _ _
    have r2 := own_one w1 (pv w.heap.size)
    rw [h2, s1] at r2
    have r3 := own_one w2 (pv w.heap.size)
    rw [h3, s2] at r3
    have hb := heap_alloc_new w3 (.cells #[.slice (some ⟨w.heap.size + 1, 0, none⟩) 1 1, .slice (some ⟨w.heap.size + 2, 0, none⟩) 1 1, .int .i64 0] 57)
    rw [s3] at hb
    have e1 : (Value.slice (some ⟨w.heap.size + 1, 0, none⟩) 1 1).ownBlock = some (w.heap.size + 1) := rfl
    have e2 : (Value.slice (some ⟨w.heap.size + 2, 0, none⟩) 1 1).ownBlock = some (w.heap.size + 2) := rfl
    refine ⟨_, [w.heap.size], _, _, rfl, ⟨hb, pw_own_below (pw_own_below r2 b2) b3, pw_own_below r3 b3, ?_, rfl, by simp, ?_, ?_, by show w.heap.size ≤ w.heap.size + 3; omega, ?_, ?_, ?_⟩, ?_⟩
    · intro j hj
      rw [e2] at hj
      injection hj with hj
      rw [e1]
      intro e
      injection e with e
      omega
    · intro i x p hx hp
      cases i with
      | zero =>
        simp [newB] at hx
        simp at hp
        subst hx
        subst hp
        exact (b3.block _ (by omega)).trans ((b2.block _ (by omega)).trans ((b1.block _ (by omega)).trans n0))
      | succ i => simp at hp
    · intro i hi
      simp [newB] at hi ⊢
      omega
    · intro j hj
      rw [e1] at hj
      injection hj with hj
      show w.heap.size ≤ j
      omega
    · intro j hj
      rw [e2] at hj
      injection hj with hj
      show w.heap.size ≤ j
      omega
    · intro p hp
      simp at hp
      show w.heap.size ≤ p
      omega
    · rw [← h3, ← h2, ← h1]
      exact below_alloc (below_alloc (below_alloc (below_alloc (Below.refl _ w) _) _) _) _
  have HF := Aside0.mk hfin
  clear hfin
  go_enter Try.func10, Try.ntmps10
  go_wp2_with (fail)
  go_ret
  exact HF.out
theorem open_c (b : Nat) (ps : List Nat) (m : Bl) (vN vO : Value) (w : World) (fp : Nat → Prop) (h : BT w fp b ps m vN vO) (hO : m.O.length ≤ 1000000) : Calls Try.prog 17 #[pv b] w fun e w' => e = .returned (.int .i64 ((m.O.length : Int) - 1)) ∧ w' = w := by
  obtain ⟨A2, c2, hvO, _, _⟩ := own_cells h.rO
  have g1 := h.cO
  rw [hvO] at g1
  have hw0 : IntKind.i64.wrap ((m.O.length : Int) - 1) = (m.O.length : Int) - 1 := IntWalk.i64_in _ (by omega)
  clear h hvO
  go_enter Try.func17, Try.ntmps17
  go_wp2_with (fail)
  go_ret
  exact ⟨rfl, rfl⟩
theorem far_c (b : Nat) (ps : List Nat) (m : Bl) (vN vO : Value) (w : World) (fp : Nat → Prop) (h : BT w fp b ps m vN vO) : Calls Try.prog 18 #[pv b] w fun e w' => e = .returned (.int .i64 m.far) ∧ w' = w := by
  have g2 := h.cF
  clear h
  go_enter Try.func18, Try.ntmps18
  go_wp2_with (fail)
  go_ret
  exact ⟨rfl, rfl⟩
end Go.Proofs.Ytfaibpdoalbkpaa.Bu
