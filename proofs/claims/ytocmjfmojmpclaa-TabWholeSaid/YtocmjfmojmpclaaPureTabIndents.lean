/- TabIndents: over any line's blanks tab.Indent comes to the place and the column that the reference says: the printed law answers true for every line (of any bytes), place, column and size. -/
import Derived.Test.YtocmjfmojmpclaaPTabx1
namespace Go.Proofs.Ytocmjfmojmpclaa.Pure
open Go.RowKit Go.Proofs.Ytocmjfmojmpclaa.PTab Go.Proofs.YtocmjfmojmpclaaW.PrintWords Go.Proofs.YtocmjfmojmpclaaW.PrintLast

theorem wakes_true : indenturelaw09_wakes.f 9 = some true := by decide +kernel
theorem wakes_le (k : Nat) : indenturelaw09_wakes.f (k + 9) = some true := by
  induction k with
  | zero => exact wakes_true
  | succ k ih => rw [show k + 1 + 9 = (k + 9) + 1 from by omega]; exact indenturelaw09_wakes.mono _ _ ih

theorem wrap_one {x : Int} (h0 : 0 ≤ x) (h1 : x ≤ 1000000000000000) : wrap64 (x + 1) = x + 1 := by unfold wrap64; omega
theorem round_up {c z : Int} (h0 : 0 ≤ c) (h1 : c ≤ 1000000000000000) (hz : 1 ≤ z) (hz' : z ≤ 64) :
    wrap64 ((wrap64 ((wrap64 (Int.tdiv c z)) + 1)) * z) = c - c % z + z := by
  have e0 : Int.tdiv c z = c / z := Int.tdiv_eq_ediv_of_nonneg h0
  have q0 : 0 ≤ c / z := Int.ediv_nonneg h0 (by omega)
  have q1 : c / z ≤ c := Int.ediv_le_self z h0
  have hm := Int.mul_ediv_add_emod c z
  have hm1 : c % z < z := Int.emod_lt_of_pos _ (by omega)
  have hm0 : 0 ≤ c % z := Int.emod_nonneg _ (by omega)
  rw [e0]
  have e1 : wrap64 (c / z) = c / z := by unfold wrap64; omega
  rw [e1, wrap_one q0 (by omega)]
  have e2 : (c / z + 1) * z = c - c % z + z := by rw [Int.add_mul, Int.mul_comm]; omega
  rw [e2]
  unfold wrap64; omega

/-- The reference's loop over blanks is tab.over's, without a bound. -/
theorem refIndent (s : ByteArray) (hs : s.size ≤ 65536) (most z : Int) (hz : 1 ≤ z) (hz' : z ≤ 64) : ∀ (d k : Nat) (a c : Int), 0 ≤ a → a ≤ s.size → s.size - a.toNat = d → 0 ≤ c → c ≤ 1099511627776 + 64 * a → 2 * d + 2 ≤ k →
    indentureref09_Indent.l0 k s a c z = some (tab_over.go d s a c (-1) most z) := by
  intro d
  induction d with
  | zero =>
    intro k a c h0 h1 hd hc0 hc1 hk
    obtain ⟨k, rfl⟩ : ∃ m, k = m + 2 := ⟨k - 2, by omega⟩
    simp only [indentureref09_Indent.l0, indentureref09_Indent.j1, tab_over.go]
    rw [if_neg (by omega), if_neg (by decide)]
  | succ d ih =>
    intro k a c h0 h1 hd hc0 hc1 hk
    obtain ⟨k, rfl⟩ : ∃ m, k = m + 2 := ⟨k - 2, by omega⟩
    simp only [indentureref09_Indent.l0, indentureref09_Indent.j1, tab_over.go]
    have hlt : a < (s.size : Int) := by omega
    rw [if_pos hlt, if_pos h0]
    have hneg : ∀ x y : Int, ¬ (0 ≤ (-1 : Int) ∧ x < y) := by intro x y h; omega
    by_cases b1 : bt s a = 32
    · simp only [if_pos b1, if_true, if_pos hlt, if_pos h0, if_neg (hneg _ _)]
      rw [wrap_one h0 (by omega), wrap_one hc0 (by omega)]
      exact ih k (a + 1) (c + 1) (by omega) (by omega) (by omega) (by omega) (by omega) (by omega)
    · by_cases b2 : bt s a = 9
      · have b2' : (bt s a == 9) = true := beq_iff_eq.mpr b2
        simp only [if_neg b1, b2', if_true, if_pos hlt, if_pos h0, if_neg (show ¬ z = 0 by omega), if_neg (hneg _ _), if_pos b2]
        rw [wrap_one h0 (by omega), round_up hc0 (by omega) hz hz']
        have hm1 : c % z < z := Int.emod_lt_of_pos _ (by omega)
        have hm0 : 0 ≤ c % z := Int.emod_nonneg _ (by omega)
        exact ih k (a + 1) _ (by omega) (by omega) (by omega) (by omega) (by omega) (by omega)
      · have b2' : (bt s a == 9) = false := beq_eq_false_iff_ne.mpr b2
        simp only [if_neg b1, b2', if_neg b2, Bool.false_eq_true, if_false]

theorem may_eq (a0 : ByteArray) (a1 a2 a3 : Int) : indentureref09_May.f a0 a1 a2 a3 = some (tab_over.may a0 a1 a2 a3) := by
  unfold indentureref09_May.f tab_over.may
  by_cases h1 : 0 ≤ a1 <;> by_cases h2 : a1 ≤ (a0.size : Int) <;> by_cases h3 : 0 ≤ a2 <;> by_cases h4 : a2 ≤ 1099511627776 <;> by_cases h5 : 1 ≤ a3 <;> simp [h1, h2, h3, h4, h5]

theorem may_bounds {a0 : ByteArray} {a1 a2 a4 : Int} (h : tab_over.may a0 a1 a2 a4 = true) : 0 ≤ a1 ∧ a1 ≤ (a0.size : Int) ∧ 0 ≤ a2 ∧ a2 ≤ 1099511627776 ∧ 1 ≤ a4 ∧ a4 ≤ 64 := by
  simpa [tab_over.may] using h

theorem refIndent_f (a0 : ByteArray) (hs : a0.size ≤ 65536) (a1 a2 a3 : Int) (k : Nat) (hk : 2 * a0.size + 2 ≤ k) :
    indentureref09_Indent.f k a0 a1 a2 a3 = tab_over.f a0 a1 a2 (-1) a3 := by
  unfold indentureref09_Indent.f tab_over.f
  rw [may_eq, if_pos (by omega)]
  simp only [Option.bind_some]
  by_cases h : tab_over.may a0 a1 a2 a3 = true
  · obtain ⟨h1, h2, h3, h4, h5, h6⟩ := may_bounds h
    rw [if_pos h, if_pos h]
    exact refIndent a0 hs _ a3 h5 h6 _ _ _ _ h1 h2 rfl h3 (by omega) (by omega)
  · rw [if_neg h, if_neg h]

theorem over_some (a0 : ByteArray) (hs : a0.size ≤ 65536) (a1 a2 a3 a4 : Int) : ∃ r : Int × Int, tab_over.f a0 a1 a2 a3 a4 = some r := by
  unfold tab_over.f
  rw [if_pos (by omega)]
  split
  · exact ⟨_, rfl⟩
  · exact ⟨_, rfl⟩

theorem TabIndents : indenturelaw09_TabIndents.Pure := by
  intro a0 a1 a2 a3 hs _ _ _
  refine ⟨2 * a0.size + 2 + 9, ?_⟩
  unfold indenturelaw09_TabIndents.f
  by_cases hl : (a0.size : Int) > 65536
  · rw [if_pos hl, wakes_le]; rfl
  · rw [if_neg hl, refIndent_f a0 (by omega) a1 a2 a3 _ (by omega), wakes_le]
    unfold tab_Indent.f
    obtain ⟨r, hr⟩ := over_some a0 (by omega) a1 a2 (-1) a3
    rw [hr]
    simp

end Go.Proofs.Ytocmjfmojmpclaa.Pure
