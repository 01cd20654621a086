/- TabTakes: over so many columns of a line's blanks tab.Take comes to the place and the column that the reference says: the printed law answers true for every line, place, column, number of columns and size. -/
import Derived.Test.YtocmjfmojmpclaaPTabx3
import Derived.Test.YtocmjfmojmpclaaPureTabIndents
namespace Go.Proofs.Ytocmjfmojmpclaa.Pure
open Go.RowKit Go.Proofs.Ytocmjfmojmpclaa.PTab Go.Proofs.YtocmjfmojmpclaaW.PrintWords Go.Proofs.YtocmjfmojmpclaaW.PrintLast Go.Proofs.YtocmjfmojmpclaaW.PrintMore

/-- The reference's loop is tab.over's, with a bound. -/
theorem refTake (s : ByteArray) (hs : s.size ≤ 65536) (want most z : Int) (hw : 0 ≤ want) (hz : 1 ≤ z) (hz' : z ≤ 64) : ∀ (d k : Nat) (a c : Int), 0 ≤ a → a ≤ s.size → s.size - a.toNat = d → 0 ≤ c → c ≤ 1099511627776 + 64 * a → d + 1 ≤ k →
    indentureref09_Take.l0 k s a c z most = some (tab_over.go d s a c want most z) := by
  intro d
  induction d with
  | zero =>
    intro k a c h0 h1 hd hc0 hc1 hk
    obtain ⟨k, rfl⟩ : ∃ m, k = m + 1 := ⟨k - 1, by omega⟩
    simp only [indentureref09_Take.l0, tab_over.go]
    rw [if_neg (by omega)]
  | succ d ih =>
    intro k a c h0 h1 hd hc0 hc1 hk
    obtain ⟨k, rfl⟩ : ∃ m, k = m + 1 := ⟨k - 1, by omega⟩
    simp only [indentureref09_Take.l0, tab_over.go]
    have hlt : a < (s.size : Int) := by omega
    rw [if_pos hlt, if_pos h0]
    have hm1 : c % z < z := Int.emod_lt_of_pos _ (by omega)
    have hm0 : 0 ≤ c % z := Int.emod_nonneg _ (by omega)
    by_cases b1 : bt s a = 32
    · rw [if_pos b1, if_pos b1, wrap_one h0 (by omega), wrap_one hc0 (by omega)]
      by_cases hm : most < c + 1
      · rw [if_pos hm, if_pos ⟨hw, hm⟩]
      · rw [if_neg hm, if_neg (fun h => hm h.2)]
        exact ih k (a + 1) (c + 1) (by omega) (by omega) (by omega) (by omega) (by omega) (by omega)
    · rw [if_neg b1, if_neg b1]
      by_cases b2 : bt s a = 9
      · rw [if_pos b2, if_pos b2, if_neg (show ¬ z = 0 by omega), wrap_one h0 (by omega), round_up hc0 (by omega) hz hz']
        by_cases hm : most < c - c % z + z
        · rw [if_pos hm, if_pos ⟨hw, hm⟩]
        · rw [if_neg hm, if_neg (fun h => hm h.2)]
          exact ih k (a + 1) _ (by omega) (by omega) (by omega) (by omega) (by omega) (by omega)
      · rw [if_neg b2, if_neg b2]

theorem clamp (x : Int) : mx 0 (mn 1099511627776 x) = if x < 0 then 0 else if x > 1099511627776 then 1099511627776 else x := by
  unfold mx mn; (repeat' split) <;> omega

theorem refTake_f (a0 : ByteArray) (hs : a0.size ≤ 65536) (a1 a2 a3 a4 : Int) (k : Nat) (hk : a0.size + 3 ≤ k) :
    indentureref09_Take.f k a0 a1 a2 a3 a4 = tab_over.f a0 a1 a2 (mx 0 (mn 1099511627776 a3)) a4 := by
  obtain ⟨k, rfl⟩ : ∃ m, k = m + 2 := ⟨k - 2, by omega⟩
  unfold indentureref09_Take.f tab_over.f
  rw [may_eq, if_pos (show a0.size ≤ 140737488351232 by omega), clamp]
  simp only [Option.bind_some]
  by_cases h : tab_over.may a0 a1 a2 a4 = true
  · obtain ⟨h1, h2, h3, h4, h5, h6⟩ := may_bounds h
    rw [if_pos h, if_pos h]
    simp only [indentureref09_Take.j0, indentureref09_Take.j1]
    by_cases hn : a3 < 0
    · rw [if_pos hn, if_pos hn, if_neg (by decide)]
      exact refTake a0 hs 0 _ a4 (by omega) h5 h6 _ _ _ _ h1 h2 rfl h3 (by omega) (by omega)
    · rw [if_neg hn, if_neg hn]
      by_cases hb : a3 > 1099511627776
      · rw [if_pos hb, if_pos hb]
        exact refTake a0 hs _ _ a4 (by omega) h5 h6 _ _ _ _ h1 h2 rfl h3 (by omega) (by omega)
      · rw [if_neg hb, if_neg hb]
        exact refTake a0 hs _ _ a4 (by omega) h5 h6 _ _ _ _ h1 h2 rfl h3 (by omega) (by omega)
  · rw [if_neg h, if_neg h]

theorem TabTakes : indenturelaw09_TabTakes.Pure := by
  intro a0 a1 a2 a3 a4 hs _ _ _ _
  refine ⟨a0.size + 3 + 9, ?_⟩
  unfold indenturelaw09_TabTakes.f
  by_cases hl : (a0.size : Int) > 65536
  · rw [if_pos hl, wakes_le]; rfl
  · rw [if_neg hl, refTake_f a0 (by omega) a1 a2 a3 a4 _ (by omega), wakes_le]
    unfold tab_Take.f
    obtain ⟨r, hr⟩ := over_some a0 (by omega) a1 a2 (mx 0 (mn 1099511627776 a3)) a4
    rw [hr]
    simp

end Go.Proofs.Ytocmjfmojmpclaa.Pure
