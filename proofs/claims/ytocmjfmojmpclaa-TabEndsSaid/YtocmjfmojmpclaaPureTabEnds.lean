/- TabEnds: whether nothing is left but blanks, and where a line's end begins, is what the reference says: the printed law answers true for every line (of any bytes and length) and every place. -/
import Derived.Test.YtocmjfmojmpclaaPTabx2
import Derived.Test.YtocmjfmojmpclaaPureTabIndents
namespace Go.Proofs.Ytocmjfmojmpclaa.Pure
open Go.RowKit Go.Proofs.Ytocmjfmojmpclaa.PTab Go.Proofs.YtocmjfmojmpclaaW.PrintWords Go.Proofs.YtocmjfmojmpclaaW.PrintLast

theorem refBlank (s : ByteArray) (hs : s.size ≤ 140737488351232) : ∀ (d k : Nat) (a : Int), 0 ≤ a → a ≤ s.size → s.size - a.toNat = d → d + 1 ≤ k →
    indentureref09_Blank.l0 k s a = some (blanks d s a) := by
  intro d
  induction d with
  | zero =>
    intro k a h0 h1 hd hk
    obtain ⟨k, rfl⟩ : ∃ m, k = m + 1 := ⟨k - 1, by omega⟩
    simp only [indentureref09_Blank.l0, blanks]
    rw [if_neg (by omega)]
  | succ d ih =>
    intro k a h0 h1 hd hk
    obtain ⟨k, rfl⟩ : ∃ m, k = m + 1 := ⟨k - 1, by omega⟩
    simp only [indentureref09_Blank.l0, blanks]
    have hlt : a < (s.size : Int) := by omega
    rw [if_pos hlt, if_pos h0, wrap_one h0 (by omega), ih k (a + 1) (by omega) (by omega) (by omega) (by omega)]
    unfold blankAt
    by_cases c1 : bt s a ≥ 9 <;> by_cases c2 : bt s a ≤ 13 <;> by_cases c3 : bt s a = 32 <;> simp [c1, c2, c3] <;> omega

theorem refBlank_f (a0 : ByteArray) (hs : a0.size ≤ 140737488351232) (a1 : Int) (k : Nat) (hk : a0.size + 2 ≤ k) : indentureref09_Blank.f k a0 a1 = tab_Blank.f a0 a1 := by
  obtain ⟨k, rfl⟩ : ∃ m, k = m + 1 := ⟨k - 1, by omega⟩
  unfold indentureref09_Blank.f tab_Blank.f
  rw [if_pos hs]
  by_cases h : a1 < 0
  · rw [if_pos h, if_neg (by omega)]; simp [indentureref09_Blank.j0]
  · rw [if_neg h]
    by_cases h2 : a1 > (a0.size : Int)
    · rw [if_neg (by omega)]; simp [indentureref09_Blank.j0, h2]
    · rw [if_pos (by omega)]
      have : decide (a1 > (a0.size : Int)) = false := by simpa using h2
      rw [this]
      simp only [indentureref09_Blank.j0, Bool.false_eq_true, if_false]
      exact refBlank a0 hs _ k a1 (by omega) (by omega) rfl (by omega)

theorem blank_some (a0 : ByteArray) (hs : a0.size ≤ 140737488351232) (a1 : Int) : ∃ r : Bool, tab_Blank.f a0 a1 = some r := by
  unfold tab_Blank.f
  rw [if_pos hs]
  split <;> exact ⟨_, rfl⟩

theorem End_eq (s : ByteArray) (hs : s.size ≤ 140737488351232) (k : Nat) : ∃ r : Int, tab_End.f (k + 1) s = some r ∧ indentureref09_End.f (k + 1) s = some r := by
  have w1 : wrap64 ((s.size : Int) - 1) = (s.size : Int) - 1 := by unfold wrap64; omega
  have w2 : wrap64 ((s.size : Int) - 1 - 1) = (s.size : Int) - 2 := by unfold wrap64; omega
  have w3 : wrap64 ((s.size : Int) - 2) = (s.size : Int) - 2 := by unfold wrap64; omega
  unfold tab_End.f indentureref09_End.f
  simp only [tab_End.j0, indentureref09_End.j0, w1, w2, w3]
  by_cases h0 : s.size = 0
  · simp [h0]
  · have p1 : (s.size : Int) > 0 := by omega
    have p2 : 0 ≤ (s.size : Int) - 1 := by omega
    have p3 : (s.size : Int) - 1 < s.size := by omega
    have p4 : ¬ (s.size : Int) = 0 := by omega
    simp only [if_pos p1, if_pos p2, if_pos p3, if_neg p4]
    by_cases b : bt s ((s.size : Int) - 1) = 10
    · have cb : (bt s ((s.size : Int) - 1) == 10) = true := by simp [b]
      have cb2 : (bt s ((s.size : Int) - 1) != 10) = false := by simp [b]
      simp only [cb, cb2, if_true, Bool.false_eq_true, if_false]
      by_cases h1 : s.size = 1
      · have p5 : ¬ (s.size : Int) - 1 > 0 := by omega
        have p6 : ¬ (s.size : Int) > 1 := by omega
        simp only [if_neg p5, if_neg p6]
        exact ⟨_, rfl, rfl⟩
      · have p5 : (s.size : Int) - 1 > 0 := by omega
        have p6 : (s.size : Int) > 1 := by omega
        have p7 : 0 ≤ (s.size : Int) - 2 := by omega
        have p8 : (s.size : Int) - 2 < s.size := by omega
        simp only [if_pos p5, if_pos p6, if_pos p7, if_pos p8]
        by_cases b2 : bt s ((s.size : Int) - 2) = 13
        · rw [if_pos b2]; exact ⟨_, rfl, rfl⟩
        · rw [if_neg b2]; exact ⟨_, rfl, rfl⟩
    · have cb : (bt s ((s.size : Int) - 1) == 10) = false := by simp [b]
      have cb2 : (bt s ((s.size : Int) - 1) != 10) = true := by simp [b]
      simp only [cb, cb2, if_true, Bool.false_eq_true, if_false]
      exact ⟨_, rfl, rfl⟩

theorem TabEnds : indenturelaw09_TabEnds.Pure := by
  intro a0 a1 hs _
  refine ⟨a0.size + 2 + 9, ?_⟩
  unfold indenturelaw09_TabEnds.f
  rw [refBlank_f a0 hs a1 _ (by omega), wakes_le]
  obtain ⟨r, hr⟩ := blank_some a0 hs a1
  obtain ⟨e, he, he'⟩ := End_eq a0 hs (a0.size + 2 + 8)
  rw [hr, he, he']
  simp

end Go.Proofs.Ytocmjfmojmpclaa.Pure
