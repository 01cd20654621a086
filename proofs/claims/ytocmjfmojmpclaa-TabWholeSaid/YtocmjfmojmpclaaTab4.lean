/- Plain facts on what tab.over computes (tab_over.go): its bounds, that it may be cut in two, where it stops. No condition beyond those that each lemma names. -/
import Derived.Test.YtocmjfmojmpclaaTab1
namespace Go.Proofs.Ytocmjfmojmpclaa.PTab
open Go.RowKit Go.Proofs.YtocmjfmojmpclaaW.PrintWords Go.Proofs.YtocmjfmojmpclaaW.PrintLast Go.Proofs.YtocmjfmojmpclaaW.PrintMore

abbrev far (z c : Int) : Int := c - c % z + z
theorem far_bd {z c : Int} (hz : 1 ≤ z) (hz' : z ≤ 64) : c < far z c ∧ far z c ≤ c + 64 := by
  have hm1 : c % z < z := Int.emod_lt_of_pos _ (by omega)
  have hm0 : 0 ≤ c % z := Int.emod_nonneg _ (by omega)
  unfold far; omega
theorem far_mod {z c : Int} : far z c % z = 0 := by
  unfold far
  have : c - c % z + z = (c / z + 1) * z := by
    have := Int.mul_ediv_add_emod c z
    rw [Int.add_mul, Int.mul_comm (c / z)]; omega
  rw [this]; exact Int.mul_emod_left _ _

theorem go_bd (s : ByteArray) (w m z : Int) (hz : 1 ≤ z) (hz' : z ≤ 64) : ∀ (d : Nat) (a c : Int),
    a ≤ (tab_over.go d s a c w m z).1 ∧ (tab_over.go d s a c w m z).1 ≤ a + d ∧ c ≤ (tab_over.go d s a c w m z).2 ∧ (tab_over.go d s a c w m z).2 ≤ c + 64 * d ∧ (0 ≤ w → c ≤ m → (tab_over.go d s a c w m z).2 ≤ m) := by
  intro d
  induction d with
  | zero => intro a c; simp only [tab_over.go]; refine ⟨?_, ?_, ?_, ?_, ?_⟩ <;> omega
  | succ d ih =>
    intro a c
    have hb := far_bd (c := c) hz hz'
    simp only [tab_over.go]
    by_cases b1 : bt s a = 32
    · rw [if_pos b1]
      by_cases cs : 0 ≤ w ∧ m < c + 1
      · rw [if_pos cs]; refine ⟨?_, ?_, ?_, ?_, ?_⟩ <;> omega
      · rw [if_neg cs]
        obtain ⟨h1, h2, h3, h4, h5⟩ := ih (a + 1) (c + 1)
        refine ⟨by omega, by omega, by omega, by omega, fun hw hm => h5 hw (by omega)⟩
    · rw [if_neg b1]
      by_cases b2 : bt s a = 9
      · rw [if_pos b2]
        unfold far at hb
        by_cases cs : 0 ≤ w ∧ m < c - c % z + z
        · rw [if_pos cs]; refine ⟨?_, ?_, ?_, ?_, ?_⟩ <;> omega
        · rw [if_neg cs]
          obtain ⟨h1, h2, h3, h4, h5⟩ := ih (a + 1) (c - c % z + z)
          refine ⟨by omega, by omega, by omega, by omega, fun hw hm => h5 hw (by omega)⟩
      · rw [if_neg b2]; refine ⟨?_, ?_, ?_, ?_, ?_⟩ <;> omega

/-- With a bound far enough away it is as without one. -/
theorem go_free (s : ByteArray) (w m m' z : Int) (hz : 1 ≤ z) (hz' : z ≤ 64) : ∀ (d : Nat) (a c : Int), c + 64 * d ≤ m →
    tab_over.go d s a c w m z = tab_over.go d s a c (-1) m' z := by
  intro d
  induction d with
  | zero => intro a c _; simp only [tab_over.go]
  | succ d ih =>
    intro a c h
    have hb := far_bd (c := c) hz hz'
    simp only [tab_over.go]
    by_cases b1 : bt s a = 32
    · rw [if_pos b1, if_pos b1, if_neg (by omega), if_neg (by omega)]
      exact ih _ _ (by omega)
    · rw [if_neg b1, if_neg b1]
      by_cases b2 : bt s a = 9
      · rw [if_pos b2, if_pos b2, if_neg (by unfold far at hb; omega), if_neg (by omega)]
        exact ih _ _ (by unfold far at hb; omega)
      · rw [if_neg b2, if_neg b2]

/-- From where it stopped it goes on to where it comes to without a bound. -/
theorem go_cut (s : ByteArray) (w m m' z : Int) : ∀ (d : Nat) (a c : Int),
    ∃ e : Nat, (tab_over.go d s a c w m z).1 + e = a + d ∧ tab_over.go e s (tab_over.go d s a c w m z).1 (tab_over.go d s a c w m z).2 (-1) m' z = tab_over.go d s a c (-1) m' z := by
  intro d
  induction d with
  | zero => intro a c; exact ⟨0, rfl, rfl⟩
  | succ d ih =>
    intro a c
    by_cases b1 : bt s a = 32
    · by_cases cs : 0 ≤ w ∧ m < c + 1
      · have e0 : tab_over.go (d + 1) s a c w m z = (a, c) := by simp only [tab_over.go]; rw [if_pos b1, if_pos cs]
        rw [e0]; exact ⟨d + 1, rfl, rfl⟩
      · have e0 : tab_over.go (d + 1) s a c w m z = tab_over.go d s (a + 1) (c + 1) w m z := by simp only [tab_over.go]; rw [if_pos b1, if_neg cs]
        have e1 : tab_over.go (d + 1) s a c (-1) m' z = tab_over.go d s (a + 1) (c + 1) (-1) m' z := by simp only [tab_over.go]; rw [if_pos b1, if_neg (by omega)]
        obtain ⟨e, h1, h2⟩ := ih (a + 1) (c + 1)
        rw [e0, e1]; exact ⟨e, by omega, h2⟩
    · by_cases b2 : bt s a = 9
      · by_cases cs : 0 ≤ w ∧ m < c - c % z + z
        · have e0 : tab_over.go (d + 1) s a c w m z = (a, c) := by simp only [tab_over.go]; rw [if_neg b1, if_pos b2, if_pos cs]
          rw [e0]; exact ⟨d + 1, rfl, rfl⟩
        · have e0 : tab_over.go (d + 1) s a c w m z = tab_over.go d s (a + 1) (c - c % z + z) w m z := by simp only [tab_over.go]; rw [if_neg b1, if_pos b2, if_neg cs]
          have e1 : tab_over.go (d + 1) s a c (-1) m' z = tab_over.go d s (a + 1) (c - c % z + z) (-1) m' z := by simp only [tab_over.go]; rw [if_neg b1, if_pos b2, if_neg (by omega)]
          obtain ⟨e, h1, h2⟩ := ih (a + 1) (c - c % z + z)
          rw [e0, e1]; exact ⟨e, by omega, h2⟩
      · have e0 : tab_over.go (d + 1) s a c w m z = (a, c) := by simp only [tab_over.go]; rw [if_neg b1, if_neg b2]
        rw [e0]; exact ⟨d + 1, rfl, rfl⟩

/-- Why it stopped: at a blank that would go too far, if it stopped ahead of the blanks' end. -/
theorem go_stop (s : ByteArray) (w m m' z : Int) : ∀ (d : Nat) (a c : Int), (tab_over.go d s a c w m z).1 < (tab_over.go d s a c (-1) m' z).1 →
    (bt s (tab_over.go d s a c w m z).1 = 32 ∧ m < (tab_over.go d s a c w m z).2 + 1) ∨ (¬ bt s (tab_over.go d s a c w m z).1 = 32 ∧ bt s (tab_over.go d s a c w m z).1 = 9) := by
  intro d
  induction d with
  | zero => intro a c h; simp [tab_over.go] at h
  | succ d ih =>
    intro a c h
    by_cases b1 : bt s a = 32
    · by_cases cs : 0 ≤ w ∧ m < c + 1
      · have e0 : tab_over.go (d + 1) s a c w m z = (a, c) := by simp only [tab_over.go]; rw [if_pos b1, if_pos cs]
        rw [e0]; exact .inl ⟨b1, cs.2⟩
      · have e0 : tab_over.go (d + 1) s a c w m z = tab_over.go d s (a + 1) (c + 1) w m z := by simp only [tab_over.go]; rw [if_pos b1, if_neg cs]
        have e1 : tab_over.go (d + 1) s a c (-1) m' z = tab_over.go d s (a + 1) (c + 1) (-1) m' z := by simp only [tab_over.go]; rw [if_pos b1, if_neg (by omega)]
        rw [e0, e1] at h
        rw [e0]; exact ih _ _ h
    · by_cases b2 : bt s a = 9
      · by_cases cs : 0 ≤ w ∧ m < c - c % z + z
        · have e0 : tab_over.go (d + 1) s a c w m z = (a, c) := by simp only [tab_over.go]; rw [if_neg b1, if_pos b2, if_pos cs]
          rw [e0]; exact .inr ⟨b1, b2⟩
        · have e0 : tab_over.go (d + 1) s a c w m z = tab_over.go d s (a + 1) (c - c % z + z) w m z := by simp only [tab_over.go]; rw [if_neg b1, if_pos b2, if_neg cs]
          have e1 : tab_over.go (d + 1) s a c (-1) m' z = tab_over.go d s (a + 1) (c - c % z + z) (-1) m' z := by simp only [tab_over.go]; rw [if_neg b1, if_pos b2, if_neg (by omega)]
          rw [e0, e1] at h
          rw [e0]; exact ih _ _ h
      · have e0 : tab_over.go (d + 1) s a c w m z = (a, c) := by simp only [tab_over.go]; rw [if_neg b1, if_neg b2]
        have e1 : tab_over.go (d + 1) s a c (-1) m' z = (a, c) := by simp only [tab_over.go]; rw [if_neg b1, if_neg b2]
        rw [e0, e1] at h
        exact absurd h (Int.lt_irrefl _)

/-- Behind a tab it stands at a column that the size divides. -/
theorem go_tab (s : ByteArray) (w m z : Int) (hz : 1 ≤ z) (hz' : z ≤ 64) : ∀ (d : Nat) (a c : Int), a < (tab_over.go d s a c w m z).1 → bt s ((tab_over.go d s a c w m z).1 - 1) = 9 → (tab_over.go d s a c w m z).2 % z = 0 := by
  intro d
  induction d with
  | zero => intro a c h; simp [tab_over.go] at h
  | succ d ih =>
    intro a c h hb
    by_cases b1 : bt s a = 32
    · by_cases cs : 0 ≤ w ∧ m < c + 1
      · have e0 : tab_over.go (d + 1) s a c w m z = (a, c) := by simp only [tab_over.go]; rw [if_pos b1, if_pos cs]
        rw [e0] at h; exact absurd h (Int.lt_irrefl _)
      · have e0 : tab_over.go (d + 1) s a c w m z = tab_over.go d s (a + 1) (c + 1) w m z := by simp only [tab_over.go]; rw [if_pos b1, if_neg cs]
        rw [e0] at h hb ⊢
        by_cases hl : a + 1 < (tab_over.go d s (a + 1) (c + 1) w m z).1
        · exact ih _ _ hl hb
        · have := (go_bd s w m z hz hz' d (a + 1) (c + 1)).1
          have e : (tab_over.go d s (a + 1) (c + 1) w m z).1 - 1 = a := by omega
          rw [e, b1] at hb; omega
    · by_cases b2 : bt s a = 9
      · by_cases cs : 0 ≤ w ∧ m < c - c % z + z
        · have e0 : tab_over.go (d + 1) s a c w m z = (a, c) := by simp only [tab_over.go]; rw [if_neg b1, if_pos b2, if_pos cs]
          rw [e0] at h; exact absurd h (Int.lt_irrefl _)
        · have e0 : tab_over.go (d + 1) s a c w m z = tab_over.go d s (a + 1) (c - c % z + z) w m z := by simp only [tab_over.go]; rw [if_neg b1, if_pos b2, if_neg cs]
          rw [e0] at h hb ⊢
          by_cases hl : a + 1 < (tab_over.go d s (a + 1) (c - c % z + z) w m z).1
          · exact ih _ _ hl hb
          · have hbd := go_bd s w m z hz hz' d (a + 1) (c - c % z + z)
            have e : (tab_over.go d s (a + 1) (c - c % z + z) w m z).1 = a + 1 := by omega
            -- nothing was gone over behind the tab
            cases d with
            | zero => exact far_mod
            | succ d =>
              by_cases b3 : bt s (a + 1) = 32
              · by_cases cs3 : 0 ≤ w ∧ m < c - c % z + z + 1
                · have e3 : tab_over.go (d + 1) s (a + 1) (c - c % z + z) w m z = (a + 1, c - c % z + z) := by simp only [tab_over.go]; rw [if_pos b3, if_pos cs3]
                  rw [e3]; exact far_mod
                · have e3 : tab_over.go (d + 1) s (a + 1) (c - c % z + z) w m z = tab_over.go d s (a + 1 + 1) (c - c % z + z + 1) w m z := by simp only [tab_over.go]; rw [if_pos b3, if_neg cs3]
                  have := (go_bd s w m z hz hz' d (a + 1 + 1) (c - c % z + z + 1)).1
                  rw [e3] at e; omega
              · by_cases b4 : bt s (a + 1) = 9
                · by_cases cs4 : 0 ≤ w ∧ m < c - c % z + z - (c - c % z + z) % z + z
                  · have e3 : tab_over.go (d + 1) s (a + 1) (c - c % z + z) w m z = (a + 1, c - c % z + z) := by simp only [tab_over.go]; rw [if_neg b3, if_pos b4, if_pos cs4]
                    rw [e3]; exact far_mod
                  · have e3 : tab_over.go (d + 1) s (a + 1) (c - c % z + z) w m z = tab_over.go d s (a + 1 + 1) (c - c % z + z - (c - c % z + z) % z + z) w m z := by simp only [tab_over.go]; rw [if_neg b3, if_pos b4, if_neg cs4]
                    have := (go_bd s w m z hz hz' d (a + 1 + 1) (c - c % z + z - (c - c % z + z) % z + z)).1
                    rw [e3] at e; omega
                · have e3 : tab_over.go (d + 1) s (a + 1) (c - c % z + z) w m z = (a + 1, c - c % z + z) := by simp only [tab_over.go]; rw [if_neg b3, if_neg b4]
                  rw [e3]; exact far_mod
      · have e0 : tab_over.go (d + 1) s a c w m z = (a, c) := by simp only [tab_over.go]; rw [if_neg b1, if_neg b2]
        rw [e0] at h; exact absurd h (Int.lt_irrefl _)

/-- Without a bound it stops at the text's end, or at what is no blank. -/
theorem go_end (s : ByteArray) (m z : Int) : ∀ (d : Nat) (a c : Int), (tab_over.go d s a c (-1) m z).1 = a + d ∨ (¬ bt s (tab_over.go d s a c (-1) m z).1 = 32 ∧ ¬ bt s (tab_over.go d s a c (-1) m z).1 = 9) := by
  intro d
  induction d with
  | zero => intro a c; exact .inl (by simp [tab_over.go])
  | succ d ih =>
    intro a c
    by_cases b1 : bt s a = 32
    · have e1 : tab_over.go (d + 1) s a c (-1) m z = tab_over.go d s (a + 1) (c + 1) (-1) m z := by simp only [tab_over.go]; rw [if_pos b1, if_neg (by omega)]
      rw [e1]
      rcases ih (a + 1) (c + 1) with h | h
      · exact .inl (by omega)
      · exact .inr h
    · by_cases b2 : bt s a = 9
      · have e1 : tab_over.go (d + 1) s a c (-1) m z = tab_over.go d s (a + 1) (c - c % z + z) (-1) m z := by simp only [tab_over.go]; rw [if_neg b1, if_pos b2, if_neg (by omega)]
        rw [e1]
        rcases ih (a + 1) (c - c % z + z) with h | h
        · exact .inl (by omega)
        · exact .inr h
      · have e1 : tab_over.go (d + 1) s a c (-1) m z = (a, c) := by simp only [tab_over.go]; rw [if_neg b1, if_neg b2]
        rw [e1]; exact .inr ⟨b1, b2⟩

/-- A blank is gone over, if there is room for a tab. -/
theorem go_first (s : ByteArray) (w m z : Int) (hz : 1 ≤ z) (hz' : z ≤ 64) (d : Nat) (a c : Int) (h : bt s a = 32 ∨ bt s a = 9) (hm : c + 64 ≤ m) :
    a < (tab_over.go (d + 1) s a c w m z).1 ∧ c < (tab_over.go (d + 1) s a c w m z).2 := by
  have hb := far_bd (c := c) hz hz'
  unfold far at hb
  by_cases b1 : bt s a = 32
  · have e1 : tab_over.go (d + 1) s a c w m z = tab_over.go d s (a + 1) (c + 1) w m z := by simp only [tab_over.go]; rw [if_pos b1, if_neg (by omega)]
    have := go_bd s w m z hz hz' d (a + 1) (c + 1)
    rw [e1]; omega
  · have b2 : bt s a = 9 := by omega
    have e1 : tab_over.go (d + 1) s a c w m z = tab_over.go d s (a + 1) (c - c % z + z) w m z := by simp only [tab_over.go]; rw [if_neg b1, if_pos b2, if_neg (by omega)]
    have := go_bd s w m z hz hz' d (a + 1) (c - c % z + z)
    rw [e1]; omega

end Go.Proofs.Ytocmjfmojmpclaa.PTab
