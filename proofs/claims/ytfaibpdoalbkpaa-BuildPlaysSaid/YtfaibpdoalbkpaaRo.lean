/- One event's code, plain. -/
import Derived.Test.YtfaibpdoalbkpaaRd
import Derived.Test.YtfaibpdoalbkpaaTp
namespace Go.Proofs.Ytfaibpdoalbkpaa.Bu
open Go.RowKit Go.Proofs.YtfaibpdoalbkpaaW.PrintWords Go.Proofs.YtfaibpdoalbkpaaW.PrintLast Go.Proofs.YtfaibpdoalbkpaaW.PrintMore
attribute [local go_sem] max2_int min2_int max_two min_two max_three min_three max_four min_four
set_option linter.unusedVariables false
set_option linter.unusedSimpArgs false
/-- The code of one event. -/
def oneE (at_ far op : Int) (e : Ev) : Int := soundB at_ far op [e]
theorem sound_bad {at_ : Int} {m : Bl} {e : Ev} {r : List Ev} (h : oneE at_ m.far ((m.O.length : Int) - 1) e ≠ 0) : soundB at_ m.far ((m.O.length : Int) - 1) (e :: r) = oneE at_ m.far ((m.O.length : Int) - 1) e := by
  unfold oneE at h ⊢
  rw [soundB_cons] at h ⊢
  rw [soundB_cons]
  by_cases h1 : e.o < 1 ∨ 3 < e.o
  · rw [if_pos h1, if_pos h1]
  rw [if_neg h1] at h ⊢
  rw [if_neg h1]
  by_cases h2 : Bad at_ m.far e.a
  · rw [if_pos h2, if_pos h2]
  rw [if_neg h2] at h ⊢
  rw [if_neg h2]
  by_cases h3 : e.o = 3
  · rw [if_pos h3] at h ⊢
    rw [if_pos h3]
    by_cases h4 : Bad at_ (at_ + e.a) e.t
    · rw [if_pos h4, if_pos h4]
    rw [if_neg h4] at h
    exact absurd rfl h
  rw [if_neg h3] at h ⊢
  rw [if_neg h3]
  by_cases h5 : e.o = 1
  · rw [if_pos h5] at h
    exact absurd rfl h
  rw [if_neg h5] at h ⊢
  rw [if_neg h5]
  by_cases h6 : (m.O.length : Int) - 1 - 1 < 0
  · rw [if_pos h6, if_pos h6]
  rw [if_neg h6] at h
  exact absurd rfl h
/-- What one event must be, to be right. -/
theorem one_cases {at_ : Int} {m : Bl} {e : Ev} {n : Nat} (ha : 0 ≤ at_ ∧ at_ ≤ 1048576) (hw : WF m n) (h : oneE at_ m.far ((m.O.length : Int) - 1) e = 0) :
    (e.o = 1 ∨ (e.o = 2 ∧ 2 ≤ m.O.length) ∨ e.o = 3) ∧ WF (stepB m (shE at_ e)) (n + 1) := by
  obtain ⟨h1, h2, _⟩ := sound_step (r := []) ha hw h
  exact ⟨h1, h2⟩
theorem sound_good {at_ : Int} {m : Bl} {e : Ev} {r : List Ev} {n : Nat} (ha : 0 ≤ at_ ∧ at_ ≤ 1048576) (hw : WF m n) (h : oneE at_ m.far ((m.O.length : Int) - 1) e = 0) :
    soundB at_ m.far ((m.O.length : Int) - 1) (e :: r) = soundB at_ (stepB m (shE at_ e)).far (((stepB m (shE at_ e)).O.length : Int) - 1) r := by
  unfold oneE at h
  rw [soundB_cons] at h ⊢
  by_cases h1 : e.o < 1 ∨ 3 < e.o
  · rw [if_pos h1] at h; cases h
  rw [if_neg h1] at h ⊢
  by_cases h2 : Bad at_ m.far e.a
  · rw [if_pos h2] at h; cases h
  rw [if_neg h2] at h ⊢
  have hf := hw.f
  have hb : 0 ≤ e.a ∧ at_ + e.a ≤ 1048576 := by unfold Bad at h2; omega
  have hwa : wrap64 (e.a + at_) = at_ + e.a := by rw [← i64_w, Int.add_comm]; exact IntWalk.i64_in _ (by omega)
  by_cases h3 : e.o = 3
  · rw [if_pos h3] at h ⊢
    by_cases h4 : Bad at_ (at_ + e.a) e.t
    · rw [if_pos h4] at h; cases h
    rw [if_neg h4] at h ⊢
    have hb2 : 0 ≤ e.t ∧ at_ + e.t ≤ 1048576 := by unfold Bad at h4; omega
    have hwt : wrap64 (e.t + at_) = at_ + e.t := by rw [← i64_w, Int.add_comm]; exact IntWalk.i64_in _ (by omega)
    have hs : stepB m (shE at_ e) = leafB m (shE at_ e) := by simp [stepB, shE, h3]
    have lf : (leafB m (shE at_ e)).far = at_ + e.t := by simp [leafB, shE, hwt]
    rw [hs, lf, (len_leafB m (shE at_ e)).1]
  rw [if_neg h3] at h ⊢
  by_cases h5 : e.o = 1
  · rw [if_pos h5] at h ⊢
    have hs : stepB m (shE at_ e) = beginB m (shE at_ e) := by simp [stepB, shE, h5]
    have lf : (beginB m (shE at_ e)).far = at_ + e.a := by simp [beginB, shE, hwa]
    rw [hs, lf, (len_beginB m (shE at_ e)).1, show ((m.O.length + 1 : Nat) : Int) - 1 = (m.O.length : Int) - 1 + 1 from by omega]
  rw [if_neg h5] at h ⊢
  by_cases h6 : (m.O.length : Int) - 1 - 1 < 0
  · rw [if_pos h6] at h; cases h
  rw [if_neg h6] at h ⊢
  have h7 : e.o = 2 := by omega
  have hs : stepB m (shE at_ e) = endB m (shE at_ e) := by simp [stepB, shE, h7]
  have lf : (endB m (shE at_ e)).far = at_ + e.a := by simp [endB, shE, hwa]
  rw [hs, lf, (len_endB m (shE at_ e)).1, show ((m.O.length - 1 : Nat) : Int) - 1 = (m.O.length : Int) - 1 - 1 from by omega]
end Go.Proofs.Ytfaibpdoalbkpaa.Bu
