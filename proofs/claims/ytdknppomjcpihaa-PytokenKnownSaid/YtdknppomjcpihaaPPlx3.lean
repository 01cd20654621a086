-- written by inject.py, a program of the session's, over the translation's print
import Derived.Test.YtdknppomjcpihaaPPlx0
import Derived.Test.YtdknppomjcpihaaPPlx2
namespace Go.Proofs.Ytdknppomjcpihaa.PPl
open Go.RowKit Go.Proofs.YtdknppomjcpihaaW.PrintWords Go.Proofs.YtdknppomjcpihaaW.PrintLast Go.Proofs.YtdknppomjcpihaaW.PrintMore
attribute [local go_sem] max2_int min2_int max_two min_two max_three min_three max_four min_four   -- for this text's walks alone
set_option linter.unusedVariables false
set_option linter.unusedSimpArgs false

/-! ### indentureref11_number: function 32 -/
mutual
def indentureref11_number.j0 : Nat → ByteArray → Int → Bool → Option (Int)
  | 0, _, _, _ => none
  | k + 1, x0, x1, x5 => indentureref11_number.l0 k x0 x5 (wrap64 (x1 + 1))
def indentureref11_number.l0 : Nat → ByteArray → Bool → Int → Option (Int)
  | 0, _, _, _ => none
  | k + 1, x0, x5, x6 => if x6 < (x0.size : Int) then (if 0 ≤ x6 then (if x5 = true then (if (bt x0 x6) = 43 then (if 0 ≤ (wrap64 (x6 - 1)) then (if (wrap64 (x6 - 1)) < (x0.size : Int) then (if (bt x0 (wrap64 (x6 - 1))) = 101 then (indentureref11_number.j2 k x0 x5 x6 (bt x0 x6) true) else (indentureref11_number.j2 k x0 x5 x6 (bt x0 x6) ((bt x0 (wrap64 (x6 - 1))) == 69))) else (none)) else (none)) else (if (bt x0 x6) = 45 then (if 0 ≤ (wrap64 (x6 - 1)) then (if (wrap64 (x6 - 1)) < (x0.size : Int) then (if (bt x0 (wrap64 (x6 - 1))) = 101 then (indentureref11_number.j2 k x0 x5 x6 (bt x0 x6) true) else (indentureref11_number.j2 k x0 x5 x6 (bt x0 x6) ((bt x0 (wrap64 (x6 - 1))) == 69))) else (none)) else (none)) else (indentureref11_number.j2 k x0 x5 x6 (bt x0 x6) false))) else (indentureref11_number.j2 k x0 x5 x6 (bt x0 x6) false)) else (none)) else (some x6)
def indentureref11_number.j2 : Nat → ByteArray → Bool → Int → Int → Bool → Option (Int)
  | 0, _, _, _, _, _ => none
  | k + 1, x0, x5, x6, x7, x8 => (indentureref11_Letter.f x7).bind fun t132 => (if t132 = true then (if x7 < 128 then (indentureref11_number.l0 k x0 x5 (wrap64 (x6 + 1))) else ((indentureref11_Digit.f x7).bind fun t133 => (if t133 = true then (indentureref11_number.l0 k x0 x5 (wrap64 (x6 + 1))) else (if x7 = 46 then (indentureref11_number.l0 k x0 x5 (wrap64 (x6 + 1))) else (if x8 = true then (indentureref11_number.l0 k x0 x5 (wrap64 (x6 + 1))) else (some x6)))))) else ((indentureref11_Digit.f x7).bind fun t134 => (if t134 = true then (indentureref11_number.l0 k x0 x5 (wrap64 (x6 + 1))) else (if x7 = 46 then (indentureref11_number.l0 k x0 x5 (wrap64 (x6 + 1))) else (if x8 = true then (indentureref11_number.l0 k x0 x5 (wrap64 (x6 + 1))) else (some x6))))))
end
def indentureref11_number.f (k : Nat) (a0 : ByteArray) (a1 : Int) : Option (Int) := if (wrap64 (a1 + 1)) < (a0.size : Int) then (if 0 ≤ (wrap64 (a1 + 1)) then (if (bt a0 (wrap64 (a1 + 1))) = 120 then (indentureref11_number.j0 k a0 a1 false) else (if (bt a0 (wrap64 (a1 + 1))) = 88 then (indentureref11_number.j0 k a0 a1 false) else (if (bt a0 (wrap64 (a1 + 1))) = 98 then (indentureref11_number.j0 k a0 a1 false) else (if (bt a0 (wrap64 (a1 + 1))) = 66 then (indentureref11_number.j0 k a0 a1 false) else (if (bt a0 (wrap64 (a1 + 1))) = 111 then (indentureref11_number.j0 k a0 a1 false) else (if (bt a0 (wrap64 (a1 + 1))) = 79 then (indentureref11_number.j0 k a0 a1 false) else (indentureref11_number.j0 k a0 a1 true))))))) else (none)) else (indentureref11_number.j0 k a0 a1 true)
theorem indentureref11_number.mono_l : ∀ k, (∀ y0 y1 y2, LeO (indentureref11_number.j0 k y0 y1 y2) (indentureref11_number.j0 (k + 1) y0 y1 y2)) ∧ (∀ y0 y1 y2, LeO (indentureref11_number.l0 k y0 y1 y2) (indentureref11_number.l0 (k + 1) y0 y1 y2)) ∧ (∀ y0 y1 y2 y3 y4, LeO (indentureref11_number.j2 k y0 y1 y2 y3 y4) (indentureref11_number.j2 (k + 1) y0 y1 y2 y3 y4))
  | 0 => ⟨fun _ _ _ r h => by simp [indentureref11_number.j0] at h, fun _ _ _ r h => by simp [indentureref11_number.l0] at h, fun _ _ _ _ _ r h => by simp [indentureref11_number.j2] at h⟩
  | k + 1 => by
    obtain ⟨ih0, ih1, ih2⟩ := indentureref11_number.mono_l k
    refine ⟨?_, ?_, ?_⟩
    · intro y0 y1 y2
      unfold indentureref11_number.j0
      repeat' first
      | (with_reducible exact ih0 _ _ _)
      | (with_reducible exact ih1 _ _ _)
      | (with_reducible exact ih2 _ _ _ _ _)
      | (with_reducible exact LeO.refl _)
      | (with_reducible exact LeO.none _)
      | (with_reducible refine LeO.ite ?_ ?_)
      | (with_reducible refine LeO.bind ?_ (fun _ => ?_))
      | exact ih0 _ _ _
      | exact ih1 _ _ _
      | exact ih2 _ _ _ _ _
      | exact LeO.none _
      | refine LeO.ite ?_ ?_
      | refine LeO.bind ?_ (fun _ => ?_)
    · intro y0 y1 y2
      unfold indentureref11_number.l0
      repeat' first
      | (with_reducible exact ih0 _ _ _)
      | (with_reducible exact ih1 _ _ _)
      | (with_reducible exact ih2 _ _ _ _ _)
      | (with_reducible exact LeO.refl _)
      | (with_reducible exact LeO.none _)
      | (with_reducible refine LeO.ite ?_ ?_)
      | (with_reducible refine LeO.bind ?_ (fun _ => ?_))
      | exact ih0 _ _ _
      | exact ih1 _ _ _
      | exact ih2 _ _ _ _ _
      | exact LeO.none _
      | refine LeO.ite ?_ ?_
      | refine LeO.bind ?_ (fun _ => ?_)
    · intro y0 y1 y2 y3 y4
      unfold indentureref11_number.j2
      repeat' first
      | (with_reducible exact ih0 _ _ _)
      | (with_reducible exact ih1 _ _ _)
      | (with_reducible exact ih2 _ _ _ _ _)
      | (with_reducible exact LeO.refl _)
      | (with_reducible exact LeO.none _)
      | (with_reducible refine LeO.ite ?_ ?_)
      | (with_reducible refine LeO.bind ?_ (fun _ => ?_))
      | exact ih0 _ _ _
      | exact ih1 _ _ _
      | exact ih2 _ _ _ _ _
      | exact LeO.none _
      | refine LeO.ite ?_ ?_
      | refine LeO.bind ?_ (fun _ => ?_)
theorem indentureref11_number.mono : ∀ a0 a1 k, LeO (indentureref11_number.f k a0 a1) (indentureref11_number.f (k + 1) a0 a1) := by
  intro a0 a1 k
  obtain ⟨ih0, ih1, ih2⟩ := indentureref11_number.mono_l k
  unfold indentureref11_number.f
  repeat' first
      | (with_reducible exact ih0 _ _ _)
      | (with_reducible exact ih1 _ _ _)
      | (with_reducible exact ih2 _ _ _ _ _)
      | (with_reducible exact LeO.refl _)
      | (with_reducible exact LeO.none _)
      | (with_reducible refine LeO.ite ?_ ?_)
      | (with_reducible refine LeO.bind ?_ (fun _ => ?_))
      | exact ih0 _ _ _
      | exact ih1 _ _ _
      | exact ih2 _ _ _ _ _
      | exact LeO.none _
      | refine LeO.ite ?_ ?_
      | refine LeO.bind ?_ (fun _ => ?_)
set_option maxHeartbeats 8000000 in
set_option maxRecDepth 100000 in
theorem indentureref11_number.calls (k : Nat) (a0 : ByteArray) (a1 : Int) (r : Int) (w : World) (h : indentureref11_number.f k a0 a1 = some r) :
    Calls Try.prog 32 #[.string a0, .int .i64 a1] w fun e w' => e = .returned (.int .i64 r) ∧ Drawn0 w w' := by
  have H : (if (wrap64 (a1 + 1)) < (a0.size : Int) then (if 0 ≤ (wrap64 (a1 + 1)) then (if (bt a0 (wrap64 (a1 + 1))) = 120 then (indentureref11_number.j0 k a0 a1 false) else (if (bt a0 (wrap64 (a1 + 1))) = 88 then (indentureref11_number.j0 k a0 a1 false) else (if (bt a0 (wrap64 (a1 + 1))) = 98 then (indentureref11_number.j0 k a0 a1 false) else (if (bt a0 (wrap64 (a1 + 1))) = 66 then (indentureref11_number.j0 k a0 a1 false) else (if (bt a0 (wrap64 (a1 + 1))) = 111 then (indentureref11_number.j0 k a0 a1 false) else (if (bt a0 (wrap64 (a1 + 1))) = 79 then (indentureref11_number.j0 k a0 a1 false) else (indentureref11_number.j0 k a0 a1 true))))))) else (none)) else (indentureref11_number.j0 k a0 a1 true)) = some r := h
  clear h
  have HC3 := Aside0.mk H
  clear H
  go_enter Try.func32, Try.ntmps32
  go_upto_if 13 with (fail)
  go_cut [5] (fun v5 wc => ∃ (kq : Nat) (x5_2 : Bool), v5 = .bool x5_2 ∧ Aside0 (indentureref11_number.j0 kq a0 a1 x5_2 = some r) ∧ Aside0 (kq ≤ k) ∧ Drawn0 w wc)
  case first =>
    have H := HC3.out
    clear HC3
    by_cases c4 : (wrap64 (a1 + 1)) < (a0.size : Int)
    · rw [if_pos c4] at H
      have c4b0 : decide ((wrap64 (a1 + 1)) < (a0.size : Int)) = true := decide_eq_true c4
      clear c4
      (first | rw [c4b0] | (simp only [i64_w, i32_w]; rw [c4b0]) | skip)
      obtain ⟨ji5, hji5⟩ : ∃ j_ : Int, (wrap64 (a1 + 1)) = j_ := ⟨_, rfl⟩
      replace H : (if 0 ≤ (ji5) then (if (bt a0 (ji5)) = 120 then (indentureref11_number.j0 k a0 a1 false) else (if (bt a0 (ji5)) = 88 then (indentureref11_number.j0 k a0 a1 false) else (if (bt a0 (ji5)) = 98 then (indentureref11_number.j0 k a0 a1 false) else (if (bt a0 (ji5)) = 66 then (indentureref11_number.j0 k a0 a1 false) else (if (bt a0 (ji5)) = 111 then (indentureref11_number.j0 k a0 a1 false) else (if (bt a0 (ji5)) = 79 then (indentureref11_number.j0 k a0 a1 false) else (indentureref11_number.j0 k a0 a1 true))))))) else (none)) = some r := by first | (rw [hji5] at H; exact H) | (simp only [hji5] at H ⊢; exact H)
      (try rw [hji5] at c4b0)
      have hji5w : (IntKind.i64.wrap (a1 + 1)) = ji5 := (i64_w _).trans hji5
      by_cases c6 : 0 ≤ (ji5)
      · rw [if_pos c6] at H
        have c6b0 : decide (0 ≤ (ji5)) = true := decide_eq_true c6
        clear c6
        by_cases c8 : (bt a0 (ji5)) = 120
        · rw [if_pos c8] at H
          have c8b0 : ((bt a0 (ji5)) == 120) = true := beq_iff_eq.mpr c8
          have c8b1 : ((bt a0 (ji5)) != 120) = false := bne_eq_false_iff_eq.mpr c8
          clear c8
          have H' := Aside0.mk H
          clear H
          have p7 : 0 ≤ ((ji5) : Int) := of_decide_eq_true (by first | (with_reducible assumption) | assumption)
          have q7 : (ji5) < (a0.size : Int) := of_decide_eq_true (by first | (with_reducible assumption) | assumption)
          have hx7 := bt_at a0 (ji5)
          replace p7 := eq_true p7
          replace q7 := eq_true q7
          go_wp2
          go_meet
          case rel => exact ⟨_, (false), (by first | rfl | (simp; done) | (simp [*]; done)), H', ⟨by first | omega | exact Nat.le_refl _⟩, by repeat (first | exact Drawn0.refl _ | apply Drawn0.step)⟩
        · rw [if_neg c8] at H
          have c8b0 : ((bt a0 (ji5)) == 120) = false := beq_eq_false_iff_ne.mpr c8
          have c8b1 : ((bt a0 (ji5)) != 120) = true := bne_iff_ne.mpr c8
          by_cases c9 : (bt a0 (ji5)) = 88
          · rw [if_pos c9] at H
            have c9b0 : ((bt a0 (ji5)) == 88) = true := beq_iff_eq.mpr c9
            have c9b1 : ((bt a0 (ji5)) != 88) = false := bne_eq_false_iff_eq.mpr c9
            clear c9
            have H' := Aside0.mk H
            clear H
            have p7 : 0 ≤ ((ji5) : Int) := of_decide_eq_true (by first | (with_reducible assumption) | assumption)
            have q7 : (ji5) < (a0.size : Int) := of_decide_eq_true (by first | (with_reducible assumption) | assumption)
            have hx7 := bt_at a0 (ji5)
            replace p7 := eq_true p7
            replace q7 := eq_true q7
            go_wp2
            go_meet
            case rel => exact ⟨_, (false), (by first | rfl | (simp; done) | (simp [*]; done)), H', ⟨by first | omega | exact Nat.le_refl _⟩, by repeat (first | exact Drawn0.refl _ | apply Drawn0.step)⟩
          · rw [if_neg c9] at H
            have c9b0 : ((bt a0 (ji5)) == 88) = false := beq_eq_false_iff_ne.mpr c9
            have c9b1 : ((bt a0 (ji5)) != 88) = true := bne_iff_ne.mpr c9
            by_cases c10 : (bt a0 (ji5)) = 98
            · rw [if_pos c10] at H
              have c10b0 : ((bt a0 (ji5)) == 98) = true := beq_iff_eq.mpr c10
              have c10b1 : ((bt a0 (ji5)) != 98) = false := bne_eq_false_iff_eq.mpr c10
              clear c10
              have H' := Aside0.mk H
              clear H
              have p7 : 0 ≤ ((ji5) : Int) := of_decide_eq_true (by first | (with_reducible assumption) | assumption)
              have q7 : (ji5) < (a0.size : Int) := of_decide_eq_true (by first | (with_reducible assumption) | assumption)
              have hx7 := bt_at a0 (ji5)
              replace p7 := eq_true p7
              replace q7 := eq_true q7
              go_wp2
              go_meet
              case rel => exact ⟨_, (false), (by first | rfl | (simp; done) | (simp [*]; done)), H', ⟨by first | omega | exact Nat.le_refl _⟩, by repeat (first | exact Drawn0.refl _ | apply Drawn0.step)⟩
            · rw [if_neg c10] at H
              have c10b0 : ((bt a0 (ji5)) == 98) = false := beq_eq_false_iff_ne.mpr c10
              have c10b1 : ((bt a0 (ji5)) != 98) = true := bne_iff_ne.mpr c10
              by_cases c11 : (bt a0 (ji5)) = 66
              · rw [if_pos c11] at H
                have c11b0 : ((bt a0 (ji5)) == 66) = true := beq_iff_eq.mpr c11
                have c11b1 : ((bt a0 (ji5)) != 66) = false := bne_eq_false_iff_eq.mpr c11
                clear c11
                have H' := Aside0.mk H
                clear H
                have p7 : 0 ≤ ((ji5) : Int) := of_decide_eq_true (by first | (with_reducible assumption) | assumption)
                have q7 : (ji5) < (a0.size : Int) := of_decide_eq_true (by first | (with_reducible assumption) | assumption)
                have hx7 := bt_at a0 (ji5)
                replace p7 := eq_true p7
                replace q7 := eq_true q7
                go_wp2
                go_meet
                case rel => exact ⟨_, (false), (by first | rfl | (simp; done) | (simp [*]; done)), H', ⟨by first | omega | exact Nat.le_refl _⟩, by repeat (first | exact Drawn0.refl _ | apply Drawn0.step)⟩
              · rw [if_neg c11] at H
                have c11b0 : ((bt a0 (ji5)) == 66) = false := beq_eq_false_iff_ne.mpr c11
                have c11b1 : ((bt a0 (ji5)) != 66) = true := bne_iff_ne.mpr c11
                by_cases c12 : (bt a0 (ji5)) = 111
                · rw [if_pos c12] at H
                  have c12b0 : ((bt a0 (ji5)) == 111) = true := beq_iff_eq.mpr c12
                  have c12b1 : ((bt a0 (ji5)) != 111) = false := bne_eq_false_iff_eq.mpr c12
                  clear c12
                  have H' := Aside0.mk H
                  clear H
                  have p7 : 0 ≤ ((ji5) : Int) := of_decide_eq_true (by first | (with_reducible assumption) | assumption)
                  have q7 : (ji5) < (a0.size : Int) := of_decide_eq_true (by first | (with_reducible assumption) | assumption)
                  have hx7 := bt_at a0 (ji5)
                  replace p7 := eq_true p7
                  replace q7 := eq_true q7
                  go_wp2
                  go_meet
                  case rel => exact ⟨_, (false), (by first | rfl | (simp; done) | (simp [*]; done)), H', ⟨by first | omega | exact Nat.le_refl _⟩, by repeat (first | exact Drawn0.refl _ | apply Drawn0.step)⟩
                · rw [if_neg c12] at H
                  have c12b0 : ((bt a0 (ji5)) == 111) = false := beq_eq_false_iff_ne.mpr c12
                  have c12b1 : ((bt a0 (ji5)) != 111) = true := bne_iff_ne.mpr c12
                  by_cases c13 : (bt a0 (ji5)) = 79
                  · rw [if_pos c13] at H
                    have c13b0 : ((bt a0 (ji5)) == 79) = true := beq_iff_eq.mpr c13
                    have c13b1 : ((bt a0 (ji5)) != 79) = false := bne_eq_false_iff_eq.mpr c13
                    clear c13
                    have H' := Aside0.mk H
                    clear H
                    have p7 : 0 ≤ ((ji5) : Int) := of_decide_eq_true (by first | (with_reducible assumption) | assumption)
                    have q7 : (ji5) < (a0.size : Int) := of_decide_eq_true (by first | (with_reducible assumption) | assumption)
                    have hx7 := bt_at a0 (ji5)
                    replace p7 := eq_true p7
                    replace q7 := eq_true q7
                    go_wp2
                    go_meet
                    case rel => exact ⟨_, (false), (by first | rfl | (simp; done) | (simp [*]; done)), H', ⟨by first | omega | exact Nat.le_refl _⟩, by repeat (first | exact Drawn0.refl _ | apply Drawn0.step)⟩
                  · rw [if_neg c13] at H
                    have c13b0 : ((bt a0 (ji5)) == 79) = false := beq_eq_false_iff_ne.mpr c13
                    have c13b1 : ((bt a0 (ji5)) != 79) = true := bne_iff_ne.mpr c13
                    have H' := Aside0.mk H
                    clear H
                    have p7 : 0 ≤ ((ji5) : Int) := of_decide_eq_true (by first | (with_reducible assumption) | assumption)
                    have q7 : (ji5) < (a0.size : Int) := of_decide_eq_true (by first | (with_reducible assumption) | assumption)
                    have hx7 := bt_at a0 (ji5)
                    replace p7 := eq_true p7
                    replace q7 := eq_true q7
                    go_wp2
                    go_meet
                    case rel => exact ⟨_, (true), (by first | rfl | (simp; done) | (simp [*]; done)), H', ⟨by first | omega | exact Nat.le_refl _⟩, by repeat (first | exact Drawn0.refl _ | apply Drawn0.step)⟩
      · rw [if_neg c6] at H
        exact absurd H (by simp)
    · rw [if_neg c4] at H
      have c4b0 : decide ((wrap64 (a1 + 1)) < (a0.size : Int)) = false := decide_eq_false c4
      clear c4
      (first | rw [c4b0] | (simp only [i64_w, i32_w]; rw [c4b0]) | skip)
      have H' := Aside0.mk H
      clear H
      go_wp2
      go_meet
      case rel => exact ⟨_, (true), (by first | rfl | (simp; done) | (simp [*]; done)), H', ⟨by first | omega | exact Nat.le_refl _⟩, by repeat (first | exact Drawn0.refl _ | apply Drawn0.step)⟩
  case rest =>
    clear HC3
    try clear c1
    try clear p2
    try clear c3
    try clear c4
    try clear c4b0
    try clear c6
    try clear c6b0
    try clear p6
    try clear p7
    try clear q7
    try clear hx7
    try clear c8
    try clear c8b0
    try clear c8b1
    try clear c9
    try clear c9b0
    try clear c9b1
    try clear c10
    try clear c10b0
    try clear c10b1
    try clear c11
    try clear c11b0
    try clear c11b1
    try clear c12
    try clear c12b0
    try clear c12b1
    try clear c13
    try clear c13b0
    try clear c13b1
    try clear p7
    try clear q7
    obtain ⟨kq, x5_2, rfl, HA, HJ2, ⟨mc2, rfl⟩⟩ := hcut
    cases kq with
    | zero => exact absurd HA.out (by simp [indentureref11_number.j0])
    | succ kj2 =>
      have H := HA.out
      clear HA
      simp only [indentureref11_number.j0] at H
      have H' := Aside0.mk H
      clear H
      go_wp2
      go_loopg [6] kj2 (fun kq v6 w' => ∃ (x6_2 : Int), v6 = .int .i64 x6_2 ∧ Aside0 (indentureref11_number.l0 kq a0 x5_2 x6_2 = some r) ∧ Aside0 (kq ≤ kj2) ∧ Drawn0 w w')
      case atStart => exact ⟨(wrap64 (a1 + 1)), (by first | rfl | (simp; done) | (simp [*]; done)), H', ⟨Nat.le_refl _⟩, by repeat (first | exact Drawn0.refl _ | apply Drawn0.step)⟩
      case round =>
        clear H'
        try clear c1
        try clear c2
        try clear p2
        try clear c3
        try clear c4
        try clear c4b0
        try clear c6
        try clear c6b0
        try clear p6
        try clear p7
        try clear q7
        try clear hx7
        try clear c8
        try clear c8b0
        try clear c8b1
        try clear c9
        try clear c9b0
        try clear c9b1
        try clear c10
        try clear c10b0
        try clear c10b1
        try clear c11
        try clear c11b0
        try clear c11b1
        try clear c12
        try clear c12b0
        try clear c12b1
        try clear c13
        try clear c13b0
        try clear c13b1
        try clear p2
        try clear p6
        try clear p7
        try clear q7
        obtain ⟨x6_2, rfl, HA, HK2, ⟨m2, rfl⟩⟩ := hrel
        cases gk with
        | zero => exact absurd HA.out (by simp [indentureref11_number.l0])
        | succ k2 =>
          have H := HA.out
          clear HA
          simp only [indentureref11_number.l0] at H
          by_cases c14 : x6_2 < (a0.size : Int)
          · rw [if_pos c14] at H
            have c14b0 : decide (x6_2 < (a0.size : Int)) = true := decide_eq_true c14
            clear c14
            by_cases c15 : 0 ≤ x6_2
            · rw [if_pos c15] at H
              have c15b0 : decide (0 ≤ x6_2) = true := decide_eq_true c15
              clear c15
              have HC17 := Aside0.mk H
              clear H
              have p16 : 0 ≤ (x6_2 : Int) := of_decide_eq_true (by first | (with_reducible assumption) | assumption)
              have q16 : x6_2 < (a0.size : Int) := of_decide_eq_true (by first | (with_reducible assumption) | assumption)
              have hx16 := bt_at a0 x6_2
              replace p16 := eq_true p16
              replace q16 := eq_true q16
              go_upto_region 14 with (fail)
              go_cut [8] (fun v8 wc => ∃ (kq : Nat) (x8_16 : Bool), v8 = .bool x8_16 ∧ Aside0 (indentureref11_number.j2 kq a0 x5_2 x6_2 (bt a0 x6_2) x8_16 = some r) ∧ Aside0 (kq ≤ k2) ∧ Drawn0 w wc)
              case first =>
                have H := HC17.out
                clear HC17
                by_cases c18 : x5_2 = true
                · subst c18
                  have H1 : (if (bt a0 x6_2) = 43 then (if 0 ≤ (wrap64 (x6_2 - 1)) then (if (wrap64 (x6_2 - 1)) < (a0.size : Int) then (if (bt a0 (wrap64 (x6_2 - 1))) = 101 then (indentureref11_number.j2 k2 a0 true x6_2 (bt a0 x6_2) true) else (indentureref11_number.j2 k2 a0 true x6_2 (bt a0 x6_2) ((bt a0 (wrap64 (x6_2 - 1))) == 69))) else (none)) else (none)) else (if (bt a0 x6_2) = 45 then (if 0 ≤ (wrap64 (x6_2 - 1)) then (if (wrap64 (x6_2 - 1)) < (a0.size : Int) then (if (bt a0 (wrap64 (x6_2 - 1))) = 101 then (indentureref11_number.j2 k2 a0 true x6_2 (bt a0 x6_2) true) else (indentureref11_number.j2 k2 a0 true x6_2 (bt a0 x6_2) ((bt a0 (wrap64 (x6_2 - 1))) == 69))) else (none)) else (none)) else (indentureref11_number.j2 k2 a0 true x6_2 (bt a0 x6_2) false))) = some r := by rw [if_pos rfl] at H; exact H
                  clear H
                  have H := H1
                  clear H1
                  by_cases c19 : (bt a0 x6_2) = 43
                  · rw [if_pos c19] at H
                    have c19b0 : ((bt a0 x6_2) == 43) = true := beq_iff_eq.mpr c19
                    have c19b1 : ((bt a0 x6_2) != 43) = false := bne_eq_false_iff_eq.mpr c19
                    clear c19
                    (first | rw [c19b0] | (simp only [i64_w, i32_w]; rw [c19b0]) | skip)
                    obtain ⟨ji20, hji20⟩ : ∃ j_ : Int, (wrap64 (x6_2 - 1)) = j_ := ⟨_, rfl⟩
                    replace H : (if 0 ≤ (ji20) then (if (ji20) < (a0.size : Int) then (if (bt a0 (ji20)) = 101 then (indentureref11_number.j2 k2 a0 true x6_2 (bt a0 x6_2) true) else (indentureref11_number.j2 k2 a0 true x6_2 (bt a0 x6_2) ((bt a0 (ji20)) == 69))) else (none)) else (none)) = some r := by first | (rw [hji20] at H; exact H) | (simp only [hji20] at H ⊢; exact H)
                    have hji20w : (IntKind.i64.wrap (x6_2 - 1)) = ji20 := (i64_w _).trans hji20
                    by_cases c21 : 0 ≤ (ji20)
                    · rw [if_pos c21] at H
                      have c21b0 : decide (0 ≤ (ji20)) = true := decide_eq_true c21
                      clear c21
                      by_cases c22 : (ji20) < (a0.size : Int)
                      · rw [if_pos c22] at H
                        have c22b0 : decide ((ji20) < (a0.size : Int)) = true := decide_eq_true c22
                        clear c22
                        by_cases c24 : (bt a0 (ji20)) = 101
                        · rw [if_pos c24] at H
                          have c24b0 : ((bt a0 (ji20)) == 101) = true := beq_iff_eq.mpr c24
                          have c24b1 : ((bt a0 (ji20)) != 101) = false := bne_eq_false_iff_eq.mpr c24
                          clear c24
                          have H' := Aside0.mk H
                          clear H
                          have p23 : 0 ≤ ((ji20) : Int) := of_decide_eq_true (by first | (with_reducible assumption) | assumption)
                          have q23 : (ji20) < (a0.size : Int) := of_decide_eq_true (by first | (with_reducible assumption) | assumption)
                          have hx23 := bt_at a0 (ji20)
                          replace p23 := eq_true p23
                          replace q23 := eq_true q23
                          go_wp2
                          go_meet
                          case rel => exact ⟨_, (true), (by first | rfl | (simp; done) | (simp [*]; done)), H', ⟨by have := HJ2.out; have := HK2.out; first | omega | exact Nat.le_refl _⟩, by repeat (first | exact Drawn0.refl _ | apply Drawn0.step)⟩
                        · rw [if_neg c24] at H
                          have c24b0 : ((bt a0 (ji20)) == 101) = false := beq_eq_false_iff_ne.mpr c24
                          have c24b1 : ((bt a0 (ji20)) != 101) = true := bne_iff_ne.mpr c24
                          have H' := Aside0.mk H
                          clear H
                          have p23 : 0 ≤ ((ji20) : Int) := of_decide_eq_true (by first | (with_reducible assumption) | assumption)
                          have q23 : (ji20) < (a0.size : Int) := of_decide_eq_true (by first | (with_reducible assumption) | assumption)
                          have hx23 := bt_at a0 (ji20)
                          replace p23 := eq_true p23
                          replace q23 := eq_true q23
                          have p25 : 0 ≤ ((ji20) : Int) := of_decide_eq_true (by first | (with_reducible assumption) | assumption)
                          have q25 : (ji20) < (a0.size : Int) := of_decide_eq_true (by first | (with_reducible assumption) | assumption)
                          have hx25 := bt_at a0 (ji20)
                          replace p25 := eq_true p25
                          replace q25 := eq_true q25
                          go_wp2
                          go_meet
                          case rel => exact ⟨_, (((bt a0 (ji20)) == 69)), (by first | rfl | (simp; done) | (simp only [← hji20] <;> (first | rfl | simp)) | (simp [*]; done)), H', ⟨by have := HJ2.out; have := HK2.out; first | omega | exact Nat.le_refl _⟩, by repeat (first | exact Drawn0.refl _ | apply Drawn0.step)⟩
                      · rw [if_neg c22] at H
                        exact absurd H (by simp)
                    · rw [if_neg c21] at H
                      exact absurd H (by simp)
                  · rw [if_neg c19] at H
                    have c19b0 : ((bt a0 x6_2) == 43) = false := beq_eq_false_iff_ne.mpr c19
                    have c19b1 : ((bt a0 x6_2) != 43) = true := bne_iff_ne.mpr c19
                    (first | rw [c19b0] | (simp only [i64_w, i32_w]; rw [c19b0]) | skip)
                    by_cases c26 : (bt a0 x6_2) = 45
                    · rw [if_pos c26] at H
                      have c26b0 : ((bt a0 x6_2) == 45) = true := beq_iff_eq.mpr c26
                      have c26b1 : ((bt a0 x6_2) != 45) = false := bne_eq_false_iff_eq.mpr c26
                      clear c26
                      obtain ⟨ji27, hji27⟩ : ∃ j_ : Int, (wrap64 (x6_2 - 1)) = j_ := ⟨_, rfl⟩
                      replace H : (if 0 ≤ (ji27) then (if (ji27) < (a0.size : Int) then (if (bt a0 (ji27)) = 101 then (indentureref11_number.j2 k2 a0 true x6_2 (bt a0 x6_2) true) else (indentureref11_number.j2 k2 a0 true x6_2 (bt a0 x6_2) ((bt a0 (ji27)) == 69))) else (none)) else (none)) = some r := by first | (rw [hji27] at H; exact H) | (simp only [hji27] at H ⊢; exact H)
                      have hji27w : (IntKind.i64.wrap (x6_2 - 1)) = ji27 := (i64_w _).trans hji27
                      by_cases c28 : 0 ≤ (ji27)
                      · rw [if_pos c28] at H
                        have c28b0 : decide (0 ≤ (ji27)) = true := decide_eq_true c28
                        clear c28
                        by_cases c29 : (ji27) < (a0.size : Int)
                        · rw [if_pos c29] at H
                          have c29b0 : decide ((ji27) < (a0.size : Int)) = true := decide_eq_true c29
                          clear c29
                          by_cases c31 : (bt a0 (ji27)) = 101
                          · rw [if_pos c31] at H
                            have c31b0 : ((bt a0 (ji27)) == 101) = true := beq_iff_eq.mpr c31
                            have c31b1 : ((bt a0 (ji27)) != 101) = false := bne_eq_false_iff_eq.mpr c31
                            clear c31
                            have H' := Aside0.mk H
                            clear H
                            have p30 : 0 ≤ ((ji27) : Int) := of_decide_eq_true (by first | (with_reducible assumption) | assumption)
                            have q30 : (ji27) < (a0.size : Int) := of_decide_eq_true (by first | (with_reducible assumption) | assumption)
                            have hx30 := bt_at a0 (ji27)
                            replace p30 := eq_true p30
                            replace q30 := eq_true q30
                            go_wp2
                            go_meet
                            case rel => exact ⟨_, (true), (by first | rfl | (simp; done) | (simp [*]; done)), H', ⟨by have := HJ2.out; have := HK2.out; first | omega | exact Nat.le_refl _⟩, by repeat (first | exact Drawn0.refl _ | apply Drawn0.step)⟩
                          · rw [if_neg c31] at H
                            have c31b0 : ((bt a0 (ji27)) == 101) = false := beq_eq_false_iff_ne.mpr c31
                            have c31b1 : ((bt a0 (ji27)) != 101) = true := bne_iff_ne.mpr c31
                            have H' := Aside0.mk H
                            clear H
                            have p30 : 0 ≤ ((ji27) : Int) := of_decide_eq_true (by first | (with_reducible assumption) | assumption)
                            have q30 : (ji27) < (a0.size : Int) := of_decide_eq_true (by first | (with_reducible assumption) | assumption)
                            have hx30 := bt_at a0 (ji27)
                            replace p30 := eq_true p30
                            replace q30 := eq_true q30
                            have p32 : 0 ≤ ((ji27) : Int) := of_decide_eq_true (by first | (with_reducible assumption) | assumption)
                            have q32 : (ji27) < (a0.size : Int) := of_decide_eq_true (by first | (with_reducible assumption) | assumption)
                            have hx32 := bt_at a0 (ji27)
                            replace p32 := eq_true p32
                            replace q32 := eq_true q32
                            go_wp2
                            go_meet
                            case rel => exact ⟨_, (((bt a0 (ji27)) == 69)), (by first | rfl | (simp; done) | (simp only [← hji27] <;> (first | rfl | simp)) | (simp [*]; done)), H', ⟨by have := HJ2.out; have := HK2.out; first | omega | exact Nat.le_refl _⟩, by repeat (first | exact Drawn0.refl _ | apply Drawn0.step)⟩
                        · rw [if_neg c29] at H
                          exact absurd H (by simp)
                      · rw [if_neg c28] at H
                        exact absurd H (by simp)
                    · rw [if_neg c26] at H
                      have c26b0 : ((bt a0 x6_2) == 45) = false := beq_eq_false_iff_ne.mpr c26
                      have c26b1 : ((bt a0 x6_2) != 45) = true := bne_iff_ne.mpr c26
                      have H' := Aside0.mk H
                      clear H
                      go_wp2
                      go_meet
                      case rel => exact ⟨_, (false), (by first | rfl | (simp; done) | (simp [*]; done)), H', ⟨by have := HJ2.out; have := HK2.out; first | omega | exact Nat.le_refl _⟩, by repeat (first | exact Drawn0.refl _ | apply Drawn0.step)⟩
                · replace c18 := Bool.eq_false_iff.mpr c18
                  subst c18
                  have H1 : (indentureref11_number.j2 k2 a0 false x6_2 (bt a0 x6_2) false) = some r := by rw [if_neg (show ¬ (false = true) by decide)] at H; exact H
                  clear H
                  have H := H1
                  clear H1
                  have H' := Aside0.mk H
                  clear H
                  go_wp2
                  go_meet
                  case rel => exact ⟨_, (false), (by first | rfl | (simp; done) | (simp [*]; done)), H', ⟨by have := HJ2.out; have := HK2.out; first | omega | exact Nat.le_refl _⟩, by repeat (first | exact Drawn0.refl _ | apply Drawn0.step)⟩
              case rest =>
                clear HC17
                try clear c1
                try clear p1
                try clear q1
                try clear hx1
                try clear c2
                try clear p2
                try clear q2
                try clear hx2
                try clear c3
                try clear p3
                try clear q3
                try clear hx3
                try clear c4
                try clear c4b0
                try clear c6
                try clear c6b0
                try clear p6
                try clear p7
                try clear q7
                try clear hx7
                try clear c8
                try clear c8b0
                try clear c8b1
                try clear c9
                try clear c9b0
                try clear c9b1
                try clear c10
                try clear c10b0
                try clear c10b1
                try clear c11
                try clear c11b0
                try clear c11b1
                try clear c12
                try clear c12b0
                try clear c12b1
                try clear c13
                try clear c13b0
                try clear c13b1
                try clear c14
                try clear c14b0
                try clear c15
                try clear c15b0
                try clear p16
                try clear q16
                try clear hx16
                try clear c18
                try clear c19
                try clear c19b0
                try clear c19b1
                try clear c21
                try clear c21b0
                try clear c22
                try clear c22b0
                try clear p23
                try clear q23
                try clear hx23
                try clear c24
                try clear c24b0
                try clear c24b1
                try clear p25
                try clear q25
                try clear hx25
                try clear c26
                try clear c26b0
                try clear c26b1
                try clear c28
                try clear c28b0
                try clear c29
                try clear c29b0
                try clear p30
                try clear q30
                try clear hx30
                try clear c31
                try clear c31b0
                try clear c31b1
                try clear c32
                try clear p32
                try clear q32
                try clear hx32
                try clear p16
                try clear p2
                try clear p23
                try clear p25
                try clear p30
                try clear p32
                try clear p6
                try clear p7
                try clear q16
                try clear q23
                try clear q25
                try clear q30
                try clear q32
                try clear q7
                obtain ⟨kq, x8_16, rfl, HA, HJ16, ⟨mc16, rfl⟩⟩ := hcut
                cases kq with
                | zero => exact absurd HA.out (by simp [indentureref11_number.j2])
                | succ kj16 =>
                  have H := HA.out
                  clear HA
                  simp only [indentureref11_number.j2] at H
                  replace H := Option.bind_eq_some_iff.mp H
                  obtain ⟨t132, A330, H⟩ := H
                  replace H : (if t132 = true then (if (bt a0 x6_2) < 128 then (indentureref11_number.l0 kj16 a0 x5_2 (wrap64 (x6_2 + 1))) else ((indentureref11_Digit.f (bt a0 x6_2)).bind fun t133 => (if t133 = true then (indentureref11_number.l0 kj16 a0 x5_2 (wrap64 (x6_2 + 1))) else (if (bt a0 x6_2) = 46 then (indentureref11_number.l0 kj16 a0 x5_2 (wrap64 (x6_2 + 1))) else (if x8_16 = true then (indentureref11_number.l0 kj16 a0 x5_2 (wrap64 (x6_2 + 1))) else (some x6_2)))))) else ((indentureref11_Digit.f (bt a0 x6_2)).bind fun t134 => (if t134 = true then (indentureref11_number.l0 kj16 a0 x5_2 (wrap64 (x6_2 + 1))) else (if (bt a0 x6_2) = 46 then (indentureref11_number.l0 kj16 a0 x5_2 (wrap64 (x6_2 + 1))) else (if x8_16 = true then (indentureref11_number.l0 kj16 a0 x5_2 (wrap64 (x6_2 + 1))) else (some x6_2)))))) = some r := H
                  have A33 := Aside0.mk A330
                  clear A330
                  by_cases c34 : t132 = true
                  · subst c34
                    have H1 : (if (bt a0 x6_2) < 128 then (indentureref11_number.l0 kj16 a0 x5_2 (wrap64 (x6_2 + 1))) else ((indentureref11_Digit.f (bt a0 x6_2)).bind fun t133 => (if t133 = true then (indentureref11_number.l0 kj16 a0 x5_2 (wrap64 (x6_2 + 1))) else (if (bt a0 x6_2) = 46 then (indentureref11_number.l0 kj16 a0 x5_2 (wrap64 (x6_2 + 1))) else (if x8_16 = true then (indentureref11_number.l0 kj16 a0 x5_2 (wrap64 (x6_2 + 1))) else (some x6_2)))))) = some r := by rw [if_pos rfl] at H; exact H
                    clear H
                    have H := H1
                    clear H1
                    by_cases c35 : (bt a0 x6_2) < 128
                    · rw [if_pos c35] at H
                      have c35b0 : decide ((bt a0 x6_2) < 128) = true := decide_eq_true c35
                      clear c35
                      have H' := Aside0.mk H
                      clear H
                      go_wp2_with (first | ((with_reducible refine gate_callee (f := 30) rfl ?_); refine goesL_ (some 58) rfl rfl Try.func30 (by kernel_rfl) rfl #[.int .u8 (bt a0 x6_2)] rfl (by (try simp only [List.map_toArray, List.map_cons, List.map_nil]); first | done | rfl | (simp only [List.length_drop, List.length_take]; rfl)) ?_; (with_reducible refine (indentureref11_Letter.calls (bt a0 x6_2) true _ A33.out).mono ?_); rintro e w' ⟨rfl, ⟨nd, rfl⟩⟩; refine ⟨_, rfl, ?_⟩))
                      go_roundg kj16
                      case measure => have := HJ2.out; have := HK2.out; have := HJ16.out; omega
                      case rel => exact ⟨(wrap64 (x6_2 + 1)), (by first | rfl | (simp; done) | (simp [*]; done)), H', ⟨by have := HJ2.out; have := HK2.out; have := HJ16.out; omega⟩, by repeat (first | exact Drawn0.refl _ | apply Drawn0.step)⟩
                    · rw [if_neg c35] at H
                      have c35b0 : decide ((bt a0 x6_2) < 128) = false := decide_eq_false c35
                      clear c35
                      replace H := Option.bind_eq_some_iff.mp H
                      obtain ⟨t133, A360, H⟩ := H
                      replace H : (if t133 = true then (indentureref11_number.l0 kj16 a0 x5_2 (wrap64 (x6_2 + 1))) else (if (bt a0 x6_2) = 46 then (indentureref11_number.l0 kj16 a0 x5_2 (wrap64 (x6_2 + 1))) else (if x8_16 = true then (indentureref11_number.l0 kj16 a0 x5_2 (wrap64 (x6_2 + 1))) else (some x6_2)))) = some r := H
                      have A36 := Aside0.mk A360
                      clear A360
                      by_cases c37 : t133 = true
                      · subst c37
                        have H1 : (indentureref11_number.l0 kj16 a0 x5_2 (wrap64 (x6_2 + 1))) = some r := by rw [if_pos rfl] at H; exact H
                        clear H
                        have H := H1
                        clear H1
                        have H' := Aside0.mk H
                        clear H
                        go_wp2_with (first | ((with_reducible refine gate_callee (f := 30) rfl ?_); refine goesL_ (some 58) rfl rfl Try.func30 (by kernel_rfl) rfl #[.int .u8 (bt a0 x6_2)] rfl (by (try simp only [List.map_toArray, List.map_cons, List.map_nil]); first | done | rfl | (simp only [List.length_drop, List.length_take]; rfl)) ?_; (with_reducible refine (indentureref11_Letter.calls (bt a0 x6_2) true _ A33.out).mono ?_); rintro e w' ⟨rfl, ⟨nd, rfl⟩⟩; refine ⟨_, rfl, ?_⟩) | (go_at_call 31; (with_reducible refine (indentureref11_Digit.calls (bt a0 x6_2) true _ A36.out).mono ?_); rintro e w' ⟨rfl, ⟨nd, rfl⟩⟩))
                        go_roundg kj16
                        case measure => have := HJ2.out; have := HK2.out; have := HJ16.out; omega
                        case rel => exact ⟨(wrap64 (x6_2 + 1)), (by first | rfl | (simp; done) | (simp [*]; done)), H', ⟨by have := HJ2.out; have := HK2.out; have := HJ16.out; omega⟩, by repeat (first | exact Drawn0.refl _ | apply Drawn0.step)⟩
                      · replace c37 := Bool.eq_false_iff.mpr c37
                        subst c37
                        have H1 : (if (bt a0 x6_2) = 46 then (indentureref11_number.l0 kj16 a0 x5_2 (wrap64 (x6_2 + 1))) else (if x8_16 = true then (indentureref11_number.l0 kj16 a0 x5_2 (wrap64 (x6_2 + 1))) else (some x6_2))) = some r := by rw [if_neg (show ¬ (false = true) by decide)] at H; exact H
                        clear H
                        have H := H1
                        clear H1
                        by_cases c38 : (bt a0 x6_2) = 46
                        · rw [if_pos c38] at H
                          have c38b0 : ((bt a0 x6_2) == 46) = true := beq_iff_eq.mpr c38
                          have c38b1 : ((bt a0 x6_2) != 46) = false := bne_eq_false_iff_eq.mpr c38
                          clear c38
                          have H' := Aside0.mk H
                          clear H
                          go_wp2_with (first | ((with_reducible refine gate_callee (f := 30) rfl ?_); refine goesL_ (some 58) rfl rfl Try.func30 (by kernel_rfl) rfl #[.int .u8 (bt a0 x6_2)] rfl (by (try simp only [List.map_toArray, List.map_cons, List.map_nil]); first | done | rfl | (simp only [List.length_drop, List.length_take]; rfl)) ?_; (with_reducible refine (indentureref11_Letter.calls (bt a0 x6_2) true _ A33.out).mono ?_); rintro e w' ⟨rfl, ⟨nd, rfl⟩⟩; refine ⟨_, rfl, ?_⟩) | (go_at_call 31; (with_reducible refine (indentureref11_Digit.calls (bt a0 x6_2) false _ A36.out).mono ?_); rintro e w' ⟨rfl, ⟨nd, rfl⟩⟩))
                          go_roundg kj16
                          case measure => have := HJ2.out; have := HK2.out; have := HJ16.out; omega
                          case rel => exact ⟨(wrap64 (x6_2 + 1)), (by first | rfl | (simp; done) | (simp [*]; done)), H', ⟨by have := HJ2.out; have := HK2.out; have := HJ16.out; omega⟩, by repeat (first | exact Drawn0.refl _ | apply Drawn0.step)⟩
                        · rw [if_neg c38] at H
                          have c38b0 : ((bt a0 x6_2) == 46) = false := beq_eq_false_iff_ne.mpr c38
                          have c38b1 : ((bt a0 x6_2) != 46) = true := bne_iff_ne.mpr c38
                          by_cases c39 : x8_16 = true
                          · subst c39
                            have H1 : (indentureref11_number.l0 kj16 a0 x5_2 (wrap64 (x6_2 + 1))) = some r := by rw [if_pos rfl] at H; exact H
                            clear H
                            have H := H1
                            clear H1
                            have H' := Aside0.mk H
                            clear H
                            go_wp2_with (first | ((with_reducible refine gate_callee (f := 30) rfl ?_); refine goesL_ (some 58) rfl rfl Try.func30 (by kernel_rfl) rfl #[.int .u8 (bt a0 x6_2)] rfl (by (try simp only [List.map_toArray, List.map_cons, List.map_nil]); first | done | rfl | (simp only [List.length_drop, List.length_take]; rfl)) ?_; (with_reducible refine (indentureref11_Letter.calls (bt a0 x6_2) true _ A33.out).mono ?_); rintro e w' ⟨rfl, ⟨nd, rfl⟩⟩; refine ⟨_, rfl, ?_⟩) | (go_at_call 31; (with_reducible refine (indentureref11_Digit.calls (bt a0 x6_2) false _ A36.out).mono ?_); rintro e w' ⟨rfl, ⟨nd, rfl⟩⟩))
                            go_roundg kj16
                            case measure => have := HJ2.out; have := HK2.out; have := HJ16.out; omega
                            case rel => exact ⟨(wrap64 (x6_2 + 1)), (by first | rfl | (simp; done) | (simp [*]; done)), H', ⟨by have := HJ2.out; have := HK2.out; have := HJ16.out; omega⟩, by repeat (first | exact Drawn0.refl _ | apply Drawn0.step)⟩
                          · replace c39 := Bool.eq_false_iff.mpr c39
                            subst c39
                            have H1 : (some x6_2) = some r := by rw [if_neg (show ¬ (false = true) by decide)] at H; exact H
                            clear H
                            have H := H1
                            clear H1
                            obtain rfl := Option.some.inj H
                            go_wp2_with (first | ((with_reducible refine gate_callee (f := 30) rfl ?_); refine goesL_ (some 58) rfl rfl Try.func30 (by kernel_rfl) rfl #[.int .u8 (bt a0 x6_2)] rfl (by (try simp only [List.map_toArray, List.map_cons, List.map_nil]); first | done | rfl | (simp only [List.length_drop, List.length_take]; rfl)) ?_; (with_reducible refine (indentureref11_Letter.calls (bt a0 x6_2) true _ A33.out).mono ?_); rintro e w' ⟨rfl, ⟨nd, rfl⟩⟩; refine ⟨_, rfl, ?_⟩) | (go_at_call 31; (with_reducible refine (indentureref11_Digit.calls (bt a0 x6_2) false _ A36.out).mono ?_); rintro e w' ⟨rfl, ⟨nd, rfl⟩⟩))
                            go_ret
                            exact ⟨by first | rfl | (simp; done) | (simp [*]; done), by repeat (first | exact Drawn0.refl _ | apply Drawn0.step)⟩
                  · replace c34 := Bool.eq_false_iff.mpr c34
                    subst c34
                    have H1 : ((indentureref11_Digit.f (bt a0 x6_2)).bind fun t134 => (if t134 = true then (indentureref11_number.l0 kj16 a0 x5_2 (wrap64 (x6_2 + 1))) else (if (bt a0 x6_2) = 46 then (indentureref11_number.l0 kj16 a0 x5_2 (wrap64 (x6_2 + 1))) else (if x8_16 = true then (indentureref11_number.l0 kj16 a0 x5_2 (wrap64 (x6_2 + 1))) else (some x6_2))))) = some r := by rw [if_neg (show ¬ (false = true) by decide)] at H; exact H
                    clear H
                    have H := H1
                    clear H1
                    replace H := Option.bind_eq_some_iff.mp H
                    obtain ⟨t134, A400, H⟩ := H
                    replace H : (if t134 = true then (indentureref11_number.l0 kj16 a0 x5_2 (wrap64 (x6_2 + 1))) else (if (bt a0 x6_2) = 46 then (indentureref11_number.l0 kj16 a0 x5_2 (wrap64 (x6_2 + 1))) else (if x8_16 = true then (indentureref11_number.l0 kj16 a0 x5_2 (wrap64 (x6_2 + 1))) else (some x6_2)))) = some r := H
                    have A40 := Aside0.mk A400
                    clear A400
                    by_cases c41 : t134 = true
                    · subst c41
                      have H1 : (indentureref11_number.l0 kj16 a0 x5_2 (wrap64 (x6_2 + 1))) = some r := by rw [if_pos rfl] at H; exact H
                      clear H
                      have H := H1
                      clear H1
                      have H' := Aside0.mk H
                      clear H
                      go_wp2_with (first | ((with_reducible refine gate_callee (f := 30) rfl ?_); refine goesL_ (some 58) rfl rfl Try.func30 (by kernel_rfl) rfl #[.int .u8 (bt a0 x6_2)] rfl (by (try simp only [List.map_toArray, List.map_cons, List.map_nil]); first | done | rfl | (simp only [List.length_drop, List.length_take]; rfl)) ?_; (with_reducible refine (indentureref11_Letter.calls (bt a0 x6_2) false _ A33.out).mono ?_); rintro e w' ⟨rfl, ⟨nd, rfl⟩⟩; refine ⟨_, rfl, ?_⟩) | (go_at_call 31; (with_reducible refine (indentureref11_Digit.calls (bt a0 x6_2) true _ A40.out).mono ?_); rintro e w' ⟨rfl, ⟨nd, rfl⟩⟩))
                      go_roundg kj16
                      case measure => have := HJ2.out; have := HK2.out; have := HJ16.out; omega
                      case rel => exact ⟨(wrap64 (x6_2 + 1)), (by first | rfl | (simp; done) | (simp [*]; done)), H', ⟨by have := HJ2.out; have := HK2.out; have := HJ16.out; omega⟩, by repeat (first | exact Drawn0.refl _ | apply Drawn0.step)⟩
                    · replace c41 := Bool.eq_false_iff.mpr c41
                      subst c41
                      have H1 : (if (bt a0 x6_2) = 46 then (indentureref11_number.l0 kj16 a0 x5_2 (wrap64 (x6_2 + 1))) else (if x8_16 = true then (indentureref11_number.l0 kj16 a0 x5_2 (wrap64 (x6_2 + 1))) else (some x6_2))) = some r := by rw [if_neg (show ¬ (false = true) by decide)] at H; exact H
                      clear H
                      have H := H1
                      clear H1
                      by_cases c42 : (bt a0 x6_2) = 46
                      · rw [if_pos c42] at H
                        have c42b0 : ((bt a0 x6_2) == 46) = true := beq_iff_eq.mpr c42
                        have c42b1 : ((bt a0 x6_2) != 46) = false := bne_eq_false_iff_eq.mpr c42
                        clear c42
                        have H' := Aside0.mk H
                        clear H
                        go_wp2_with (first | ((with_reducible refine gate_callee (f := 30) rfl ?_); refine goesL_ (some 58) rfl rfl Try.func30 (by kernel_rfl) rfl #[.int .u8 (bt a0 x6_2)] rfl (by (try simp only [List.map_toArray, List.map_cons, List.map_nil]); first | done | rfl | (simp only [List.length_drop, List.length_take]; rfl)) ?_; (with_reducible refine (indentureref11_Letter.calls (bt a0 x6_2) false _ A33.out).mono ?_); rintro e w' ⟨rfl, ⟨nd, rfl⟩⟩; refine ⟨_, rfl, ?_⟩) | (go_at_call 31; (with_reducible refine (indentureref11_Digit.calls (bt a0 x6_2) false _ A40.out).mono ?_); rintro e w' ⟨rfl, ⟨nd, rfl⟩⟩))
                        go_roundg kj16
                        case measure => have := HJ2.out; have := HK2.out; have := HJ16.out; omega
                        case rel => exact ⟨(wrap64 (x6_2 + 1)), (by first | rfl | (simp; done) | (simp [*]; done)), H', ⟨by have := HJ2.out; have := HK2.out; have := HJ16.out; omega⟩, by repeat (first | exact Drawn0.refl _ | apply Drawn0.step)⟩
                      · rw [if_neg c42] at H
                        have c42b0 : ((bt a0 x6_2) == 46) = false := beq_eq_false_iff_ne.mpr c42
                        have c42b1 : ((bt a0 x6_2) != 46) = true := bne_iff_ne.mpr c42
                        by_cases c43 : x8_16 = true
                        · subst c43
                          have H1 : (indentureref11_number.l0 kj16 a0 x5_2 (wrap64 (x6_2 + 1))) = some r := by rw [if_pos rfl] at H; exact H
                          clear H
                          have H := H1
                          clear H1
                          have H' := Aside0.mk H
                          clear H
                          go_wp2_with (first | ((with_reducible refine gate_callee (f := 30) rfl ?_); refine goesL_ (some 58) rfl rfl Try.func30 (by kernel_rfl) rfl #[.int .u8 (bt a0 x6_2)] rfl (by (try simp only [List.map_toArray, List.map_cons, List.map_nil]); first | done | rfl | (simp only [List.length_drop, List.length_take]; rfl)) ?_; (with_reducible refine (indentureref11_Letter.calls (bt a0 x6_2) false _ A33.out).mono ?_); rintro e w' ⟨rfl, ⟨nd, rfl⟩⟩; refine ⟨_, rfl, ?_⟩) | (go_at_call 31; (with_reducible refine (indentureref11_Digit.calls (bt a0 x6_2) false _ A40.out).mono ?_); rintro e w' ⟨rfl, ⟨nd, rfl⟩⟩))
                          go_roundg kj16
                          case measure => have := HJ2.out; have := HK2.out; have := HJ16.out; omega
                          case rel => exact ⟨(wrap64 (x6_2 + 1)), (by first | rfl | (simp; done) | (simp [*]; done)), H', ⟨by have := HJ2.out; have := HK2.out; have := HJ16.out; omega⟩, by repeat (first | exact Drawn0.refl _ | apply Drawn0.step)⟩
                        · replace c43 := Bool.eq_false_iff.mpr c43
                          subst c43
                          have H1 : (some x6_2) = some r := by rw [if_neg (show ¬ (false = true) by decide)] at H; exact H
                          clear H
                          have H := H1
                          clear H1
                          obtain rfl := Option.some.inj H
                          go_wp2_with (first | ((with_reducible refine gate_callee (f := 30) rfl ?_); refine goesL_ (some 58) rfl rfl Try.func30 (by kernel_rfl) rfl #[.int .u8 (bt a0 x6_2)] rfl (by (try simp only [List.map_toArray, List.map_cons, List.map_nil]); first | done | rfl | (simp only [List.length_drop, List.length_take]; rfl)) ?_; (with_reducible refine (indentureref11_Letter.calls (bt a0 x6_2) false _ A33.out).mono ?_); rintro e w' ⟨rfl, ⟨nd, rfl⟩⟩; refine ⟨_, rfl, ?_⟩) | (go_at_call 31; (with_reducible refine (indentureref11_Digit.calls (bt a0 x6_2) false _ A40.out).mono ?_); rintro e w' ⟨rfl, ⟨nd, rfl⟩⟩))
                          go_ret
                          exact ⟨by first | rfl | (simp; done) | (simp [*]; done), by repeat (first | exact Drawn0.refl _ | apply Drawn0.step)⟩
            · rw [if_neg c15] at H
              exact absurd H (by simp)
          · rw [if_neg c14] at H
            have c14b0 : decide (x6_2 < (a0.size : Int)) = false := decide_eq_false c14
            clear c14
            obtain rfl := Option.some.inj H
            go_wp2
            go_ret
            exact ⟨by first | rfl | (simp; done) | (simp [*]; done), by repeat (first | exact Drawn0.refl _ | apply Drawn0.step)⟩

end Go.Proofs.Ytdknppomjcpihaa.PPl
