-- written by inject.py, a program of the session's, over the translation's print
import Derived.Test.YtdknppomjcpihaaPPyx0
import Derived.Test.YtdknppomjcpihaaQa
import Derived.Test.YtdknppomjcpihaaScanC
namespace Go.Proofs.Ytdknppomjcpihaa.PPy
open Go.RowKit Go.Proofs.YtdknppomjcpihaaW.PrintWords Go.Proofs.YtdknppomjcpihaaW.PrintLast Go.Proofs.YtdknppomjcpihaaW.PrintMore
attribute [local go_sem] max2_int min2_int max_two min_two max_three min_three max_four min_four   -- for this text's walks alone
set_option linter.unusedVariables false
set_option linter.unusedSimpArgs false

/-! ### indenturelaw11_PytokenSplit: function 6 -/
mutual
def indenturelaw11_PytokenSplit.j0 : Nat → ByteArray → ByteArray → Int → Bool → Option (Bool)
  | 0, _, _, _, _ => none
  | k + 1, x0, x1, x2, x24 => if x24 = true then (some true) else (indenturelaw11_PytokenSplit.l0 k x0 x1 x2 0)
def indenturelaw11_PytokenSplit.l0 : Nat → ByteArray → ByteArray → Int → Int → Option (Bool)
  | 0, _, _, _, _ => none
  | k + 1, x0, x1, x2, x7 => if x7 < (x0.size : Int) then (if 0 ≤ x7 then (if (bt x0 x7) = 10 then ((indenturelaw11_reads.f).bind fun t157 => (some t157)) else (indenturelaw11_PytokenSplit.l0 k x0 x1 x2 (wrap64 (x7 + 1)))) else (none)) else (if x0.size + 1 ≤ 9223372036854775807 then ((pytoken_Scan.f (x0 ++ (⟨#[32]⟩ : ByteArray)) 0 0 x2).bind fun bt158 => (indenturelaw11_PytokenSplit.l1 k x0 x1 x2 0 bt158.1 bt158.2.1 bt158.2.2.1 bt158.2.2.2.1 bt158.2.2.2.2.1 bt158.2.2.2.2.2)) else (none))
def indenturelaw11_PytokenSplit.l1 : Nat → ByteArray → ByteArray → Int → Int → List (S33) → Int → Int → Bool → Bool → Bool → Option (Bool)
  | 0, _, _, _, _, _, _, _, _, _, _ => none
  | k + 1, x0, x1, x2, x9, x167000, x167001, x167002, x167003, x167004, x167005 => if x9 < (x167000.length : Int) then (if 0 ≤ x9 then (if ((rd_T33 x167000 x9).f1) = 13 then (indenturelaw11_PytokenSplit.l1 k x0 x1 x2 (wrap64 (x9 + 1)) x167000 x167001 x167002 x167003 x167004 x167005) else (if ((rd_T33 x167000 x9).f1) = 14 then (indenturelaw11_PytokenSplit.l1 k x0 x1 x2 (wrap64 (x9 + 1)) x167000 x167001 x167002 x167003 x167004 x167005) else (if ((rd_T33 x167000 x9).f1) = 15 then (indenturelaw11_PytokenSplit.l1 k x0 x1 x2 (wrap64 (x9 + 1)) x167000 x167001 x167002 x167003 x167004 x167005) else (if ((rd_T33 x167000 x9).f1) = 17 then (indenturelaw11_PytokenSplit.l1 k x0 x1 x2 (wrap64 (x9 + 1)) x167000 x167001 x167002 x167003 x167004 x167005) else ((indenturelaw11_reads.f).bind fun t168 => (some t168)))))) else (none)) else ((pytoken_Scan.f x1 0 0 x167002).bind fun bt169 => (if x0.size + 1 ≤ 9223372036854775807 then (if (x0 ++ (⟨#[32]⟩ : ByteArray)).size + x1.size ≤ 9223372036854775807 then ((pytoken_Scan.f ((x0 ++ (⟨#[32]⟩ : ByteArray)) ++ x1) 0 0 x2).bind fun bt178 => ((some (([] : List (S33)) : List (S33))).bind fun y187 => (if y187.length + x167000.length < 5864062014805 then (indenturelaw11_PytokenSplit.l2 k x0 (y187 ++ x167000) 0 x167000 x167001 x167002 x167003 x167004 x167005 bt169.1 bt169.2.1 bt169.2.2.1 bt169.2.2.2.1 bt169.2.2.2.2.1 bt169.2.2.2.2.2 bt178.1 bt178.2.1 bt178.2.2.1 bt178.2.2.2.1 bt178.2.2.2.2.1 bt178.2.2.2.2.2) else (none)))) else (none)) else (none)))
def indenturelaw11_PytokenSplit.l2 : Nat → ByteArray → List (S33) → Int → List (S33) → Int → Int → Bool → Bool → Bool → List (S33) → Int → Int → Bool → Bool → Bool → List (S33) → Int → Int → Bool → Bool → Bool → Option (Bool)
  | 0, _, _, _, _, _, _, _, _, _, _, _, _, _, _, _, _, _, _, _, _, _ => none
  | k + 1, x0, x13, x14, x167000, x167001, x167002, x167003, x167004, x167005, x178000, x178001, x178002, x178003, x178004, x178005, x187000, x187001, x187002, x187003, x187004, x187005 => if x14 < (x178000.length : Int) then (if 0 ≤ x14 then (if x13.length < 5864062014805 then (indenturelaw11_PytokenSplit.l2 k x0 (x13 ++ [(⟨(rd_T33 x178000 x14).f0, (rd_T33 x178000 x14).f1, wrap64 ((wrap64 (((rd_T33 x178000 x14).f2) + (x0.size : Int))) + 1), wrap64 ((wrap64 (((rd_T33 x178000 x14).f3) + (x0.size : Int))) + 1)⟩ : S33)]) (wrap64 (x14 + 1)) x167000 x167001 x167002 x167003 x167004 x167005 x178000 x178001 x178002 x178003 x178004 x178005 x187000 x187001 x187002 x187003 x187004 x187005) else (none)) else (none)) else (if x178004 = true then ((indentureref11_SameEvents.f k x187000 x13).bind fun t198 => (if t198 = true then (if x187002 = x178002 then (if x187001 = x178001 then (if (x187003 == x178003) = true then (if x167004 = true then (if (x187004 == true) = true then (if (x187005 == x178005) = true then ((indenturelaw11_reads.f).bind fun t199 => (some t199)) else (some false)) else (some false)) else (if (x187004 == x178004) = true then (if (x187005 == x178005) = true then ((indenturelaw11_reads.f).bind fun t200 => (some t200)) else (some false)) else (some false))) else (some false)) else (some false)) else (some false)) else (some false))) else ((indentureref11_SameEvents.f k x187000 x13).bind fun t201 => (if t201 = true then (if x187002 = x178002 then (if x187001 = x178001 then (if (x187003 == x178003) = true then (if x167004 = true then (if (x187004 == true) = true then (if (x187005 == x167005) = true then ((indenturelaw11_reads.f).bind fun t202 => (some t202)) else (some false)) else (some false)) else (if (x187004 == x178004) = true then (if (x187005 == x167005) = true then ((indenturelaw11_reads.f).bind fun t203 => (some t203)) else (some false)) else (some false))) else (some false)) else (some false)) else (some false)) else (some false))))
end
def indenturelaw11_PytokenSplit.f (k : Nat) (a0 : ByteArray) (a1 : ByteArray) (a2 : Int) : Option (Bool) := if (a0.size : Int) > 2000 then (indenturelaw11_PytokenSplit.j0 k a0 a1 a2 true) else (indenturelaw11_PytokenSplit.j0 k a0 a1 a2 (decide ((a1.size : Int) > 2000)))
theorem indenturelaw11_PytokenSplit.mono_l : ∀ k, (∀ y0 y1 y2 y3, LeO (indenturelaw11_PytokenSplit.j0 k y0 y1 y2 y3) (indenturelaw11_PytokenSplit.j0 (k + 1) y0 y1 y2 y3)) ∧ (∀ y0 y1 y2 y3, LeO (indenturelaw11_PytokenSplit.l0 k y0 y1 y2 y3) (indenturelaw11_PytokenSplit.l0 (k + 1) y0 y1 y2 y3)) ∧ (∀ y0 y1 y2 y3 y4 y5 y6 y7 y8 y9, LeO (indenturelaw11_PytokenSplit.l1 k y0 y1 y2 y3 y4 y5 y6 y7 y8 y9) (indenturelaw11_PytokenSplit.l1 (k + 1) y0 y1 y2 y3 y4 y5 y6 y7 y8 y9)) ∧ (∀ y0 y1 y2 y3 y4 y5 y6 y7 y8 y9 y10 y11 y12 y13 y14 y15 y16 y17 y18 y19 y20, LeO (indenturelaw11_PytokenSplit.l2 k y0 y1 y2 y3 y4 y5 y6 y7 y8 y9 y10 y11 y12 y13 y14 y15 y16 y17 y18 y19 y20) (indenturelaw11_PytokenSplit.l2 (k + 1) y0 y1 y2 y3 y4 y5 y6 y7 y8 y9 y10 y11 y12 y13 y14 y15 y16 y17 y18 y19 y20))
  | 0 => ⟨fun _ _ _ _ r h => by simp [indenturelaw11_PytokenSplit.j0] at h, fun _ _ _ _ r h => by simp [indenturelaw11_PytokenSplit.l0] at h, fun _ _ _ _ _ _ _ _ _ _ r h => by simp [indenturelaw11_PytokenSplit.l1] at h, fun _ _ _ _ _ _ _ _ _ _ _ _ _ _ _ _ _ _ _ _ _ r h => by simp [indenturelaw11_PytokenSplit.l2] at h⟩
  | k + 1 => by
    obtain ⟨ih0, ih1, ih2, ih3⟩ := indenturelaw11_PytokenSplit.mono_l k
    refine ⟨?_, ?_, ?_, ?_⟩
    · intro y0 y1 y2 y3
      unfold indenturelaw11_PytokenSplit.j0
      repeat' first
      | (with_reducible exact ih0 _ _ _ _)
      | (with_reducible exact ih1 _ _ _ _)
      | (with_reducible exact ih2 _ _ _ _ _ _ _ _ _ _)
      | (with_reducible exact ih3 _ _ _ _ _ _ _ _ _ _ _ _ _ _ _ _ _ _ _ _ _)
      | (with_reducible exact indentureref11_SameEvents.mono _ _ _)
      | (with_reducible exact LeO.refl _)
      | (with_reducible exact LeO.none _)
      | (with_reducible refine LeO.ite ?_ ?_)
      | (with_reducible refine LeO.bind ?_ (fun _ => ?_))
      | exact ih0 _ _ _ _
      | exact ih1 _ _ _ _
      | exact ih2 _ _ _ _ _ _ _ _ _ _
      | exact ih3 _ _ _ _ _ _ _ _ _ _ _ _ _ _ _ _ _ _ _ _ _
      | exact indentureref11_SameEvents.mono _ _ _
      | exact LeO.none _
      | refine LeO.ite ?_ ?_
      | refine LeO.bind ?_ (fun _ => ?_)
    · intro y0 y1 y2 y3
      unfold indenturelaw11_PytokenSplit.l0
      repeat' first
      | (with_reducible exact ih0 _ _ _ _)
      | (with_reducible exact ih1 _ _ _ _)
      | (with_reducible exact ih2 _ _ _ _ _ _ _ _ _ _)
      | (with_reducible exact ih3 _ _ _ _ _ _ _ _ _ _ _ _ _ _ _ _ _ _ _ _ _)
      | (with_reducible exact indentureref11_SameEvents.mono _ _ _)
      | (with_reducible exact LeO.refl _)
      | (with_reducible exact LeO.none _)
      | (with_reducible refine LeO.ite ?_ ?_)
      | (with_reducible refine LeO.bind ?_ (fun _ => ?_))
      | exact ih0 _ _ _ _
      | exact ih1 _ _ _ _
      | exact ih2 _ _ _ _ _ _ _ _ _ _
      | exact ih3 _ _ _ _ _ _ _ _ _ _ _ _ _ _ _ _ _ _ _ _ _
      | exact indentureref11_SameEvents.mono _ _ _
      | exact LeO.none _
      | refine LeO.ite ?_ ?_
      | refine LeO.bind ?_ (fun _ => ?_)
    · intro y0 y1 y2 y3 y4 y5 y6 y7 y8 y9
      unfold indenturelaw11_PytokenSplit.l1
      repeat' first
      | (with_reducible exact ih0 _ _ _ _)
      | (with_reducible exact ih1 _ _ _ _)
      | (with_reducible exact ih2 _ _ _ _ _ _ _ _ _ _)
      | (with_reducible exact ih3 _ _ _ _ _ _ _ _ _ _ _ _ _ _ _ _ _ _ _ _ _)
      | (with_reducible exact indentureref11_SameEvents.mono _ _ _)
      | (with_reducible exact LeO.refl _)
      | (with_reducible exact LeO.none _)
      | (with_reducible refine LeO.ite ?_ ?_)
      | (with_reducible refine LeO.bind ?_ (fun _ => ?_))
      | exact ih0 _ _ _ _
      | exact ih1 _ _ _ _
      | exact ih2 _ _ _ _ _ _ _ _ _ _
      | exact ih3 _ _ _ _ _ _ _ _ _ _ _ _ _ _ _ _ _ _ _ _ _
      | exact indentureref11_SameEvents.mono _ _ _
      | exact LeO.none _
      | refine LeO.ite ?_ ?_
      | refine LeO.bind ?_ (fun _ => ?_)
    · intro y0 y1 y2 y3 y4 y5 y6 y7 y8 y9 y10 y11 y12 y13 y14 y15 y16 y17 y18 y19 y20
      unfold indenturelaw11_PytokenSplit.l2
      repeat' first
      | (with_reducible exact ih0 _ _ _ _)
      | (with_reducible exact ih1 _ _ _ _)
      | (with_reducible exact ih2 _ _ _ _ _ _ _ _ _ _)
      | (with_reducible exact ih3 _ _ _ _ _ _ _ _ _ _ _ _ _ _ _ _ _ _ _ _ _)
      | (with_reducible exact indentureref11_SameEvents.mono _ _ _)
      | (with_reducible exact LeO.refl _)
      | (with_reducible exact LeO.none _)
      | (with_reducible refine LeO.ite ?_ ?_)
      | (with_reducible refine LeO.bind ?_ (fun _ => ?_))
      | exact ih0 _ _ _ _
      | exact ih1 _ _ _ _
      | exact ih2 _ _ _ _ _ _ _ _ _ _
      | exact ih3 _ _ _ _ _ _ _ _ _ _ _ _ _ _ _ _ _ _ _ _ _
      | exact indentureref11_SameEvents.mono _ _ _
      | exact LeO.none _
      | refine LeO.ite ?_ ?_
      | refine LeO.bind ?_ (fun _ => ?_)
theorem indenturelaw11_PytokenSplit.mono : ∀ a0 a1 a2 k, LeO (indenturelaw11_PytokenSplit.f k a0 a1 a2) (indenturelaw11_PytokenSplit.f (k + 1) a0 a1 a2) := by
  intro a0 a1 a2 k
  obtain ⟨ih0, ih1, ih2, ih3⟩ := indenturelaw11_PytokenSplit.mono_l k
  unfold indenturelaw11_PytokenSplit.f
  repeat' first
      | (with_reducible exact ih0 _ _ _ _)
      | (with_reducible exact ih1 _ _ _ _)
      | (with_reducible exact ih2 _ _ _ _ _ _ _ _ _ _)
      | (with_reducible exact ih3 _ _ _ _ _ _ _ _ _ _ _ _ _ _ _ _ _ _ _ _ _)
      | (with_reducible exact indentureref11_SameEvents.mono _ _ _)
      | (with_reducible exact LeO.refl _)
      | (with_reducible exact LeO.none _)
      | (with_reducible refine LeO.ite ?_ ?_)
      | (with_reducible refine LeO.bind ?_ (fun _ => ?_))
      | exact ih0 _ _ _ _
      | exact ih1 _ _ _ _
      | exact ih2 _ _ _ _ _ _ _ _ _ _
      | exact ih3 _ _ _ _ _ _ _ _ _ _ _ _ _ _ _ _ _ _ _ _ _
      | exact indentureref11_SameEvents.mono _ _ _
      | exact LeO.none _
      | refine LeO.ite ?_ ?_
      | refine LeO.bind ?_ (fun _ => ?_)
set_option maxHeartbeats 8000000 in
set_option maxRecDepth 100000 in
theorem indenturelaw11_PytokenSplit.calls (k : Nat) (a0 : ByteArray) (a1 : ByteArray) (a2 : Int) (r : Bool) (w : World) (h : indenturelaw11_PytokenSplit.f k a0 a1 a2 = some r) (hrt : Aside0 (r = true)) :
    Calls Try.prog 6 #[.string a0, .string a1, .int .i64 a2] w fun e w' => e = .returned (.bool r) ∧ Below w.heap.size w w' := by
  have hu25 := Try.underlying25
  have hu33 := Try.underlying33
  have HB := Aside0.mk (Below.refl w.heap.size w)
  have H : (if (a0.size : Int) > 2000 then (indenturelaw11_PytokenSplit.j0 k a0 a1 a2 true) else (indenturelaw11_PytokenSplit.j0 k a0 a1 a2 (decide ((a1.size : Int) > 2000)))) = some r := h
  clear h
  have HC4 := Aside0.mk H
  clear H
  go_enter Try.func6, Try.ntmps6
  go_upto_region 1 with (fail)
  go_cut [24] (fun v24 wc => ∃ (kq : Nat) (x24_3 : Bool), v24 = .bool x24_3 ∧ Aside0 (indenturelaw11_PytokenSplit.j0 kq a0 a1 a2 x24_3 = some r) ∧ Aside0 (kq ≤ k) ∧ Aside0 (Below w.heap.size w wc))
  case first =>
    have H := HC4.out
    clear HC4
    by_cases c5 : (a0.size : Int) > 2000
    · rw [if_pos c5] at H
      have c5b0 : decide (2000 < (a0.size : Int)) = true := decide_eq_true c5
      have c5b1 : decide (2000 < a0.size) = true := decide_eq_true (by omega)
      clear c5
      (first | rw [c5b0] | (simp only [i64_w, i32_w]; rw [c5b0]) | skip)
      have H' := Aside0.mk H
      clear H
      go_wp2
      go_meet
      case rel => exact ⟨_, (true), (by first | rfl | (simp; done) | (simp [*]; done)), H', ⟨by first | omega | exact Nat.le_refl _⟩, ⟨by repeat (first | (with_reducible first | exact HB.out | apply below_alloc | apply pw_below_drewN | apply below_drew1) | exact HB.out)⟩⟩
    · rw [if_neg c5] at H
      have c5b0 : decide (2000 < (a0.size : Int)) = false := decide_eq_false c5
      have c5b1 : decide (2000 < a0.size) = false := decide_eq_false (by omega)
      clear c5
      (first | rw [c5b0] | (simp only [i64_w, i32_w]; rw [c5b0]) | skip)
      have H' := Aside0.mk H
      clear H
      go_wp2
      go_meet
      case rel => exact ⟨_, (decide ((a1.size : Int) > 2000)), (by first | rfl | (simp; done) | (simp [*]; done)), H', ⟨by first | omega | exact Nat.le_refl _⟩, ⟨by repeat (first | (with_reducible first | exact HB.out | apply below_alloc | apply pw_below_drewN | apply below_drew1) | exact HB.out)⟩⟩
  case rest =>
    clear HC4
    try clear p2
    try clear c5
    try clear c5b0
    try clear c5b1
    obtain ⟨kq, x24_3, rfl, HA, HJ3, HB⟩ := hcut
    cases kq with
    | zero => exact absurd HA.out (by simp [indenturelaw11_PytokenSplit.j0])
    | succ kj3 =>
      have H := HA.out
      clear HA
      simp only [indenturelaw11_PytokenSplit.j0] at H
      by_cases c6 : x24_3 = true
      · subst c6
        have H1 : (some true) = some r := by rw [if_pos rfl] at H; exact H
        clear H
        have H := H1
        clear H1
        obtain rfl := Option.some.inj H
        go_wp2
        go_ret
        exact ⟨by first | rfl | (simp [errW_none, errW_some] <;> rfl) | (simp [*, errW_none, errW_some] <;> rfl), by repeat (first | (with_reducible first | exact HB.out | apply below_alloc | apply pw_below_drewN | apply below_drew1) | exact HB.out)⟩
      · replace c6 := Bool.eq_false_iff.mpr c6
        subst c6
        have H1 : (indenturelaw11_PytokenSplit.l0 kj3 a0 a1 a2 0) = some r := by rw [if_neg (show ¬ (false = true) by decide)] at H; exact H
        clear H
        have H := H1
        clear H1
        have H' := Aside0.mk H
        clear H
        go_wp2
        go_loopg [7] kj3 (fun kq v7 w' => ∃ (x7_2 : Int), v7 = .int .i64 x7_2 ∧ Aside0 (indenturelaw11_PytokenSplit.l0 kq a0 a1 a2 x7_2 = some r) ∧ Aside0 (kq ≤ kj3) ∧ Aside0 (Below w.heap.size w w'))
        case atStart => exact ⟨(0), (by first | rfl | (simp; done) | (simp [*]; done)), H', ⟨Nat.le_refl _⟩, ⟨by repeat (first | (with_reducible first | exact HB.out | apply below_alloc | apply pw_below_drewN | apply below_drew1) | exact HB.out)⟩⟩
        case round =>
          clear H'
          try clear p2
          try clear c5
          try clear c5b0
          try clear c5b1
          try clear c6
          try clear p2
          obtain ⟨x7_2, rfl, HA, HK2, HB⟩ := hrel
          cases gk with
          | zero => exact absurd HA.out (by simp [indenturelaw11_PytokenSplit.l0])
          | succ k2 =>
            have H := HA.out
            clear HA
            simp only [indenturelaw11_PytokenSplit.l0] at H
            by_cases c7 : x7_2 < (a0.size : Int)
            · rw [if_pos c7] at H
              have c7b0 : decide (x7_2 < (a0.size : Int)) = true := decide_eq_true c7
              clear c7
              by_cases c8 : 0 ≤ x7_2
              · rw [if_pos c8] at H
                have c8b0 : decide (0 ≤ x7_2) = true := decide_eq_true c8
                clear c8
                by_cases c10 : (bt a0 x7_2) = 10
                · rw [if_pos c10] at H
                  have c10b0 : ((bt a0 x7_2) == 10) = true := beq_iff_eq.mpr c10
                  have c10b1 : ((bt a0 x7_2) != 10) = false := bne_eq_false_iff_eq.mpr c10
                  clear c10
                  replace H := Option.bind_eq_some_iff.mp H
                  obtain ⟨t157, A110, H⟩ := H
                  replace H : (some t157) = some r := H
                  have A11 := Aside0.mk A110
                  clear A110
                  obtain rfl := Option.some.inj H
                  have p9 : 0 ≤ (x7_2 : Int) := of_decide_eq_true (by first | (with_reducible assumption) | assumption)
                  have q9 : x7_2 < (a0.size : Int) := of_decide_eq_true (by first | (with_reducible assumption) | assumption)
                  have hx9 := bt_at a0 x7_2
                  replace p9 := eq_true p9
                  replace q9 := eq_true q9
                  go_wp2_with (first | ((with_reducible refine gate_callee (f := 12) rfl ?_); refine goesL_ (some 35) rfl rfl Try.func12 (by kernel_rfl) rfl #[] rfl (by (try simp only [List.map_toArray, List.map_cons, List.map_nil]); first | done | rfl | (simp only [List.length_drop, List.length_take]; rfl)) ?_; (with_reducible refine (indenturelaw11_reads.calls  t157 _ A11.out).mono ?_); rintro e w12 ⟨rfl, hb⟩; refine ⟨_, rfl, ?_⟩; have n0_ := Aside0.mk (below_step (by repeat (first | (with_reducible first | exact HB.out | apply below_alloc | apply pw_below_drewN | apply below_drew1) | exact HB.out)) hb); clear HB; have HB := n0_; clear n0_; (try clear hb); (try clear hb2); (try clear hk); (try clear hi)))
                  go_ret
                  exact ⟨by first | rfl | (simp [errW_none, errW_some] <;> rfl) | (simp [*, errW_none, errW_some] <;> rfl), by repeat (first | (with_reducible first | exact HB.out | apply below_alloc | apply pw_below_drewN | apply below_drew1) | exact HB.out)⟩
                · rw [if_neg c10] at H
                  have c10b0 : ((bt a0 x7_2) == 10) = false := beq_eq_false_iff_ne.mpr c10
                  have c10b1 : ((bt a0 x7_2) != 10) = true := bne_iff_ne.mpr c10
                  have H' := Aside0.mk H
                  clear H
                  have p9 : 0 ≤ (x7_2 : Int) := of_decide_eq_true (by first | (with_reducible assumption) | assumption)
                  have q9 : x7_2 < (a0.size : Int) := of_decide_eq_true (by first | (with_reducible assumption) | assumption)
                  have hx9 := bt_at a0 x7_2
                  replace p9 := eq_true p9
                  replace q9 := eq_true q9
                  go_wp2
                  go_roundg k2
                  case measure => have := HJ3.out; have := HK2.out; omega
                  case rel => exact ⟨(wrap64 (x7_2 + 1)), (by first | rfl | (simp; done) | (simp [*]; done)), H', ⟨by have := HJ3.out; have := HK2.out; omega⟩, ⟨by repeat (first | (with_reducible first | exact HB.out | apply below_alloc | apply pw_below_drewN | apply below_drew1) | exact HB.out)⟩⟩
              · rw [if_neg c8] at H
                exact absurd H (by simp)
            · rw [if_neg c7] at H
              have c7b0 : decide (x7_2 < (a0.size : Int)) = false := decide_eq_false c7
              clear c7
              by_cases c13 : a0.size + 1 ≤ 9223372036854775807
              · rw [if_pos c13] at H
                have c13b0 := eq_true c13
                have c13b1 : decide (a0.size + 1 ≤ 9223372036854775807) = true := decide_eq_true c13
                try have c13b2 : (9223372036854775807 < a0.size + 1) = False := eq_false (Nat.not_lt.2 c13)
                replace H := Option.bind_eq_some_iff.mp H
                obtain ⟨⟨t158, t161, t162, t163, t164, t165⟩, A140, H⟩ := H
                replace H : (indenturelaw11_PytokenSplit.l1 k2 a0 a1 a2 0 t158 t161 t162 t163 t164 t165) = some r := H
                have A14 := Aside0.mk A140
                clear A140
                have H' := Aside0.mk H
                clear H
                go_wp2_with (first | ((with_reducible refine gate_callee (f := 10) rfl ?_); refine goesL_ (some 39) rfl rfl Try.func10 (by kernel_rfl) rfl #[.string (a0 ++ (⟨#[32]⟩ : ByteArray)), .int .i64 0, .int .u8 0, .int .i64 a2] rfl (by (try simp only [List.map_toArray, List.map_cons, List.map_nil]); first | done | rfl | (simp only [List.length_drop, List.length_take]; rfl)) ?_; (with_reducible refine (pytoken_Scan.calls (a0 ++ (⟨#[32]⟩ : ByteArray)) 0 0 a2 t158 t161 t162 t163 t164 t165 _ A14.out).mono ?_); rintro e w15 ⟨v159, rfl, ho0, hb⟩; refine ⟨_, rfl, ?_⟩; have n0_ := Aside0.mk (Kd.R_lower ho0 (below_size (by repeat (first | (with_reducible first | exact HB.out | apply below_alloc | apply pw_below_drewN | apply below_drew1) | exact HB.out)))); have n1_ := Aside0.mk (below_step (by repeat (first | (with_reducible first | exact HB.out | apply below_alloc | apply pw_below_drewN | apply below_drew1) | exact HB.out)) hb); clear HB; have HO160 := n0_; have HB := n1_; clear n0_ n1_; (try clear hb); (try clear hb2); (try clear hk); (try clear hi); (try clear ho0)) | ((with_reducible refine gate_dst (N := 8) rfl ?_); (try (refine gate_guard (by rfl) ?_; dsimp only)); refine box_event ?hg (N := 8) ?hd (cs := #[.slice none 0 0, .int .u8 0, .int .i64 0, .bool false, .bool false, .bool false]) (t := 25) ?hr ?_; (case hd => rfl); (case hg => rfl); (case hr => first | (go_simp; done) | (go_simp; rfl)); intro gb166 hg w16 hbox hb; have n0_ := Aside0.mk (Kd.R_below (by (with_reducible repeat (first | apply Kd.R_alloc | apply Kd.R_drewN | apply Kd.R_drew)); exact HO160.out) hb); have n1_ := Aside0.mk (below_step (by repeat (first | (with_reducible first | exact HB.out | apply below_alloc | apply pw_below_drewN | apply below_drew1) | exact HB.out)) hb); have n2_ := Aside0.mk (hbox); have n3_ := Aside0.mk ((by rw [hg]; exact (below_size (by repeat (first | (with_reducible first | exact HB.out | apply below_alloc | apply pw_below_drewN | apply below_drew1) | exact HB.out))) : w.heap.size ≤ gb166)); have n4_ := Aside0.mk ((by rw [hg]; exact (below_size (by repeat (first | (with_reducible first | exact HB.out | apply below_alloc | apply pw_below_drewN | apply below_drew1) | exact HB.out))) : w.heap.size ≤ gb166)); clear HO160; clear HB; have HO160 := n0_; have HB := n1_; have BK166 := n2_; have GW166 := n3_; have GE166 := n4_; clear n0_ n1_ n2_ n3_ n4_; clear hb hbox hg; obtain ⟨Ao17, co17, eo17⟩ := Kd.R_slice HO160.out; subst eo17; have hcz18_0 : w16.cell? ⟨gb166, 0, none⟩ = some (.slice none 0 0) := (blk_cell BK166.out 0).trans rfl; have hcz18_1 : w16.cell? ⟨gb166, 1, none⟩ = some (.int .u8 0) := (blk_cell BK166.out 1).trans rfl; have hcz18_2 : w16.cell? ⟨gb166, 2, none⟩ = some (.int .i64 0) := (blk_cell BK166.out 2).trans rfl; have hcz18_3 : w16.cell? ⟨gb166, 3, none⟩ = some (.bool false) := (blk_cell BK166.out 3).trans rfl; have hcz18_4 : w16.cell? ⟨gb166, 4, none⟩ = some (.bool false) := (blk_cell BK166.out 4).trans rfl; have hcz18_5 : w16.cell? ⟨gb166, 5, none⟩ = some (.bool false) := (blk_cell BK166.out 5).trans rfl; have hfz18_0 := blk_frozen BK166.out 0; have hfz18_1 := blk_frozen BK166.out 1; have hfz18_2 := blk_frozen BK166.out 2; have hfz18_3 := blk_frozen BK166.out 3; have hfz18_4 := blk_frozen BK166.out 4; have hfz18_5 := blk_frozen BK166.out 5))
                go_loopg [9] k2 (fun kq v9 w' => ∃ (x9_3 : Int), v9 = .int .i64 x9_3 ∧ Aside0 (indenturelaw11_PytokenSplit.l1 kq a0 a1 a2 x9_3 t158 t161 t162 t163 t164 t165 = some r) ∧ Aside0 (kq ≤ k2) ∧ Aside0 (Kd.R k33 33 w' w.heap.size (fun _ => True) (.slice Ao17 t158.length co17) t158) ∧ Aside0 (w'.heap[gb166]? = some (.cells #[(.slice Ao17 t158.length co17), .int .u8 t161, .int .i64 t162, .bool t163, .bool t164, .bool t165] 25 (0, 0))) ∧ Aside0 (Below w.heap.size w w'))
                case atStart => exact ⟨(0), (by first | rfl | (simp; done) | (simp [*]; done)), H', ⟨Nat.le_refl _⟩, ⟨by (with_reducible repeat (first | apply Kd.R_alloc | apply Kd.R_drewN | apply Kd.R_drew)); exact Kd.R_mono (Kd.R_far (p := ⟨gb166, 5, none⟩) (Kd.R_far (p := ⟨gb166, 4, none⟩) (Kd.R_far (p := ⟨gb166, 3, none⟩) (Kd.R_far (p := ⟨gb166, 2, none⟩) (Kd.R_far (p := ⟨gb166, 1, none⟩) (Kd.R_far (p := ⟨gb166, 0, none⟩) (Kd.R_types HO160.out BK166.out (by decide)) (fun _ hk => hk.2) (.slice Ao17 t158.length co17)) (fun _ hk => hk.2) (.int .u8 t161)) (fun _ hk => hk.2) (.int .i64 t162)) (fun _ hk => hk.2) (.bool t163)) (fun _ hk => hk.2) (.bool t164)) (fun _ hk => hk.2) (.bool t165)) (fun _ hk => trivial)⟩, ⟨by (with_reducible repeat (first | refine blk_drewN ?_ _ | refine blk_drew ?_ | refine blk_alloc ?_ _)); refine blk_put (cs := #[.slice Ao17 t158.length co17, .int .u8 t161, .int .i64 t162, .bool t163, .bool t164, .bool false]) ?_ 5 _ rfl; (with_reducible repeat (first | refine blk_drewN ?_ _ | refine blk_drew ?_ | refine blk_alloc ?_ _)); refine blk_put (cs := #[.slice Ao17 t158.length co17, .int .u8 t161, .int .i64 t162, .bool t163, .bool false, .bool false]) ?_ 4 _ rfl; (with_reducible repeat (first | refine blk_drewN ?_ _ | refine blk_drew ?_ | refine blk_alloc ?_ _)); refine blk_put (cs := #[.slice Ao17 t158.length co17, .int .u8 t161, .int .i64 t162, .bool false, .bool false, .bool false]) ?_ 3 _ rfl; (with_reducible repeat (first | refine blk_drewN ?_ _ | refine blk_drew ?_ | refine blk_alloc ?_ _)); refine blk_put (cs := #[.slice Ao17 t158.length co17, .int .u8 t161, .int .i64 0, .bool false, .bool false, .bool false]) ?_ 2 _ rfl; (with_reducible repeat (first | refine blk_drewN ?_ _ | refine blk_drew ?_ | refine blk_alloc ?_ _)); refine blk_put (cs := #[.slice Ao17 t158.length co17, .int .u8 0, .int .i64 0, .bool false, .bool false, .bool false]) ?_ 1 _ rfl; (with_reducible repeat (first | refine blk_drewN ?_ _ | refine blk_drew ?_ | refine blk_alloc ?_ _)); refine blk_put (cs := #[.slice none 0 0, .int .u8 0, .int .i64 0, .bool false, .bool false, .bool false]) ?_ 0 _ rfl; (with_reducible repeat (first | refine blk_drewN ?_ _ | refine blk_drew ?_ | refine blk_alloc ?_ _)); exact BK166.out⟩, ⟨by repeat (first | (with_reducible first | exact HB.out | apply below_alloc | apply pw_below_drewN | apply below_drew1 | refine below_set ?_ GE166.out) | exact HB.out)⟩⟩
                case round =>
                  clear H'
                  try clear c1
                  try clear p2
                  try clear c5
                  try clear c5b0
                  try clear c5b1
                  try clear c6
                  try clear p6
                  try clear c7
                  try clear c7b0
                  try clear c8
                  try clear c8b0
                  try clear p9
                  try clear q9
                  try clear hx9
                  try clear c10
                  try clear c10b0
                  try clear c10b1
                  try clear c12
                  try clear c13
                  try clear c13b0
                  try clear c13b1
                  try clear c13b2
                  try clear hcz18_0
                  try clear hcz18_1
                  try clear hcz18_2
                  try clear hcz18_3
                  try clear hcz18_4
                  try clear hcz18_5
                  try clear hfz18_0
                  try clear hfz18_1
                  try clear hfz18_2
                  try clear hfz18_3
                  try clear hfz18_4
                  try clear hfz18_5
                  try clear p2
                  try clear p9
                  try clear q9
                  obtain ⟨x9_3, rfl, HA, HK3, HO_167000, BK166, HB⟩ := hrel
                  cases gk with
                  | zero => exact absurd HA.out (by simp [indenturelaw11_PytokenSplit.l1])
                  | succ k3 =>
                    have H := HA.out
                    clear HA
                    simp only [indenturelaw11_PytokenSplit.l1] at H
                    by_cases c19 : x9_3 < (t158.length : Int)
                    · rw [if_pos c19] at H
                      have c19b0 : decide (x9_3 < (t158.length : Int)) = true := decide_eq_true c19
                      clear c19
                      by_cases c20 : 0 ≤ x9_3
                      · rw [if_pos c20] at H
                        have c20b0 : decide (0 ≤ x9_3) = true := decide_eq_true c20
                        clear c20
                        by_cases c21 : ((rd_T33 t158 x9_3).f1) = 13
                        · rw [if_pos c21] at H
                          have c21b0 : (((rd_T33 t158 x9_3).f1) == 13) = true := beq_iff_eq.mpr c21
                          have c21b1 : (((rd_T33 t158 x9_3).f1) != 13) = false := bne_eq_false_iff_eq.mpr c21
                          clear c21
                          have H' := Aside0.mk H
                          clear H
                          have hcz22_0 : wr.cell? ⟨gb166, 0, none⟩ = some (.slice Ao17 t158.length co17) := (blk_cell BK166.out 0).trans rfl
                          have hcz22_1 : wr.cell? ⟨gb166, 1, none⟩ = some (.int .u8 t161) := (blk_cell BK166.out 1).trans rfl
                          have hcz22_2 : wr.cell? ⟨gb166, 2, none⟩ = some (.int .i64 t162) := (blk_cell BK166.out 2).trans rfl
                          have hcz22_3 : wr.cell? ⟨gb166, 3, none⟩ = some (.bool t163) := (blk_cell BK166.out 3).trans rfl
                          have hcz22_4 : wr.cell? ⟨gb166, 4, none⟩ = some (.bool t164) := (blk_cell BK166.out 4).trans rfl
                          have hcz22_5 : wr.cell? ⟨gb166, 5, none⟩ = some (.bool t165) := (blk_cell BK166.out 5).trans rfl
                          have hfz22_0 := blk_frozen BK166.out 0
                          have hfz22_1 := blk_frozen BK166.out 1
                          have hfz22_2 := blk_frozen BK166.out 2
                          have hfz22_3 := blk_frozen BK166.out 3
                          have hfz22_4 := blk_frozen BK166.out 4
                          have hfz22_5 := blk_frozen BK166.out 5
                          have p167 : 0 ≤ (x9_3 : Int) := of_decide_eq_true (by first | (with_reducible assumption) | assumption)
                          have q167 : x9_3 < (t158.length : Int) := of_decide_eq_true (by first | (with_reducible assumption) | assumption)
                          obtain ⟨ad167, e167, hx167_0, hx167_1, hx167_2, hx167_3⟩ := at_T33 (Kd.R_reads' HO_167000.out).2.2 x9_3 p167 q167
                          cases e167
                          replace p167 := eq_true p167
                          replace q167 := eq_true q167
                          go_wp2
                          go_roundg k3
                          case measure => have := HJ3.out; have := HK2.out; have := HK3.out; omega
                          case rel => exact ⟨(wrap64 (x9_3 + 1)), (by first | rfl | (simp; done) | (simp [*]; done)), H', ⟨by have := HJ3.out; have := HK2.out; have := HK3.out; omega⟩, ⟨by (with_reducible repeat (first | apply Kd.R_alloc | apply Kd.R_drewN | apply Kd.R_drew)); exact HO_167000.out⟩, ⟨by (with_reducible repeat (first | refine blk_drewN ?_ _ | refine blk_drew ?_ | refine blk_alloc ?_ _)); exact BK166.out⟩, ⟨by repeat (first | (with_reducible first | exact HB.out | apply below_alloc | apply pw_below_drewN | apply below_drew1 | refine below_set ?_ GE166.out) | exact HB.out)⟩⟩
                        · rw [if_neg c21] at H
                          have c21b0 : (((rd_T33 t158 x9_3).f1) == 13) = false := beq_eq_false_iff_ne.mpr c21
                          have c21b1 : (((rd_T33 t158 x9_3).f1) != 13) = true := bne_iff_ne.mpr c21
                          by_cases c23 : ((rd_T33 t158 x9_3).f1) = 14
                          · rw [if_pos c23] at H
                            have c23b0 : (((rd_T33 t158 x9_3).f1) == 14) = true := beq_iff_eq.mpr c23
                            have c23b1 : (((rd_T33 t158 x9_3).f1) != 14) = false := bne_eq_false_iff_eq.mpr c23
                            clear c23
                            have H' := Aside0.mk H
                            clear H
                            have hcz24_0 : wr.cell? ⟨gb166, 0, none⟩ = some (.slice Ao17 t158.length co17) := (blk_cell BK166.out 0).trans rfl
                            have hcz24_1 : wr.cell? ⟨gb166, 1, none⟩ = some (.int .u8 t161) := (blk_cell BK166.out 1).trans rfl
                            have hcz24_2 : wr.cell? ⟨gb166, 2, none⟩ = some (.int .i64 t162) := (blk_cell BK166.out 2).trans rfl
                            have hcz24_3 : wr.cell? ⟨gb166, 3, none⟩ = some (.bool t163) := (blk_cell BK166.out 3).trans rfl
                            have hcz24_4 : wr.cell? ⟨gb166, 4, none⟩ = some (.bool t164) := (blk_cell BK166.out 4).trans rfl
                            have hcz24_5 : wr.cell? ⟨gb166, 5, none⟩ = some (.bool t165) := (blk_cell BK166.out 5).trans rfl
                            have hfz24_0 := blk_frozen BK166.out 0
                            have hfz24_1 := blk_frozen BK166.out 1
                            have hfz24_2 := blk_frozen BK166.out 2
                            have hfz24_3 := blk_frozen BK166.out 3
                            have hfz24_4 := blk_frozen BK166.out 4
                            have hfz24_5 := blk_frozen BK166.out 5
                            have p167 : 0 ≤ (x9_3 : Int) := of_decide_eq_true (by first | (with_reducible assumption) | assumption)
                            have q167 : x9_3 < (t158.length : Int) := of_decide_eq_true (by first | (with_reducible assumption) | assumption)
                            obtain ⟨ad167, e167, hx167_0, hx167_1, hx167_2, hx167_3⟩ := at_T33 (Kd.R_reads' HO_167000.out).2.2 x9_3 p167 q167
                            cases e167
                            replace p167 := eq_true p167
                            replace q167 := eq_true q167
                            go_wp2
                            go_roundg k3
                            case measure => have := HJ3.out; have := HK2.out; have := HK3.out; omega
                            case rel => exact ⟨(wrap64 (x9_3 + 1)), (by first | rfl | (simp; done) | (simp [*]; done)), H', ⟨by have := HJ3.out; have := HK2.out; have := HK3.out; omega⟩, ⟨by (with_reducible repeat (first | apply Kd.R_alloc | apply Kd.R_drewN | apply Kd.R_drew)); exact HO_167000.out⟩, ⟨by (with_reducible repeat (first | refine blk_drewN ?_ _ | refine blk_drew ?_ | refine blk_alloc ?_ _)); exact BK166.out⟩, ⟨by repeat (first | (with_reducible first | exact HB.out | apply below_alloc | apply pw_below_drewN | apply below_drew1 | refine below_set ?_ GE166.out) | exact HB.out)⟩⟩
                          · rw [if_neg c23] at H
                            have c23b0 : (((rd_T33 t158 x9_3).f1) == 14) = false := beq_eq_false_iff_ne.mpr c23
                            have c23b1 : (((rd_T33 t158 x9_3).f1) != 14) = true := bne_iff_ne.mpr c23
                            by_cases c25 : ((rd_T33 t158 x9_3).f1) = 15
                            · rw [if_pos c25] at H
                              have c25b0 : (((rd_T33 t158 x9_3).f1) == 15) = true := beq_iff_eq.mpr c25
                              have c25b1 : (((rd_T33 t158 x9_3).f1) != 15) = false := bne_eq_false_iff_eq.mpr c25
                              clear c25
                              have H' := Aside0.mk H
                              clear H
                              have hcz26_0 : wr.cell? ⟨gb166, 0, none⟩ = some (.slice Ao17 t158.length co17) := (blk_cell BK166.out 0).trans rfl
                              have hcz26_1 : wr.cell? ⟨gb166, 1, none⟩ = some (.int .u8 t161) := (blk_cell BK166.out 1).trans rfl
                              have hcz26_2 : wr.cell? ⟨gb166, 2, none⟩ = some (.int .i64 t162) := (blk_cell BK166.out 2).trans rfl
                              have hcz26_3 : wr.cell? ⟨gb166, 3, none⟩ = some (.bool t163) := (blk_cell BK166.out 3).trans rfl
                              have hcz26_4 : wr.cell? ⟨gb166, 4, none⟩ = some (.bool t164) := (blk_cell BK166.out 4).trans rfl
                              have hcz26_5 : wr.cell? ⟨gb166, 5, none⟩ = some (.bool t165) := (blk_cell BK166.out 5).trans rfl
                              have hfz26_0 := blk_frozen BK166.out 0
                              have hfz26_1 := blk_frozen BK166.out 1
                              have hfz26_2 := blk_frozen BK166.out 2
                              have hfz26_3 := blk_frozen BK166.out 3
                              have hfz26_4 := blk_frozen BK166.out 4
                              have hfz26_5 := blk_frozen BK166.out 5
                              have p167 : 0 ≤ (x9_3 : Int) := of_decide_eq_true (by first | (with_reducible assumption) | assumption)
                              have q167 : x9_3 < (t158.length : Int) := of_decide_eq_true (by first | (with_reducible assumption) | assumption)
                              obtain ⟨ad167, e167, hx167_0, hx167_1, hx167_2, hx167_3⟩ := at_T33 (Kd.R_reads' HO_167000.out).2.2 x9_3 p167 q167
                              cases e167
                              replace p167 := eq_true p167
                              replace q167 := eq_true q167
                              go_wp2
                              go_roundg k3
                              case measure => have := HJ3.out; have := HK2.out; have := HK3.out; omega
                              case rel => exact ⟨(wrap64 (x9_3 + 1)), (by first | rfl | (simp; done) | (simp [*]; done)), H', ⟨by have := HJ3.out; have := HK2.out; have := HK3.out; omega⟩, ⟨by (with_reducible repeat (first | apply Kd.R_alloc | apply Kd.R_drewN | apply Kd.R_drew)); exact HO_167000.out⟩, ⟨by (with_reducible repeat (first | refine blk_drewN ?_ _ | refine blk_drew ?_ | refine blk_alloc ?_ _)); exact BK166.out⟩, ⟨by repeat (first | (with_reducible first | exact HB.out | apply below_alloc | apply pw_below_drewN | apply below_drew1 | refine below_set ?_ GE166.out) | exact HB.out)⟩⟩
                            · rw [if_neg c25] at H
                              have c25b0 : (((rd_T33 t158 x9_3).f1) == 15) = false := beq_eq_false_iff_ne.mpr c25
                              have c25b1 : (((rd_T33 t158 x9_3).f1) != 15) = true := bne_iff_ne.mpr c25
                              by_cases c27 : ((rd_T33 t158 x9_3).f1) = 17
                              · rw [if_pos c27] at H
                                have c27b0 : (((rd_T33 t158 x9_3).f1) == 17) = true := beq_iff_eq.mpr c27
                                have c27b1 : (((rd_T33 t158 x9_3).f1) != 17) = false := bne_eq_false_iff_eq.mpr c27
                                clear c27
                                have H' := Aside0.mk H
                                clear H
                                have hcz28_0 : wr.cell? ⟨gb166, 0, none⟩ = some (.slice Ao17 t158.length co17) := (blk_cell BK166.out 0).trans rfl
                                have hcz28_1 : wr.cell? ⟨gb166, 1, none⟩ = some (.int .u8 t161) := (blk_cell BK166.out 1).trans rfl
                                have hcz28_2 : wr.cell? ⟨gb166, 2, none⟩ = some (.int .i64 t162) := (blk_cell BK166.out 2).trans rfl
                                have hcz28_3 : wr.cell? ⟨gb166, 3, none⟩ = some (.bool t163) := (blk_cell BK166.out 3).trans rfl
                                have hcz28_4 : wr.cell? ⟨gb166, 4, none⟩ = some (.bool t164) := (blk_cell BK166.out 4).trans rfl
                                have hcz28_5 : wr.cell? ⟨gb166, 5, none⟩ = some (.bool t165) := (blk_cell BK166.out 5).trans rfl
                                have hfz28_0 := blk_frozen BK166.out 0
                                have hfz28_1 := blk_frozen BK166.out 1
                                have hfz28_2 := blk_frozen BK166.out 2
                                have hfz28_3 := blk_frozen BK166.out 3
                                have hfz28_4 := blk_frozen BK166.out 4
                                have hfz28_5 := blk_frozen BK166.out 5
                                have p167 : 0 ≤ (x9_3 : Int) := of_decide_eq_true (by first | (with_reducible assumption) | assumption)
                                have q167 : x9_3 < (t158.length : Int) := of_decide_eq_true (by first | (with_reducible assumption) | assumption)
                                obtain ⟨ad167, e167, hx167_0, hx167_1, hx167_2, hx167_3⟩ := at_T33 (Kd.R_reads' HO_167000.out).2.2 x9_3 p167 q167
                                cases e167
                                replace p167 := eq_true p167
                                replace q167 := eq_true q167
                                go_wp2
                                go_roundg k3
                                case measure => have := HJ3.out; have := HK2.out; have := HK3.out; omega
                                case rel => exact ⟨(wrap64 (x9_3 + 1)), (by first | rfl | (simp; done) | (simp [*]; done)), H', ⟨by have := HJ3.out; have := HK2.out; have := HK3.out; omega⟩, ⟨by (with_reducible repeat (first | apply Kd.R_alloc | apply Kd.R_drewN | apply Kd.R_drew)); exact HO_167000.out⟩, ⟨by (with_reducible repeat (first | refine blk_drewN ?_ _ | refine blk_drew ?_ | refine blk_alloc ?_ _)); exact BK166.out⟩, ⟨by repeat (first | (with_reducible first | exact HB.out | apply below_alloc | apply pw_below_drewN | apply below_drew1 | refine below_set ?_ GE166.out) | exact HB.out)⟩⟩
                              · rw [if_neg c27] at H
                                have c27b0 : (((rd_T33 t158 x9_3).f1) == 17) = false := beq_eq_false_iff_ne.mpr c27
                                have c27b1 : (((rd_T33 t158 x9_3).f1) != 17) = true := bne_iff_ne.mpr c27
                                replace H := Option.bind_eq_some_iff.mp H
                                obtain ⟨t168, A290, H⟩ := H
                                replace H : (some t168) = some r := H
                                have A29 := Aside0.mk A290
                                clear A290
                                obtain rfl := Option.some.inj H
                                have hcz30_0 : wr.cell? ⟨gb166, 0, none⟩ = some (.slice Ao17 t158.length co17) := (blk_cell BK166.out 0).trans rfl
                                have hcz30_1 : wr.cell? ⟨gb166, 1, none⟩ = some (.int .u8 t161) := (blk_cell BK166.out 1).trans rfl
                                have hcz30_2 : wr.cell? ⟨gb166, 2, none⟩ = some (.int .i64 t162) := (blk_cell BK166.out 2).trans rfl
                                have hcz30_3 : wr.cell? ⟨gb166, 3, none⟩ = some (.bool t163) := (blk_cell BK166.out 3).trans rfl
                                have hcz30_4 : wr.cell? ⟨gb166, 4, none⟩ = some (.bool t164) := (blk_cell BK166.out 4).trans rfl
                                have hcz30_5 : wr.cell? ⟨gb166, 5, none⟩ = some (.bool t165) := (blk_cell BK166.out 5).trans rfl
                                have hfz30_0 := blk_frozen BK166.out 0
                                have hfz30_1 := blk_frozen BK166.out 1
                                have hfz30_2 := blk_frozen BK166.out 2
                                have hfz30_3 := blk_frozen BK166.out 3
                                have hfz30_4 := blk_frozen BK166.out 4
                                have hfz30_5 := blk_frozen BK166.out 5
                                have p167 : 0 ≤ (x9_3 : Int) := of_decide_eq_true (by first | (with_reducible assumption) | assumption)
                                have q167 : x9_3 < (t158.length : Int) := of_decide_eq_true (by first | (with_reducible assumption) | assumption)
                                obtain ⟨ad167, e167, hx167_0, hx167_1, hx167_2, hx167_3⟩ := at_T33 (Kd.R_reads' HO_167000.out).2.2 x9_3 p167 q167
                                cases e167
                                replace p167 := eq_true p167
                                replace q167 := eq_true q167
                                go_wp2_with (first | ((with_reducible refine gate_callee (f := 12) rfl ?_); refine goesL_ (some 67) rfl rfl Try.func12 (by kernel_rfl) rfl #[] rfl (by (try simp only [List.map_toArray, List.map_cons, List.map_nil]); first | done | rfl | (simp only [List.length_drop, List.length_take]; rfl)) ?_; (with_reducible refine (indenturelaw11_reads.calls  t168 _ A29.out).mono ?_); rintro e w31 ⟨rfl, hb⟩; refine ⟨_, rfl, ?_⟩; have n0_ := Aside0.mk (Kd.R_below (by (with_reducible repeat (first | apply Kd.R_alloc | apply Kd.R_drewN | apply Kd.R_drew)); exact HO_167000.out) hb); have n1_ := Aside0.mk (blk_below (g := gb166) (o := .cells #[.slice (some ad167) t158.length co17, .int .u8 t161, .int .i64 t162, .bool t163, .bool t164, .bool t165] 25 (0, 0)) (by (with_reducible repeat (first | refine blk_drewN ?_ _ | refine blk_drew ?_ | refine blk_alloc ?_ _)); exact BK166.out) hb); have n2_ := Aside0.mk (below_step (by repeat (first | (with_reducible first | exact HB.out | apply below_alloc | apply pw_below_drewN | apply below_drew1 | refine below_set ?_ GE166.out) | exact HB.out)) hb); clear HO_167000; clear BK166; clear HB; have HO_167000 := n0_; have BK166 := n1_; have HB := n2_; clear n0_ n1_ n2_; (try clear hb); (try clear hb2); (try clear hk); (try clear hi)))
                                go_ret
                                exact ⟨by first | rfl | (simp [errW_none, errW_some] <;> rfl) | (simp [*, errW_none, errW_some] <;> rfl), by repeat (first | (with_reducible first | exact HB.out | apply below_alloc | apply pw_below_drewN | apply below_drew1 | refine below_set ?_ GE166.out) | exact HB.out)⟩
                      · rw [if_neg c20] at H
                        exact absurd H (by simp)
                    · rw [if_neg c19] at H
                      have c19b0 : decide (x9_3 < (t158.length : Int)) = false := decide_eq_false c19
                      clear c19
                      replace H := Option.bind_eq_some_iff.mp H
                      obtain ⟨⟨t169, t172, t173, t174, t175, t176⟩, A320, H⟩ := H
                      replace H : (if a0.size + 1 ≤ 9223372036854775807 then (if (a0 ++ (⟨#[32]⟩ : ByteArray)).size + a1.size ≤ 9223372036854775807 then ((pytoken_Scan.f ((a0 ++ (⟨#[32]⟩ : ByteArray)) ++ a1) 0 0 a2).bind fun bt178 => ((some (([] : List (S33)) : List (S33))).bind fun y187 => (if y187.length + t158.length < 5864062014805 then (indenturelaw11_PytokenSplit.l2 k3 a0 (y187 ++ t158) 0 t158 t161 t162 t163 t164 t165 t169 t172 t173 t174 t175 t176 bt178.1 bt178.2.1 bt178.2.2.1 bt178.2.2.2.1 bt178.2.2.2.2.1 bt178.2.2.2.2.2) else (none)))) else (none)) else (none)) = some r := H
                      have A32 := Aside0.mk A320
                      clear A320
                      by_cases c33 : a0.size + 1 ≤ 9223372036854775807
                      · rw [if_pos c33] at H
                        have c33b0 := eq_true c33
                        have c33b1 : decide (a0.size + 1 ≤ 9223372036854775807) = true := decide_eq_true c33
                        try have c33b2 : (9223372036854775807 < a0.size + 1) = False := eq_false (Nat.not_lt.2 c33)
                        by_cases c34 : (a0 ++ (⟨#[32]⟩ : ByteArray)).size + a1.size ≤ 9223372036854775807
                        · rw [if_pos c34] at H
                          have c34b0 := eq_true c34
                          have c34b1 : decide ((a0 ++ (⟨#[32]⟩ : ByteArray)).size + a1.size ≤ 9223372036854775807) = true := decide_eq_true c34
                          try have c34b2 : (9223372036854775807 < (a0 ++ (⟨#[32]⟩ : ByteArray)).size + a1.size) = False := eq_false (Nat.not_lt.2 c34)
                          replace H := Option.bind_eq_some_iff.mp H
                          obtain ⟨⟨t178, t181, t182, t183, t184, t185⟩, A350, H⟩ := H
                          replace H : ((some (([] : List (S33)) : List (S33))).bind fun y187 => (if y187.length + t158.length < 5864062014805 then (indenturelaw11_PytokenSplit.l2 k3 a0 (y187 ++ t158) 0 t158 t161 t162 t163 t164 t165 t169 t172 t173 t174 t175 t176 t178 t181 t182 t183 t184 t185) else (none))) = some r := H
                          have A35 := Aside0.mk A350
                          clear A350
                          obtain ⟨y187, hy187⟩ : ∃ y_ : List (S33), y_ = (([] : List (S33))) := ⟨_, rfl⟩
                          replace H : (if y187.length + t158.length < 5864062014805 then (indenturelaw11_PytokenSplit.l2 k3 a0 (y187 ++ t158) 0 t158 t161 t162 t163 t164 t165 t169 t172 t173 t174 t175 t176 t178 t181 t182 t183 t184 t185) else (none)) = some r := by first | (rw [hy187]; with_reducible exact H) | (have H2_ := (Option.bind_some _ _).symm.trans H; rw [hy187]; with_reducible exact H2_) | (have H2_ := (Option.bind_some _ _).symm.trans H; with_reducible exact H2_) | with_reducible exact H | (rw [hy187]; exact H) | exact H
                          have Ny187 := Aside0.mk hy187
                          clear hy187
                          by_cases c36 : y187.length + t158.length < 5864062014805
                          · rw [if_pos c36] at H
                            have LMc36 := Aside0.mk c36
                            clear c36
                            obtain ⟨y190, hy190⟩ : ∃ y_ : List (S33), y_ = (y187 ++ t158) := ⟨_, rfl⟩
                            replace H : (indenturelaw11_PytokenSplit.l2 k3 a0 y190 0 t158 t161 t162 t163 t164 t165 t169 t172 t173 t174 t175 t176 t178 t181 t182 t183 t184 t185) = some r := by first | (rw [hy190]; with_reducible exact H) | (have H2_ := (Option.bind_some _ _).symm.trans H; rw [hy190]; with_reducible exact H2_) | (have H2_ := (Option.bind_some _ _).symm.trans H; with_reducible exact H2_) | with_reducible exact H | (rw [hy190]; exact H) | exact H
                            have Ny190 := Aside0.mk hy190
                            clear hy190
                            have H' := Aside0.mk H
                            clear H
                            have hcz37_0 : wr.cell? ⟨gb166, 0, none⟩ = some (.slice Ao17 t158.length co17) := (blk_cell BK166.out 0).trans rfl
                            have hcz37_1 : wr.cell? ⟨gb166, 1, none⟩ = some (.int .u8 t161) := (blk_cell BK166.out 1).trans rfl
                            have hcz37_2 : wr.cell? ⟨gb166, 2, none⟩ = some (.int .i64 t162) := (blk_cell BK166.out 2).trans rfl
                            have hcz37_3 : wr.cell? ⟨gb166, 3, none⟩ = some (.bool t163) := (blk_cell BK166.out 3).trans rfl
                            have hcz37_4 : wr.cell? ⟨gb166, 4, none⟩ = some (.bool t164) := (blk_cell BK166.out 4).trans rfl
                            have hcz37_5 : wr.cell? ⟨gb166, 5, none⟩ = some (.bool t165) := (blk_cell BK166.out 5).trans rfl
                            have hfz37_0 := blk_frozen BK166.out 0
                            have hfz37_1 := blk_frozen BK166.out 1
                            have hfz37_2 := blk_frozen BK166.out 2
                            have hfz37_3 := blk_frozen BK166.out 3
                            have hfz37_4 := blk_frozen BK166.out 4
                            have hfz37_5 := blk_frozen BK166.out 5
                            go_wp2_with (first | ((with_reducible refine gate_callee (f := 10) rfl ?_); refine goesL_ (some 71) rfl rfl Try.func10 (by kernel_rfl) rfl #[.string a1, .int .i64 0, .int .u8 0, .int .i64 t162] rfl (by (try simp only [List.map_toArray, List.map_cons, List.map_nil]); first | done | rfl | (simp only [List.length_drop, List.length_take]; rfl)) ?_; (with_reducible refine (pytoken_Scan.calls a1 0 0 t162 t169 t172 t173 t174 t175 t176 _ A32.out).mono ?_); rintro e w38 ⟨v170, rfl, ho0, hb⟩; refine ⟨_, rfl, ?_⟩; have n0_ := Aside0.mk (Kd.R_elder' (by (with_reducible repeat (first | apply Kd.R_alloc | apply Kd.R_drewN | apply Kd.R_drew)); exact HO_167000.out) (Kd.R_base ho0) hb); have n1_ := Aside0.mk (Kd.R_lower (Kd.R_new' ho0 (Kd.R_lt (by (with_reducible repeat (first | apply Kd.R_alloc | apply Kd.R_drewN | apply Kd.R_drew)); exact HO_167000.out))) (below_size (by repeat (first | (with_reducible first | exact HB.out | apply below_alloc | apply pw_below_drewN | apply below_drew1 | refine below_set ?_ GE166.out) | exact HB.out)))); have n2_ := Aside0.mk (blk_below (g := gb166) (o := .cells #[.slice Ao17 t158.length co17, .int .u8 t161, .int .i64 t162, .bool t163, .bool t164, .bool t165] 25 (0, 0)) (by (with_reducible repeat (first | refine blk_drewN ?_ _ | refine blk_drew ?_ | refine blk_alloc ?_ _)); exact BK166.out) hb); have n3_ := Aside0.mk (below_step (by repeat (first | (with_reducible first | exact HB.out | apply below_alloc | apply pw_below_drewN | apply below_drew1 | refine below_set ?_ GE166.out) | exact HB.out)) hb); clear HO_167000; clear BK166; clear HB; have HO_167000 := n0_; have HO171 := n1_; have BK166 := n2_; have HB := n3_; clear n0_ n1_ n2_ n3_; (try clear hb); (try clear hb2); (try clear hk); (try clear hi); (try clear ho0)) | ((with_reducible refine gate_dst (N := 11) rfl ?_); (try (refine gate_guard (by rfl) ?_; dsimp only)); refine box_event ?hg (N := 11) ?hd (cs := #[.slice none 0 0, .int .u8 0, .int .i64 0, .bool false, .bool false, .bool false]) (t := 25) ?hr ?_; (case hd => rfl); (case hg => rfl); (case hr => first | (go_simp; done) | (go_simp; rfl)); intro gb177 hg w39 hbox hb; have n0_ := Aside0.mk (Kd.R_below (by (with_reducible repeat (first | apply Kd.R_alloc | apply Kd.R_drewN | apply Kd.R_drew)); exact HO_167000.out) hb); have n1_ := Aside0.mk (Kd.R_below (by (with_reducible repeat (first | apply Kd.R_alloc | apply Kd.R_drewN | apply Kd.R_drew)); exact HO171.out) hb); have n2_ := Aside0.mk (blk_below (g := gb166) (o := .cells #[.slice Ao17 t158.length co17, .int .u8 t161, .int .i64 t162, .bool t163, .bool t164, .bool t165] 25 (0, 0)) (by (with_reducible repeat (first | refine blk_drewN ?_ _ | refine blk_drew ?_ | refine blk_alloc ?_ _)); exact BK166.out) hb); have n3_ := Aside0.mk (below_step (by repeat (first | (with_reducible first | exact HB.out | apply below_alloc | apply pw_below_drewN | apply below_drew1 | refine below_set ?_ GE166.out) | exact HB.out)) hb); have n4_ := Aside0.mk (hbox); have n5_ := Aside0.mk ((by rw [hg]; exact (below_size (by repeat (first | (with_reducible first | exact HB.out | apply below_alloc | apply pw_below_drewN | apply below_drew1 | refine below_set ?_ GE166.out) | exact HB.out))) : w.heap.size ≤ gb177)); have n6_ := Aside0.mk ((by rw [hg]; exact (below_size (by repeat (first | (with_reducible first | exact HB.out | apply below_alloc | apply pw_below_drewN | apply below_drew1 | refine below_set ?_ GE166.out) | exact HB.out))) : w.heap.size ≤ gb177)); have n7_ := Aside0.mk ((by rw [hg]; exact Nat.ne_of_lt (blk_lt (g := gb166) (o := .cells #[.slice Ao17 t158.length co17, .int .u8 t161, .int .i64 t162, .bool t163, .bool t164, .bool t165] 25 (0, 0)) (by (with_reducible repeat (first | refine blk_drewN ?_ _ | refine blk_drew ?_ | refine blk_alloc ?_ _)); exact BK166.out)) : gb166 ≠ gb177)); have n8_ := Aside0.mk ((by rw [hg]; exact Nat.ne_of_gt (blk_lt (g := gb166) (o := .cells #[.slice Ao17 t158.length co17, .int .u8 t161, .int .i64 t162, .bool t163, .bool t164, .bool t165] 25 (0, 0)) (by (with_reducible repeat (first | refine blk_drewN ?_ _ | refine blk_drew ?_ | refine blk_alloc ?_ _)); exact BK166.out)) : gb177 ≠ gb166)); clear HO_167000; clear HO171; clear BK166; clear HB; have HO_167000 := n0_; have HO171 := n1_; have BK166 := n2_; have HB := n3_; have BK177 := n4_; have GW177 := n5_; have GE177 := n6_; have NB166_177 := n7_; have NB177_166 := n8_; clear n0_ n1_ n2_ n3_ n4_ n5_ n6_ n7_ n8_; clear hb hbox hg; obtain ⟨Ao40, co40, eo40⟩ := Kd.R_slice HO171.out; subst eo40; have hnb41 := NB177_166.out; have hnc41 := NB166_177.out; have hcz42_0 : w39.cell? ⟨gb177, 0, none⟩ = some (.slice none 0 0) := (blk_cell BK177.out 0).trans rfl; have hcz42_1 : w39.cell? ⟨gb177, 1, none⟩ = some (.int .u8 0) := (blk_cell BK177.out 1).trans rfl; have hcz42_2 : w39.cell? ⟨gb177, 2, none⟩ = some (.int .i64 0) := (blk_cell BK177.out 2).trans rfl; have hcz42_3 : w39.cell? ⟨gb177, 3, none⟩ = some (.bool false) := (blk_cell BK177.out 3).trans rfl; have hcz42_4 : w39.cell? ⟨gb177, 4, none⟩ = some (.bool false) := (blk_cell BK177.out 4).trans rfl; have hcz42_5 : w39.cell? ⟨gb177, 5, none⟩ = some (.bool false) := (blk_cell BK177.out 5).trans rfl; have hfz42_0 := blk_frozen BK177.out 0; have hfz42_1 := blk_frozen BK177.out 1; have hfz42_2 := blk_frozen BK177.out 2; have hfz42_3 := blk_frozen BK177.out 3; have hfz42_4 := blk_frozen BK177.out 4; have hfz42_5 := blk_frozen BK177.out 5) | ((with_reducible refine gate_callee (f := 10) rfl ?_); refine goesL_ (some 77) rfl rfl Try.func10 (by kernel_rfl) rfl #[.string ((a0 ++ (⟨#[32]⟩ : ByteArray)) ++ a1), .int .i64 0, .int .u8 0, .int .i64 a2] rfl (by (try simp only [List.map_toArray, List.map_cons, List.map_nil]); first | done | rfl | (simp only [List.length_drop, List.length_take]; rfl)) ?_; (with_reducible refine (pytoken_Scan.calls ((a0 ++ (⟨#[32]⟩ : ByteArray)) ++ a1) 0 0 a2 t178 t181 t182 t183 t184 t185 _ A35.out).mono ?_); rintro e w43 ⟨v179, rfl, ho0, hb⟩; refine ⟨_, rfl, ?_⟩; have n0_ := Aside0.mk (Kd.R_elder' (by (with_reducible repeat (first | apply Kd.R_alloc | apply Kd.R_drewN | apply Kd.R_drew)); exact (Kd.R_mono (Kd.R_far (p := ⟨gb177, 5, none⟩) (Kd.R_far (p := ⟨gb177, 4, none⟩) (Kd.R_far (p := ⟨gb177, 3, none⟩) (Kd.R_far (p := ⟨gb177, 2, none⟩) (Kd.R_far (p := ⟨gb177, 1, none⟩) (Kd.R_far (p := ⟨gb177, 0, none⟩) (Kd.R_types HO_167000.out BK177.out (by decide)) (fun _ hk => hk.2) (.slice Ao40 t169.length co40)) (fun _ hk => hk.2) (.int .u8 t172)) (fun _ hk => hk.2) (.int .i64 t173)) (fun _ hk => hk.2) (.bool t174)) (fun _ hk => hk.2) (.bool t175)) (fun _ hk => hk.2) (.bool t176)) (fun _ h_ => h_.1))) (Kd.R_base ho0) hb); have n1_ := Aside0.mk (Kd.R_elder' (by (with_reducible repeat (first | apply Kd.R_alloc | apply Kd.R_drewN | apply Kd.R_drew)); exact (Kd.R_mono (Kd.R_far (p := ⟨gb177, 5, none⟩) (Kd.R_far (p := ⟨gb177, 4, none⟩) (Kd.R_far (p := ⟨gb177, 3, none⟩) (Kd.R_far (p := ⟨gb177, 2, none⟩) (Kd.R_far (p := ⟨gb177, 1, none⟩) (Kd.R_far (p := ⟨gb177, 0, none⟩) (Kd.R_types HO171.out BK177.out (by decide)) (fun _ hk => hk.2) (.slice Ao40 t169.length co40)) (fun _ hk => hk.2) (.int .u8 t172)) (fun _ hk => hk.2) (.int .i64 t173)) (fun _ hk => hk.2) (.bool t174)) (fun _ hk => hk.2) (.bool t175)) (fun _ hk => hk.2) (.bool t176)) (fun _ h_ => h_.1))) (Kd.R_base ho0) hb); have n2_ := Aside0.mk (Kd.R_lower (Kd.R_new' (Kd.R_new' ho0 (Kd.R_lt (by (with_reducible repeat (first | apply Kd.R_alloc | apply Kd.R_drewN | apply Kd.R_drew)); exact (Kd.R_mono (Kd.R_far (p := ⟨gb177, 5, none⟩) (Kd.R_far (p := ⟨gb177, 4, none⟩) (Kd.R_far (p := ⟨gb177, 3, none⟩) (Kd.R_far (p := ⟨gb177, 2, none⟩) (Kd.R_far (p := ⟨gb177, 1, none⟩) (Kd.R_far (p := ⟨gb177, 0, none⟩) (Kd.R_types HO_167000.out BK177.out (by decide)) (fun _ hk => hk.2) (.slice Ao40 t169.length co40)) (fun _ hk => hk.2) (.int .u8 t172)) (fun _ hk => hk.2) (.int .i64 t173)) (fun _ hk => hk.2) (.bool t174)) (fun _ hk => hk.2) (.bool t175)) (fun _ hk => hk.2) (.bool t176)) (fun _ h_ => h_.1))))) (Kd.R_lt (by (with_reducible repeat (first | apply Kd.R_alloc | apply Kd.R_drewN | apply Kd.R_drew)); exact (Kd.R_mono (Kd.R_far (p := ⟨gb177, 5, none⟩) (Kd.R_far (p := ⟨gb177, 4, none⟩) (Kd.R_far (p := ⟨gb177, 3, none⟩) (Kd.R_far (p := ⟨gb177, 2, none⟩) (Kd.R_far (p := ⟨gb177, 1, none⟩) (Kd.R_far (p := ⟨gb177, 0, none⟩) (Kd.R_types HO171.out BK177.out (by decide)) (fun _ hk => hk.2) (.slice Ao40 t169.length co40)) (fun _ hk => hk.2) (.int .u8 t172)) (fun _ hk => hk.2) (.int .i64 t173)) (fun _ hk => hk.2) (.bool t174)) (fun _ hk => hk.2) (.bool t175)) (fun _ hk => hk.2) (.bool t176)) (fun _ h_ => h_.1))))) (below_size (by repeat (first | (with_reducible first | exact HB.out | apply below_alloc | apply pw_below_drewN | apply below_drew1 | refine below_set ?_ GE166.out | refine below_set ?_ GE177.out) | exact HB.out)))); have n3_ := Aside0.mk (blk_below (g := gb166) (o := .cells #[.slice Ao17 t158.length co17, .int .u8 t161, .int .i64 t162, .bool t163, .bool t164, .bool t165] 25 (0, 0)) (by (with_reducible repeat (first | refine blk_drewN ?_ _ | refine blk_drew ?_ | refine blk_alloc ?_ _)); refine blk_far ?_ NB166_177.out _; (with_reducible repeat (first | refine blk_drewN ?_ _ | refine blk_drew ?_ | refine blk_alloc ?_ _)); refine blk_far ?_ NB166_177.out _; (with_reducible repeat (first | refine blk_drewN ?_ _ | refine blk_drew ?_ | refine blk_alloc ?_ _)); refine blk_far ?_ NB166_177.out _; (with_reducible repeat (first | refine blk_drewN ?_ _ | refine blk_drew ?_ | refine blk_alloc ?_ _)); refine blk_far ?_ NB166_177.out _; (with_reducible repeat (first | refine blk_drewN ?_ _ | refine blk_drew ?_ | refine blk_alloc ?_ _)); refine blk_far ?_ NB166_177.out _; (with_reducible repeat (first | refine blk_drewN ?_ _ | refine blk_drew ?_ | refine blk_alloc ?_ _)); refine blk_far ?_ NB166_177.out _; (with_reducible repeat (first | refine blk_drewN ?_ _ | refine blk_drew ?_ | refine blk_alloc ?_ _)); exact BK166.out) hb); have n4_ := Aside0.mk (blk_below (g := gb177) (o := .cells #[.slice Ao40 t169.length co40, .int .u8 t172, .int .i64 t173, .bool t174, .bool t175, .bool t176] 25 (0, 0)) (by (with_reducible repeat (first | refine blk_drewN ?_ _ | refine blk_drew ?_ | refine blk_alloc ?_ _)); refine blk_put (cs := #[.slice Ao40 t169.length co40, .int .u8 t172, .int .i64 t173, .bool t174, .bool t175, .bool false]) ?_ 5 _ rfl; (with_reducible repeat (first | refine blk_drewN ?_ _ | refine blk_drew ?_ | refine blk_alloc ?_ _)); refine blk_put (cs := #[.slice Ao40 t169.length co40, .int .u8 t172, .int .i64 t173, .bool t174, .bool false, .bool false]) ?_ 4 _ rfl; (with_reducible repeat (first | refine blk_drewN ?_ _ | refine blk_drew ?_ | refine blk_alloc ?_ _)); refine blk_put (cs := #[.slice Ao40 t169.length co40, .int .u8 t172, .int .i64 t173, .bool false, .bool false, .bool false]) ?_ 3 _ rfl; (with_reducible repeat (first | refine blk_drewN ?_ _ | refine blk_drew ?_ | refine blk_alloc ?_ _)); refine blk_put (cs := #[.slice Ao40 t169.length co40, .int .u8 t172, .int .i64 0, .bool false, .bool false, .bool false]) ?_ 2 _ rfl; (with_reducible repeat (first | refine blk_drewN ?_ _ | refine blk_drew ?_ | refine blk_alloc ?_ _)); refine blk_put (cs := #[.slice Ao40 t169.length co40, .int .u8 0, .int .i64 0, .bool false, .bool false, .bool false]) ?_ 1 _ rfl; (with_reducible repeat (first | refine blk_drewN ?_ _ | refine blk_drew ?_ | refine blk_alloc ?_ _)); refine blk_put (cs := #[.slice none 0 0, .int .u8 0, .int .i64 0, .bool false, .bool false, .bool false]) ?_ 0 _ rfl; (with_reducible repeat (first | refine blk_drewN ?_ _ | refine blk_drew ?_ | refine blk_alloc ?_ _)); exact BK177.out) hb); have n5_ := Aside0.mk (below_step (by repeat (first | (with_reducible first | exact HB.out | apply below_alloc | apply pw_below_drewN | apply below_drew1 | refine below_set ?_ GE166.out | refine below_set ?_ GE177.out) | exact HB.out)) hb); clear HO_167000; clear HO171; clear BK166; clear BK177; clear HB; have HO_167000 := n0_; have HO171 := n1_; have HO180 := n2_; have BK166 := n3_; have BK177 := n4_; have HB := n5_; clear n0_ n1_ n2_ n3_ n4_ n5_; (try clear hb); (try clear hb2); (try clear hk); (try clear hi); (try clear ho0)) | ((with_reducible refine gate_dst (N := 12) rfl ?_); (try (refine gate_guard (by rfl) ?_; dsimp only)); refine box_event ?hg (N := 12) ?hd (cs := #[.slice none 0 0, .int .u8 0, .int .i64 0, .bool false, .bool false, .bool false]) (t := 25) ?hr ?_; (case hd => rfl); (case hg => rfl); (case hr => first | (go_simp; done) | (go_simp; rfl)); intro gb186 hg w44 hbox hb; have n0_ := Aside0.mk (Kd.R_below (by (with_reducible repeat (first | apply Kd.R_alloc | apply Kd.R_drewN | apply Kd.R_drew)); exact HO_167000.out) hb); have n1_ := Aside0.mk (Kd.R_below (by (with_reducible repeat (first | apply Kd.R_alloc | apply Kd.R_drewN | apply Kd.R_drew)); exact HO171.out) hb); have n2_ := Aside0.mk (Kd.R_below (by (with_reducible repeat (first | apply Kd.R_alloc | apply Kd.R_drewN | apply Kd.R_drew)); exact HO180.out) hb); have n3_ := Aside0.mk (blk_below (g := gb166) (o := .cells #[.slice Ao17 t158.length co17, .int .u8 t161, .int .i64 t162, .bool t163, .bool t164, .bool t165] 25 (0, 0)) (by (with_reducible repeat (first | refine blk_drewN ?_ _ | refine blk_drew ?_ | refine blk_alloc ?_ _)); exact BK166.out) hb); have n4_ := Aside0.mk (blk_below (g := gb177) (o := .cells #[.slice Ao40 t169.length co40, .int .u8 t172, .int .i64 t173, .bool t174, .bool t175, .bool t176] 25 (0, 0)) (by (with_reducible repeat (first | refine blk_drewN ?_ _ | refine blk_drew ?_ | refine blk_alloc ?_ _)); exact BK177.out) hb); have n5_ := Aside0.mk (below_step (by repeat (first | (with_reducible first | exact HB.out | apply below_alloc | apply pw_below_drewN | apply below_drew1 | refine below_set ?_ GE166.out | refine below_set ?_ GE177.out) | exact HB.out)) hb); have n6_ := Aside0.mk (hbox); have n7_ := Aside0.mk ((by rw [hg]; exact (below_size (by repeat (first | (with_reducible first | exact HB.out | apply below_alloc | apply pw_below_drewN | apply below_drew1 | refine below_set ?_ GE166.out | refine below_set ?_ GE177.out) | exact HB.out))) : w.heap.size ≤ gb186)); have n8_ := Aside0.mk ((by rw [hg]; exact (below_size (by repeat (first | (with_reducible first | exact HB.out | apply below_alloc | apply pw_below_drewN | apply below_drew1 | refine below_set ?_ GE166.out | refine below_set ?_ GE177.out) | exact HB.out))) : w.heap.size ≤ gb186)); have n9_ := Aside0.mk ((by rw [hg]; exact Nat.ne_of_lt (blk_lt (g := gb166) (o := .cells #[.slice Ao17 t158.length co17, .int .u8 t161, .int .i64 t162, .bool t163, .bool t164, .bool t165] 25 (0, 0)) (by (with_reducible repeat (first | refine blk_drewN ?_ _ | refine blk_drew ?_ | refine blk_alloc ?_ _)); exact BK166.out)) : gb166 ≠ gb186)); have n10_ := Aside0.mk ((by rw [hg]; exact Nat.ne_of_gt (blk_lt (g := gb166) (o := .cells #[.slice Ao17 t158.length co17, .int .u8 t161, .int .i64 t162, .bool t163, .bool t164, .bool t165] 25 (0, 0)) (by (with_reducible repeat (first | refine blk_drewN ?_ _ | refine blk_drew ?_ | refine blk_alloc ?_ _)); exact BK166.out)) : gb186 ≠ gb166)); have n11_ := Aside0.mk ((by rw [hg]; exact Nat.ne_of_lt (blk_lt (g := gb177) (o := .cells #[.slice Ao40 t169.length co40, .int .u8 t172, .int .i64 t173, .bool t174, .bool t175, .bool t176] 25 (0, 0)) (by (with_reducible repeat (first | refine blk_drewN ?_ _ | refine blk_drew ?_ | refine blk_alloc ?_ _)); exact BK177.out)) : gb177 ≠ gb186)); have n12_ := Aside0.mk ((by rw [hg]; exact Nat.ne_of_gt (blk_lt (g := gb177) (o := .cells #[.slice Ao40 t169.length co40, .int .u8 t172, .int .i64 t173, .bool t174, .bool t175, .bool t176] 25 (0, 0)) (by (with_reducible repeat (first | refine blk_drewN ?_ _ | refine blk_drew ?_ | refine blk_alloc ?_ _)); exact BK177.out)) : gb186 ≠ gb177)); clear HO_167000; clear HO171; clear HO180; clear BK166; clear BK177; clear HB; have HO_167000 := n0_; have HO171 := n1_; have HO180 := n2_; have BK166 := n3_; have BK177 := n4_; have HB := n5_; have BK186 := n6_; have GW186 := n7_; have GE186 := n8_; have NB166_186 := n9_; have NB186_166 := n10_; have NB177_186 := n11_; have NB186_177 := n12_; clear n0_ n1_ n2_ n3_ n4_ n5_ n6_ n7_ n8_ n9_ n10_ n11_ n12_; clear hb hbox hg; obtain ⟨Ao45, co45, eo45⟩ := Kd.R_slice HO180.out; subst eo45; have hnb46 := NB186_166.out; have hnc46 := NB166_186.out; have hnb47 := NB186_177.out; have hnc47 := NB177_186.out; have hcz48_0 : w44.cell? ⟨gb186, 0, none⟩ = some (.slice none 0 0) := (blk_cell BK186.out 0).trans rfl; have hcz48_1 : w44.cell? ⟨gb186, 1, none⟩ = some (.int .u8 0) := (blk_cell BK186.out 1).trans rfl; have hcz48_2 : w44.cell? ⟨gb186, 2, none⟩ = some (.int .i64 0) := (blk_cell BK186.out 2).trans rfl; have hcz48_3 : w44.cell? ⟨gb186, 3, none⟩ = some (.bool false) := (blk_cell BK186.out 3).trans rfl; have hcz48_4 : w44.cell? ⟨gb186, 4, none⟩ = some (.bool false) := (blk_cell BK186.out 4).trans rfl; have hcz48_5 : w44.cell? ⟨gb186, 5, none⟩ = some (.bool false) := (blk_cell BK186.out 5).trans rfl; have hfz48_0 := blk_frozen BK186.out 0; have hfz48_1 := blk_frozen BK186.out 1; have hfz48_2 := blk_frozen BK186.out 2; have hfz48_3 := blk_frozen BK186.out 3; have hfz48_4 := blk_frozen BK186.out 4; have hfz48_5 := blk_frozen BK186.out 5) | ((with_reducible refine gate_dst (N := 78) rfl ?_); (try (refine gate_guard (by rfl) ?_; dsimp only)); refine Kd.R_lit k33 _ 33 ?hg (N := 78) ?hd (xs := ([] : List (S33))) (inner := []) (ok := fun _ => True) (okp := fun _ => True) ?hr ?hp (fun _ hk => hk) trivial (Below.refl _ _) (Nat.le_refl _) (by simp) ?_; (case hd => rfl); (case hg => rfl); (case hr => first | (go_simp; done) | (go_simp; rfl)); (case hp => exact (Reps.none _ _)); intro v188 w49 ho50 hb hg_ hnew_; clear hg_ hnew_; (first | rw [← Ny187.out] at ho50 | (simp only [Int.reduceToNat] at ho50; rw [← Ny187.out] at ho50)); have n0_ := Aside0.mk (Kd.R_elder' (by (with_reducible repeat (first | apply Kd.R_alloc | apply Kd.R_drewN | apply Kd.R_drew)); exact (Kd.R_mono (Kd.R_far (p := ⟨gb186, 5, none⟩) (Kd.R_far (p := ⟨gb186, 4, none⟩) (Kd.R_far (p := ⟨gb186, 3, none⟩) (Kd.R_far (p := ⟨gb186, 2, none⟩) (Kd.R_far (p := ⟨gb186, 1, none⟩) (Kd.R_far (p := ⟨gb186, 0, none⟩) (Kd.R_types HO_167000.out BK186.out (by decide)) (fun _ hk => hk.2) (.slice Ao45 t178.length co45)) (fun _ hk => hk.2) (.int .u8 t181)) (fun _ hk => hk.2) (.int .i64 t182)) (fun _ hk => hk.2) (.bool t183)) (fun _ hk => hk.2) (.bool t184)) (fun _ hk => hk.2) (.bool t185)) (fun _ h_ => h_.1))) (Kd.R_base ho50) hb); have n1_ := Aside0.mk (Kd.R_elder' (by (with_reducible repeat (first | apply Kd.R_alloc | apply Kd.R_drewN | apply Kd.R_drew)); exact (Kd.R_mono (Kd.R_far (p := ⟨gb186, 5, none⟩) (Kd.R_far (p := ⟨gb186, 4, none⟩) (Kd.R_far (p := ⟨gb186, 3, none⟩) (Kd.R_far (p := ⟨gb186, 2, none⟩) (Kd.R_far (p := ⟨gb186, 1, none⟩) (Kd.R_far (p := ⟨gb186, 0, none⟩) (Kd.R_types HO171.out BK186.out (by decide)) (fun _ hk => hk.2) (.slice Ao45 t178.length co45)) (fun _ hk => hk.2) (.int .u8 t181)) (fun _ hk => hk.2) (.int .i64 t182)) (fun _ hk => hk.2) (.bool t183)) (fun _ hk => hk.2) (.bool t184)) (fun _ hk => hk.2) (.bool t185)) (fun _ h_ => h_.1))) (Kd.R_base ho50) hb); have n2_ := Aside0.mk (Kd.R_elder' (by (with_reducible repeat (first | apply Kd.R_alloc | apply Kd.R_drewN | apply Kd.R_drew)); exact (Kd.R_mono (Kd.R_far (p := ⟨gb186, 5, none⟩) (Kd.R_far (p := ⟨gb186, 4, none⟩) (Kd.R_far (p := ⟨gb186, 3, none⟩) (Kd.R_far (p := ⟨gb186, 2, none⟩) (Kd.R_far (p := ⟨gb186, 1, none⟩) (Kd.R_far (p := ⟨gb186, 0, none⟩) (Kd.R_types HO180.out BK186.out (by decide)) (fun _ hk => hk.2) (.slice Ao45 t178.length co45)) (fun _ hk => hk.2) (.int .u8 t181)) (fun _ hk => hk.2) (.int .i64 t182)) (fun _ hk => hk.2) (.bool t183)) (fun _ hk => hk.2) (.bool t184)) (fun _ hk => hk.2) (.bool t185)) (fun _ h_ => h_.1))) (Kd.R_base ho50) hb); have n3_ := Aside0.mk (Kd.R_lower (Kd.R_new' (Kd.R_new' (Kd.R_new' ho50 (Kd.R_lt (by (with_reducible repeat (first | apply Kd.R_alloc | apply Kd.R_drewN | apply Kd.R_drew)); exact (Kd.R_mono (Kd.R_far (p := ⟨gb186, 5, none⟩) (Kd.R_far (p := ⟨gb186, 4, none⟩) (Kd.R_far (p := ⟨gb186, 3, none⟩) (Kd.R_far (p := ⟨gb186, 2, none⟩) (Kd.R_far (p := ⟨gb186, 1, none⟩) (Kd.R_far (p := ⟨gb186, 0, none⟩) (Kd.R_types HO_167000.out BK186.out (by decide)) (fun _ hk => hk.2) (.slice Ao45 t178.length co45)) (fun _ hk => hk.2) (.int .u8 t181)) (fun _ hk => hk.2) (.int .i64 t182)) (fun _ hk => hk.2) (.bool t183)) (fun _ hk => hk.2) (.bool t184)) (fun _ hk => hk.2) (.bool t185)) (fun _ h_ => h_.1))))) (Kd.R_lt (by (with_reducible repeat (first | apply Kd.R_alloc | apply Kd.R_drewN | apply Kd.R_drew)); exact (Kd.R_mono (Kd.R_far (p := ⟨gb186, 5, none⟩) (Kd.R_far (p := ⟨gb186, 4, none⟩) (Kd.R_far (p := ⟨gb186, 3, none⟩) (Kd.R_far (p := ⟨gb186, 2, none⟩) (Kd.R_far (p := ⟨gb186, 1, none⟩) (Kd.R_far (p := ⟨gb186, 0, none⟩) (Kd.R_types HO171.out BK186.out (by decide)) (fun _ hk => hk.2) (.slice Ao45 t178.length co45)) (fun _ hk => hk.2) (.int .u8 t181)) (fun _ hk => hk.2) (.int .i64 t182)) (fun _ hk => hk.2) (.bool t183)) (fun _ hk => hk.2) (.bool t184)) (fun _ hk => hk.2) (.bool t185)) (fun _ h_ => h_.1))))) (Kd.R_lt (by (with_reducible repeat (first | apply Kd.R_alloc | apply Kd.R_drewN | apply Kd.R_drew)); exact (Kd.R_mono (Kd.R_far (p := ⟨gb186, 5, none⟩) (Kd.R_far (p := ⟨gb186, 4, none⟩) (Kd.R_far (p := ⟨gb186, 3, none⟩) (Kd.R_far (p := ⟨gb186, 2, none⟩) (Kd.R_far (p := ⟨gb186, 1, none⟩) (Kd.R_far (p := ⟨gb186, 0, none⟩) (Kd.R_types HO180.out BK186.out (by decide)) (fun _ hk => hk.2) (.slice Ao45 t178.length co45)) (fun _ hk => hk.2) (.int .u8 t181)) (fun _ hk => hk.2) (.int .i64 t182)) (fun _ hk => hk.2) (.bool t183)) (fun _ hk => hk.2) (.bool t184)) (fun _ hk => hk.2) (.bool t185)) (fun _ h_ => h_.1))))) (below_size (by repeat (first | (with_reducible first | exact HB.out | apply below_alloc | apply pw_below_drewN | apply below_drew1 | refine below_set ?_ GE166.out | refine below_set ?_ GE177.out | refine below_set ?_ GE186.out) | exact HB.out)))); have n4_ := Aside0.mk (blk_below (g := gb166) (o := .cells #[.slice Ao17 t158.length co17, .int .u8 t161, .int .i64 t162, .bool t163, .bool t164, .bool t165] 25 (0, 0)) (by (with_reducible repeat (first | refine blk_drewN ?_ _ | refine blk_drew ?_ | refine blk_alloc ?_ _)); refine blk_far ?_ NB166_186.out _; (with_reducible repeat (first | refine blk_drewN ?_ _ | refine blk_drew ?_ | refine blk_alloc ?_ _)); refine blk_far ?_ NB166_186.out _; (with_reducible repeat (first | refine blk_drewN ?_ _ | refine blk_drew ?_ | refine blk_alloc ?_ _)); refine blk_far ?_ NB166_186.out _; (with_reducible repeat (first | refine blk_drewN ?_ _ | refine blk_drew ?_ | refine blk_alloc ?_ _)); refine blk_far ?_ NB166_186.out _; (with_reducible repeat (first | refine blk_drewN ?_ _ | refine blk_drew ?_ | refine blk_alloc ?_ _)); refine blk_far ?_ NB166_186.out _; (with_reducible repeat (first | refine blk_drewN ?_ _ | refine blk_drew ?_ | refine blk_alloc ?_ _)); refine blk_far ?_ NB166_186.out _; (with_reducible repeat (first | refine blk_drewN ?_ _ | refine blk_drew ?_ | refine blk_alloc ?_ _)); exact BK166.out) hb); have n5_ := Aside0.mk (blk_below (g := gb177) (o := .cells #[.slice Ao40 t169.length co40, .int .u8 t172, .int .i64 t173, .bool t174, .bool t175, .bool t176] 25 (0, 0)) (by (with_reducible repeat (first | refine blk_drewN ?_ _ | refine blk_drew ?_ | refine blk_alloc ?_ _)); refine blk_far ?_ NB177_186.out _; (with_reducible repeat (first | refine blk_drewN ?_ _ | refine blk_drew ?_ | refine blk_alloc ?_ _)); refine blk_far ?_ NB177_186.out _; (with_reducible repeat (first | refine blk_drewN ?_ _ | refine blk_drew ?_ | refine blk_alloc ?_ _)); refine blk_far ?_ NB177_186.out _; (with_reducible repeat (first | refine blk_drewN ?_ _ | refine blk_drew ?_ | refine blk_alloc ?_ _)); refine blk_far ?_ NB177_186.out _; (with_reducible repeat (first | refine blk_drewN ?_ _ | refine blk_drew ?_ | refine blk_alloc ?_ _)); refine blk_far ?_ NB177_186.out _; (with_reducible repeat (first | refine blk_drewN ?_ _ | refine blk_drew ?_ | refine blk_alloc ?_ _)); refine blk_far ?_ NB177_186.out _; (with_reducible repeat (first | refine blk_drewN ?_ _ | refine blk_drew ?_ | refine blk_alloc ?_ _)); exact BK177.out) hb); have n6_ := Aside0.mk (blk_below (g := gb186) (o := .cells #[.slice Ao45 t178.length co45, .int .u8 t181, .int .i64 t182, .bool t183, .bool t184, .bool t185] 25 (0, 0)) (by (with_reducible repeat (first | refine blk_drewN ?_ _ | refine blk_drew ?_ | refine blk_alloc ?_ _)); refine blk_put (cs := #[.slice Ao45 t178.length co45, .int .u8 t181, .int .i64 t182, .bool t183, .bool t184, .bool false]) ?_ 5 _ rfl; (with_reducible repeat (first | refine blk_drewN ?_ _ | refine blk_drew ?_ | refine blk_alloc ?_ _)); refine blk_put (cs := #[.slice Ao45 t178.length co45, .int .u8 t181, .int .i64 t182, .bool t183, .bool false, .bool false]) ?_ 4 _ rfl; (with_reducible repeat (first | refine blk_drewN ?_ _ | refine blk_drew ?_ | refine blk_alloc ?_ _)); refine blk_put (cs := #[.slice Ao45 t178.length co45, .int .u8 t181, .int .i64 t182, .bool false, .bool false, .bool false]) ?_ 3 _ rfl; (with_reducible repeat (first | refine blk_drewN ?_ _ | refine blk_drew ?_ | refine blk_alloc ?_ _)); refine blk_put (cs := #[.slice Ao45 t178.length co45, .int .u8 t181, .int .i64 0, .bool false, .bool false, .bool false]) ?_ 2 _ rfl; (with_reducible repeat (first | refine blk_drewN ?_ _ | refine blk_drew ?_ | refine blk_alloc ?_ _)); refine blk_put (cs := #[.slice Ao45 t178.length co45, .int .u8 0, .int .i64 0, .bool false, .bool false, .bool false]) ?_ 1 _ rfl; (with_reducible repeat (first | refine blk_drewN ?_ _ | refine blk_drew ?_ | refine blk_alloc ?_ _)); refine blk_put (cs := #[.slice none 0 0, .int .u8 0, .int .i64 0, .bool false, .bool false, .bool false]) ?_ 0 _ rfl; (with_reducible repeat (first | refine blk_drewN ?_ _ | refine blk_drew ?_ | refine blk_alloc ?_ _)); exact BK186.out) hb); have n7_ := Aside0.mk (below_step (by repeat (first | (with_reducible first | exact HB.out | apply below_alloc | apply pw_below_drewN | apply below_drew1 | refine below_set ?_ GE166.out | refine below_set ?_ GE177.out | refine below_set ?_ GE186.out) | exact HB.out)) hb); clear HO_167000; clear HO171; clear HO180; clear BK166; clear BK177; clear BK186; clear HB; have HO_167000 := n0_; have HO171 := n1_; have HO180 := n2_; have HO189 := n3_; have BK166 := n4_; have BK177 := n5_; have BK186 := n6_; have HB := n7_; clear n0_ n1_ n2_ n3_ n4_ n5_ n6_ n7_; clear hb ho50; have hcz51_0 : w49.cell? ⟨gb166, 0, none⟩ = some (.slice Ao17 t158.length co17) := (blk_cell BK166.out 0).trans rfl; have hcz51_1 : w49.cell? ⟨gb166, 1, none⟩ = some (.int .u8 t161) := (blk_cell BK166.out 1).trans rfl; have hcz51_2 : w49.cell? ⟨gb166, 2, none⟩ = some (.int .i64 t162) := (blk_cell BK166.out 2).trans rfl; have hcz51_3 : w49.cell? ⟨gb166, 3, none⟩ = some (.bool t163) := (blk_cell BK166.out 3).trans rfl; have hcz51_4 : w49.cell? ⟨gb166, 4, none⟩ = some (.bool t164) := (blk_cell BK166.out 4).trans rfl; have hcz51_5 : w49.cell? ⟨gb166, 5, none⟩ = some (.bool t165) := (blk_cell BK166.out 5).trans rfl; have hfz51_0 := blk_frozen BK166.out 0; have hfz51_1 := blk_frozen BK166.out 1; have hfz51_2 := blk_frozen BK166.out 2; have hfz51_3 := blk_frozen BK166.out 3; have hfz51_4 := blk_frozen BK166.out 4; have hfz51_5 := blk_frozen BK166.out 5) | ((with_reducible refine gate_builtin (b := .append) (xs := #[.tmp 78, .tmp 80]) rfl ?_); (try (refine gate_guard (by rfl) ?_; dsimp only)); at_builtin; refine Kd.R_append_rows k33 (w0 := w) w.heap.size rfl (.tmp 78) (.tmp 80) 23 33 (.agg #[(.int .u8 0), (.int .u8 0), (.int .i64 0), (.int .i64 0)]) 24 rfl Try.underlying23 info33 rfl (by decide) (by omega) v188 y187 t158 _ _ _ (fun k_ => some k_ ≠ (.slice Ao17 t158.length co17 : Value).ownBlock ∧ some k_ ≠ (.slice Ao40 t169.length co40 : Value).ownBlock ∧ some k_ ≠ (.slice Ao45 t178.length co45 : Value).ownBlock) (fun _ => False) rfl rfl ?aO ?aR (fun _ _ h => h) (fun _ h => h.elim) ?aF ?aB ?aS ?aL ?_; (case aR => repeat (first | exact (Kd.R_reads' HO_167000.out).2.2 | (with_reducible refine Kd.C_alloc ?_ _) | (with_reducible refine Kd.C_drewN ?_ _) | (with_reducible refine Kd.C_drew ?_))); (case aB => exact (by repeat (first | (with_reducible first | exact HB.out | apply below_alloc | apply pw_below_drewN | apply below_drew1 | refine below_set ?_ GE166.out | refine below_set ?_ GE177.out | refine below_set ?_ GE186.out) | exact HB.out))); (case aF => exact (fun k_ hk => ⟨Kd.fresh' (Kd.R_lt (by (with_reducible repeat (first | apply Kd.R_alloc | apply Kd.R_drewN | apply Kd.R_drew)); exact HO_167000.out)) k_ hk, Kd.fresh' (Kd.R_lt (by (with_reducible repeat (first | apply Kd.R_alloc | apply Kd.R_drewN | apply Kd.R_drew)); exact HO171.out)) k_ hk, Kd.fresh' (Kd.R_lt (by (with_reducible repeat (first | apply Kd.R_alloc | apply Kd.R_drewN | apply Kd.R_drew)); exact HO180.out)) k_ hk⟩)); (case aO => exact (by (with_reducible repeat (first | apply Kd.R_alloc | apply Kd.R_drewN | apply Kd.R_drew)); exact Kd.R_mono HO189.out (fun _ hk => ⟨hk.1.1.2, ⟨hk.1.2, hk.2⟩⟩))); (case aS => exact (below_size (by repeat (first | (with_reducible first | exact HB.out | apply below_alloc | apply pw_below_drewN | apply below_drew1 | refine below_set ?_ GE166.out | refine below_set ?_ GE177.out | refine below_set ?_ GE186.out) | exact HB.out)))); (case aL => have := LMc36.out; omega); intro v191 w52 ho hb hg hat; rw [← Ny190.out] at ho; have n0_ := Aside0.mk (Kd.R_after (ok := (fun k_ => some k_ ≠ (.slice Ao40 t169.length co40 : Value).ownBlock ∧ some k_ ≠ (.slice Ao45 t178.length co45 : Value).ownBlock)) (by (with_reducible repeat (first | apply Kd.R_alloc | apply Kd.R_drewN | apply Kd.R_drew)); exact Kd.R_mono HO_167000.out (fun _ hk => ⟨⟨hk.1.1.2, hk.1.2⟩, hk.2⟩)) hg hat); have n1_ := Aside0.mk (blk_grown (g := gb166) (o := .cells #[.slice Ao17 t158.length co17, .int .u8 t161, .int .i64 t162, .bool t163, .bool t164, .bool t165] 25 (0, 0)) (by (with_reducible repeat (first | refine blk_drewN ?_ _ | refine blk_drew ?_ | refine blk_alloc ?_ _)); exact BK166.out) hg (Kd.R_ne HO189.out BK166.out (by decide))); have n2_ := Aside0.mk (Kd.R_after (ok := (fun k_ => some k_ ≠ (.slice Ao17 t158.length co17 : Value).ownBlock ∧ some k_ ≠ (.slice Ao45 t178.length co45 : Value).ownBlock)) (by (with_reducible repeat (first | apply Kd.R_alloc | apply Kd.R_drewN | apply Kd.R_drew)); exact Kd.R_mono HO171.out (fun _ hk => ⟨⟨hk.1.1.2, hk.1.2⟩, hk.2⟩)) hg hat); have n3_ := Aside0.mk (blk_grown (g := gb177) (o := .cells #[.slice Ao40 t169.length co40, .int .u8 t172, .int .i64 t173, .bool t174, .bool t175, .bool t176] 25 (0, 0)) (by (with_reducible repeat (first | refine blk_drewN ?_ _ | refine blk_drew ?_ | refine blk_alloc ?_ _)); exact BK177.out) hg (Kd.R_ne HO189.out BK177.out (by decide))); have n4_ := Aside0.mk (Kd.R_after (ok := (fun k_ => some k_ ≠ (.slice Ao17 t158.length co17 : Value).ownBlock ∧ some k_ ≠ (.slice Ao40 t169.length co40 : Value).ownBlock)) (by (with_reducible repeat (first | apply Kd.R_alloc | apply Kd.R_drewN | apply Kd.R_drew)); exact Kd.R_mono HO180.out (fun _ hk => ⟨⟨hk.1.1.2, hk.1.2⟩, hk.2⟩)) hg hat); have n5_ := Aside0.mk (blk_grown (g := gb186) (o := .cells #[.slice Ao45 t178.length co45, .int .u8 t181, .int .i64 t182, .bool t183, .bool t184, .bool t185] 25 (0, 0)) (by (with_reducible repeat (first | refine blk_drewN ?_ _ | refine blk_drew ?_ | refine blk_alloc ?_ _)); exact BK186.out) hg (Kd.R_ne HO189.out BK186.out (by decide))); have n6_ := Aside0.mk (hb); have n7_ := Aside0.mk (ho); clear HO_167000; clear BK166; clear HO171; clear BK177; clear HO180; clear BK186; clear HB; clear HO189; have HO_167000 := n0_; have BK166 := n1_; have HO171 := n2_; have BK177 := n3_; have HO180 := n4_; have BK186 := n5_; have HB := n6_; have HO192 := n7_; clear n0_ n1_ n2_ n3_ n4_ n5_ n6_ n7_; clear ho hb hg hat))
                            go_loopg [13, 14] k3 (fun kq v13 v14 w' => ∃ (x13_4 : List (S33)) (x14_4 : Int), v14 = .int .i64 x14_4 ∧ Aside0 (indenturelaw11_PytokenSplit.l2 kq a0 x13_4 x14_4 t158 t161 t162 t163 t164 t165 t169 t172 t173 t174 t175 t176 t178 t181 t182 t183 t184 t185 = some r) ∧ Aside0 (kq ≤ k3) ∧ Aside0 (Kd.R k33 33 w' w.heap.size (fun k_ => some k_ ≠ ((.slice Ao17 t158.length co17) : Value).ownBlock ∧ some k_ ≠ ((.slice Ao40 t169.length co40) : Value).ownBlock ∧ some k_ ≠ ((.slice Ao45 t178.length co45) : Value).ownBlock) v13 x13_4) ∧ Aside0 (Kd.R k33 33 w' w.heap.size (fun k_ => some k_ ≠ (v13 : Value).ownBlock ∧ some k_ ≠ ((.slice Ao40 t169.length co40) : Value).ownBlock ∧ some k_ ≠ ((.slice Ao45 t178.length co45) : Value).ownBlock) (.slice Ao17 t158.length co17) t158) ∧ Aside0 (Kd.R k33 33 w' w.heap.size (fun k_ => some k_ ≠ (v13 : Value).ownBlock ∧ some k_ ≠ ((.slice Ao17 t158.length co17) : Value).ownBlock ∧ some k_ ≠ ((.slice Ao45 t178.length co45) : Value).ownBlock) (.slice Ao40 t169.length co40) t169) ∧ Aside0 (Kd.R k33 33 w' w.heap.size (fun k_ => some k_ ≠ (v13 : Value).ownBlock ∧ some k_ ≠ ((.slice Ao17 t158.length co17) : Value).ownBlock ∧ some k_ ≠ ((.slice Ao40 t169.length co40) : Value).ownBlock) (.slice Ao45 t178.length co45) t178) ∧ Aside0 (w'.heap[gb166]? = some (.cells #[(.slice Ao17 t158.length co17), .int .u8 t161, .int .i64 t162, .bool t163, .bool t164, .bool t165] 25 (0, 0))) ∧ Aside0 (w'.heap[gb177]? = some (.cells #[(.slice Ao40 t169.length co40), .int .u8 t172, .int .i64 t173, .bool t174, .bool t175, .bool t176] 25 (0, 0))) ∧ Aside0 (w'.heap[gb186]? = some (.cells #[(.slice Ao45 t178.length co45), .int .u8 t181, .int .i64 t182, .bool t183, .bool t184, .bool t185] 25 (0, 0))) ∧ Aside0 (Below w.heap.size w w'))
                            case atStart => exact ⟨(y190), (0), (by first | rfl | (simp; done) | (simp [*]; done)), H', ⟨Nat.le_refl _⟩, ⟨by (with_reducible repeat (first | apply Kd.R_alloc | apply Kd.R_drewN | apply Kd.R_drew)); exact HO192.out⟩, ⟨by (with_reducible repeat (first | apply Kd.R_alloc | apply Kd.R_drewN | apply Kd.R_drew)); exact Kd.R_mono HO_167000.out (fun _ hk => ⟨hk.2, ⟨hk.1.1, hk.1.2⟩⟩)⟩, ⟨by (with_reducible repeat (first | apply Kd.R_alloc | apply Kd.R_drewN | apply Kd.R_drew)); exact Kd.R_mono HO171.out (fun _ hk => ⟨hk.2, ⟨hk.1.1, hk.1.2⟩⟩)⟩, ⟨by (with_reducible repeat (first | apply Kd.R_alloc | apply Kd.R_drewN | apply Kd.R_drew)); exact Kd.R_mono HO180.out (fun _ hk => ⟨hk.2, ⟨hk.1.1, hk.1.2⟩⟩)⟩, ⟨by (with_reducible repeat (first | refine blk_drewN ?_ _ | refine blk_drew ?_ | refine blk_alloc ?_ _)); exact BK166.out⟩, ⟨by (with_reducible repeat (first | refine blk_drewN ?_ _ | refine blk_drew ?_ | refine blk_alloc ?_ _)); exact BK177.out⟩, ⟨by (with_reducible repeat (first | refine blk_drewN ?_ _ | refine blk_drew ?_ | refine blk_alloc ?_ _)); exact BK186.out⟩, ⟨by repeat (first | (with_reducible first | exact HB.out | apply below_alloc | apply pw_below_drewN | apply below_drew1 | refine below_set ?_ GE166.out | refine below_set ?_ GE177.out | refine below_set ?_ GE186.out) | exact HB.out)⟩⟩
                            case round =>
                              clear H'
                              try clear c1
                              try clear p1
                              try clear q1
                              try clear hx1
                              try clear c2
                              try clear p2
                              try clear c3
                              try clear c4
                              try clear c5
                              try clear c5b0
                              try clear c5b1
                              try clear c6
                              try clear p6
                              try clear c7
                              try clear c7b0
                              try clear c8
                              try clear c8b0
                              try clear p9
                              try clear q9
                              try clear hx9
                              try clear c10
                              try clear c10b0
                              try clear c10b1
                              try clear c12
                              try clear c13
                              try clear c13b0
                              try clear c13b1
                              try clear c13b2
                              try clear p16
                              try clear q16
                              try clear hx16
                              try clear c19
                              try clear c19b0
                              try clear c20
                              try clear c20b0
                              try clear c21
                              try clear c21b0
                              try clear c21b1
                              try clear c23
                              try clear c23b0
                              try clear c23b1
                              try clear c25
                              try clear c25b0
                              try clear c25b1
                              try clear c27
                              try clear c27b0
                              try clear c27b1
                              try clear c33
                              try clear c33b0
                              try clear c33b1
                              try clear c33b2
                              try clear c34
                              try clear c34b0
                              try clear c34b1
                              try clear c34b2
                              try clear c36
                              try clear c41
                              try clear c46
                              try clear c47
                              try clear hcz18_0
                              try clear hcz18_1
                              try clear hcz18_2
                              try clear hcz18_3
                              try clear hcz18_4
                              try clear hcz18_5
                              try clear hcz22_0
                              try clear hcz22_1
                              try clear hcz22_2
                              try clear hcz22_3
                              try clear hcz22_4
                              try clear hcz22_5
                              try clear hcz24_0
                              try clear hcz24_1
                              try clear hcz24_2
                              try clear hcz24_3
                              try clear hcz24_4
                              try clear hcz24_5
                              try clear hcz26_0
                              try clear hcz26_1
                              try clear hcz26_2
                              try clear hcz26_3
                              try clear hcz26_4
                              try clear hcz26_5
                              try clear hcz28_0
                              try clear hcz28_1
                              try clear hcz28_2
                              try clear hcz28_3
                              try clear hcz28_4
                              try clear hcz28_5
                              try clear hcz30_0
                              try clear hcz30_1
                              try clear hcz30_2
                              try clear hcz30_3
                              try clear hcz30_4
                              try clear hcz30_5
                              try clear hcz37_0
                              try clear hcz37_1
                              try clear hcz37_2
                              try clear hcz37_3
                              try clear hcz37_4
                              try clear hcz37_5
                              try clear hcz42_0
                              try clear hcz42_1
                              try clear hcz42_2
                              try clear hcz42_3
                              try clear hcz42_4
                              try clear hcz42_5
                              try clear hcz48_0
                              try clear hcz48_1
                              try clear hcz48_2
                              try clear hcz48_3
                              try clear hcz48_4
                              try clear hcz48_5
                              try clear hcz51_0
                              try clear hcz51_1
                              try clear hcz51_2
                              try clear hcz51_3
                              try clear hcz51_4
                              try clear hcz51_5
                              try clear hfz18_0
                              try clear hfz18_1
                              try clear hfz18_2
                              try clear hfz18_3
                              try clear hfz18_4
                              try clear hfz18_5
                              try clear hfz22_0
                              try clear hfz22_1
                              try clear hfz22_2
                              try clear hfz22_3
                              try clear hfz22_4
                              try clear hfz22_5
                              try clear hfz24_0
                              try clear hfz24_1
                              try clear hfz24_2
                              try clear hfz24_3
                              try clear hfz24_4
                              try clear hfz24_5
                              try clear hfz26_0
                              try clear hfz26_1
                              try clear hfz26_2
                              try clear hfz26_3
                              try clear hfz26_4
                              try clear hfz26_5
                              try clear hfz28_0
                              try clear hfz28_1
                              try clear hfz28_2
                              try clear hfz28_3
                              try clear hfz28_4
                              try clear hfz28_5
                              try clear hfz30_0
                              try clear hfz30_1
                              try clear hfz30_2
                              try clear hfz30_3
                              try clear hfz30_4
                              try clear hfz30_5
                              try clear hfz37_0
                              try clear hfz37_1
                              try clear hfz37_2
                              try clear hfz37_3
                              try clear hfz37_4
                              try clear hfz37_5
                              try clear hfz42_0
                              try clear hfz42_1
                              try clear hfz42_2
                              try clear hfz42_3
                              try clear hfz42_4
                              try clear hfz42_5
                              try clear hfz48_0
                              try clear hfz48_1
                              try clear hfz48_2
                              try clear hfz48_3
                              try clear hfz48_4
                              try clear hfz48_5
                              try clear hfz51_0
                              try clear hfz51_1
                              try clear hfz51_2
                              try clear hfz51_3
                              try clear hfz51_4
                              try clear hfz51_5
                              try clear hx167_0
                              try clear hx167_1
                              try clear hx167_2
                              try clear hx167_3
                              try clear p167
                              try clear p2
                              try clear p6
                              try clear p9
                              try clear q167
                              try clear q9
                              obtain ⟨x13_4, x14_4, rfl, HA, HK4, HO_13, HO_167000, HO_178000, HO_187000, BK166, BK177, BK186, HB⟩ := hrel
                              cases gk with
                              | zero => exact absurd HA.out (by simp [indenturelaw11_PytokenSplit.l2])
                              | succ k4 =>
                                have H := HA.out
                                clear HA
                                simp only [indenturelaw11_PytokenSplit.l2] at H
                                by_cases c53 : x14_4 < (t169.length : Int)
                                · rw [if_pos c53] at H
                                  have c53b0 : decide (x14_4 < (t169.length : Int)) = true := decide_eq_true c53
                                  clear c53
                                  by_cases c54 : 0 ≤ x14_4
                                  · rw [if_pos c54] at H
                                    have c54b0 : decide (0 ≤ x14_4) = true := decide_eq_true c54
                                    clear c54
                                    by_cases c55 : x13_4.length < 5864062014805
                                    · rw [if_pos c55] at H
                                      have LMc55 := Aside0.mk c55
                                      clear c55
                                      obtain ⟨y195, hy195⟩ : ∃ y_ : List (S33), y_ = (x13_4 ++ [(⟨(rd_T33 t169 x14_4).f0, (rd_T33 t169 x14_4).f1, wrap64 ((wrap64 (((rd_T33 t169 x14_4).f2) + (a0.size : Int))) + 1), wrap64 ((wrap64 (((rd_T33 t169 x14_4).f3) + (a0.size : Int))) + 1)⟩ : S33)]) := ⟨_, rfl⟩
                                      replace H : (indenturelaw11_PytokenSplit.l2 k4 a0 y195 (wrap64 (x14_4 + 1)) t158 t161 t162 t163 t164 t165 t169 t172 t173 t174 t175 t176 t178 t181 t182 t183 t184 t185) = some r := by first | (rw [hy195]; with_reducible exact H) | (have H2_ := (Option.bind_some _ _).symm.trans H; rw [hy195]; with_reducible exact H2_) | (have H2_ := (Option.bind_some _ _).symm.trans H; with_reducible exact H2_) | with_reducible exact H | (rw [hy195]; exact H) | exact H
                                      have Ny195 := Aside0.mk hy195
                                      clear hy195
                                      have H' := Aside0.mk H
                                      clear H
                                      have hnb56 := NB177_166.out
                                      have hnc56 := NB166_177.out
                                      have hnb57 := NB177_186.out
                                      have hnc57 := NB186_177.out
                                      have hcz58_0 : wr.cell? ⟨gb177, 0, none⟩ = some (.slice Ao40 t169.length co40) := (blk_cell BK177.out 0).trans rfl
                                      have hcz58_1 : wr.cell? ⟨gb177, 1, none⟩ = some (.int .u8 t172) := (blk_cell BK177.out 1).trans rfl
                                      have hcz58_2 : wr.cell? ⟨gb177, 2, none⟩ = some (.int .i64 t173) := (blk_cell BK177.out 2).trans rfl
                                      have hcz58_3 : wr.cell? ⟨gb177, 3, none⟩ = some (.bool t174) := (blk_cell BK177.out 3).trans rfl
                                      have hcz58_4 : wr.cell? ⟨gb177, 4, none⟩ = some (.bool t175) := (blk_cell BK177.out 4).trans rfl
                                      have hcz58_5 : wr.cell? ⟨gb177, 5, none⟩ = some (.bool t176) := (blk_cell BK177.out 5).trans rfl
                                      have hfz58_0 := blk_frozen BK177.out 0
                                      have hfz58_1 := blk_frozen BK177.out 1
                                      have hfz58_2 := blk_frozen BK177.out 2
                                      have hfz58_3 := blk_frozen BK177.out 3
                                      have hfz58_4 := blk_frozen BK177.out 4
                                      have hfz58_5 := blk_frozen BK177.out 5
                                      have p193 : 0 ≤ (x14_4 : Int) := of_decide_eq_true (by first | (with_reducible assumption) | assumption)
                                      have q193 : x14_4 < (t169.length : Int) := of_decide_eq_true (by first | (with_reducible assumption) | assumption)
                                      obtain ⟨ad193, e193, hx193_0, hx193_1, hx193_2, hx193_3⟩ := at_T33 (Kd.R_reads' HO_178000.out).2.2 x14_4 p193 q193
                                      cases e193
                                      replace p193 := eq_true p193
                                      replace q193 := eq_true q193
                                      go_upto_region 22 with (fail)
                                      go_upto_region 23 with (fail)
                                      go_upto_region 24 with (fail)
                                      go_wp2_with (at_builtin; refine Kd.R_append k33 (w0 := w) w.heap.size rfl (.tmp 108) (.tmp 110) 23 33 (.agg #[(.int .u8 0), (.int .u8 0), (.int .i64 0), (.int .i64 0)]) 24 rfl Try.underlying23 info33 rfl (by decide) (by omega) u13 x13_4 (⟨(rd_T33 t169 x14_4).f0, (rd_T33 t169 x14_4).f1, wrap64 ((wrap64 (((rd_T33 t169 x14_4).f2) + (a0.size : Int))) + 1), wrap64 ((wrap64 (((rd_T33 t169 x14_4).f3) + (a0.size : Int))) + 1)⟩ : S33) [.int .u8 ((rd_T33 t169 x14_4).f0), .int .u8 ((rd_T33 t169 x14_4).f1), .int .i64 (wrap64 ((wrap64 (((rd_T33 t169 x14_4).f2) + (a0.size : Int))) + 1)), .int .i64 (wrap64 ((wrap64 (((rd_T33 t169 x14_4).f3) + (a0.size : Int))) + 1))] (fun k_ => some k_ ≠ (.slice Ao17 t158.length co17 : Value).ownBlock ∧ some k_ ≠ (.slice (some ad193) t169.length co40 : Value).ownBlock ∧ some k_ ≠ (.slice Ao45 t178.length co45 : Value).ownBlock) (fun _ => False) rfl (by first | (go_simp; done) | (go_simp; rfl)) (k33_mkM _ _ _ _) (fun _ hk => hk.elim) ?aF (Kd.R_alloc HO_13.out _) (below_alloc HB.out _) ?aS ?aL ?_; (case aF => exact (fun k_ hk => ⟨Kd.fresh' (Kd.R_lt (Kd.R_alloc HO_167000.out _)) k_ hk, Kd.fresh' (Kd.R_lt (Kd.R_alloc HO_178000.out _)) k_ hk, Kd.fresh' (Kd.R_lt (Kd.R_alloc HO_187000.out _)) k_ hk⟩)); (case aS => have hbz := HB.out.size; rw [World.size_alloc]; omega); (case aL => have := LMc55.out; omega); intro v196 w64 ho hb hg hat; rw [← Ny195.out] at ho; have n0_ := Aside0.mk (Kd.R_after (ok := (fun k_ => some k_ ≠ (.slice (some ad193) t169.length co40 : Value).ownBlock ∧ some k_ ≠ (.slice Ao45 t178.length co45 : Value).ownBlock)) (Kd.R_mono (Kd.R_alloc HO_167000.out _) (fun _ hk => ⟨⟨hk.2.1, hk.2.2⟩, hk.1⟩)) hg hat); have n1_ := Aside0.mk (Kd.R_after (ok := (fun k_ => some k_ ≠ (.slice Ao17 t158.length co17 : Value).ownBlock ∧ some k_ ≠ (.slice Ao45 t178.length co45 : Value).ownBlock)) (Kd.R_mono (Kd.R_alloc HO_178000.out _) (fun _ hk => ⟨⟨hk.2.1, hk.2.2⟩, hk.1⟩)) hg hat); have n2_ := Aside0.mk (Kd.R_after (ok := (fun k_ => some k_ ≠ (.slice Ao17 t158.length co17 : Value).ownBlock ∧ some k_ ≠ (.slice (some ad193) t169.length co40 : Value).ownBlock)) (Kd.R_mono (Kd.R_alloc HO_187000.out _) (fun _ hk => ⟨⟨hk.2.1, hk.2.2⟩, hk.1⟩)) hg hat); have n3_ := Aside0.mk (blk_grown (blk_alloc BK166.out _) hg (Kd.R_ne HO_13.out BK166.out (by decide))); have n4_ := Aside0.mk (blk_grown (blk_alloc BK177.out _) hg (Kd.R_ne HO_13.out BK177.out (by decide))); have n5_ := Aside0.mk (blk_grown (blk_alloc BK186.out _) hg (Kd.R_ne HO_13.out BK186.out (by decide))); have n6_ := Aside0.mk ho; have n7_ := Aside0.mk hb; clear ho hb hg hat)
                                      go_roundg k4
                                      case measure => have := HJ3.out; have := HK2.out; have := HK3.out; have := HK4.out; omega
                                      case rel => exact ⟨(y195), (wrap64 (x14_4 + 1)), (by first | rfl | (simp; done) | (simp [*]; done)), H', ⟨by have := HJ3.out; have := HK2.out; have := HK3.out; have := HK4.out; omega⟩, n6_, ⟨Kd.R_mono n0_.out (fun _ hk => ⟨hk.2, hk.1.1, hk.1.2⟩)⟩, ⟨Kd.R_mono n1_.out (fun _ hk => ⟨hk.2, hk.1.1, hk.1.2⟩)⟩, ⟨Kd.R_mono n2_.out (fun _ hk => ⟨hk.2, hk.1.1, hk.1.2⟩)⟩, n3_, n4_, n5_, n7_⟩
                                    · rw [if_neg c55] at H
                                      exact absurd H (by simp)
                                  · rw [if_neg c54] at H
                                    exact absurd H (by simp)
                                · rw [if_neg c53] at H
                                  have c53b0 : decide (x14_4 < (t169.length : Int)) = false := decide_eq_false c53
                                  clear c53
                                  by_cases c65 : t175 = true
                                  · subst c65
                                    have H1 : ((indentureref11_SameEvents.f k4 t178 x13_4).bind fun t198 => (if t198 = true then (if t182 = t173 then (if t181 = t172 then (if (t183 == t174) = true then (if t164 = true then (if (t184 == true) = true then (if (t185 == t176) = true then ((indenturelaw11_reads.f).bind fun t199 => (some t199)) else (some false)) else (some false)) else (if (t184 == true) = true then (if (t185 == t176) = true then ((indenturelaw11_reads.f).bind fun t200 => (some t200)) else (some false)) else (some false))) else (some false)) else (some false)) else (some false)) else (some false))) = some r := by rw [if_pos rfl] at H; exact H
                                    clear H
                                    have H := H1
                                    clear H1
                                    replace H := Option.bind_eq_some_iff.mp H
                                    obtain ⟨t198, A660, H⟩ := H
                                    replace H : (if t198 = true then (if t182 = t173 then (if t181 = t172 then (if (t183 == t174) = true then (if t164 = true then (if (t184 == true) = true then (if (t185 == t176) = true then ((indenturelaw11_reads.f).bind fun t199 => (some t199)) else (some false)) else (some false)) else (if (t184 == true) = true then (if (t185 == t176) = true then ((indenturelaw11_reads.f).bind fun t200 => (some t200)) else (some false)) else (some false))) else (some false)) else (some false)) else (some false)) else (some false)) = some r := H
                                    have A66 := Aside0.mk A660
                                    clear A660
                                    by_cases c67 : t198 = true
                                    · subst c67
                                      have H1 : (if t182 = t173 then (if t181 = t172 then (if (t183 == t174) = true then (if t164 = true then (if (t184 == true) = true then (if (t185 == t176) = true then ((indenturelaw11_reads.f).bind fun t199 => (some t199)) else (some false)) else (some false)) else (if (t184 == true) = true then (if (t185 == t176) = true then ((indenturelaw11_reads.f).bind fun t200 => (some t200)) else (some false)) else (some false))) else (some false)) else (some false)) else (some false)) = some r := by rw [if_pos rfl] at H; exact H
                                      clear H
                                      have H := H1
                                      clear H1
                                      by_cases c68 : t182 = t173
                                      · rw [if_pos c68] at H
                                        have c68b0 : (t182 == t173) = true := beq_iff_eq.mpr c68
                                        have c68b1 : (t182 != t173) = false := bne_eq_false_iff_eq.mpr c68
                                        clear c68
                                        by_cases c69 : t181 = t172
                                        · rw [if_pos c69] at H
                                          have c69b0 : (t181 == t172) = true := beq_iff_eq.mpr c69
                                          have c69b1 : (t181 != t172) = false := bne_eq_false_iff_eq.mpr c69
                                          clear c69
                                          by_cases c70 : (t183 == t174) = true
                                          · rw [if_pos c70] at H
                                            have c70b0 : (t183 == t174) = true := c70
                                            (try (have c70b1 : decide (t183 = t174) = true := by simpa using c70))
                                            (try (have c70b2 : (t183 == t174) = true := by simpa using c70))
                                            clear c70
                                            by_cases c71 : t164 = true
                                            · subst c71
                                              have H1 : (if (t184 == true) = true then (if (t185 == t176) = true then ((indenturelaw11_reads.f).bind fun t199 => (some t199)) else (some false)) else (some false)) = some r := by rw [if_pos rfl] at H; exact H
                                              clear H
                                              have H := H1
                                              clear H1
                                              by_cases c72 : (t184 == true) = true
                                              · rw [if_pos c72] at H
                                                have c72b0 : (t184 == true) = true := c72
                                                (try (have c72b1 : decide (t184 = true) = true := by simpa using c72))
                                                (try (have c72b2 : (t184 == true) = true := by simpa using c72))
                                                clear c72
                                                by_cases c73 : (t185 == t176) = true
                                                · rw [if_pos c73] at H
                                                  have c73b0 : (t185 == t176) = true := c73
                                                  (try (have c73b1 : decide (t185 = t176) = true := by simpa using c73))
                                                  (try (have c73b2 : (t185 == t176) = true := by simpa using c73))
                                                  clear c73
                                                  replace H := Option.bind_eq_some_iff.mp H
                                                  obtain ⟨t199, A740, H⟩ := H
                                                  replace H : (some t199) = some r := H
                                                  have A74 := Aside0.mk A740
                                                  clear A740
                                                  obtain rfl := Option.some.inj H
                                                  have hnb75 := NB177_166.out
                                                  have hnc75 := NB166_177.out
                                                  have hnb76 := NB177_186.out
                                                  have hnc76 := NB186_177.out
                                                  have hcz77_0 : wr.cell? ⟨gb177, 0, none⟩ = some (.slice Ao40 t169.length co40) := (blk_cell BK177.out 0).trans rfl
                                                  have hcz77_1 : wr.cell? ⟨gb177, 1, none⟩ = some (.int .u8 t172) := (blk_cell BK177.out 1).trans rfl
                                                  have hcz77_2 : wr.cell? ⟨gb177, 2, none⟩ = some (.int .i64 t173) := (blk_cell BK177.out 2).trans rfl
                                                  have hcz77_3 : wr.cell? ⟨gb177, 3, none⟩ = some (.bool t174) := (blk_cell BK177.out 3).trans rfl
                                                  have hcz77_4 : wr.cell? ⟨gb177, 4, none⟩ = some (.bool true) := (blk_cell BK177.out 4).trans rfl
                                                  have hcz77_5 : wr.cell? ⟨gb177, 5, none⟩ = some (.bool t176) := (blk_cell BK177.out 5).trans rfl
                                                  have hfz77_0 := blk_frozen BK177.out 0
                                                  have hfz77_1 := blk_frozen BK177.out 1
                                                  have hfz77_2 := blk_frozen BK177.out 2
                                                  have hfz77_3 := blk_frozen BK177.out 3
                                                  have hfz77_4 := blk_frozen BK177.out 4
                                                  have hfz77_5 := blk_frozen BK177.out 5
                                                  have hnb78 := NB186_166.out
                                                  have hnc78 := NB166_186.out
                                                  have hcz79_0 : wr.cell? ⟨gb186, 0, none⟩ = some (.slice Ao45 t178.length co45) := (blk_cell BK186.out 0).trans rfl
                                                  have hcz79_1 : wr.cell? ⟨gb186, 1, none⟩ = some (.int .u8 t181) := (blk_cell BK186.out 1).trans rfl
                                                  have hcz79_2 : wr.cell? ⟨gb186, 2, none⟩ = some (.int .i64 t182) := (blk_cell BK186.out 2).trans rfl
                                                  have hcz79_3 : wr.cell? ⟨gb186, 3, none⟩ = some (.bool t183) := (blk_cell BK186.out 3).trans rfl
                                                  have hcz79_4 : wr.cell? ⟨gb186, 4, none⟩ = some (.bool t184) := (blk_cell BK186.out 4).trans rfl
                                                  have hcz79_5 : wr.cell? ⟨gb186, 5, none⟩ = some (.bool t185) := (blk_cell BK186.out 5).trans rfl
                                                  have hfz79_0 := blk_frozen BK186.out 0
                                                  have hfz79_1 := blk_frozen BK186.out 1
                                                  have hfz79_2 := blk_frozen BK186.out 2
                                                  have hfz79_3 := blk_frozen BK186.out 3
                                                  have hfz79_4 := blk_frozen BK186.out 4
                                                  have hfz79_5 := blk_frozen BK186.out 5
                                                  obtain ⟨Ao80, co80, eo80⟩ := Kd.R_slice HO_13.out
                                                  subst eo80
                                                  go_wp2_with (first | ((with_reducible refine gate_callee (f := 15) rfl ?_); refine goesL_ (some 122) rfl rfl Try.func15 (by kernel_rfl) rfl #[.slice Ao45 t178.length co45, .slice Ao80 x13_4.length co80] rfl (by (try simp only [List.map_toArray, List.map_cons, List.map_nil]); first | done | rfl | (simp only [List.length_drop, List.length_take]; rfl)) ?_; (with_reducible refine (indentureref11_SameEvents.calls k4 _ _ t178 _ _ x13_4 true _ ?side1 ?side2 ?side3 ?side4 A66.out).mono ?_); (case side1 => repeat (first | exact (Kd.R_reads' HO_187000.out).2.2 | (with_reducible refine Kd.C_alloc ?_ _) | (with_reducible refine Kd.C_drewN ?_ _) | (with_reducible refine Kd.C_drew ?_))); (case side2 => exact (Kd.R_reads' HO_187000.out).2.1); (case side3 => repeat (first | exact (Kd.R_reads' HO_13.out).2.2 | (with_reducible refine Kd.C_alloc ?_ _) | (with_reducible refine Kd.C_drewN ?_ _) | (with_reducible refine Kd.C_drew ?_))); (case side4 => exact (Kd.R_reads' HO_13.out).2.1); rintro e w' ⟨rfl, ⟨nd, rfl⟩⟩; refine ⟨_, rfl, ?_⟩; have hcz81_0 : wr.cell? ⟨gb166, 0, none⟩ = some (.slice Ao17 t158.length co17) := (blk_cell BK166.out 0).trans rfl; have hcz81_1 : wr.cell? ⟨gb166, 1, none⟩ = some (.int .u8 t161) := (blk_cell BK166.out 1).trans rfl; have hcz81_2 : wr.cell? ⟨gb166, 2, none⟩ = some (.int .i64 t162) := (blk_cell BK166.out 2).trans rfl; have hcz81_3 : wr.cell? ⟨gb166, 3, none⟩ = some (.bool t163) := (blk_cell BK166.out 3).trans rfl; have hcz81_4 : wr.cell? ⟨gb166, 4, none⟩ = some (.bool true) := (blk_cell BK166.out 4).trans rfl; have hcz81_5 : wr.cell? ⟨gb166, 5, none⟩ = some (.bool t165) := (blk_cell BK166.out 5).trans rfl; have hfz81_0 := blk_frozen BK166.out 0; have hfz81_1 := blk_frozen BK166.out 1; have hfz81_2 := blk_frozen BK166.out 2; have hfz81_3 := blk_frozen BK166.out 3; have hfz81_4 := blk_frozen BK166.out 4; have hfz81_5 := blk_frozen BK166.out 5) | (go_at_call 12; (with_reducible refine (indenturelaw11_reads.calls  t199 _ A74.out).mono ?_); rintro e w82 ⟨rfl, hb⟩; have n0_ := Aside0.mk (Kd.R_below (by (with_reducible repeat (first | apply Kd.R_alloc | apply Kd.R_drewN | apply Kd.R_drew)); exact HO_13.out) hb); have n1_ := Aside0.mk (Kd.R_below (by (with_reducible repeat (first | apply Kd.R_alloc | apply Kd.R_drewN | apply Kd.R_drew)); exact HO_167000.out) hb); have n2_ := Aside0.mk (Kd.R_below (by (with_reducible repeat (first | apply Kd.R_alloc | apply Kd.R_drewN | apply Kd.R_drew)); exact HO_178000.out) hb); have n3_ := Aside0.mk (Kd.R_below (by (with_reducible repeat (first | apply Kd.R_alloc | apply Kd.R_drewN | apply Kd.R_drew)); exact HO_187000.out) hb); have n4_ := Aside0.mk (blk_below (g := gb166) (o := .cells #[.slice Ao17 t158.length co17, .int .u8 t161, .int .i64 t162, .bool t163, .bool true, .bool t165] 25 (0, 0)) (by (with_reducible repeat (first | refine blk_drewN ?_ _ | refine blk_drew ?_ | refine blk_alloc ?_ _)); exact BK166.out) hb); have n5_ := Aside0.mk (blk_below (g := gb177) (o := .cells #[.slice Ao40 t169.length co40, .int .u8 t172, .int .i64 t173, .bool t174, .bool true, .bool t176] 25 (0, 0)) (by (with_reducible repeat (first | refine blk_drewN ?_ _ | refine blk_drew ?_ | refine blk_alloc ?_ _)); exact BK177.out) hb); have n6_ := Aside0.mk (blk_below (g := gb186) (o := .cells #[.slice Ao45 t178.length co45, .int .u8 t181, .int .i64 t182, .bool t183, .bool t184, .bool t185] 25 (0, 0)) (by (with_reducible repeat (first | refine blk_drewN ?_ _ | refine blk_drew ?_ | refine blk_alloc ?_ _)); exact BK186.out) hb); have n7_ := Aside0.mk (below_step (by repeat (first | (with_reducible first | exact HB.out | apply below_alloc | apply pw_below_drewN | apply below_drew1 | refine below_set ?_ GE166.out | refine below_set ?_ GE177.out | refine below_set ?_ GE186.out) | exact HB.out)) hb); clear HO_13; clear HO_167000; clear HO_178000; clear HO_187000; clear BK166; clear BK177; clear BK186; clear HB; have HO_13 := n0_; have HO_167000 := n1_; have HO_178000 := n2_; have HO_187000 := n3_; have BK166 := n4_; have BK177 := n5_; have BK186 := n6_; have HB := n7_; clear n0_ n1_ n2_ n3_ n4_ n5_ n6_ n7_; (try clear hb); (try clear hb2); (try clear hk); (try clear hi)))
                                                  go_ret
                                                  exact ⟨by first | rfl | (simp [errW_none, errW_some] <;> rfl) | (simp [*, errW_none, errW_some] <;> rfl), by repeat (first | (with_reducible first | exact HB.out | apply below_alloc | apply pw_below_drewN | apply below_drew1 | refine below_set ?_ GE166.out | refine below_set ?_ GE177.out | refine below_set ?_ GE186.out) | exact HB.out)⟩
                                                · rw [if_neg c73] at H
                                                  have c73b0 : (t185 == t176) = false := by simpa using c73
                                                  (try (have c73b1 : decide (t185 = t176) = false := by simpa using c73))
                                                  (try (have c73b2 : (t185 == t176) = false := by simpa using c73))
                                                  (try (have c73b3 : ¬ (t185 = t176) := by simpa using c73))
                                                  clear c73
                                                  exact absurd (H.trans (congrArg some hrt.out)) (by decide)
                                              · rw [if_neg c72] at H
                                                have c72b0 : (t184 == true) = false := by simpa using c72
                                                (try (have c72b1 : decide (t184 = true) = false := by simpa using c72))
                                                (try (have c72b2 : (t184 == true) = false := by simpa using c72))
                                                (try (have c72b3 : ¬ (t184 = true) := by simpa using c72))
                                                clear c72
                                                exact absurd (H.trans (congrArg some hrt.out)) (by decide)
                                            · replace c71 := Bool.eq_false_iff.mpr c71
                                              subst c71
                                              have H1 : (if (t184 == true) = true then (if (t185 == t176) = true then ((indenturelaw11_reads.f).bind fun t200 => (some t200)) else (some false)) else (some false)) = some r := by rw [if_neg (show ¬ (false = true) by decide)] at H; exact H
                                              clear H
                                              have H := H1
                                              clear H1
                                              by_cases c97 : (t184 == true) = true
                                              · rw [if_pos c97] at H
                                                have c97b0 : (t184 == true) = true := c97
                                                (try (have c97b1 : decide (t184 = true) = true := by simpa using c97))
                                                (try (have c97b2 : (t184 == true) = true := by simpa using c97))
                                                clear c97
                                                by_cases c98 : (t185 == t176) = true
                                                · rw [if_pos c98] at H
                                                  have c98b0 : (t185 == t176) = true := c98
                                                  (try (have c98b1 : decide (t185 = t176) = true := by simpa using c98))
                                                  (try (have c98b2 : (t185 == t176) = true := by simpa using c98))
                                                  clear c98
                                                  replace H := Option.bind_eq_some_iff.mp H
                                                  obtain ⟨t200, A990, H⟩ := H
                                                  replace H : (some t200) = some r := H
                                                  have A99 := Aside0.mk A990
                                                  clear A990
                                                  obtain rfl := Option.some.inj H
                                                  have hnb100 := NB177_166.out
                                                  have hnc100 := NB166_177.out
                                                  have hnb101 := NB177_186.out
                                                  have hnc101 := NB186_177.out
                                                  have hcz102_0 : wr.cell? ⟨gb177, 0, none⟩ = some (.slice Ao40 t169.length co40) := (blk_cell BK177.out 0).trans rfl
                                                  have hcz102_1 : wr.cell? ⟨gb177, 1, none⟩ = some (.int .u8 t172) := (blk_cell BK177.out 1).trans rfl
                                                  have hcz102_2 : wr.cell? ⟨gb177, 2, none⟩ = some (.int .i64 t173) := (blk_cell BK177.out 2).trans rfl
                                                  have hcz102_3 : wr.cell? ⟨gb177, 3, none⟩ = some (.bool t174) := (blk_cell BK177.out 3).trans rfl
                                                  have hcz102_4 : wr.cell? ⟨gb177, 4, none⟩ = some (.bool true) := (blk_cell BK177.out 4).trans rfl
                                                  have hcz102_5 : wr.cell? ⟨gb177, 5, none⟩ = some (.bool t176) := (blk_cell BK177.out 5).trans rfl
                                                  have hfz102_0 := blk_frozen BK177.out 0
                                                  have hfz102_1 := blk_frozen BK177.out 1
                                                  have hfz102_2 := blk_frozen BK177.out 2
                                                  have hfz102_3 := blk_frozen BK177.out 3
                                                  have hfz102_4 := blk_frozen BK177.out 4
                                                  have hfz102_5 := blk_frozen BK177.out 5
                                                  have hnb103 := NB186_166.out
                                                  have hnc103 := NB166_186.out
                                                  have hcz104_0 : wr.cell? ⟨gb186, 0, none⟩ = some (.slice Ao45 t178.length co45) := (blk_cell BK186.out 0).trans rfl
                                                  have hcz104_1 : wr.cell? ⟨gb186, 1, none⟩ = some (.int .u8 t181) := (blk_cell BK186.out 1).trans rfl
                                                  have hcz104_2 : wr.cell? ⟨gb186, 2, none⟩ = some (.int .i64 t182) := (blk_cell BK186.out 2).trans rfl
                                                  have hcz104_3 : wr.cell? ⟨gb186, 3, none⟩ = some (.bool t183) := (blk_cell BK186.out 3).trans rfl
                                                  have hcz104_4 : wr.cell? ⟨gb186, 4, none⟩ = some (.bool t184) := (blk_cell BK186.out 4).trans rfl
                                                  have hcz104_5 : wr.cell? ⟨gb186, 5, none⟩ = some (.bool t185) := (blk_cell BK186.out 5).trans rfl
                                                  have hfz104_0 := blk_frozen BK186.out 0
                                                  have hfz104_1 := blk_frozen BK186.out 1
                                                  have hfz104_2 := blk_frozen BK186.out 2
                                                  have hfz104_3 := blk_frozen BK186.out 3
                                                  have hfz104_4 := blk_frozen BK186.out 4
                                                  have hfz104_5 := blk_frozen BK186.out 5
                                                  obtain ⟨Ao105, co105, eo105⟩ := Kd.R_slice HO_13.out
                                                  subst eo105
                                                  go_wp2_with (first | ((with_reducible refine gate_callee (f := 15) rfl ?_); refine goesL_ (some 122) rfl rfl Try.func15 (by kernel_rfl) rfl #[.slice Ao45 t178.length co45, .slice Ao105 x13_4.length co105] rfl (by (try simp only [List.map_toArray, List.map_cons, List.map_nil]); first | done | rfl | (simp only [List.length_drop, List.length_take]; rfl)) ?_; (with_reducible refine (indentureref11_SameEvents.calls k4 _ _ t178 _ _ x13_4 true _ ?side1 ?side2 ?side3 ?side4 A66.out).mono ?_); (case side1 => repeat (first | exact (Kd.R_reads' HO_187000.out).2.2 | (with_reducible refine Kd.C_alloc ?_ _) | (with_reducible refine Kd.C_drewN ?_ _) | (with_reducible refine Kd.C_drew ?_))); (case side2 => exact (Kd.R_reads' HO_187000.out).2.1); (case side3 => repeat (first | exact (Kd.R_reads' HO_13.out).2.2 | (with_reducible refine Kd.C_alloc ?_ _) | (with_reducible refine Kd.C_drewN ?_ _) | (with_reducible refine Kd.C_drew ?_))); (case side4 => exact (Kd.R_reads' HO_13.out).2.1); rintro e w' ⟨rfl, ⟨nd, rfl⟩⟩; refine ⟨_, rfl, ?_⟩; have hcz106_0 : wr.cell? ⟨gb166, 0, none⟩ = some (.slice Ao17 t158.length co17) := (blk_cell BK166.out 0).trans rfl; have hcz106_1 : wr.cell? ⟨gb166, 1, none⟩ = some (.int .u8 t161) := (blk_cell BK166.out 1).trans rfl; have hcz106_2 : wr.cell? ⟨gb166, 2, none⟩ = some (.int .i64 t162) := (blk_cell BK166.out 2).trans rfl; have hcz106_3 : wr.cell? ⟨gb166, 3, none⟩ = some (.bool t163) := (blk_cell BK166.out 3).trans rfl; have hcz106_4 : wr.cell? ⟨gb166, 4, none⟩ = some (.bool false) := (blk_cell BK166.out 4).trans rfl; have hcz106_5 : wr.cell? ⟨gb166, 5, none⟩ = some (.bool t165) := (blk_cell BK166.out 5).trans rfl; have hfz106_0 := blk_frozen BK166.out 0; have hfz106_1 := blk_frozen BK166.out 1; have hfz106_2 := blk_frozen BK166.out 2; have hfz106_3 := blk_frozen BK166.out 3; have hfz106_4 := blk_frozen BK166.out 4; have hfz106_5 := blk_frozen BK166.out 5) | (go_at_call 12; (with_reducible refine (indenturelaw11_reads.calls  t200 _ A99.out).mono ?_); rintro e w107 ⟨rfl, hb⟩; have n0_ := Aside0.mk (Kd.R_below (by (with_reducible repeat (first | apply Kd.R_alloc | apply Kd.R_drewN | apply Kd.R_drew)); exact HO_13.out) hb); have n1_ := Aside0.mk (Kd.R_below (by (with_reducible repeat (first | apply Kd.R_alloc | apply Kd.R_drewN | apply Kd.R_drew)); exact HO_167000.out) hb); have n2_ := Aside0.mk (Kd.R_below (by (with_reducible repeat (first | apply Kd.R_alloc | apply Kd.R_drewN | apply Kd.R_drew)); exact HO_178000.out) hb); have n3_ := Aside0.mk (Kd.R_below (by (with_reducible repeat (first | apply Kd.R_alloc | apply Kd.R_drewN | apply Kd.R_drew)); exact HO_187000.out) hb); have n4_ := Aside0.mk (blk_below (g := gb166) (o := .cells #[.slice Ao17 t158.length co17, .int .u8 t161, .int .i64 t162, .bool t163, .bool false, .bool t165] 25 (0, 0)) (by (with_reducible repeat (first | refine blk_drewN ?_ _ | refine blk_drew ?_ | refine blk_alloc ?_ _)); exact BK166.out) hb); have n5_ := Aside0.mk (blk_below (g := gb177) (o := .cells #[.slice Ao40 t169.length co40, .int .u8 t172, .int .i64 t173, .bool t174, .bool true, .bool t176] 25 (0, 0)) (by (with_reducible repeat (first | refine blk_drewN ?_ _ | refine blk_drew ?_ | refine blk_alloc ?_ _)); exact BK177.out) hb); have n6_ := Aside0.mk (blk_below (g := gb186) (o := .cells #[.slice Ao45 t178.length co45, .int .u8 t181, .int .i64 t182, .bool t183, .bool t184, .bool t185] 25 (0, 0)) (by (with_reducible repeat (first | refine blk_drewN ?_ _ | refine blk_drew ?_ | refine blk_alloc ?_ _)); exact BK186.out) hb); have n7_ := Aside0.mk (below_step (by repeat (first | (with_reducible first | exact HB.out | apply below_alloc | apply pw_below_drewN | apply below_drew1 | refine below_set ?_ GE166.out | refine below_set ?_ GE177.out | refine below_set ?_ GE186.out) | exact HB.out)) hb); clear HO_13; clear HO_167000; clear HO_178000; clear HO_187000; clear BK166; clear BK177; clear BK186; clear HB; have HO_13 := n0_; have HO_167000 := n1_; have HO_178000 := n2_; have HO_187000 := n3_; have BK166 := n4_; have BK177 := n5_; have BK186 := n6_; have HB := n7_; clear n0_ n1_ n2_ n3_ n4_ n5_ n6_ n7_; (try clear hb); (try clear hb2); (try clear hk); (try clear hi)))
                                                  go_ret
                                                  exact ⟨by first | rfl | (simp [errW_none, errW_some] <;> rfl) | (simp [*, errW_none, errW_some] <;> rfl), by repeat (first | (with_reducible first | exact HB.out | apply below_alloc | apply pw_below_drewN | apply below_drew1 | refine below_set ?_ GE166.out | refine below_set ?_ GE177.out | refine below_set ?_ GE186.out) | exact HB.out)⟩
                                                · rw [if_neg c98] at H
                                                  have c98b0 : (t185 == t176) = false := by simpa using c98
                                                  (try (have c98b1 : decide (t185 = t176) = false := by simpa using c98))
                                                  (try (have c98b2 : (t185 == t176) = false := by simpa using c98))
                                                  (try (have c98b3 : ¬ (t185 = t176) := by simpa using c98))
                                                  clear c98
                                                  exact absurd (H.trans (congrArg some hrt.out)) (by decide)
                                              · rw [if_neg c97] at H
                                                have c97b0 : (t184 == true) = false := by simpa using c97
                                                (try (have c97b1 : decide (t184 = true) = false := by simpa using c97))
                                                (try (have c97b2 : (t184 == true) = false := by simpa using c97))
                                                (try (have c97b3 : ¬ (t184 = true) := by simpa using c97))
                                                clear c97
                                                exact absurd (H.trans (congrArg some hrt.out)) (by decide)
                                          · rw [if_neg c70] at H
                                            have c70b0 : (t183 == t174) = false := by simpa using c70
                                            (try (have c70b1 : decide (t183 = t174) = false := by simpa using c70))
                                            (try (have c70b2 : (t183 == t174) = false := by simpa using c70))
                                            (try (have c70b3 : ¬ (t183 = t174) := by simpa using c70))
                                            clear c70
                                            exact absurd (H.trans (congrArg some hrt.out)) (by decide)
                                        · rw [if_neg c69] at H
                                          have c69b0 : (t181 == t172) = false := beq_eq_false_iff_ne.mpr c69
                                          have c69b1 : (t181 != t172) = true := bne_iff_ne.mpr c69
                                          exact absurd (H.trans (congrArg some hrt.out)) (by decide)
                                      · rw [if_neg c68] at H
                                        have c68b0 : (t182 == t173) = false := beq_eq_false_iff_ne.mpr c68
                                        have c68b1 : (t182 != t173) = true := bne_iff_ne.mpr c68
                                        exact absurd (H.trans (congrArg some hrt.out)) (by decide)
                                    · replace c67 := Bool.eq_false_iff.mpr c67
                                      subst c67
                                      have H1 : (some false) = some r := by rw [if_neg (show ¬ (false = true) by decide)] at H; exact H
                                      clear H
                                      have H := H1
                                      clear H1
                                      exact absurd (H.trans (congrArg some hrt.out)) (by decide)
                                  · replace c65 := Bool.eq_false_iff.mpr c65
                                    subst c65
                                    have H1 : ((indentureref11_SameEvents.f k4 t178 x13_4).bind fun t201 => (if t201 = true then (if t182 = t173 then (if t181 = t172 then (if (t183 == t174) = true then (if t164 = true then (if (t184 == true) = true then (if (t185 == t165) = true then ((indenturelaw11_reads.f).bind fun t202 => (some t202)) else (some false)) else (some false)) else (if (t184 == false) = true then (if (t185 == t165) = true then ((indenturelaw11_reads.f).bind fun t203 => (some t203)) else (some false)) else (some false))) else (some false)) else (some false)) else (some false)) else (some false))) = some r := by rw [if_neg (show ¬ (false = true) by decide)] at H; exact H
                                    clear H
                                    have H := H1
                                    clear H1
                                    replace H := Option.bind_eq_some_iff.mp H
                                    obtain ⟨t201, A1460, H⟩ := H
                                    replace H : (if t201 = true then (if t182 = t173 then (if t181 = t172 then (if (t183 == t174) = true then (if t164 = true then (if (t184 == true) = true then (if (t185 == t165) = true then ((indenturelaw11_reads.f).bind fun t202 => (some t202)) else (some false)) else (some false)) else (if (t184 == false) = true then (if (t185 == t165) = true then ((indenturelaw11_reads.f).bind fun t203 => (some t203)) else (some false)) else (some false))) else (some false)) else (some false)) else (some false)) else (some false)) = some r := H
                                    have A146 := Aside0.mk A1460
                                    clear A1460
                                    by_cases c147 : t201 = true
                                    · subst c147
                                      have H1 : (if t182 = t173 then (if t181 = t172 then (if (t183 == t174) = true then (if t164 = true then (if (t184 == true) = true then (if (t185 == t165) = true then ((indenturelaw11_reads.f).bind fun t202 => (some t202)) else (some false)) else (some false)) else (if (t184 == false) = true then (if (t185 == t165) = true then ((indenturelaw11_reads.f).bind fun t203 => (some t203)) else (some false)) else (some false))) else (some false)) else (some false)) else (some false)) = some r := by rw [if_pos rfl] at H; exact H
                                      clear H
                                      have H := H1
                                      clear H1
                                      by_cases c148 : t182 = t173
                                      · rw [if_pos c148] at H
                                        have c148b0 : (t182 == t173) = true := beq_iff_eq.mpr c148
                                        have c148b1 : (t182 != t173) = false := bne_eq_false_iff_eq.mpr c148
                                        clear c148
                                        by_cases c149 : t181 = t172
                                        · rw [if_pos c149] at H
                                          have c149b0 : (t181 == t172) = true := beq_iff_eq.mpr c149
                                          have c149b1 : (t181 != t172) = false := bne_eq_false_iff_eq.mpr c149
                                          clear c149
                                          by_cases c150 : (t183 == t174) = true
                                          · rw [if_pos c150] at H
                                            have c150b0 : (t183 == t174) = true := c150
                                            (try (have c150b1 : decide (t183 = t174) = true := by simpa using c150))
                                            (try (have c150b2 : (t183 == t174) = true := by simpa using c150))
                                            clear c150
                                            by_cases c151 : t164 = true
                                            · subst c151
                                              have H1 : (if (t184 == true) = true then (if (t185 == t165) = true then ((indenturelaw11_reads.f).bind fun t202 => (some t202)) else (some false)) else (some false)) = some r := by rw [if_pos rfl] at H; exact H
                                              clear H
                                              have H := H1
                                              clear H1
                                              by_cases c152 : (t184 == true) = true
                                              · rw [if_pos c152] at H
                                                have c152b0 : (t184 == true) = true := c152
                                                (try (have c152b1 : decide (t184 = true) = true := by simpa using c152))
                                                (try (have c152b2 : (t184 == true) = true := by simpa using c152))
                                                clear c152
                                                by_cases c153 : (t185 == t165) = true
                                                · rw [if_pos c153] at H
                                                  have c153b0 : (t185 == t165) = true := c153
                                                  (try (have c153b1 : decide (t185 = t165) = true := by simpa using c153))
                                                  (try (have c153b2 : (t185 == t165) = true := by simpa using c153))
                                                  clear c153
                                                  replace H := Option.bind_eq_some_iff.mp H
                                                  obtain ⟨t202, A1540, H⟩ := H
                                                  replace H : (some t202) = some r := H
                                                  have A154 := Aside0.mk A1540
                                                  clear A1540
                                                  obtain rfl := Option.some.inj H
                                                  have hnb155 := NB177_166.out
                                                  have hnc155 := NB166_177.out
                                                  have hnb156 := NB177_186.out
                                                  have hnc156 := NB186_177.out
                                                  have hcz157_0 : wr.cell? ⟨gb177, 0, none⟩ = some (.slice Ao40 t169.length co40) := (blk_cell BK177.out 0).trans rfl
                                                  have hcz157_1 : wr.cell? ⟨gb177, 1, none⟩ = some (.int .u8 t172) := (blk_cell BK177.out 1).trans rfl
                                                  have hcz157_2 : wr.cell? ⟨gb177, 2, none⟩ = some (.int .i64 t173) := (blk_cell BK177.out 2).trans rfl
                                                  have hcz157_3 : wr.cell? ⟨gb177, 3, none⟩ = some (.bool t174) := (blk_cell BK177.out 3).trans rfl
                                                  have hcz157_4 : wr.cell? ⟨gb177, 4, none⟩ = some (.bool false) := (blk_cell BK177.out 4).trans rfl
                                                  have hcz157_5 : wr.cell? ⟨gb177, 5, none⟩ = some (.bool t176) := (blk_cell BK177.out 5).trans rfl
                                                  have hfz157_0 := blk_frozen BK177.out 0
                                                  have hfz157_1 := blk_frozen BK177.out 1
                                                  have hfz157_2 := blk_frozen BK177.out 2
                                                  have hfz157_3 := blk_frozen BK177.out 3
                                                  have hfz157_4 := blk_frozen BK177.out 4
                                                  have hfz157_5 := blk_frozen BK177.out 5
                                                  have hnb158 := NB166_186.out
                                                  have hnc158 := NB186_166.out
                                                  have hcz159_0 : wr.cell? ⟨gb166, 0, none⟩ = some (.slice Ao17 t158.length co17) := (blk_cell BK166.out 0).trans rfl
                                                  have hcz159_1 : wr.cell? ⟨gb166, 1, none⟩ = some (.int .u8 t161) := (blk_cell BK166.out 1).trans rfl
                                                  have hcz159_2 : wr.cell? ⟨gb166, 2, none⟩ = some (.int .i64 t162) := (blk_cell BK166.out 2).trans rfl
                                                  have hcz159_3 : wr.cell? ⟨gb166, 3, none⟩ = some (.bool t163) := (blk_cell BK166.out 3).trans rfl
                                                  have hcz159_4 : wr.cell? ⟨gb166, 4, none⟩ = some (.bool true) := (blk_cell BK166.out 4).trans rfl
                                                  have hcz159_5 : wr.cell? ⟨gb166, 5, none⟩ = some (.bool t165) := (blk_cell BK166.out 5).trans rfl
                                                  have hfz159_0 := blk_frozen BK166.out 0
                                                  have hfz159_1 := blk_frozen BK166.out 1
                                                  have hfz159_2 := blk_frozen BK166.out 2
                                                  have hfz159_3 := blk_frozen BK166.out 3
                                                  have hfz159_4 := blk_frozen BK166.out 4
                                                  have hfz159_5 := blk_frozen BK166.out 5
                                                  have hcz160_0 : wr.cell? ⟨gb186, 0, none⟩ = some (.slice Ao45 t178.length co45) := (blk_cell BK186.out 0).trans rfl
                                                  have hcz160_1 : wr.cell? ⟨gb186, 1, none⟩ = some (.int .u8 t181) := (blk_cell BK186.out 1).trans rfl
                                                  have hcz160_2 : wr.cell? ⟨gb186, 2, none⟩ = some (.int .i64 t182) := (blk_cell BK186.out 2).trans rfl
                                                  have hcz160_3 : wr.cell? ⟨gb186, 3, none⟩ = some (.bool t183) := (blk_cell BK186.out 3).trans rfl
                                                  have hcz160_4 : wr.cell? ⟨gb186, 4, none⟩ = some (.bool t184) := (blk_cell BK186.out 4).trans rfl
                                                  have hcz160_5 : wr.cell? ⟨gb186, 5, none⟩ = some (.bool t185) := (blk_cell BK186.out 5).trans rfl
                                                  have hfz160_0 := blk_frozen BK186.out 0
                                                  have hfz160_1 := blk_frozen BK186.out 1
                                                  have hfz160_2 := blk_frozen BK186.out 2
                                                  have hfz160_3 := blk_frozen BK186.out 3
                                                  have hfz160_4 := blk_frozen BK186.out 4
                                                  have hfz160_5 := blk_frozen BK186.out 5
                                                  obtain ⟨Ao161, co161, eo161⟩ := Kd.R_slice HO_13.out
                                                  subst eo161
                                                  go_wp2_with (first | ((with_reducible refine gate_callee (f := 15) rfl ?_); refine goesL_ (some 122) rfl rfl Try.func15 (by kernel_rfl) rfl #[.slice Ao45 t178.length co45, .slice Ao161 x13_4.length co161] rfl (by (try simp only [List.map_toArray, List.map_cons, List.map_nil]); first | done | rfl | (simp only [List.length_drop, List.length_take]; rfl)) ?_; (with_reducible refine (indentureref11_SameEvents.calls k4 _ _ t178 _ _ x13_4 true _ ?side1 ?side2 ?side3 ?side4 A146.out).mono ?_); (case side1 => repeat (first | exact (Kd.R_reads' HO_187000.out).2.2 | (with_reducible refine Kd.C_alloc ?_ _) | (with_reducible refine Kd.C_drewN ?_ _) | (with_reducible refine Kd.C_drew ?_))); (case side2 => exact (Kd.R_reads' HO_187000.out).2.1); (case side3 => repeat (first | exact (Kd.R_reads' HO_13.out).2.2 | (with_reducible refine Kd.C_alloc ?_ _) | (with_reducible refine Kd.C_drewN ?_ _) | (with_reducible refine Kd.C_drew ?_))); (case side4 => exact (Kd.R_reads' HO_13.out).2.1); rintro e w' ⟨rfl, ⟨nd, rfl⟩⟩; refine ⟨_, rfl, ?_⟩) | (go_at_call 12; (with_reducible refine (indenturelaw11_reads.calls  t202 _ A154.out).mono ?_); rintro e w162 ⟨rfl, hb⟩; have n0_ := Aside0.mk (Kd.R_below (by (with_reducible repeat (first | apply Kd.R_alloc | apply Kd.R_drewN | apply Kd.R_drew)); exact HO_13.out) hb); have n1_ := Aside0.mk (Kd.R_below (by (with_reducible repeat (first | apply Kd.R_alloc | apply Kd.R_drewN | apply Kd.R_drew)); exact HO_167000.out) hb); have n2_ := Aside0.mk (Kd.R_below (by (with_reducible repeat (first | apply Kd.R_alloc | apply Kd.R_drewN | apply Kd.R_drew)); exact HO_178000.out) hb); have n3_ := Aside0.mk (Kd.R_below (by (with_reducible repeat (first | apply Kd.R_alloc | apply Kd.R_drewN | apply Kd.R_drew)); exact HO_187000.out) hb); have n4_ := Aside0.mk (blk_below (g := gb166) (o := .cells #[.slice Ao17 t158.length co17, .int .u8 t161, .int .i64 t162, .bool t163, .bool true, .bool t165] 25 (0, 0)) (by (with_reducible repeat (first | refine blk_drewN ?_ _ | refine blk_drew ?_ | refine blk_alloc ?_ _)); exact BK166.out) hb); have n5_ := Aside0.mk (blk_below (g := gb177) (o := .cells #[.slice Ao40 t169.length co40, .int .u8 t172, .int .i64 t173, .bool t174, .bool false, .bool t176] 25 (0, 0)) (by (with_reducible repeat (first | refine blk_drewN ?_ _ | refine blk_drew ?_ | refine blk_alloc ?_ _)); exact BK177.out) hb); have n6_ := Aside0.mk (blk_below (g := gb186) (o := .cells #[.slice Ao45 t178.length co45, .int .u8 t181, .int .i64 t182, .bool t183, .bool t184, .bool t185] 25 (0, 0)) (by (with_reducible repeat (first | refine blk_drewN ?_ _ | refine blk_drew ?_ | refine blk_alloc ?_ _)); exact BK186.out) hb); have n7_ := Aside0.mk (below_step (by repeat (first | (with_reducible first | exact HB.out | apply below_alloc | apply pw_below_drewN | apply below_drew1 | refine below_set ?_ GE166.out | refine below_set ?_ GE177.out | refine below_set ?_ GE186.out) | exact HB.out)) hb); clear HO_13; clear HO_167000; clear HO_178000; clear HO_187000; clear BK166; clear BK177; clear BK186; clear HB; have HO_13 := n0_; have HO_167000 := n1_; have HO_178000 := n2_; have HO_187000 := n3_; have BK166 := n4_; have BK177 := n5_; have BK186 := n6_; have HB := n7_; clear n0_ n1_ n2_ n3_ n4_ n5_ n6_ n7_; (try clear hb); (try clear hb2); (try clear hk); (try clear hi)))
                                                  go_ret
                                                  exact ⟨by first | rfl | (simp [errW_none, errW_some] <;> rfl) | (simp [*, errW_none, errW_some] <;> rfl), by repeat (first | (with_reducible first | exact HB.out | apply below_alloc | apply pw_below_drewN | apply below_drew1 | refine below_set ?_ GE166.out | refine below_set ?_ GE177.out | refine below_set ?_ GE186.out) | exact HB.out)⟩
                                                · rw [if_neg c153] at H
                                                  have c153b0 : (t185 == t165) = false := by simpa using c153
                                                  (try (have c153b1 : decide (t185 = t165) = false := by simpa using c153))
                                                  (try (have c153b2 : (t185 == t165) = false := by simpa using c153))
                                                  (try (have c153b3 : ¬ (t185 = t165) := by simpa using c153))
                                                  clear c153
                                                  exact absurd (H.trans (congrArg some hrt.out)) (by decide)
                                              · rw [if_neg c152] at H
                                                have c152b0 : (t184 == true) = false := by simpa using c152
                                                (try (have c152b1 : decide (t184 = true) = false := by simpa using c152))
                                                (try (have c152b2 : (t184 == true) = false := by simpa using c152))
                                                (try (have c152b3 : ¬ (t184 = true) := by simpa using c152))
                                                clear c152
                                                exact absurd (H.trans (congrArg some hrt.out)) (by decide)
                                            · replace c151 := Bool.eq_false_iff.mpr c151
                                              subst c151
                                              have H1 : (if (t184 == false) = true then (if (t185 == t165) = true then ((indenturelaw11_reads.f).bind fun t203 => (some t203)) else (some false)) else (some false)) = some r := by rw [if_neg (show ¬ (false = true) by decide)] at H; exact H
                                              clear H
                                              have H := H1
                                              clear H1
                                              by_cases c177 : (t184 == false) = true
                                              · rw [if_pos c177] at H
                                                have c177b0 : (t184 == false) = true := c177
                                                (try (have c177b1 : decide (t184 = false) = true := by simpa using c177))
                                                (try (have c177b2 : (t184 == false) = true := by simpa using c177))
                                                clear c177
                                                by_cases c178 : (t185 == t165) = true
                                                · rw [if_pos c178] at H
                                                  have c178b0 : (t185 == t165) = true := c178
                                                  (try (have c178b1 : decide (t185 = t165) = true := by simpa using c178))
                                                  (try (have c178b2 : (t185 == t165) = true := by simpa using c178))
                                                  clear c178
                                                  replace H := Option.bind_eq_some_iff.mp H
                                                  obtain ⟨t203, A1790, H⟩ := H
                                                  replace H : (some t203) = some r := H
                                                  have A179 := Aside0.mk A1790
                                                  clear A1790
                                                  obtain rfl := Option.some.inj H
                                                  have hnb180 := NB177_166.out
                                                  have hnc180 := NB166_177.out
                                                  have hnb181 := NB177_186.out
                                                  have hnc181 := NB186_177.out
                                                  have hcz182_0 : wr.cell? ⟨gb177, 0, none⟩ = some (.slice Ao40 t169.length co40) := (blk_cell BK177.out 0).trans rfl
                                                  have hcz182_1 : wr.cell? ⟨gb177, 1, none⟩ = some (.int .u8 t172) := (blk_cell BK177.out 1).trans rfl
                                                  have hcz182_2 : wr.cell? ⟨gb177, 2, none⟩ = some (.int .i64 t173) := (blk_cell BK177.out 2).trans rfl
                                                  have hcz182_3 : wr.cell? ⟨gb177, 3, none⟩ = some (.bool t174) := (blk_cell BK177.out 3).trans rfl
                                                  have hcz182_4 : wr.cell? ⟨gb177, 4, none⟩ = some (.bool false) := (blk_cell BK177.out 4).trans rfl
                                                  have hcz182_5 : wr.cell? ⟨gb177, 5, none⟩ = some (.bool t176) := (blk_cell BK177.out 5).trans rfl
                                                  have hfz182_0 := blk_frozen BK177.out 0
                                                  have hfz182_1 := blk_frozen BK177.out 1
                                                  have hfz182_2 := blk_frozen BK177.out 2
                                                  have hfz182_3 := blk_frozen BK177.out 3
                                                  have hfz182_4 := blk_frozen BK177.out 4
                                                  have hfz182_5 := blk_frozen BK177.out 5
                                                  have hnb183 := NB166_186.out
                                                  have hnc183 := NB186_166.out
                                                  have hcz184_0 : wr.cell? ⟨gb166, 0, none⟩ = some (.slice Ao17 t158.length co17) := (blk_cell BK166.out 0).trans rfl
                                                  have hcz184_1 : wr.cell? ⟨gb166, 1, none⟩ = some (.int .u8 t161) := (blk_cell BK166.out 1).trans rfl
                                                  have hcz184_2 : wr.cell? ⟨gb166, 2, none⟩ = some (.int .i64 t162) := (blk_cell BK166.out 2).trans rfl
                                                  have hcz184_3 : wr.cell? ⟨gb166, 3, none⟩ = some (.bool t163) := (blk_cell BK166.out 3).trans rfl
                                                  have hcz184_4 : wr.cell? ⟨gb166, 4, none⟩ = some (.bool false) := (blk_cell BK166.out 4).trans rfl
                                                  have hcz184_5 : wr.cell? ⟨gb166, 5, none⟩ = some (.bool t165) := (blk_cell BK166.out 5).trans rfl
                                                  have hfz184_0 := blk_frozen BK166.out 0
                                                  have hfz184_1 := blk_frozen BK166.out 1
                                                  have hfz184_2 := blk_frozen BK166.out 2
                                                  have hfz184_3 := blk_frozen BK166.out 3
                                                  have hfz184_4 := blk_frozen BK166.out 4
                                                  have hfz184_5 := blk_frozen BK166.out 5
                                                  have hcz185_0 : wr.cell? ⟨gb186, 0, none⟩ = some (.slice Ao45 t178.length co45) := (blk_cell BK186.out 0).trans rfl
                                                  have hcz185_1 : wr.cell? ⟨gb186, 1, none⟩ = some (.int .u8 t181) := (blk_cell BK186.out 1).trans rfl
                                                  have hcz185_2 : wr.cell? ⟨gb186, 2, none⟩ = some (.int .i64 t182) := (blk_cell BK186.out 2).trans rfl
                                                  have hcz185_3 : wr.cell? ⟨gb186, 3, none⟩ = some (.bool t183) := (blk_cell BK186.out 3).trans rfl
                                                  have hcz185_4 : wr.cell? ⟨gb186, 4, none⟩ = some (.bool t184) := (blk_cell BK186.out 4).trans rfl
                                                  have hcz185_5 : wr.cell? ⟨gb186, 5, none⟩ = some (.bool t185) := (blk_cell BK186.out 5).trans rfl
                                                  have hfz185_0 := blk_frozen BK186.out 0
                                                  have hfz185_1 := blk_frozen BK186.out 1
                                                  have hfz185_2 := blk_frozen BK186.out 2
                                                  have hfz185_3 := blk_frozen BK186.out 3
                                                  have hfz185_4 := blk_frozen BK186.out 4
                                                  have hfz185_5 := blk_frozen BK186.out 5
                                                  obtain ⟨Ao186, co186, eo186⟩ := Kd.R_slice HO_13.out
                                                  subst eo186
                                                  go_wp2_with (first | ((with_reducible refine gate_callee (f := 15) rfl ?_); refine goesL_ (some 122) rfl rfl Try.func15 (by kernel_rfl) rfl #[.slice Ao45 t178.length co45, .slice Ao186 x13_4.length co186] rfl (by (try simp only [List.map_toArray, List.map_cons, List.map_nil]); first | done | rfl | (simp only [List.length_drop, List.length_take]; rfl)) ?_; (with_reducible refine (indentureref11_SameEvents.calls k4 _ _ t178 _ _ x13_4 true _ ?side1 ?side2 ?side3 ?side4 A146.out).mono ?_); (case side1 => repeat (first | exact (Kd.R_reads' HO_187000.out).2.2 | (with_reducible refine Kd.C_alloc ?_ _) | (with_reducible refine Kd.C_drewN ?_ _) | (with_reducible refine Kd.C_drew ?_))); (case side2 => exact (Kd.R_reads' HO_187000.out).2.1); (case side3 => repeat (first | exact (Kd.R_reads' HO_13.out).2.2 | (with_reducible refine Kd.C_alloc ?_ _) | (with_reducible refine Kd.C_drewN ?_ _) | (with_reducible refine Kd.C_drew ?_))); (case side4 => exact (Kd.R_reads' HO_13.out).2.1); rintro e w' ⟨rfl, ⟨nd, rfl⟩⟩; refine ⟨_, rfl, ?_⟩) | (go_at_call 12; (with_reducible refine (indenturelaw11_reads.calls  t203 _ A179.out).mono ?_); rintro e w187 ⟨rfl, hb⟩; have n0_ := Aside0.mk (Kd.R_below (by (with_reducible repeat (first | apply Kd.R_alloc | apply Kd.R_drewN | apply Kd.R_drew)); exact HO_13.out) hb); have n1_ := Aside0.mk (Kd.R_below (by (with_reducible repeat (first | apply Kd.R_alloc | apply Kd.R_drewN | apply Kd.R_drew)); exact HO_167000.out) hb); have n2_ := Aside0.mk (Kd.R_below (by (with_reducible repeat (first | apply Kd.R_alloc | apply Kd.R_drewN | apply Kd.R_drew)); exact HO_178000.out) hb); have n3_ := Aside0.mk (Kd.R_below (by (with_reducible repeat (first | apply Kd.R_alloc | apply Kd.R_drewN | apply Kd.R_drew)); exact HO_187000.out) hb); have n4_ := Aside0.mk (blk_below (g := gb166) (o := .cells #[.slice Ao17 t158.length co17, .int .u8 t161, .int .i64 t162, .bool t163, .bool false, .bool t165] 25 (0, 0)) (by (with_reducible repeat (first | refine blk_drewN ?_ _ | refine blk_drew ?_ | refine blk_alloc ?_ _)); exact BK166.out) hb); have n5_ := Aside0.mk (blk_below (g := gb177) (o := .cells #[.slice Ao40 t169.length co40, .int .u8 t172, .int .i64 t173, .bool t174, .bool false, .bool t176] 25 (0, 0)) (by (with_reducible repeat (first | refine blk_drewN ?_ _ | refine blk_drew ?_ | refine blk_alloc ?_ _)); exact BK177.out) hb); have n6_ := Aside0.mk (blk_below (g := gb186) (o := .cells #[.slice Ao45 t178.length co45, .int .u8 t181, .int .i64 t182, .bool t183, .bool t184, .bool t185] 25 (0, 0)) (by (with_reducible repeat (first | refine blk_drewN ?_ _ | refine blk_drew ?_ | refine blk_alloc ?_ _)); exact BK186.out) hb); have n7_ := Aside0.mk (below_step (by repeat (first | (with_reducible first | exact HB.out | apply below_alloc | apply pw_below_drewN | apply below_drew1 | refine below_set ?_ GE166.out | refine below_set ?_ GE177.out | refine below_set ?_ GE186.out) | exact HB.out)) hb); clear HO_13; clear HO_167000; clear HO_178000; clear HO_187000; clear BK166; clear BK177; clear BK186; clear HB; have HO_13 := n0_; have HO_167000 := n1_; have HO_178000 := n2_; have HO_187000 := n3_; have BK166 := n4_; have BK177 := n5_; have BK186 := n6_; have HB := n7_; clear n0_ n1_ n2_ n3_ n4_ n5_ n6_ n7_; (try clear hb); (try clear hb2); (try clear hk); (try clear hi)))
                                                  go_ret
                                                  exact ⟨by first | rfl | (simp [errW_none, errW_some] <;> rfl) | (simp [*, errW_none, errW_some] <;> rfl), by repeat (first | (with_reducible first | exact HB.out | apply below_alloc | apply pw_below_drewN | apply below_drew1 | refine below_set ?_ GE166.out | refine below_set ?_ GE177.out | refine below_set ?_ GE186.out) | exact HB.out)⟩
                                                · rw [if_neg c178] at H
                                                  have c178b0 : (t185 == t165) = false := by simpa using c178
                                                  (try (have c178b1 : decide (t185 = t165) = false := by simpa using c178))
                                                  (try (have c178b2 : (t185 == t165) = false := by simpa using c178))
                                                  (try (have c178b3 : ¬ (t185 = t165) := by simpa using c178))
                                                  clear c178
                                                  exact absurd (H.trans (congrArg some hrt.out)) (by decide)
                                              · rw [if_neg c177] at H
                                                have c177b0 : (t184 == false) = false := by simpa using c177
                                                (try (have c177b1 : decide (t184 = false) = false := by simpa using c177))
                                                (try (have c177b2 : (t184 == false) = false := by simpa using c177))
                                                (try (have c177b3 : ¬ (t184 = false) := by simpa using c177))
                                                clear c177
                                                exact absurd (H.trans (congrArg some hrt.out)) (by decide)
                                          · rw [if_neg c150] at H
                                            have c150b0 : (t183 == t174) = false := by simpa using c150
                                            (try (have c150b1 : decide (t183 = t174) = false := by simpa using c150))
                                            (try (have c150b2 : (t183 == t174) = false := by simpa using c150))
                                            (try (have c150b3 : ¬ (t183 = t174) := by simpa using c150))
                                            clear c150
                                            exact absurd (H.trans (congrArg some hrt.out)) (by decide)
                                        · rw [if_neg c149] at H
                                          have c149b0 : (t181 == t172) = false := beq_eq_false_iff_ne.mpr c149
                                          have c149b1 : (t181 != t172) = true := bne_iff_ne.mpr c149
                                          exact absurd (H.trans (congrArg some hrt.out)) (by decide)
                                      · rw [if_neg c148] at H
                                        have c148b0 : (t182 == t173) = false := beq_eq_false_iff_ne.mpr c148
                                        have c148b1 : (t182 != t173) = true := bne_iff_ne.mpr c148
                                        exact absurd (H.trans (congrArg some hrt.out)) (by decide)
                                    · replace c147 := Bool.eq_false_iff.mpr c147
                                      subst c147
                                      have H1 : (some false) = some r := by rw [if_neg (show ¬ (false = true) by decide)] at H; exact H
                                      clear H
                                      have H := H1
                                      clear H1
                                      exact absurd (H.trans (congrArg some hrt.out)) (by decide)
                          · rw [if_neg c36] at H
                            exact absurd H (by simp)
                        · rw [if_neg c34] at H
                          exact absurd H (by simp)
                      · rw [if_neg c33] at H
                        exact absurd H (by simp)
              · rw [if_neg c13] at H
                exact absurd H (by simp)

/-- THE ONE PURE STATEMENT of indenturelaw11_PytokenSplit: yours. -/
def indenturelaw11_PytokenSplit.Pure : Prop := ∀ (a0 : ByteArray) (a1 : ByteArray) (a2 : Int), a0.size ≤ 140737488351232 → a1.size ≤ 140737488351232 → (Lit.int .i64 a2).wf = true → ∃ k, indenturelaw11_PytokenSplit.f k a0 a1 a2 = some true
theorem indenturelaw11_PytokenSplit.walk (P : indenturelaw11_PytokenSplit.Pure) (a0 : ByteArray) (a1 : ByteArray) (a2 : Int) (w : World) (w0 : a0.size ≤ 140737488351232) (w1 : a1.size ≤ 140737488351232) (w2 : (Lit.int .i64 a2).wf = true) :
    Calls Try.prog 6 #[.string a0, .string a1, .int .i64 a2] w fun e w' => e = .returned (.bool true) ∧ Below w.heap.size w w' := by
  obtain ⟨k, h⟩ := P a0 a1 a2 w0 w1 w2
  refine (indenturelaw11_PytokenSplit.calls k a0 a1 a2 true w h ⟨rfl⟩).mono ?_
  rintro e w' ⟨rfl, hd⟩
  exact ⟨rfl, hd⟩

end Go.Proofs.Ytdknppomjcpihaa.PPy
