/- Blanks, marks, what leans; a line's end by the document. -/
import Derived.Test.YtjfpkldknchnkaaLo
namespace Go.Proofs.Ytjfpkldknchnkaa.Me
open Go.RowKit Go.Proofs.YtjfpkldknchnkaaW.PrintWords Go.Proofs.YtjfpkldknchnkaaW.PrintLast Go.Proofs.YtjfpkldknchnkaaW.PrintMore
attribute [local go_sem] max2_int min2_int max_two min_two max_three min_three max_four min_four
set_option linter.unusedVariables false
set_option linter.unusedSimpArgs false
def gapB (c : Int) : Bool := (decide (9 ≤ c) && decide (c ≤ 13)) || decide (c = 32)
def markB (c : Int) : Bool := (decide (33 ≤ c) && decide (c ≤ 47)) || (decide (58 ≤ c) && decide (c ≤ 64)) || (decide (91 ≤ c) && decide (c ≤ 96)) || (decide (123 ≤ c) && decide (c ≤ 126))
def leansB (x y : Int) : Bool := !gapB x && (!markB x || gapB y || markB y)
set_option maxRecDepth 100000 in
set_option maxHeartbeats 4000000 in
theorem gap19_c (c : Int) (w : World) : Calls Try.prog 19 #[.int .u8 c] w fun e w' => e = .returned (.bool (gapB c)) ∧ w' = w := by
  by_cases a0 : (9 : Int) ≤ c
  · by_cases b0 : c ≤ 13
    · skip
      have hv : gapB c = true := by unfold gapB; simp; omega
      rw [hv]
      clear hv
      go_enter Try.func19, Try.ntmps19
      go_wp2_with (fail)
      go_ret
      exact ⟨rfl, rfl⟩
    · skip
      by_cases e0 : c = 32
      · subst e0
        have hv : gapB 32 = true := by decide
        rw [hv]
        clear hv
        go_enter Try.func19, Try.ntmps19
        go_wp2_with (fail)
        go_ret
        exact ⟨rfl, rfl⟩
      have eb : (c == 32) = false := by simpa using e0
      have hv : gapB c = false := by unfold gapB; simp; omega
      rw [hv]
      clear hv
      go_enter Try.func19, Try.ntmps19
      go_wp2_with (fail)
      go_ret
      exact ⟨rfl, rfl⟩
  · skip
    by_cases e0 : c = 32
    · subst e0
      have hv : gapB 32 = true := by decide
      rw [hv]
      clear hv
      go_enter Try.func19, Try.ntmps19
      go_wp2_with (fail)
      go_ret
      exact ⟨rfl, rfl⟩
    have eb : (c == 32) = false := by simpa using e0
    have hv : gapB c = false := by unfold gapB; simp; omega
    rw [hv]
    clear hv
    go_enter Try.func19, Try.ntmps19
    go_wp2_with (fail)
    go_ret
    exact ⟨rfl, rfl⟩
set_option maxRecDepth 100000 in
set_option maxHeartbeats 4000000 in
theorem gap35_c (c : Int) (w : World) : Calls Try.prog 35 #[.int .u8 c] w fun e w' => e = .returned (.bool (gapB c)) ∧ w' = w := by
  by_cases a0 : (9 : Int) ≤ c
  · by_cases b0 : c ≤ 13
    · skip
      have hv : gapB c = true := by unfold gapB; simp; omega
      rw [hv]
      clear hv
      go_enter Try.func35, Try.ntmps35
      go_wp2_with (fail)
      go_ret
      exact ⟨rfl, rfl⟩
    · skip
      by_cases e0 : c = 32
      · subst e0
        have hv : gapB 32 = true := by decide
        rw [hv]
        clear hv
        go_enter Try.func35, Try.ntmps35
        go_wp2_with (fail)
        go_ret
        exact ⟨rfl, rfl⟩
      have eb : (c == 32) = false := by simpa using e0
      have hv : gapB c = false := by unfold gapB; simp; omega
      rw [hv]
      clear hv
      go_enter Try.func35, Try.ntmps35
      go_wp2_with (fail)
      go_ret
      exact ⟨rfl, rfl⟩
  · skip
    by_cases e0 : c = 32
    · subst e0
      have hv : gapB 32 = true := by decide
      rw [hv]
      clear hv
      go_enter Try.func35, Try.ntmps35
      go_wp2_with (fail)
      go_ret
      exact ⟨rfl, rfl⟩
    have eb : (c == 32) = false := by simpa using e0
    have hv : gapB c = false := by unfold gapB; simp; omega
    rw [hv]
    clear hv
    go_enter Try.func35, Try.ntmps35
    go_wp2_with (fail)
    go_ret
    exact ⟨rfl, rfl⟩
set_option maxRecDepth 100000 in
set_option maxHeartbeats 8000000 in
theorem mark20_c (c : Int) (w : World) : Calls Try.prog 20 #[.int .u8 c] w fun e w' => e = .returned (.bool (markB c)) ∧ w' = w := by
  by_cases s32 : c ≤ 32
  · have n33 : ¬ (33 : Int) ≤ c := by omega
    have n58 : ¬ (58 : Int) ≤ c := by omega
    have n91 : ¬ (91 : Int) ≤ c := by omega
    have n123 : ¬ (123 : Int) ≤ c := by omega
    have hv : markB c = false := by unfold markB; simp; omega
    rw [hv]
    clear hv
    go_enter Try.func20, Try.ntmps20
    go_wp2_with (fail)
    go_ret
    exact ⟨rfl, rfl⟩
  by_cases s47 : c ≤ 47
  · have n33 : (33 : Int) ≤ c := by omega
    have m47 : c ≤ 47 := by omega
    have n58 : ¬ (58 : Int) ≤ c := by omega
    have n91 : ¬ (91 : Int) ≤ c := by omega
    have n123 : ¬ (123 : Int) ≤ c := by omega
    have hv : markB c = true := by unfold markB; simp; omega
    rw [hv]
    clear hv
    go_enter Try.func20, Try.ntmps20
    go_wp2_with (fail)
    go_ret
    exact ⟨rfl, rfl⟩
  by_cases s57 : c ≤ 57
  · have n33 : (33 : Int) ≤ c := by omega
    have m47 : ¬ c ≤ 47 := by omega
    have n58 : ¬ (58 : Int) ≤ c := by omega
    have n91 : ¬ (91 : Int) ≤ c := by omega
    have n123 : ¬ (123 : Int) ≤ c := by omega
    have hv : markB c = false := by unfold markB; simp; omega
    rw [hv]
    clear hv
    go_enter Try.func20, Try.ntmps20
    go_wp2_with (fail)
    go_ret
    exact ⟨rfl, rfl⟩
  by_cases s64 : c ≤ 64
  · have n33 : (33 : Int) ≤ c := by omega
    have m47 : ¬ c ≤ 47 := by omega
    have n58 : (58 : Int) ≤ c := by omega
    have m64 : c ≤ 64 := by omega
    have n91 : ¬ (91 : Int) ≤ c := by omega
    have n123 : ¬ (123 : Int) ≤ c := by omega
    have hv : markB c = true := by unfold markB; simp; omega
    rw [hv]
    clear hv
    go_enter Try.func20, Try.ntmps20
    go_wp2_with (fail)
    go_ret
    exact ⟨rfl, rfl⟩
  by_cases s90 : c ≤ 90
  · have n33 : (33 : Int) ≤ c := by omega
    have m47 : ¬ c ≤ 47 := by omega
    have n58 : (58 : Int) ≤ c := by omega
    have m64 : ¬ c ≤ 64 := by omega
    have n91 : ¬ (91 : Int) ≤ c := by omega
    have n123 : ¬ (123 : Int) ≤ c := by omega
    have hv : markB c = false := by unfold markB; simp; omega
    rw [hv]
    clear hv
    go_enter Try.func20, Try.ntmps20
    go_wp2_with (fail)
    go_ret
    exact ⟨rfl, rfl⟩
  by_cases s96 : c ≤ 96
  · have n33 : (33 : Int) ≤ c := by omega
    have m47 : ¬ c ≤ 47 := by omega
    have n58 : (58 : Int) ≤ c := by omega
    have m64 : ¬ c ≤ 64 := by omega
    have n91 : (91 : Int) ≤ c := by omega
    have m96 : c ≤ 96 := by omega
    have n123 : ¬ (123 : Int) ≤ c := by omega
    have hv : markB c = true := by unfold markB; simp; omega
    rw [hv]
    clear hv
    go_enter Try.func20, Try.ntmps20
    go_wp2_with (fail)
    go_ret
    exact ⟨rfl, rfl⟩
  by_cases s122 : c ≤ 122
  · have n33 : (33 : Int) ≤ c := by omega
    have m47 : ¬ c ≤ 47 := by omega
    have n58 : (58 : Int) ≤ c := by omega
    have m64 : ¬ c ≤ 64 := by omega
    have n91 : (91 : Int) ≤ c := by omega
    have m96 : ¬ c ≤ 96 := by omega
    have n123 : ¬ (123 : Int) ≤ c := by omega
    have hv : markB c = false := by unfold markB; simp; omega
    rw [hv]
    clear hv
    go_enter Try.func20, Try.ntmps20
    go_wp2_with (fail)
    go_ret
    exact ⟨rfl, rfl⟩
  by_cases s126 : c ≤ 126
  · have n33 : (33 : Int) ≤ c := by omega
    have m47 : ¬ c ≤ 47 := by omega
    have n58 : (58 : Int) ≤ c := by omega
    have m64 : ¬ c ≤ 64 := by omega
    have n91 : (91 : Int) ≤ c := by omega
    have m96 : ¬ c ≤ 96 := by omega
    have n123 : (123 : Int) ≤ c := by omega
    have m126 : c ≤ 126 := by omega
    have hv : markB c = true := by unfold markB; simp; omega
    rw [hv]
    clear hv
    go_enter Try.func20, Try.ntmps20
    go_wp2_with (fail)
    go_ret
    exact ⟨rfl, rfl⟩
  have n33 : (33 : Int) ≤ c := by omega
  have m47 : ¬ c ≤ 47 := by omega
  have n58 : (58 : Int) ≤ c := by omega
  have m64 : ¬ c ≤ 64 := by omega
  have n91 : (91 : Int) ≤ c := by omega
  have m96 : ¬ c ≤ 96 := by omega
  have n123 : (123 : Int) ≤ c := by omega
  have m126 : ¬ c ≤ 126 := by omega
  have hv : markB c = false := by unfold markB; simp; omega
  rw [hv]
  clear hv
  go_enter Try.func20, Try.ntmps20
  go_wp2_with (fail)
  go_ret
  exact ⟨rfl, rfl⟩
set_option maxRecDepth 100000 in
set_option maxHeartbeats 8000000 in
theorem mark24_c (c : Int) (w : World) : Calls Try.prog 24 #[.int .u8 c] w fun e w' => e = .returned (.bool (markB c)) ∧ w' = w := by
  by_cases s32 : c ≤ 32
  · have n33 : ¬ (33 : Int) ≤ c := by omega
    have n58 : ¬ (58 : Int) ≤ c := by omega
    have n91 : ¬ (91 : Int) ≤ c := by omega
    have n123 : ¬ (123 : Int) ≤ c := by omega
    have hv : markB c = false := by unfold markB; simp; omega
    rw [hv]
    clear hv
    go_enter Try.func24, Try.ntmps24
    go_wp2_with (fail)
    go_ret
    exact ⟨rfl, rfl⟩
  by_cases s47 : c ≤ 47
  · have n33 : (33 : Int) ≤ c := by omega
    have m47 : c ≤ 47 := by omega
    have n58 : ¬ (58 : Int) ≤ c := by omega
    have n91 : ¬ (91 : Int) ≤ c := by omega
    have n123 : ¬ (123 : Int) ≤ c := by omega
    have hv : markB c = true := by unfold markB; simp; omega
    rw [hv]
    clear hv
    go_enter Try.func24, Try.ntmps24
    go_wp2_with (fail)
    go_ret
    exact ⟨rfl, rfl⟩
  by_cases s57 : c ≤ 57
  · have n33 : (33 : Int) ≤ c := by omega
    have m47 : ¬ c ≤ 47 := by omega
    have n58 : ¬ (58 : Int) ≤ c := by omega
    have n91 : ¬ (91 : Int) ≤ c := by omega
    have n123 : ¬ (123 : Int) ≤ c := by omega
    have hv : markB c = false := by unfold markB; simp; omega
    rw [hv]
    clear hv
    go_enter Try.func24, Try.ntmps24
    go_wp2_with (fail)
    go_ret
    exact ⟨rfl, rfl⟩
  by_cases s64 : c ≤ 64
  · have n33 : (33 : Int) ≤ c := by omega
    have m47 : ¬ c ≤ 47 := by omega
    have n58 : (58 : Int) ≤ c := by omega
    have m64 : c ≤ 64 := by omega
    have n91 : ¬ (91 : Int) ≤ c := by omega
    have n123 : ¬ (123 : Int) ≤ c := by omega
    have hv : markB c = true := by unfold markB; simp; omega
    rw [hv]
    clear hv
    go_enter Try.func24, Try.ntmps24
    go_wp2_with (fail)
    go_ret
    exact ⟨rfl, rfl⟩
  by_cases s90 : c ≤ 90
  · have n33 : (33 : Int) ≤ c := by omega
    have m47 : ¬ c ≤ 47 := by omega
    have n58 : (58 : Int) ≤ c := by omega
    have m64 : ¬ c ≤ 64 := by omega
    have n91 : ¬ (91 : Int) ≤ c := by omega
    have n123 : ¬ (123 : Int) ≤ c := by omega
    have hv : markB c = false := by unfold markB; simp; omega
    rw [hv]
    clear hv
    go_enter Try.func24, Try.ntmps24
    go_wp2_with (fail)
    go_ret
    exact ⟨rfl, rfl⟩
  by_cases s96 : c ≤ 96
  · have n33 : (33 : Int) ≤ c := by omega
    have m47 : ¬ c ≤ 47 := by omega
    have n58 : (58 : Int) ≤ c := by omega
    have m64 : ¬ c ≤ 64 := by omega
    have n91 : (91 : Int) ≤ c := by omega
    have m96 : c ≤ 96 := by omega
    have n123 : ¬ (123 : Int) ≤ c := by omega
    have hv : markB c = true := by unfold markB; simp; omega
    rw [hv]
    clear hv
    go_enter Try.func24, Try.ntmps24
    go_wp2_with (fail)
    go_ret
    exact ⟨rfl, rfl⟩
  by_cases s122 : c ≤ 122
  · have n33 : (33 : Int) ≤ c := by omega
    have m47 : ¬ c ≤ 47 := by omega
    have n58 : (58 : Int) ≤ c := by omega
    have m64 : ¬ c ≤ 64 := by omega
    have n91 : (91 : Int) ≤ c := by omega
    have m96 : ¬ c ≤ 96 := by omega
    have n123 : ¬ (123 : Int) ≤ c := by omega
    have hv : markB c = false := by unfold markB; simp; omega
    rw [hv]
    clear hv
    go_enter Try.func24, Try.ntmps24
    go_wp2_with (fail)
    go_ret
    exact ⟨rfl, rfl⟩
  by_cases s126 : c ≤ 126
  · have n33 : (33 : Int) ≤ c := by omega
    have m47 : ¬ c ≤ 47 := by omega
    have n58 : (58 : Int) ≤ c := by omega
    have m64 : ¬ c ≤ 64 := by omega
    have n91 : (91 : Int) ≤ c := by omega
    have m96 : ¬ c ≤ 96 := by omega
    have n123 : (123 : Int) ≤ c := by omega
    have m126 : c ≤ 126 := by omega
    have hv : markB c = true := by unfold markB; simp; omega
    rw [hv]
    clear hv
    go_enter Try.func24, Try.ntmps24
    go_wp2_with (fail)
    go_ret
    exact ⟨rfl, rfl⟩
  have n33 : (33 : Int) ≤ c := by omega
  have m47 : ¬ c ≤ 47 := by omega
  have n58 : (58 : Int) ≤ c := by omega
  have m64 : ¬ c ≤ 64 := by omega
  have n91 : (91 : Int) ≤ c := by omega
  have m96 : ¬ c ≤ 96 := by omega
  have n123 : (123 : Int) ≤ c := by omega
  have m126 : ¬ c ≤ 126 := by omega
  have hv : markB c = false := by unfold markB; simp; omega
  rw [hv]
  clear hv
  go_enter Try.func24, Try.ntmps24
  go_wp2_with (fail)
  go_ret
  exact ⟨rfl, rfl⟩
set_option maxRecDepth 100000 in
set_option maxHeartbeats 8000000 in
theorem leans23_c (x y : Int) (w : World) : Calls Try.prog 23 #[.int .u8 x, .int .u8 y] w fun e w' => e = .returned (.bool (leansB x y)) ∧ w' = w := by
  have hg1 := gap35_c x w
  have hm1 := mark24_c x w
  have hg2 := gap35_c y w
  have hm2 := mark24_c y w
  obtain ⟨g1, e1⟩ : ∃ q, gapB x = q := ⟨_, rfl⟩
  obtain ⟨m1, e2⟩ : ∃ q, markB x = q := ⟨_, rfl⟩
  obtain ⟨g2, e3⟩ : ∃ q, gapB y = q := ⟨_, rfl⟩
  obtain ⟨m2, e4⟩ : ∃ q, markB y = q := ⟨_, rfl⟩
  have hl : leansB x y = (!g1 && (!m1 || g2 || m2)) := by unfold leansB; rw [e1, e2, e3, e4]
  rw [hl]
  rw [e1] at hg1
  rw [e2] at hm1
  rw [e3] at hg2
  rw [e4] at hm2
  have HG1 := Aside0.mk hg1
  have HM1 := Aside0.mk hm1
  have HG2 := Aside0.mk hg2
  have HM2 := Aside0.mk hm2
  clear hg1 hm1 hg2 hm2 e1 e2 e3 e4 hl
  cases g1
  case true =>
    go_enter Try.func23, Try.ntmps23
    go_wp2_with (first | (go_at_call 35; first | (refine HG1.out.mono ?_; rintro _ w9 ⟨rfl, h9⟩; rw [h9]; clear h9 w9 HG1) | (refine HG2.out.mono ?_; rintro _ w9 ⟨rfl, h9⟩; rw [h9]; clear h9 w9)) | (go_at_call 24; first | (refine HM1.out.mono ?_; rintro _ w9 ⟨rfl, h9⟩; rw [h9]; clear h9 w9 HM1) | (refine HM2.out.mono ?_; rintro _ w9 ⟨rfl, h9⟩; rw [h9]; clear h9 w9)))
    go_ret
    exact ⟨rfl, rfl⟩
  case false =>
    cases m1
    case false =>
      go_enter Try.func23, Try.ntmps23
      go_wp2_with (first | (go_at_call 35; first | (refine HG1.out.mono ?_; rintro _ w9 ⟨rfl, h9⟩; rw [h9]; clear h9 w9 HG1) | (refine HG2.out.mono ?_; rintro _ w9 ⟨rfl, h9⟩; rw [h9]; clear h9 w9)) | (go_at_call 24; first | (refine HM1.out.mono ?_; rintro _ w9 ⟨rfl, h9⟩; rw [h9]; clear h9 w9 HM1) | (refine HM2.out.mono ?_; rintro _ w9 ⟨rfl, h9⟩; rw [h9]; clear h9 w9)))
      go_ret
      exact ⟨rfl, rfl⟩
    case true =>
      cases g2
      case true =>
        go_enter Try.func23, Try.ntmps23
        go_wp2_with (first | (go_at_call 35; first | (refine HG1.out.mono ?_; rintro _ w9 ⟨rfl, h9⟩; rw [h9]; clear h9 w9 HG1) | (refine HG2.out.mono ?_; rintro _ w9 ⟨rfl, h9⟩; rw [h9]; clear h9 w9)) | (go_at_call 24; first | (refine HM1.out.mono ?_; rintro _ w9 ⟨rfl, h9⟩; rw [h9]; clear h9 w9 HM1) | (refine HM2.out.mono ?_; rintro _ w9 ⟨rfl, h9⟩; rw [h9]; clear h9 w9)))
        go_ret
        exact ⟨rfl, rfl⟩
      case false =>
        cases m2
        case true =>
          go_enter Try.func23, Try.ntmps23
          go_wp2_with (first | (go_at_call 35; first | (refine HG1.out.mono ?_; rintro _ w9 ⟨rfl, h9⟩; rw [h9]; clear h9 w9 HG1) | (refine HG2.out.mono ?_; rintro _ w9 ⟨rfl, h9⟩; rw [h9]; clear h9 w9)) | (go_at_call 24; first | (refine HM1.out.mono ?_; rintro _ w9 ⟨rfl, h9⟩; rw [h9]; clear h9 w9 HM1) | (refine HM2.out.mono ?_; rintro _ w9 ⟨rfl, h9⟩; rw [h9]; clear h9 w9)))
          go_ret
          exact ⟨rfl, rfl⟩
        case false =>
          go_enter Try.func23, Try.ntmps23
          go_wp2_with (first | (go_at_call 35; first | (refine HG1.out.mono ?_; rintro _ w9 ⟨rfl, h9⟩; rw [h9]; clear h9 w9 HG1) | (refine HG2.out.mono ?_; rintro _ w9 ⟨rfl, h9⟩; rw [h9]; clear h9 w9)) | (go_at_call 24; first | (refine HM1.out.mono ?_; rintro _ w9 ⟨rfl, h9⟩; rw [h9]; clear h9 w9 HM1) | (refine HM2.out.mono ?_; rintro _ w9 ⟨rfl, h9⟩; rw [h9]; clear h9 w9)))
          go_ret
          exact ⟨rfl, rfl⟩
set_option maxRecDepth 100000 in
set_option maxHeartbeats 8000000 in
theorem leans21_c (x y : Int) (w : World) (p q : Nat) (hp : w.cell? ⟨p, 0, none⟩ = some (.func (.func 19) #[] #[])) (hq : w.cell? ⟨q, 0, none⟩ = some (.func (.func 20) #[] #[])) : Calls Try.prog 21 #[.int .u8 x, .int .u8 y, pv p, pv q] w fun e w' => e = .returned (.bool (leansB x y)) ∧ w' = w := by
  have hg1 := gap19_c x w
  have hm1 := mark20_c x w
  have hg2 := gap19_c y w
  have hm2 := mark20_c y w
  obtain ⟨g1, e1⟩ : ∃ q, gapB x = q := ⟨_, rfl⟩
  obtain ⟨m1, e2⟩ : ∃ q, markB x = q := ⟨_, rfl⟩
  obtain ⟨g2, e3⟩ : ∃ q, gapB y = q := ⟨_, rfl⟩
  obtain ⟨m2, e4⟩ : ∃ q, markB y = q := ⟨_, rfl⟩
  have hl : leansB x y = (!g1 && (!m1 || g2 || m2)) := by unfold leansB; rw [e1, e2, e3, e4]
  rw [hl]
  rw [e1] at hg1
  rw [e2] at hm1
  rw [e3] at hg2
  rw [e4] at hm2
  have HG1 := Aside0.mk hg1
  have HM1 := Aside0.mk hm1
  have HG2 := Aside0.mk hg2
  have HM2 := Aside0.mk hm2
  clear hg1 hm1 hg2 hm2 e1 e2 e3 e4 hl
  cases g1
  case true =>
    go_enter Try.func21, Try.ntmps21
    go_wp2_with (first | (go_at_call 19; first | (refine HG1.out.mono ?_; rintro _ w9 ⟨rfl, h9⟩; rw [h9]; clear h9 w9 HG1) | (refine HG2.out.mono ?_; rintro _ w9 ⟨rfl, h9⟩; rw [h9]; clear h9 w9)) | (go_at_call 20; first | (refine HM1.out.mono ?_; rintro _ w9 ⟨rfl, h9⟩; rw [h9]; clear h9 w9 HM1) | (refine HM2.out.mono ?_; rintro _ w9 ⟨rfl, h9⟩; rw [h9]; clear h9 w9)))
    go_ret
    exact ⟨rfl, rfl⟩
  case false =>
    cases m1
    case false =>
      go_enter Try.func21, Try.ntmps21
      go_wp2_with (first | (go_at_call 19; first | (refine HG1.out.mono ?_; rintro _ w9 ⟨rfl, h9⟩; rw [h9]; clear h9 w9 HG1) | (refine HG2.out.mono ?_; rintro _ w9 ⟨rfl, h9⟩; rw [h9]; clear h9 w9)) | (go_at_call 20; first | (refine HM1.out.mono ?_; rintro _ w9 ⟨rfl, h9⟩; rw [h9]; clear h9 w9 HM1) | (refine HM2.out.mono ?_; rintro _ w9 ⟨rfl, h9⟩; rw [h9]; clear h9 w9)))
      go_ret
      exact ⟨rfl, rfl⟩
    case true =>
      cases g2
      case true =>
        go_enter Try.func21, Try.ntmps21
        go_wp2_with (first | (go_at_call 19; first | (refine HG1.out.mono ?_; rintro _ w9 ⟨rfl, h9⟩; rw [h9]; clear h9 w9 HG1) | (refine HG2.out.mono ?_; rintro _ w9 ⟨rfl, h9⟩; rw [h9]; clear h9 w9)) | (go_at_call 20; first | (refine HM1.out.mono ?_; rintro _ w9 ⟨rfl, h9⟩; rw [h9]; clear h9 w9 HM1) | (refine HM2.out.mono ?_; rintro _ w9 ⟨rfl, h9⟩; rw [h9]; clear h9 w9)))
        go_ret
        exact ⟨rfl, rfl⟩
      case false =>
        cases m2
        case true =>
          go_enter Try.func21, Try.ntmps21
          go_wp2_with (first | (go_at_call 19; first | (refine HG1.out.mono ?_; rintro _ w9 ⟨rfl, h9⟩; rw [h9]; clear h9 w9 HG1) | (refine HG2.out.mono ?_; rintro _ w9 ⟨rfl, h9⟩; rw [h9]; clear h9 w9)) | (go_at_call 20; first | (refine HM1.out.mono ?_; rintro _ w9 ⟨rfl, h9⟩; rw [h9]; clear h9 w9 HM1) | (refine HM2.out.mono ?_; rintro _ w9 ⟨rfl, h9⟩; rw [h9]; clear h9 w9)))
          go_ret
          exact ⟨rfl, rfl⟩
        case false =>
          go_enter Try.func21, Try.ntmps21
          go_wp2_with (first | (go_at_call 19; first | (refine HG1.out.mono ?_; rintro _ w9 ⟨rfl, h9⟩; rw [h9]; clear h9 w9 HG1) | (refine HG2.out.mono ?_; rintro _ w9 ⟨rfl, h9⟩; rw [h9]; clear h9 w9)) | (go_at_call 20; first | (refine HM1.out.mono ?_; rintro _ w9 ⟨rfl, h9⟩; rw [h9]; clear h9 w9 HM1) | (refine HM2.out.mono ?_; rintro _ w9 ⟨rfl, h9⟩; rw [h9]; clear h9 w9)))
          go_ret
          exact ⟨rfl, rfl⟩
end Go.Proofs.Ytjfpkldknchnkaa.Me
