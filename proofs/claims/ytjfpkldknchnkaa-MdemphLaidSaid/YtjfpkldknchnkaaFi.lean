/- fit walked. -/
import Derived.Test.YtjfpkldknchnkaaPm
namespace Go.Proofs.Ytjfpkldknchnkaa.Me
open Go.RowKit Go.Proofs.YtjfpkldknchnkaaW.PrintWords Go.Proofs.YtjfpkldknchnkaaW.PrintLast Go.Proofs.YtjfpkldknchnkaaW.PrintMore
attribute [local go_sem] max2_int min2_int max_two min_two max_three min_three max_four min_four
set_option linter.unusedVariables false
set_option linter.unusedSimpArgs false
set_option maxRecDepth 100000 in
set_option maxHeartbeats 8000000 in
theorem fit_c (p q : Nat) (y x : Lf) (w : World) (hp : w.heap[p]? = some (.cells (lfc y) 62 (0, 0))) (hq : w.heap[q]? = some (.cells (lfc x) 62 (0, 0))) (hy : 0 ≤ y.r.n ∧ y.r.n ≤ 1048576) (hx : 0 ≤ x.r.n ∧ x.r.n ≤ 1048576) :
    Calls Try.prog 26 #[pv p, pv q] w fun e w' => e = .returned (.bool (fitB y.r x.r)) ∧ ∃ m, w' = w.drewN m := by
  have p1 : w.cell? ⟨p, 1, none⟩ = some (.int .i64 y.r.n) := cell_of_row _ _ _ _ _ _ hp
  have p2 : w.cell? ⟨p, 2, none⟩ = some (.int .u8 y.r.c) := cell_of_row _ _ _ _ _ _ hp
  have p4 : w.cell? ⟨p, 4, none⟩ = some (.bool y.r.k) := cell_of_row _ _ _ _ _ _ hp
  have q1 : w.cell? ⟨q, 1, none⟩ = some (.int .i64 x.r.n) := cell_of_row _ _ _ _ _ _ hq
  have q2 : w.cell? ⟨q, 2, none⟩ = some (.int .u8 x.r.c) := cell_of_row _ _ _ _ _ _ hq
  have q3 : w.cell? ⟨q, 3, none⟩ = some (.bool x.r.o) := cell_of_row _ _ _ _ _ _ hq
  have hw1 : IntKind.i64.wrap (y.r.n + x.r.n) = y.r.n + x.r.n := IntWalk.i64_in _ (by omega)
  have hw2 : (y.r.n + x.r.n).tmod 3 = (y.r.n + x.r.n) % 3 := Int.tmod_eq_emod_of_nonneg (by omega)
  have hw3 : y.r.n.tmod 3 = y.r.n % 3 := Int.tmod_eq_emod_of_nonneg (by omega)
  have hw4 : IntKind.i64.wrap ((y.r.n + x.r.n) % 3) = (y.r.n + x.r.n) % 3 := IntWalk.i64_in _ (by omega)
  have hw5 : IntKind.i64.wrap (y.r.n % 3) = y.r.n % 3 := IntWalk.i64_in _ (by omega)
  clear hp hq hy hx
  by_cases hc : y.r.c = x.r.c
  case neg =>
    have HF : Aside0 (fitB y.r x.r = false) := ⟨by simp [fitB, hc]⟩
    have q4 : (y.r.c != x.r.c) = true := by simpa using hc
    clear hc
    go_enter Try.func26, Try.ntmps26
    go_upto_region 1 with (fail)
    go_quiet (fail)
    go_wp2_with (fail)
    go_ret
    exact ⟨by rw [HF.out]; rfl, _, rfl⟩
  case pos =>
    go_enter Try.func26, Try.ntmps26
    go_upto_region 1 with (fail)
    rw [hc] at p2
    go_quiet (fail)
    have h4 : (x.r.c != x.r.c) = false := by simp
    go_upto_region 3 with (fail)
    cases hk : y.r.k
    case true =>
      rw [hk] at p4
      by_cases s1 : (y.r.n + x.r.n) % 3 = 0
      · by_cases s2 : y.r.n % 3 = 0
        · have HF : Aside0 (fitB y.r x.r = true) := ⟨by simp [fitB, hc, s2]⟩
          rw [s1] at hw2
          rw [s2] at hw3
          go_quiet (fail)
          go_wp2_with (fail)
          go_ret
          exact ⟨by rw [HF.out]; rfl, _, World.drewN_drewN ..⟩
        · have HF : Aside0 (fitB y.r x.r = false) := ⟨by simp [fitB, hc, s1, s2, hk]⟩
          rw [s1] at hw2
          have q3 : (y.r.n % 3 == 0) = false := by simpa using s2
          go_quiet (fail)
          go_wp2_with (fail)
          go_ret
          exact ⟨by rw [HF.out]; rfl, _, World.drewN_drewN ..⟩
      · have HF : Aside0 (fitB y.r x.r = true) := ⟨by simp [fitB, hc, s1]⟩
        have q3 : ((y.r.n + x.r.n) % 3 != 0) = true := by simpa using s1
        go_quiet (fail)
        go_wp2_with (fail)
        go_ret
        exact ⟨by rw [HF.out]; rfl, _, World.drewN_drewN ..⟩
    case false =>
      rw [hk] at p4
      cases ho : x.r.o
      case true =>
        rw [ho] at q3
        by_cases s1 : (y.r.n + x.r.n) % 3 = 0
        · by_cases s2 : y.r.n % 3 = 0
          · have HF : Aside0 (fitB y.r x.r = true) := ⟨by simp [fitB, hc, s2]⟩
            rw [s1] at hw2
            rw [s2] at hw3
            go_quiet (fail)
            go_wp2_with (fail)
            go_ret
            exact ⟨by rw [HF.out]; rfl, _, World.drewN_drewN ..⟩
          · have HF : Aside0 (fitB y.r x.r = false) := ⟨by simp [fitB, hc, s1, s2, ho]⟩
            rw [s1] at hw2
            have q3 : (y.r.n % 3 == 0) = false := by simpa using s2
            go_quiet (fail)
            go_wp2_with (fail)
            go_ret
            exact ⟨by rw [HF.out]; rfl, _, World.drewN_drewN ..⟩
        · have HF : Aside0 (fitB y.r x.r = true) := ⟨by simp [fitB, hc, s1]⟩
          have q3 : ((y.r.n + x.r.n) % 3 != 0) = true := by simpa using s1
          go_quiet (fail)
          go_wp2_with (fail)
          go_ret
          exact ⟨by rw [HF.out]; rfl, _, World.drewN_drewN ..⟩
      case false =>
        rw [ho] at q3
        have HF : Aside0 (fitB y.r x.r = true) := ⟨by simp [fitB, hc, hk, ho]⟩
        go_quiet (fail)
        go_wp2_with (fail)
        go_ret
        exact ⟨by rw [HF.out]; rfl, _, World.drewN_drewN ..⟩
end Go.Proofs.Ytjfpkldknchnkaa.Me
