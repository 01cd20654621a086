/- The document's fit walked. -/
import Derived.Test.YtjfpkldknchnkaaRm
namespace Go.Proofs.Ytjfpkldknchnkaa.Me
open Go.RowKit Go.Proofs.YtjfpkldknchnkaaW.PrintWords Go.Proofs.YtjfpkldknchnkaaW.PrintLast Go.Proofs.YtjfpkldknchnkaaW.PrintMore
attribute [local go_sem] max2_int min2_int max_two min_two max_three min_three max_four min_four
set_option linter.unusedVariables false
set_option linter.unusedSimpArgs false
def rfitB (a b : Rn) : Bool := a.o && b.k && fitB a b
set_option maxRecDepth 100000 in
set_option maxHeartbeats 8000000 in
theorem rfit_c (a b : Rn) (w : World) (ha : 0 ≤ a.n ∧ a.n ≤ 1048576) (hb : 0 ≤ b.n ∧ b.n ≤ 1048576) : Calls Try.prog 31 #[.agg (rnc a), .agg (rnc b)] w fun e w' => BoolP w (rfitB a b) e w' := by
  obtain ⟨d, hd⟩ : ∃ q, w.heap.size = q := ⟨_, rfl⟩
  obtain ⟨w1, hw1⟩ : ∃ q, w.alloc (.cells #[.int .i64 a.a, .int .i64 a.n, .int .u8 a.c, .bool a.o, .bool a.k] 26) = q := ⟨_, rfl⟩
  obtain ⟨w2, hw2⟩ : ∃ q, w1.alloc (.cells #[.int .i64 b.a, .int .i64 b.n, .int .u8 b.c, .bool b.o, .bool b.k] 26) = q := ⟨_, rfl⟩
  have s1 : w1.heap.size = d + 1 := by rw [← hw1]; simp [hd]
  have n1 : w1.heap[d]? = some (.cells (rnc a) 26 (0, 0)) := by rw [← hw1, ← hd]; exact heap_alloc_new _ _
  have n2 : w2.heap[d + 1]? = some (.cells (rnc b) 26 (0, 0)) := by rw [← hw2, ← s1]; exact heap_alloc_new _ _
  have l1 : Below w.heap.size w w1 := by rw [← hw1]; exact below_alloc (Below.refl _ w) _
  have l2 : Below w1.heap.size w1 w2 := by rw [← hw2]; exact below_alloc (Below.refl _ w1) _
  have n3 : w2.heap[d]? = some (.cells (rnc a) 26 (0, 0)) := (l2.block d (by omega)).trans n1
  have HB : Aside0 (Below w.heap.size w w2) := ⟨l1.trans (l2.mono l1.size)⟩
  have p1 : w2.cell? ⟨d, 1, none⟩ = some (.int .i64 a.n) := cell_of_row _ _ _ _ _ _ n3
  have p2 : w2.cell? ⟨d, 2, none⟩ = some (.int .u8 a.c) := cell_of_row _ _ _ _ _ _ n3
  have p3 : w2.cell? ⟨d, 3, none⟩ = some (.bool a.o) := cell_of_row _ _ _ _ _ _ n3
  have p4 : w2.cell? ⟨d, 4, none⟩ = some (.bool a.k) := cell_of_row _ _ _ _ _ _ n3
  have q1 : w2.cell? ⟨d + 1, 1, none⟩ = some (.int .i64 b.n) := cell_of_row _ _ _ _ _ _ n2
  have q2 : w2.cell? ⟨d + 1, 2, none⟩ = some (.int .u8 b.c) := cell_of_row _ _ _ _ _ _ n2
  have q3 : w2.cell? ⟨d + 1, 3, none⟩ = some (.bool b.o) := cell_of_row _ _ _ _ _ _ n2
  have q4 : w2.cell? ⟨d + 1, 4, none⟩ = some (.bool b.k) := cell_of_row _ _ _ _ _ _ n2
  obtain ⟨x, hx⟩ : ∃ x : Int, a.n % 3 = x := ⟨_, rfl⟩
  obtain ⟨y, hy⟩ : ∃ y : Int, b.n % 3 = y := ⟨_, rfl⟩
  have hw3 : a.n.tmod 3 = x := by rw [← hx]; exact Int.tmod_eq_emod_of_nonneg (by omega)
  have hw4 : b.n.tmod 3 = y := by rw [← hy]; exact Int.tmod_eq_emod_of_nonneg (by omega)
  have hw5 : IntKind.i64.wrap x = x := IntWalk.i64_in _ (by omega)
  have hw6 : IntKind.i64.wrap y = y := IntWalk.i64_in _ (by omega)
  have hw7 : IntKind.i64.wrap (x + y) = x + y := IntWalk.i64_in _ (by omega)
  have hw8 : (x + y).tmod 3 = (x + y) % 3 := Int.tmod_eq_emod_of_nonneg (by omega)
  obtain ⟨z, hz⟩ : ∃ z : Int, (x + y) % 3 = z := ⟨_, rfl⟩
  have hw9 : IntKind.i64.wrap z = z := IntWalk.i64_in _ (by omega)
  rw [hz] at hw8
  have hsum : (a.n + b.n) % 3 = z := by omega
  have hzz : x = 0 → y = 0 → z = 0 := by omega
  have hzx : z = 0 → x = 0 → y = 0 := by omega
  have HFIT : Aside0 (rfitB a b = (a.o && b.k && (decide (a.c = b.c) && ((!a.k && !b.o) || decide (z ≠ 0) || decide (x = 0))))) := ⟨by unfold rfitB fitB; rw [hsum, hx]⟩
  have HZX := Aside0.mk hzx
  clear n1 n2 n3 l1 l2 ha hb hx hy hz hsum hzz hzx
  go_enter Try.func31, Try.ntmps31
  go_upto_region 1 with (fail)
  clear hw1 hw2 hd s1
  by_cases hc : a.c = b.c
  case neg =>
    have HV : Aside0 (rfitB a b = false) := ⟨by rw [HFIT.out]; simp [hc]⟩
    have h1 : (a.c != b.c) = true := by simpa using hc
    clear hc
    go_wp2_with (fail)
    go_ret
    exact ⟨by rw [HV.out]; rfl, HB.out⟩
  case pos =>
    have HC := Aside0.mk hc
    have h1 : (a.c != b.c) = false := by simpa using hc
    clear hc
    rcases Bool.eq_false_or_eq_true a.o with ho | ho
    case inr =>
      have HV : Aside0 (rfitB a b = false) := ⟨by rw [HFIT.out, ho]; simp⟩
      rw [ho] at p3
      clear ho
      go_wp2_with (fail)
      go_ret
      exact ⟨by rw [HV.out]; rfl, HB.out⟩
    case inl =>
      rw [ho] at p3
      have HO := Aside0.mk ho
      clear ho
      rcases Bool.eq_false_or_eq_true b.k with hk | hk
      case inr =>
        have HV : Aside0 (rfitB a b = false) := ⟨by rw [HFIT.out, hk]; simp⟩
        rw [hk] at q4
        clear hk
        go_wp2_with (fail)
        go_ret
        exact ⟨by rw [HV.out]; rfl, HB.out⟩
      case inl =>
        rw [hk] at q4
        have HKK := Aside0.mk hk
        clear hk
        have HF2 : Aside0 (rfitB a b = ((!a.k && !b.o) || decide (z ≠ 0) || decide (x = 0))) := ⟨by rw [HFIT.out, HO.out, HKK.out, HC.out]; simp⟩
        go_upto_region 3 with (fail)
        obtain ⟨bo, hbo⟩ : ∃ q, (a.k || b.o) = q := ⟨_, rfl⟩
        have HBO : Aside0 ((!a.k && !b.o) = !bo) := ⟨by rw [← hbo]; cases a.k <;> cases b.o <;> rfl⟩
        go_cut [5] from 7 (fun v5 wc => v5 = .bool bo ∧ Aside0 (w2 = wc))
        case first =>
          have HBB := Aside0.mk hbo
          clear hbo
          rcases Bool.eq_false_or_eq_true a.k with e | e
          · have HD : Aside0 (bo = true) := ⟨by rw [← HBB.out, e]; rfl⟩
            rw [e] at p4
            clear e
            go_wp2_with (fail)
            go_meet
            case rel => exact ⟨by rw [HD.out], ⟨rfl⟩⟩
          · have HD : Aside0 (b.o = bo) := ⟨by rw [← HBB.out, e]; rfl⟩
            rw [e] at p4
            clear e
            go_wp2_with (fail)
            go_meet
            case rel => exact ⟨by rw [HD.out], ⟨rfl⟩⟩
        case rest =>
          obtain ⟨rfl, HWc0⟩ := hcut
          obtain rfl := HWc0.out
          clear hbo p4 q3
          go_upto_region 4 with (fail)
          go_cut [6] from 7 (fun v6 wc => v6 = .bool (decide (x = 0 ∧ y = 0)) ∧ Aside0 (w2 = wc))
          case first =>
            by_cases e1 : x = 0
            · by_cases e2 : y = 0
              · have HD : Aside0 (decide (x = 0 ∧ y = 0) = true) := ⟨decide_eq_true ⟨e1, e2⟩⟩
                rw [e1] at hw3 hw5
                rw [e2] at hw4 hw6
                go_wp2_with (fail)
                go_meet
                case rel => exact ⟨by rw [HD.out], ⟨rfl⟩⟩
              · have HD : Aside0 (decide (x = 0 ∧ y = 0) = false) := ⟨decide_eq_false (fun h => e2 h.2)⟩
                have e3 : (y == 0) = false := by simpa using e2
                rw [e1] at hw3 hw5
                go_wp2_with (fail)
                go_meet
                case rel => exact ⟨by rw [HD.out], ⟨rfl⟩⟩
            · have HD : Aside0 (decide (x = 0 ∧ y = 0) = false) := ⟨decide_eq_false (fun h => e1 h.1)⟩
              have e3 : (x == 0) = false := by simpa using e1
              go_wp2_with (fail)
              go_meet
              case rel => exact ⟨by rw [HD.out], ⟨rfl⟩⟩
          case rest =>
            obtain ⟨rfl, HWc⟩ := hcut
            obtain rfl := HWc.out
            obtain ⟨tb, htb⟩ : ∃ q, decide (x = 0 ∧ y = 0) = q := ⟨_, rfl⟩
            have HTB := Aside0.mk htb
            rw [htb]
            clear htb
            have HRES : Aside0 (rfitB a b = (!bo || (tb || decide (z ≠ 0)))) := ⟨by
              rw [HF2.out, HBO.out, ← HTB.out]
              have h := HZX.out
              by_cases e1 : z = 0
              · by_cases e2 : x = 0
                · have := h e1 e2
                  simp [e1, e2, this]
                · simp [e1, e2]
              · simp [e1]⟩
            cases bo
            case false =>
              have HV : Aside0 (rfitB a b = true) := ⟨by rw [HRES.out]; rfl⟩
              go_wp2_with (fail)
              go_ret
              exact ⟨by rw [HV.out]; rfl, HB.out⟩
            case true =>
              cases tb
              case true =>
                have HV : Aside0 (rfitB a b = true) := ⟨by rw [HRES.out]; rfl⟩
                go_wp2_with (fail)
                go_ret
                exact ⟨by rw [HV.out]; rfl, HB.out⟩
              case false =>
                by_cases e1 : z = 0
                · have HV : Aside0 (rfitB a b = false) := ⟨by rw [HRES.out, e1]; rfl⟩
                  rw [e1] at hw8 hw9
                  go_wp2_with (fail)
                  go_ret
                  exact ⟨by rw [HV.out]; rfl, HB.out⟩
                · have HV : Aside0 (rfitB a b = true) := ⟨by rw [HRES.out]; simp [e1]⟩
                  have e3 : (z != 0) = true := by simpa using e1
                  go_wp2_with (fail)
                  go_ret
                  exact ⟨by rw [HV.out]; rfl, HB.out⟩
end Go.Proofs.Ytjfpkldknchnkaa.Me
