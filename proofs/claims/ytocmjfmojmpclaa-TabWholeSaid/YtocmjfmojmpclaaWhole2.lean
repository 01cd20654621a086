/- TabWhole: the law's walk where its arguments are within its guard: it answers true. -/
import Derived.Test.YtocmjfmojmpclaaTab5
import Derived.Test.YtocmjfmojmpclaaPureTabIndents
namespace Go.Proofs.Ytocmjfmojmpclaa.PTab
open Go.RowKit Go.Proofs.YtocmjfmojmpclaaW.PrintWords Go.Proofs.YtocmjfmojmpclaaW.PrintLast Go.Proofs.YtocmjfmojmpclaaW.PrintMore
attribute [local go_sem] max2_int min2_int max_two min_two max_three min_three max_four min_four

theorem wk2 (w : World) : Calls Try.prog 7 #[] w fun e w' => e = .returned (.bool true) ∧ Below w.heap.size w w' :=
  indenturelaw09_wakes.calls 9 true w Pure.wakes_true

theorem bel {w w1 w2 : World} (h : Below w.heap.size w w1) (k : Below w1.heap.size w1 w2) : Below w.heap.size w w2 := below_then h h.size k

set_option maxRecDepth 100000 in
set_option maxHeartbeats 4000000 in
theorem whole_main (s : ByteArray) (a c n z : Int) (w : World) (hs : (s.size : Int) ≤ 65536) (h1 : 0 ≤ a) (h2 : a ≤ (s.size : Int)) (h3 : 0 ≤ c) (h4 : c ≤ 1099511627776) (h5 : 1 ≤ z) (h6 : z ≤ 64) (h7 : 0 ≤ n) (h8 : n ≤ 1073741824) :
    Calls Try.prog 6 #[.string s, .int .i64 a, .int .i64 c, .int .i64 n, .int .i64 z] w fun e w' => e = .returned (.bool true) ∧ Below w.heap.size w w' := by
  obtain ⟨e, l, m, k, HI, HT, HA, f1, f2, f3, f4, f5, f6, f7, HK, HM, HB, HE⟩ := whole_facts s a c n z (by omega) h1 h2 h3 h4 h5 h6 h7 h8
  replace HI := Aside0.mk HI
  replace HT := Aside0.mk HT
  replace HA := Aside0.mk HA
  replace HK := Aside0.mk HK
  replace HM := Aside0.mk HM
  replace HB := Aside0.mk HB
  replace HE := Aside0.mk HE
  go_enter Try.func6, Try.ntmps6
  go_wp2_with (fail)
  with_reducible refine (tab_Indent.calls s a c z e l _ HI.out).mono ?_
  rintro _ w1 ⟨rfl, hb1⟩
  go_wp2_with (fail)
  with_reducible refine (tab_Take.calls s a c n z m k _ HT.out).mono ?_
  rintro _ w2 ⟨rfl, hb2⟩
  go_wp2_with (fail)
  with_reducible refine (tab_Take.calls s a c 1099511627776 z e l _ HA.out).mono ?_
  rintro _ w3 ⟨rfl, hb3⟩
  have BL := Aside0.mk (bel (bel hb1 hb2) hb3)
  clear hb1 hb2 hb3
  go_upto_if 120 with (fail)
  go_cut [] (fun wc => Aside0 (Below w.heap.size w wc))
  case first =>
    by_cases hk : k ≤ 1099511627776
    · go_wp2_with (fail)
      refine (tab_Indent.calls s m k z e l _ (HK.out hk)).mono ?_
      rintro _ w4 ⟨rfl, hb4⟩
      go_wp2_with (fail)
      go_meet
      case rel => exact ⟨bel BL.out hb4⟩
    · go_wp2_with (fail)
      go_meet
      case rel => exact BL
  case rest =>
    clear BL HI HT HA HK
    have BL := hcut
    clear hcut
    go_upto_if 139 with (fail)
    go_cut [] (fun wc => Aside0 (Below w.heap.size w wc))
    case first =>
      by_cases hlt : m < e
      · obtain ⟨x, y, hT2, hx, hy, hb⟩ := HM.out hlt
        replace hT2 := Aside0.mk hT2
        clear HM HB HE
        have hbx := bt_at s m
        have p : 0 ≤ m := by omega
        have q : m < (s.size : Int) := by omega
        have hy' : ¬ (y ≤ mn k 1099511627776) := by omega
        have hy2 : decide (y ≤ mn k 1099511627776) = false := decide_eq_false hy'
        clear hy hy'
        replace p := eq_true p
        replace q := eq_true q
        have hq : (k ≤ 1099511627776 ∧ mn k 1099511627776 = k) ∨ (1099511627776 < k ∧ mn k 1099511627776 = 1099511627776) := by unfold mn; split <;> omega
        have HQ := Aside0.mk hq
        clear hq
        rcases hb with ⟨hb, hk2⟩ | ⟨hb, _⟩
        · have b1 : (bt s m == 32) = true := beq_iff_eq.mpr hb
          clear hb
          rcases HQ.out with ⟨hk3, hk4⟩ | ⟨hk3, hk4⟩
          · rw [hk4] at hT2 hy2
            clear hk4 HQ
            go_wp2_with (fail)
            with_reducible refine (tab_Take.calls s m k 1048576 z x y _ hT2.out).mono ?_
            rintro _ w4 ⟨rfl, hb4⟩
            go_wp2_with (fail)
            go_meet
            case rel => exact ⟨bel BL.out hb4⟩
          · rw [hk4] at hT2 hy2
            clear hk4 HQ
            go_wp2_with (fail)
            with_reducible refine (tab_Take.calls s m 1099511627776 1048576 z x y _ hT2.out).mono ?_
            rintro _ w4 ⟨rfl, hb4⟩
            go_wp2_with (fail)
            go_meet
            case rel => exact ⟨bel BL.out hb4⟩
        · have b1 : (bt s m == 32) = false := beq_eq_false_iff_ne.mpr hb
          clear hb
          rcases HQ.out with ⟨hk3, hk4⟩ | ⟨hk3, hk4⟩
          · rw [hk4] at hT2 hy2
            clear hk4 HQ
            go_wp2_with (fail)
            with_reducible refine (tab_Take.calls s m k 1048576 z x y _ hT2.out).mono ?_
            rintro _ w4 ⟨rfl, hb4⟩
            go_wp2_with (fail)
            go_meet
            case rel => exact ⟨bel BL.out hb4⟩
          · rw [hk4] at hT2 hy2
            clear hk4 HQ
            go_wp2_with (fail)
            with_reducible refine (tab_Take.calls s m 1099511627776 1048576 z x y _ hT2.out).mono ?_
            rintro _ w4 ⟨rfl, hb4⟩
            go_wp2_with (fail)
            go_meet
            case rel => exact ⟨bel BL.out hb4⟩
      · clear HM HB HE
        go_wp2_with (fail)
        go_meet
        case rel => exact BL
    case rest =>
      clear BL HM
      have BL := hcut
      clear hcut
      go_upto_region 16 with (fail)
      go_cut [186] (fun v wc => v = .bool false ∧ Aside0 (Below w.heap.size w wc))
      case first =>
        clear HE
        by_cases hlt : a < m
        · obtain ⟨j, hj⟩ : ∃ j, m - 1 = j := ⟨_, rfl⟩
          have hbx := bt_at s j
          have p : 0 ≤ j := by omega
          have q : j < (s.size : Int) := by omega
          have hz : ¬ (z = 0) := by omega
          replace p := eq_true p
          replace q := eq_true q
          by_cases hb : bt s j = 9
          · have b1 : (bt s j == 9) = true := beq_iff_eq.mpr hb
            have hm := HB.out hlt (by rw [hj]; exact hb)
            have b2 : (k % z != 0) = false := by simp [hm]
            clear hm hb HB
            go_wp2_with (fail)
            go_meet
            case rel => exact ⟨rfl, BL⟩
          · have b1 : (bt s j == 9) = false := beq_eq_false_iff_ne.mpr hb
            clear hb HB
            go_wp2_with (fail)
            go_meet
            case rel => exact ⟨rfl, BL⟩
        · clear HB
          go_wp2_with (fail)
          go_meet
          case rel => exact ⟨rfl, BL⟩
      case rest =>
        clear BL HB
        obtain ⟨rfl, BL⟩ := hcut
        rcases HE.out with he | ⟨he, hb1, hb2⟩
        · have b0 : (e == (s.size : Int)) = true := beq_iff_eq.mpr he
          clear he HE
          go_wp2_with (fail)
          refine (wk2 _).mono ?_
          rintro _ w4 ⟨rfl, hb4⟩
          go_wp2_with (fail)
          go_ret
          exact ⟨rfl, bel BL.out hb4⟩
        · have hbx := bt_at s e
          have b0 : (e == (s.size : Int)) = false := beq_eq_false_iff_ne.mpr (by omega)
          have b1 : (bt s e != 32) = true := bne_iff_ne.mpr hb1
          have b2 : (bt s e != 9) = true := bne_iff_ne.mpr hb2
          have p : 0 ≤ e := by omega
          have q : e < (s.size : Int) := he
          clear hb1 hb2 HE he
          replace p := eq_true p
          replace q := eq_true q
          go_wp2_with (fail)
          refine (wk2 _).mono ?_
          rintro _ w4 ⟨rfl, hb4⟩
          go_wp2_with (fail)
          go_ret
          exact ⟨rfl, bel BL.out hb4⟩

end Go.Proofs.Ytocmjfmojmpclaa.PTab
