/- What tab.over comes to: the place and the column behind the blanks, for a line of at most 2^47 - 4096 bytes (what the reading of an argument gives). -/
import Derived.Test.YtocmjfmojmpclaaTab1
namespace Go.Proofs.Ytocmjfmojmpclaa.PTab
open Go.RowKit Go.Proofs.YtocmjfmojmpclaaW.PrintWords Go.Proofs.YtocmjfmojmpclaaW.PrintLast Go.Proofs.YtocmjfmojmpclaaW.PrintMore

/-- The four boxes of a call: at, col, want, most. -/
structure Four (B : Nat) (w : World) (a c wt mo : Int) : Prop where
  sz : B + 4 ≤ w.heap.size
  ca : w.cell? ⟨B, 0, none⟩ = some (.int .i64 a)
  cc : w.cell? ⟨B + 1, 0, none⟩ = some (.int .i64 c)
  cw : w.cell? ⟨B + 1 + 1, 0, none⟩ = some (.int .i64 wt)
  cm : w.cell? ⟨B + 1 + 1 + 1, 0, none⟩ = some (.int .i64 mo)
  fa : w.frozen? ⟨B, 0, none⟩ = false
  fc : w.frozen? ⟨B + 1, 0, none⟩ = false
theorem Four.start (w : World) (a c wt mo : Int) : Four w.heap.size ((((w.alloc (.cells #[.int .i64 a] 3)).alloc (.cells #[.int .i64 c] 3)).alloc (.cells #[.int .i64 wt] 3)).alloc (.cells #[.int .i64 mo] 3)) a c wt mo := by
  constructor <;> go_simp
theorem Four.next {B : Nat} {w : World} {a c wt mo : Int} (h : Four B w a c wt mo) (a' c' : Int) :
    Four B ((w.setCell ⟨B + 1, 0, none⟩ (.int .i64 c')).setCell ⟨B, 0, none⟩ (.int .i64 a')) a' c' wt mo := by
  have n1 : (⟨B, 0, none⟩ : Addr) ≠ ⟨B + 1, 0, none⟩ := by intro e; simp at e
  have n2 : (⟨B, 0, none⟩ : Addr) ≠ ⟨B + 1 + 1, 0, none⟩ := by intro e; simp at e <;> omega
  have n3 : (⟨B, 0, none⟩ : Addr) ≠ ⟨B + 1 + 1 + 1, 0, none⟩ := by intro e; simp at e <;> omega
  have n4 : (⟨B + 1, 0, none⟩ : Addr) ≠ ⟨B + 1 + 1, 0, none⟩ := by intro e; simp at e
  have n5 : (⟨B + 1, 0, none⟩ : Addr) ≠ ⟨B + 1 + 1 + 1, 0, none⟩ := by intro e; simp at e <;> omega
  constructor
  · simpa using h.sz
  · exact World.cell?_setCell_same _ _ _ ((World.cell?_setCell_other _ _ _ _ n1.symm).trans h.ca)
  · exact (World.cell?_setCell_other _ _ _ _ n1).trans (World.cell?_setCell_same _ _ _ h.cc)
  · exact (World.cell?_setCell_other _ _ _ _ n2).trans ((World.cell?_setCell_other _ _ _ _ n4).trans h.cw)
  · exact (World.cell?_setCell_other _ _ _ _ n3).trans ((World.cell?_setCell_other _ _ _ _ n5).trans h.cm)
  · simp [h.fa]
  · simp [h.fc]
theorem Four.drew {B : Nat} {w : World} {a c wt mo : Int} (h : Four B w a c wt mo) : Four B w.drew a c wt mo := ⟨h.sz, h.ca, h.cc, h.cw, h.cm, h.fa, h.fc⟩

set_option maxHeartbeats 1000000 in
theorem tab_over.yes (a0 : ByteArray) (a1 a2 a3 a4 : Int) (w : World) (hs : a0.size ≤ 140737488351232)
    (h1 : 0 ≤ a1) (h2 : a1 ≤ (a0.size : Int)) (h3 : 0 ≤ a2) (h4 : a2 ≤ 1099511627776) (h5 : 1 ≤ a4) (h6 : a4 ≤ 64) :
    Calls Try.prog 16 #[.string a0, .int .i64 a1, .int .i64 a2, .int .i64 a3, .int .i64 a4] w fun e w' => 
      e = .returned (.tuple #[.int .i64 (tab_over.go (a0.size - a1.toNat) a0 a1 a2 a3 (wrap64 (a2 + a3)) a4).1, .int .i64 (tab_over.go (a0.size - a1.toNat) a0 a1 a2 a3 (wrap64 (a2 + a3)) a4).2]) ∧ Below w.heap.size w w' := by
  obtain ⟨mo, hmo⟩ : ∃ mo, wrap64 (a2 + a3) = mo := ⟨_, rfl⟩
  rw [hmo]
  have HMO := Aside0.mk hmo
  clear hmo
  obtain ⟨r, hr⟩ : ∃ r, tab_over.go (a0.size - a1.toNat) a0 a1 a2 a3 mo a4 = r := ⟨_, rfl⟩
  rw [hr]
  have HR := Aside0.mk hr
  clear hr
  go_enter Try.func16, Try.ntmps16
  go_wp2
  go_step3
  go_wp2
  rw [HMO.out]
  have HF := Aside0.mk (Four.start w a1 a2 a3 mo)
  have HB := Aside0.mk (below_alloc (below_alloc (below_alloc (below_alloc (Below.refl w.heap.size w) (.cells #[.int .i64 a1] 3)) (.cells #[.int .i64 a2] 3)) (.cells #[.int .i64 a3] 3)) (.cells #[.int .i64 mo] 3))
  go_step3
  go_wp2
  go_loopg [] (a0.size - a1.toNat) (fun g wr => ∃ (a c : Int), Aside0 (Four w.heap.size wr a c a3 mo) ∧ Aside0 (Below w.heap.size w wr) ∧ Aside0 (tab_over.go g a0 a c a3 mo a4 = r) ∧ (0 ≤ a ∧ a ≤ (a0.size : Int)) ∧ g = a0.size - a.toNat ∧ 0 ≤ c ∧ c ≤ 1099511627776 + 64 * a)
  case atStart => exact ⟨a1, a2, HF, HB, HR, ⟨h1, h2⟩, rfl, h3, by omega⟩
  case round =>
    clear HF HB HR HMO h1 h2 h3 h4
    obtain ⟨a, c, HF, HB, HR, ⟨ha0, ha1⟩, hg, hc0, hc1⟩ := hrel
    have f1 := HF.out.ca
    have f2 := HF.out.cc
    have f3 := HF.out.cw
    have f4 := HF.out.cm
    have f5 := HF.out.fa
    have f6 := HF.out.fc
    by_cases hlt : a < (a0.size : Int)
    · obtain ⟨g, rfl⟩ : ∃ m, gk = m + 1 := ⟨gk - 1, by omega⟩
      have HG : Aside0 (g = a0.size - (a + 1).toNat) := ⟨by omega⟩
      clear hg
      have hr := HR.out
      clear HR
      simp only [tab_over.go] at hr
      have hx := bt_at a0 a
      have hbt := bt_range a0 a
      have p : 0 ≤ a := ha0
      have q : a < (a0.size : Int) := hlt
      replace p := eq_true p
      replace q := eq_true q
      by_cases b1 : bt a0 a = 32
      · rw [if_pos b1] at hr
        have b1b : (bt a0 a == 32) = true := beq_iff_eq.mpr b1
        by_cases cs : 0 ≤ a3 ∧ mo < c + 1
        · rw [if_pos cs] at hr
          have HR := Aside0.mk hr
          clear hr b1
          obtain ⟨cs1, cs2⟩ := cs
          go_wp2_with (go_at_call 18; refine (step_no (c + 1) a3 mo _ _ _ _ _ f3 f4 cs1 cs2).mono ?_; rintro e w' ⟨rfl, rfl⟩)
          go_quiet (fail)
          go_wp2
          try rw [Exit.noGoto_ret]
          go_ret2
          exact ⟨by rw [← HR.out]; rfl, pw_below_drewN HB.out _⟩
        · rw [if_neg cs] at hr
          have HR := Aside0.mk hr
          clear hr b1
          go_wp2_with (go_at_call 18; refine (step_yes (c + 1) a3 mo c a _ _ _ _ _ f3 f4 f2 f1 f6 f5 (by omega) ha0 (by omega) cs).mono ?_; rintro e w' ⟨rfl, rfl⟩)
          go_roundg g
          case measure => omega
          case rel => exact ⟨a + 1, _, ⟨HF.out.next _ _⟩, ⟨(HB.out.setCell (p := ⟨w.heap.size + 1, 0, none⟩) (Nat.le_add_right _ _) _).setCell (p := ⟨w.heap.size, 0, none⟩) (Nat.le_refl _) _⟩, HR, ⟨by omega, by omega⟩, HG.out, by omega, by omega⟩
      · rw [if_neg b1] at hr
        have b1b : (bt a0 a == 32) = false := beq_eq_false_iff_ne.mpr b1
        by_cases b2 : bt a0 a = 9
        · rw [if_pos b2] at hr
          have b2b : (bt a0 a == 9) = true := beq_iff_eq.mpr b2
          have hm0 : 0 ≤ c % a4 := Int.emod_nonneg _ (by omega)
          have hm1 : c % a4 < a4 := Int.emod_lt_of_pos _ (by omega)
          have hm2 : c % a4 ≤ c := by have := Int.mul_ediv_add_emod c a4; have : 0 ≤ a4 * (c / a4) := Int.mul_nonneg (by omega) (Int.ediv_nonneg hc0 (by omega)); omega
          obtain ⟨m, hm⟩ : ∃ m, c % a4 = m := ⟨_, rfl⟩
          rw [hm] at hr hm0 hm1 hm2
          obtain ⟨nx, hnx⟩ : ∃ nx, c - m + a4 = nx := ⟨_, rfl⟩
          rw [hnx] at hr
          have hn0 : 0 ≤ nx := by omega
          have hn1 : nx ≤ c + 64 := by omega
          by_cases cs : 0 ≤ a3 ∧ mo < nx
          · rw [if_pos cs] at hr
            have HR := Aside0.mk hr
            have HNX := Aside0.mk hnx
            clear hr b1 hnx b2
            obtain ⟨cs1, cs2⟩ := cs
            go_wp2_with (fail)
            have z4 : ¬ (a4 = 0) := by omega
            have e1 : Int.tmod c a4 = m := (Int.tmod_eq_emod_of_nonneg hc0).trans hm
            have e2 : IntKind.i64.wrap (c - m) = c - m := IntWalk.i64_in _ (by omega)
            have e3 : IntKind.i64.wrap (c - m + a4) = nx := (IntWalk.i64_in _ (by omega)).trans HNX.out
            clear hm
            go_still_tail 8, (by kernel_rfl)
            clear e1 e2 e3 z4
            change wpList _ _ _ _ _ wr.drew
            go_wp2_with (go_at_call 18; refine (step_no nx a3 mo _ _ _ _ _ (show wr.drew.cell? _ = _ from f3) (show wr.drew.cell? _ = _ from f4) cs1 cs2).mono ?_; rintro e w' ⟨rfl, rfl⟩)
            go_quiet (fail)
            go_wp2
            try rw [Exit.noGoto_ret]
            go_ret2
            exact ⟨by rw [← HR.out]; rfl, pw_below_drewN (below_drew HB.out) _⟩
          · rw [if_neg cs] at hr
            have HR := Aside0.mk hr
            have HNX := Aside0.mk hnx
            clear hr b1 hnx b2
            go_wp2_with (fail)
            have z4 : ¬ (a4 = 0) := by omega
            have e1 : Int.tmod c a4 = m := (Int.tmod_eq_emod_of_nonneg hc0).trans hm
            have e2 : IntKind.i64.wrap (c - m) = c - m := IntWalk.i64_in _ (by omega)
            have e3 : IntKind.i64.wrap (c - m + a4) = nx := (IntWalk.i64_in _ (by omega)).trans HNX.out
            clear hm
            go_still_tail 8, (by kernel_rfl)
            clear e1 e2 e3 z4
            change wpList _ _ _ _ _ wr.drew
            go_wp2_with (go_at_call 18; refine (step_yes nx a3 mo c a _ _ _ _ _ (show wr.drew.cell? _ = _ from f3) (show wr.drew.cell? _ = _ from f4) (show wr.drew.cell? _ = _ from f2) (show wr.drew.cell? _ = _ from f1) (show wr.drew.frozen? _ = _ from f6) (show wr.drew.frozen? _ = _ from f5) (by omega) ha0 (by omega) cs).mono ?_; rintro e w' ⟨rfl, rfl⟩)
            go_roundg g
            case measure => omega
            case rel => exact ⟨a + 1, _, ⟨HF.out.drew.next _ _⟩, ⟨((below_drew HB.out).setCell (p := ⟨w.heap.size + 1, 0, none⟩) (Nat.le_add_right _ _) _).setCell (p := ⟨w.heap.size, 0, none⟩) (Nat.le_refl _) _⟩, HR, ⟨by omega, by omega⟩, HG.out, by omega, by omega⟩
        · rw [if_neg b2] at hr
          have b2b : (bt a0 a == 9) = false := beq_eq_false_iff_ne.mpr b2
          have HR := Aside0.mk hr
          clear hr b1 b2
          go_wp2
          go_quiet (fail)
          go_wp2
          try rw [Exit.noGoto_ret]
          go_ret2
          exact ⟨by rw [← HR.out]; rfl, pw_below_drewN HB.out _⟩
    · have HR2 : Aside0 ((a, c) = r) := ⟨by rw [← HR.out, hg, Nat.sub_eq_zero_of_le (by omega)]; rfl⟩
      clear HR
      have HR := HR2
      clear HR2
      go_wp2
      go_quiet (fail)
      go_wp2
      try rw [Exit.noGoto_ret]
      go_ret2
      exact ⟨by rw [← HR.out]; rfl, pw_below_drewN HB.out _⟩

theorem tab_over.calls (a0 : ByteArray) (a1 a2 a3 a4 : Int) (r1 r2 : Int) (w : World) (h : tab_over.f a0 a1 a2 a3 a4 = some (r1, r2)) :
    Calls Try.prog 16 #[.string a0, .int .i64 a1, .int .i64 a2, .int .i64 a3, .int .i64 a4] w fun e w' => e = .returned (.tuple #[.int .i64 r1, .int .i64 r2]) ∧ Below w.heap.size w w' := by
  unfold tab_over.f at h
  by_cases hs : a0.size ≤ 140737488351232
  · rw [if_pos hs] at h
    by_cases hc : tab_over.may a0 a1 a2 a4 = true
    · rw [if_pos hc] at h
      have h' := Option.some.inj h
      have hc' : ((((0 ≤ a1 ∧ a1 ≤ (a0.size : Int) ∧ 0 ≤ a2 ∧ a2 ≤ 1099511627776 ∧ 1 ≤ a4 ∧ a4 ≤ 64)))) := by simpa [tab_over.may] using hc
      obtain ⟨c1, c2, c3, c4, c5, c6⟩ := hc'
      have := tab_over.yes a0 a1 a2 a3 a4 w hs c1 c2 c3 c4 c5 c6
      rw [h'] at this
      exact this
    · rw [if_neg hc] at h
      have h' := Option.some.inj h
      simp only [Prod.mk.injEq] at h'
      obtain ⟨rfl, rfl⟩ := h'
      exact tab_over.no a0 a1 a2 a3 a4 w (by simpa using hc)
  · rw [if_neg hs] at h
    cases h

end Go.Proofs.Ytocmjfmojmpclaa.PTab
