/- (*reader).text: the reader behind it is Rd.text's. -/
import Derived.Test.YtdknppomjcpihaaLeafC
namespace Go.Proofs.Ytdknppomjcpihaa.PPy
open Go.RowKit Go.Proofs.YtdknppomjcpihaaW.PrintWords Go.Proofs.YtdknppomjcpihaaW.PrintLast Go.Proofs.YtdknppomjcpihaaW.PrintMore

theorem RdAt.drawn {B b : Nat} {w w1 : World} {r : Rd} (h : RdAt B w b r) (hd : Drawn0 w w1) : RdAt B w1 b r := h.below (drawn_below hd)
theorem RdAt.setMark {B b : Nat} {w : World} {r : Rd} (h : RdAt B w b r) (m : Int) : RdAt B (w.setCell ⟨b, 3, none⟩ (.int .u8 m)) b { r with mark := m } := by
  obtain ⟨hB, v, hh, hr⟩ := h
  have hq := R_put50 hh hr 3 (.int .u8 m)
  exact ⟨hB, v, hq.1, hq.2⟩
theorem below_size {B : Nat} {w w' : World} (h : Below B w w') : w.heap.size ≤ w'.heap.size := h.size

set_option maxRecDepth 100000 in
set_option maxHeartbeats 2000000 in
theorem text_c (B b : Nat) (w : World) (r : Rd) (f m k : Int) (h : RdAt B w b r) (hl : r.ev.length ≤ 1000000) (h0 : 0 ≤ r.pos) (h1 : r.pos ≤ f) (h2 : f ≤ (r.s.size : Int)) (hs : r.s.size ≤ 1000000) (hm : 1 ≤ m ∧ m ≤ 4) :
    Calls Try.prog 36 #[.pointer (some ⟨b, 0, none⟩), .int .i64 f, .int .u8 m, .int .u8 k] w fun en w' => en = .returned (.tuple #[]) ∧ RdAt B w' b (r.text f m k) ∧ Below B w w' := by
  have hB := h.1
  have hlt := h.lt
  obtain ⟨q, hq⟩ : ∃ q, quot m = q := ⟨_, rfl⟩
  have hq3 : q.size ≤ 3 := by rw [← hq]; unfold quot; (repeat' split) <;> decide
  obtain ⟨res, hres⟩ : ∃ res, r.text f m k = res := ⟨_, rfl⟩
  rw [hres]
  obtain ⟨T0, hT0⟩ : ∃ T0, tx (r.s.size + 1) r.s q f false = T0 := ⟨_, rfl⟩
  have HT0 := Aside0.mk hT0
  have HRES := Aside0.mk hres
  have HQ := Aside0.mk hq
  have H := Aside0.mk h
  clear hres hq h hT0
  go_enter Try.func36, Try.ntmps36
  go_wp2_with (fail)
  refine (quot_c m _ hm).mono ?_
  rintro _ w1 ⟨rfl, hb1⟩
  rw [HQ.out]
  have H1 := Aside0.mk (H.out.below hb1)
  have hb1' := Aside0.mk (hb1.mono (show B ≤ w.heap.size by omega))
  clear hb1 H
  go_wp2_with (fail)
  go_loopg [9, 10] (r.s.size + 1) (fun g v9 v10 wr => ∃ (i : Int) (tk : Bool), v10 = .int .i64 i ∧ v9 = .bool tk ∧ Aside0 (RdAt B wr b r) ∧ Aside0 (Below B w wr) ∧ f ≤ i ∧ i ≤ (r.s.size : Int) + 1 ∧ Aside0 ((r.s.size : Int) + 1 - i ≤ g) ∧ Aside0 (T0 = tx g r.s q i tk))
  case atStart => exact ⟨f, false, rfl, rfl, H1, hb1', by omega, by omega, ⟨by omega⟩, ⟨HT0.out.symm⟩⟩
  case round =>
    clear H1 hb1'
    obtain ⟨i, tk, rfl, rfl, H1, HB, hi0, hi1, HG, HT⟩ := hrel
    obtain ⟨A, c, hr, hh, c0, c1, c2, c3, c4, c5, c6, c7, hf⟩ := H1.out.open
    clear hr hh
    by_cases hlt2 : i < (r.s.size : Int)
    · obtain ⟨g, rfl⟩ : ∃ g, gk = g + 1 := ⟨gk - 1, by have := HG.out; omega⟩
      have HG1 : Aside0 ((r.s.size : Int) + 1 - (i + 1) ≤ g) := ⟨by have := HG.out; omega⟩
      have HG2 : Aside0 ((r.s.size : Int) + 1 - (i + 2) ≤ g) := ⟨by have := HG.out; omega⟩
      have ht := HT.out
      simp only [tx] at ht
      rw [if_pos hlt2] at ht
      clear HT HG
      have hx := bt_at r.s i
      have p : 0 ≤ i := by omega
      have q0 : i < (r.s.size : Int) := hlt2
      replace p := eq_true p
      replace q0 := eq_true q0
      by_cases b1 : bt r.s i = 92
      · rw [if_pos b1] at ht
        have b2 : (bt r.s i == 92) = true := beq_iff_eq.mpr b1
        have HT := Aside0.mk ht
        clear ht b1
        go_wp2_with (fail)
        go_roundg g
        case measure => exact Nat.lt_succ_self _
        case rel => exact ⟨i + 2, (i + 1 == (r.s.size : Int)), by rw [show i + 1 + 1 = i + 2 by omega], rfl, H1, HB, by omega, by omega, HG2, HT⟩
      · rw [if_neg b1] at ht
        have b2 : (bt r.s i == 92) = false := beq_eq_false_iff_ne.mpr b1
        clear b1
        by_cases hv : hp (r.s.extract i.toNat r.s.size) q = true
        · rw [if_pos hv] at ht
          have hle : i + (q.size : Int) ≤ (r.s.size : Int) := by
            have h1 : q.size ≤ r.s.size - i.toNat := by unfold hp at hv; simp at hv; exact hv.1
            omega
          have HT := Aside0.mk ht
          have HV := Aside0.mk hv
          clear ht hv
          go_wp2_with (fail)
          refine (hp_c _ _ _).mono ?_
          rintro _ w2 ⟨rfl, hd⟩
          rw [HV.out]
          have H2 := Aside0.mk ((H1.out.drawn hd).setMark 0)
          obtain ⟨_, _, _, _, e0, e1, e2, e3, e4, e5, e6, e7, ef⟩ := (H1.out.drawn hd).open
          have HB2 := Aside0.mk ((HB.out.trans (drawn_below hd)).setCell (p := ⟨b, 3, none⟩) hB (.int .u8 0))
          clear H1 HB hd
          go_wp2_with (fail)
          refine (leaf_c B b _ _ k (i + (q.size : Int)) H2.out hl h0 (show r.pos ≤ i + (q.size : Int) by omega) hle).mono ?_
          rintro _ w3 ⟨rfl, H3, hb3⟩
          have H4 := Aside0.mk H3
          have HB3 := Aside0.mk (HB2.out.trans hb3)
          clear H3 hb3
          go_wp2_with (fail)
          refine bodyPost_ret (results_none rfl _ _ _) rfl ?_
          refine ⟨rfl, ?_, HB3.out⟩
          rw [← HRES.out]
          unfold Rd.text
          rw [HQ.out, HT0.out, HT.out]
          exact H4.out
        · rw [if_neg hv] at ht
          replace hv : hp (r.s.extract i.toNat r.s.size) q = false := by simpa using hv
          have HT := Aside0.mk ht
          have HV := Aside0.mk hv
          clear ht hv
          go_wp2_with (fail)
          refine (hp_c _ _ _).mono ?_
          rintro _ w2 ⟨rfl, hd⟩
          rw [HV.out]
          have H2 := Aside0.mk (H1.out.drawn hd)
          have HB2 := Aside0.mk (HB.out.trans (drawn_below hd))
          clear H1 HB hd
          go_wp2_with (fail)
          go_roundg g
          case measure => exact Nat.lt_succ_self _
          case rel => exact ⟨i + 1, tk, rfl, rfl, H2, HB2, by omega, by omega, HG1, HT⟩
    · have HN : Aside0 (T0 = (none, tk)) := ⟨by
        rw [HT.out]
        cases gk with
        | zero => rfl
        | succ g => simp only [tx]; rw [if_neg hlt2]⟩
      clear HT HG
      by_cases c1' : 2 < m ∧ tk = false
      · obtain ⟨hm2, rfl⟩ := c1'
        have H2 := Aside0.mk (H1.out.setMark 0)
        have HB2 := Aside0.mk (HB.out.setCell (p := ⟨b, 3, none⟩) hB (.int .u8 0))
        clear H1 HB
        go_wp2_with (fail)
        refine (leaf_c B b _ _ 2 (r.s.size : Int) H2.out hl h0 (show r.pos ≤ (r.s.size : Int) by omega) (Int.le_refl _)).mono ?_
        rintro _ w3 ⟨rfl, H3, hb3⟩
        have H4 := Aside0.mk H3
        have HB3 := Aside0.mk (HB2.out.trans hb3)
        clear H3 hb3
        go_wp2_with (fail)
        refine bodyPost_ret (results_none rfl _ _ _) rfl ?_
        refine ⟨rfl, ?_, HB3.out⟩
        rw [← HRES.out]
        unfold Rd.text
        rw [HQ.out, HT0.out, HN.out]
        simp only
        rw [if_pos (by simp [hm2])]
        exact H4.out
      · have H2 := Aside0.mk (H1.out.setMark m)
        have HB2 := Aside0.mk (HB.out.setCell (p := ⟨b, 3, none⟩) hB (.int .u8 m))
        have HC := Aside0.mk c1'
        have hcase : (2 < m ∧ tk = true) ∨ m ≤ 2 := by
          cases tk with
          | true => exact (Int.lt_or_le 2 m).elim (fun h => .inl ⟨h, rfl⟩) .inr
          | false => exact .inr (Int.not_lt.mp (fun h => c1' ⟨h, rfl⟩))
        clear H1 HB c1'
        rcases hcase with ⟨hm2, rfl⟩ | hm2
        all_goals
          go_wp2_with (fail)
          refine (leaf_c B b _ _ 16 (r.s.size : Int) H2.out hl h0 (show r.pos ≤ (r.s.size : Int) by omega) (Int.le_refl _)).mono ?_
          rintro _ w3 ⟨rfl, H3, hb3⟩
          have H4 := Aside0.mk H3
          have HB3 := Aside0.mk (HB2.out.trans hb3)
          clear H3 hb3
          go_wp2_with (fail)
          go_end0
          refine ⟨rfl, ?_, HB3.out⟩
          rw [← HRES.out]
          unfold Rd.text
          rw [HQ.out, HT0.out, HN.out]
          simp only
          rw [if_neg (by first | (simp; done) | simpa using HC.out)]
          exact H4.out

end Go.Proofs.Ytdknppomjcpihaa.PPy
