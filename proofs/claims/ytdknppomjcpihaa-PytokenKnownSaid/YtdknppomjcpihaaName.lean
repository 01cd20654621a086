/- (*reader).join, name: the reader behind each. -/
import Derived.Test.YtdknppomjcpihaaSmall
namespace Go.Proofs.Ytdknppomjcpihaa.PPy
open Go.RowKit Go.Proofs.YtdknppomjcpihaaW.PrintWords Go.Proofs.YtdknppomjcpihaaW.PrintLast Go.Proofs.YtdknppomjcpihaaW.PrintMore

set_option maxRecDepth 100000 in
set_option maxHeartbeats 1000000 in
theorem join_no (B b : Nat) (w : World) (r : Rd) (h : RdAt B w b r) (h0 : 0 ≤ r.pos) (h1 : r.pos < (r.s.size : Int)) (hc : ¬ bt r.s r.pos = 92) :
    Calls Try.prog 21 #[.pointer (some ⟨b, 0, none⟩)] w fun en w' => en = .returned (.bool false) ∧ RdAt B w' b r ∧ Bel B w w' := by
  obtain ⟨A, c, hr, hh, c0, c1, c2, c3, c4, c5, c6, c7, hf⟩ := h.open
  have H := Aside0.mk h
  have hx := bt_at r.s r.pos
  have p : 0 ≤ r.pos := h0
  have q0 : r.pos < (r.s.size : Int) := h1
  replace p := eq_true p
  replace q0 := eq_true q0
  have hc2 : (bt r.s r.pos != 92) = true := bne_iff_ne.mpr hc
  clear hr hh h hc
  go_enter Try.func21, Try.ntmps21
  go_wp2_with (fail)
  go_quiet (fail)
  go_wp2_with (fail)
  go_ret
  exact ⟨rfl, H.out.drawn (Drawn0.step (Drawn0.refl _) _), pw_below_drewN (Below.refl B w) _, pw_below_drewN (Below.refl w.heap.size w) _⟩

set_option maxRecDepth 100000 in
set_option maxHeartbeats 1000000 in
theorem join_yes (B b : Nat) (w : World) (r : Rd) (h : RdAt B w b r) (hl : r.ev.length ≤ 1000000) (h0 : 0 ≤ r.pos) (h1 : r.pos < (r.s.size : Int)) (hs : r.s.size ≤ 1000000) (hc : bt r.s r.pos = 92) :
    Calls Try.prog 21 #[.pointer (some ⟨b, 0, none⟩)] w fun en w' => en = .returned (.bool true) ∧ RdAt B w' b r.joined ∧ Below B w w' := by
  have hB := h.1
  obtain ⟨A, c, hr, hh, c0, c1, c2, c3, c4, c5, c6, c7, hf⟩ := h.open
  have H := Aside0.mk h
  have hx := bt_at r.s r.pos
  have p : 0 ≤ r.pos := h0
  have q0 : r.pos < (r.s.size : Int) := h1
  replace p := eq_true p
  replace q0 := eq_true q0
  have hc2 : (bt r.s r.pos != 92) = false := bne_eq_false_iff_eq.mpr hc
  have hw : IntKind.i64.wrap (r.pos + 1) = r.pos + 1 := IntWalk.i64_in _ (by omega)
  clear hr hh h hc
  unfold Rd.joined
  by_cases he : r.pos + 1 = (r.s.size : Int)
  · rw [if_pos he]
    have he2 : (r.pos + 1 == (r.s.size : Int)) = true := beq_iff_eq.mpr he
    have HL := Aside0.mk (show r.pos ≤ (r.s.size : Int) by omega)
    clear he
    go_enter Try.func21, Try.ntmps21
    go_wp2_with (fail)
    go_quiet (fail)
    go_wp2_with (fail)
    go_quiet (fail)
    go_wp2_with (fail)
    refine (leaf_c B b _ { r with join := true } 19 (r.s.size : Int) (by exact (H.out.drawn (by repeat (first | exact Drawn0.refl _ | apply Drawn0.step))).setJoin true) hl h0 HL.out (Int.le_refl _)).mono ?_
    rintro _ w2 ⟨rfl, H3, hb⟩
    have H4 := Aside0.mk H3
    have HB : Aside0 (Below B w w2) := ⟨Below.trans (by exact Below.setCell (p := ⟨b, 5, none⟩) (by repeat (first | exact Below.refl _ _ | apply pw_below_drewN | apply below_drew)) hB _) hb⟩
    clear H3 hb
    go_wp2_with (fail)
    go_ret
    exact ⟨rfl, H4.out, HB.out⟩
  · rw [if_neg he]
    have he2 : (r.pos + 1 == (r.s.size : Int)) = false := beq_eq_false_iff_ne.mpr he
    clear he
    go_enter Try.func21, Try.ntmps21
    go_wp2_with (fail)
    go_quiet (fail)
    go_wp2_with (fail)
    go_quiet (fail)
    go_wp2_with (fail)
    refine (leaf_c B b _ r 2 (r.pos + 1) (by exact H.out.drawn (by repeat (first | exact Drawn0.refl _ | apply Drawn0.step))) hl h0 (by omega) (by omega)).mono ?_
    rintro _ w2 ⟨rfl, H3, hb⟩
    have H4 := Aside0.mk H3
    have HB : Aside0 (Below B w w2) := ⟨Below.trans (by repeat (first | exact Below.refl _ _ | apply pw_below_drewN | apply below_drew)) hb⟩
    clear H3 hb
    go_wp2_with (fail)
    go_ret
    exact ⟨rfl, H4.out, HB.out⟩

set_option maxRecDepth 100000 in
set_option maxHeartbeats 1000000 in
theorem name_no (B b : Nat) (w : World) (r : Rd) (h : RdAt B w b r) (h0 : 0 ≤ r.pos) (h1 : r.pos < (r.s.size : Int)) (hc : letterB (bt r.s r.pos) = false) :
    Calls Try.prog 23 #[.pointer (some ⟨b, 0, none⟩)] w fun en w' => en = .returned (.bool false) ∧ RdAt B w' b r ∧ Bel B w w' := by
  obtain ⟨A, c, hr, hh, c0, c1, c2, c3, c4, c5, c6, c7, hf⟩ := h.open
  have H := Aside0.mk h
  have HX := Aside0.mk (bt_range r.s r.pos)
  have hx := bt_at r.s r.pos
  have p : 0 ≤ r.pos := h0
  have q0 : r.pos < (r.s.size : Int) := h1
  replace p := eq_true p
  replace q0 := eq_true q0
  clear hr hh h
  go_enter Try.func23, Try.ntmps23
  go_wp2_with (fail)
  go_quiet ((go_at_call 42; exact Calls.quiet_of ((letter_c _ _ HX.out).mono (fun e w2 ⟨h1, h2⟩ => ⟨h1, h2.out⟩))))
  go_wp2_with (fail)
  go_ret
  exact ⟨rfl, H.out.drawn (Drawn0.step (Drawn0.refl _) _), pw_below_drewN (Below.refl B w) _, pw_below_drewN (Below.refl w.heap.size w) _⟩

set_option maxRecDepth 100000 in
set_option maxHeartbeats 2000000 in
theorem name_yes (B b : Nat) (w : World) (r : Rd) (h : RdAt B w b r) (hl : r.ev.length ≤ 1000000) (h0 : 0 ≤ r.pos) (h1 : r.pos < (r.s.size : Int)) (hs : r.s.size ≤ 1000000) (hc : letterB (bt r.s r.pos) = true) :
    Calls Try.prog 23 #[.pointer (some ⟨b, 0, none⟩)] w fun en w' => en = .returned (.bool true) ∧ RdAt B w' b r.name ∧ Below B w w' := by
  obtain ⟨A, c, hr, hh, c0, c1, c2, c3, c4, c5, c6, c7, hf⟩ := h.open
  have H := Aside0.mk h
  have HX := Aside0.mk (bt_range r.s r.pos)
  have hx := bt_at r.s r.pos
  have p : 0 ≤ r.pos := h0
  have q0 : r.pos < (r.s.size : Int) := h1
  replace p := eq_true p
  replace q0 := eq_true q0
  obtain ⟨T0, hT0⟩ : ∃ T0, nameEnd (r.s.size + 1) r.s r.pos = T0 := ⟨_, rfl⟩
  unfold Rd.name
  rw [hT0]
  have HT0 := Aside0.mk hT0
  clear hr hh h hT0
  go_enter Try.func23, Try.ntmps23
  go_wp2_with (fail)
  go_quiet ((go_at_call 42; exact Calls.quiet_of ((letter_c _ _ HX.out).mono (fun e w2 ⟨h1, h2⟩ => ⟨h1, h2.out⟩))))
  have H1 := Aside0.mk (H.out.drawn (w1 := w.drewN nq) ⟨⟨_, rfl⟩⟩)
  have HB1 := Aside0.mk (pw_below_drewN (Below.refl B w) nq)
  clear H
  go_wp2_with (fail)
  go_loopg [3] (r.s.size + 1) (fun g v3 wr => ∃ (i : Int), v3 = .int .i64 i ∧ Aside0 (RdAt B wr b r) ∧ Aside0 (Below B w wr) ∧ r.pos ≤ i ∧ i ≤ (r.s.size : Int) ∧ Aside0 ((r.s.size : Int) + 1 - i ≤ g) ∧ Aside0 (T0 = nameEnd g r.s i))
  case atStart => exact ⟨r.pos, rfl, H1, HB1, by omega, by omega, ⟨by omega⟩, ⟨HT0.out.symm⟩⟩
  case round =>
    clear H1 HB1 p q0 hx c0 c1 c2 c3 c4 c5 c6 c7 hf hc
    obtain ⟨i, rfl, H1, HB, hi0, hi1, HG, HT⟩ := hrel
    obtain ⟨A, c, hr, hh, c0, c1, c2, c3, c4, c5, c6, c7, hf⟩ := H1.out.open
    clear hr hh
    obtain ⟨g, rfl⟩ : ∃ g, gk = g + 1 := ⟨gk - 1, by have := HG.out; omega⟩
    have HG1 : Aside0 ((r.s.size : Int) + 1 - (i + 1) ≤ g) := ⟨by have := HG.out; omega⟩
    have ht := HT.out
    simp only [nameEnd] at ht
    clear HT HG
    by_cases hlt : i < (r.s.size : Int)
    · rw [if_pos hlt] at ht
      have hx := bt_at r.s i
      have HX := Aside0.mk (bt_range r.s i)
      have p : 0 ≤ i := by omega
      have q0 : i < (r.s.size : Int) := hlt
      replace p := eq_true p
      replace q0 := eq_true q0
      cases hlv : letterB (bt r.s i) with
      | true =>
        rw [hlv, Bool.true_or, if_pos rfl] at ht
        have HT := Aside0.mk ht
        have HLV := Aside0.mk hlv
        clear ht hlv
        go_wp2_with (fail)
        refine (letter_c _ _ HX.out).mono ?_
        rintro _ w2 ⟨rfl, hd⟩
        rw [HLV.out]
        have H2 := Aside0.mk (H1.out.drawn hd)
        have HB2 := Aside0.mk (HB.out.trans (drawn_below hd))
        clear hd H1 HB
        go_wp2_with (fail)
        go_roundg g
        case measure => exact Nat.lt_succ_self _
        case rel => exact ⟨i + 1, rfl, H2, HB2, by omega, by omega, HG1, HT⟩
      | false =>
        rw [hlv, Bool.false_or] at ht
        have HLV := Aside0.mk hlv
        clear hlv
        cases hdv : digitB (bt r.s i) with
        | true =>
          rw [hdv, if_pos rfl] at ht
          have HT := Aside0.mk ht
          have HDV := Aside0.mk hdv
          clear ht hdv
          go_wp2_with (fail)
          refine (letter_c _ _ HX.out).mono ?_
          rintro _ w2 ⟨rfl, hd⟩
          rw [HLV.out]
          have H2 := Aside0.mk (H1.out.drawn hd)
          have HB2 := Aside0.mk (HB.out.trans (drawn_below hd))
          obtain ⟨_, _, _, _, e0, e1, e2, e3, e4, e5, e6, e7, ef⟩ := H2.out.open
          clear hd H1 HB
          go_wp2_with (fail)
          refine (digit_c _ _).mono ?_
          rintro _ w3 ⟨rfl, hd⟩
          rw [HDV.out]
          have H3 := Aside0.mk (H2.out.drawn hd)
          have HB3 := Aside0.mk (HB2.out.trans (drawn_below hd))
          clear hd H2 HB2
          go_wp2_with (fail)
          go_roundg g
          case measure => exact Nat.lt_succ_self _
          case rel => exact ⟨i + 1, rfl, H3, HB3, by omega, by omega, HG1, HT⟩
        | false =>
          rw [hdv, if_neg (by decide)] at ht
          have HT := Aside0.mk ht
          have HDV := Aside0.mk hdv
          clear ht hdv
          go_wp2_with (fail)
          refine (letter_c _ _ HX.out).mono ?_
          rintro _ w2 ⟨rfl, hd⟩
          rw [HLV.out]
          have H2 := Aside0.mk (H1.out.drawn hd)
          have HB2 := Aside0.mk (HB.out.trans (drawn_below hd))
          obtain ⟨_, _, _, _, e0, e1, e2, e3, e4, e5, e6, e7, ef⟩ := H2.out.open
          clear hd H1 HB
          go_wp2_with (fail)
          refine (digit_c _ _).mono ?_
          rintro _ w3 ⟨rfl, hd⟩
          rw [HDV.out]
          have H3 := Aside0.mk (H2.out.drawn hd)
          have HB3 := Aside0.mk (HB2.out.trans (drawn_below hd))
          clear hd H2 HB2
          go_wp2_with (fail)
          refine (leaf_c B b _ r 13 i H3.out hl h0 hi0 hi1).mono ?_
          rintro _ w4 ⟨rfl, H4, hb⟩
          have H5 := Aside0.mk H4
          have HB5 := Aside0.mk (HB3.out.trans hb)
          clear H4 hb
          go_wp2_with (fail)
          go_ret
          exact ⟨rfl, by rw [HT.out]; exact H5.out, HB5.out⟩
    · rw [if_neg hlt] at ht
      have HT := Aside0.mk ht
      clear ht
      go_wp2_with (fail)
      refine (leaf_c B b _ r 13 i H1.out hl h0 hi0 hi1).mono ?_
      rintro _ w4 ⟨rfl, H4, hb⟩
      have H5 := Aside0.mk H4
      have HB5 := Aside0.mk (HB.out.trans hb)
      clear H4 hb
      go_wp2_with (fail)
      go_ret
      exact ⟨rfl, by rw [HT.out]; exact H5.out, HB5.out⟩

end Go.Proofs.Ytdknppomjcpihaa.PPy
