/- The reader's small methods: rest, open, blank, comment, join, other. -/
import Derived.Test.YtdknppomjcpihaaText
import Derived.Test.YtdknppomjcpihaaBel
import Derived.RegionTactic
import Derived.BigRegion
import Derived.BigQuiet
namespace Go.Proofs.Ytdknppomjcpihaa.PPy
open Go.RowKit Go.Proofs.YtdknppomjcpihaaW.PrintWords Go.Proofs.YtdknppomjcpihaaW.PrintLast Go.Proofs.YtdknppomjcpihaaW.PrintMore

set_option maxRecDepth 100000 in
set_option maxHeartbeats 1000000 in
theorem rest_c (B b : Nat) (w : World) (r : Rd) (h : RdAt B w b r) (h0 : 0 ≤ r.pos) (h1 : r.pos ≤ (r.s.size : Int)) :
    Calls Try.prog 38 #[.pointer (some ⟨b, 0, none⟩)] w fun en w' => en = .returned (.string (r.s.extract r.pos.toNat r.s.size)) ∧ Drawn0 w w' := by
  obtain ⟨A, c, hr, hh, c0, c1, c2, c3, c4, c5, c6, c7, hf⟩ := h.open
  clear hr hh h
  go_enter Try.func38, Try.ntmps38
  go_wp2_with (fail)
  go_quiet (fail)
  go_wp2_with (fail)
  go_ret
  exact ⟨rfl, Drawn0.step (Drawn0.refl _) _⟩

set_option maxRecDepth 100000 in
set_option maxHeartbeats 1000000 in
theorem open_no (B b : Nat) (w : World) (r : Rd) (h : RdAt B w b r) (hm : r.mark = 0) :
    Calls Try.prog 18 #[.pointer (some ⟨b, 0, none⟩)] w fun en w' => en = .returned (.bool false) ∧ RdAt B w' b r ∧ Bel B w w' := by
  obtain ⟨A, c, hr, hh, c0, c1, c2, c3, c4, c5, c6, c7, hf⟩ := h.open
  have H := Aside0.mk h
  have hm2 : (r.mark == 0) = true := beq_iff_eq.mpr hm
  clear hr hh h hm
  go_enter Try.func18, Try.ntmps18
  go_wp2_with (fail)
  go_ret
  exact ⟨rfl, H.out, Bel.refl _ _⟩

set_option maxRecDepth 100000 in
set_option maxHeartbeats 1000000 in
theorem open_yes (B b : Nat) (w : World) (r : Rd) (h : RdAt B w b r) (hl : r.ev.length ≤ 1000000) (h0 : 0 ≤ r.pos) (h1 : r.pos ≤ (r.s.size : Int)) (hs : r.s.size ≤ 1000000) (hm : 1 ≤ r.mark ∧ r.mark ≤ 4) :
    Calls Try.prog 18 #[.pointer (some ⟨b, 0, none⟩)] w fun en w' => en = .returned (.bool true) ∧ RdAt B w' b (r.text r.pos r.mark 16) ∧ Below B w w' := by
  obtain ⟨A, c, hr, hh, c0, c1, c2, c3, c4, c5, c6, c7, hf⟩ := h.open
  have H := Aside0.mk h
  have hm2 : (r.mark == 0) = false := beq_eq_false_iff_ne.mpr (by omega)
  clear hr hh h
  go_enter Try.func18, Try.ntmps18
  go_wp2_with (fail)
  go_still_tail 10, (by kernel_rfl)
  change wpList _ _ _ _ _ w.drew
  go_wp2_with (fail)
  refine (text_c B b _ r r.pos r.mark 16 (H.out.drawn (Drawn0.step (Drawn0.refl w) 1)) hl h0 (Int.le_refl _) h1 hs hm).mono ?_
  rintro _ w2 ⟨rfl, H2, hb⟩
  have H3 := Aside0.mk H2
  have HB := Aside0.mk ((below_drew (Below.refl B w)).trans hb)
  clear H2 hb
  go_wp2_with (fail)
  go_ret
  exact ⟨rfl, H3.out, HB.out⟩

theorem RdAt.setPos {B b : Nat} {w : World} {r : Rd} (h : RdAt B w b r) (m : Int) : RdAt B (w.setCell ⟨b, 1, none⟩ (.int .i64 m)) b { r with pos := m } := by
  obtain ⟨hB, v, hh, hr⟩ := h
  have hq := R_put50 hh hr 1 (.int .i64 m)
  exact ⟨hB, v, hq.1, hq.2⟩
theorem RdAt.setJoin {B b : Nat} {w : World} {r : Rd} (h : RdAt B w b r) (x : Bool) : RdAt B (w.setCell ⟨b, 5, none⟩ (.bool x)) b { r with join := x } := by
  obtain ⟨hB, v, hh, hr⟩ := h
  have hq := R_put50 hh hr 5 (.bool x)
  exact ⟨hB, v, hq.1, hq.2⟩
theorem RdAt.setDepth {B b : Nat} {w : World} {r : Rd} (h : RdAt B w b r) (x : Int) : RdAt B (w.setCell ⟨b, 4, none⟩ (.int .i64 x)) b { r with depth := x } := by
  obtain ⟨hB, v, hh, hr⟩ := h
  have hq := R_put50 hh hr 4 (.int .i64 x)
  exact ⟨hB, v, hq.1, hq.2⟩

theorem blank_idx (c : Int) (h : 0 ≤ c ∧ c ≤ 255) : decide (Lib.indexByte [32, 9, 12, 13] c.toNat.toUInt8 < 0) = !blankB c := by
  have e : ∀ n : Nat, n < 256 → decide (Lib.indexByte [32, 9, 12, 13] n.toUInt8 < 0) = !blankB (n : Int) := by decide +kernel
  have := e c.toNat (by omega)
  rwa [Int.toNat_of_nonneg h.1] at this

set_option maxRecDepth 100000 in
set_option maxHeartbeats 1000000 in
theorem blank_c (B b : Nat) (w : World) (r : Rd) (h : RdAt B w b r) (h0 : 0 ≤ r.pos) (h1 : r.pos < (r.s.size : Int)) (hs : r.s.size ≤ 1000000) :
    Calls Try.prog 19 #[.pointer (some ⟨b, 0, none⟩)] w fun en w' => en = .returned (.bool (blankB (bt r.s r.pos))) ∧ RdAt B w' b (if blankB (bt r.s r.pos) = true then { r with pos := r.pos + 1 } else r) ∧ Below B w w' ∧ (¬ (blankB (bt r.s r.pos) = true) → Below w.heap.size w w') := by
  have hB := h.1
  obtain ⟨A, c, hr, hh, c0, c1, c2, c3, c4, c5, c6, c7, hf⟩ := h.open
  have H := Aside0.mk h
  have hx := bt_at r.s r.pos
  have hi := blank_idx _ (bt_range r.s r.pos)
  have p : 0 ≤ r.pos := h0
  have q0 : r.pos < (r.s.size : Int) := h1
  replace p := eq_true p
  replace q0 := eq_true q0
  clear hr hh h
  obtain ⟨v, hv⟩ : ∃ v, blankB (bt r.s r.pos) = v := ⟨_, rfl⟩
  rw [hv] at hi ⊢
  clear hv
  cases v with
  | true =>
    simp only [Bool.not_true] at hi
    go_enter Try.func19, Try.ntmps19
    go_wp2_with (fail)
    go_quiet ((go_at_call 16; exact Calls.quiet_of_same (Try.strings_IndexByte _ _ _)))
    go_wp2_with (fail)
    go_ret
    exact ⟨rfl, (H.out.drawn (Drawn0.step (Drawn0.refl _) _)).setPos _, (pw_below_drewN (Below.refl B w) _).setCell (p := ⟨b, 1, none⟩) hB _⟩
  | false =>
    simp only [Bool.not_false] at hi
    go_enter Try.func19, Try.ntmps19
    go_wp2_with (fail)
    go_quiet ((go_at_call 16; exact Calls.quiet_of_same (Try.strings_IndexByte _ _ _)))
    go_wp2_with (fail)
    go_ret
    exact ⟨rfl, H.out.drawn (Drawn0.step (Drawn0.refl _) _), pw_below_drewN (Below.refl B w) _, pw_below_drewN (Below.refl w.heap.size w) _⟩

set_option maxRecDepth 100000 in
set_option maxHeartbeats 1000000 in
theorem comment_no (B b : Nat) (w : World) (r : Rd) (h : RdAt B w b r) (h0 : 0 ≤ r.pos) (h1 : r.pos < (r.s.size : Int)) (hc : ¬ bt r.s r.pos = 35) :
    Calls Try.prog 20 #[.pointer (some ⟨b, 0, none⟩)] w fun en w' => en = .returned (.bool false) ∧ RdAt B w' b r ∧ Bel B w w' := by
  obtain ⟨A, c, hr, hh, c0, c1, c2, c3, c4, c5, c6, c7, hf⟩ := h.open
  have H := Aside0.mk h
  have hx := bt_at r.s r.pos
  have p : 0 ≤ r.pos := h0
  have q0 : r.pos < (r.s.size : Int) := h1
  replace p := eq_true p
  replace q0 := eq_true q0
  have hc2 : (bt r.s r.pos != 35) = true := bne_iff_ne.mpr hc
  clear hr hh h hc
  go_enter Try.func20, Try.ntmps20
  go_wp2_with (fail)
  go_quiet (fail)
  go_wp2_with (fail)
  go_ret
  exact ⟨rfl, H.out.drawn (Drawn0.step (Drawn0.refl _) _), pw_below_drewN (Below.refl B w) _, pw_below_drewN (Below.refl w.heap.size w) _⟩
set_option maxRecDepth 100000 in
set_option maxHeartbeats 1000000 in
theorem comment_yes (B b : Nat) (w : World) (r : Rd) (h : RdAt B w b r) (hl : r.ev.length ≤ 1000000) (h0 : 0 ≤ r.pos) (h1 : r.pos < (r.s.size : Int)) (hc : bt r.s r.pos = 35) :
    Calls Try.prog 20 #[.pointer (some ⟨b, 0, none⟩)] w fun en w' => en = .returned (.bool true) ∧ RdAt B w' b (r.leaf 18 (r.s.size : Int)) ∧ Below B w w' := by
  obtain ⟨A, c, hr, hh, c0, c1, c2, c3, c4, c5, c6, c7, hf⟩ := h.open
  have H := Aside0.mk h
  have hx := bt_at r.s r.pos
  have p : 0 ≤ r.pos := h0
  have q0 : r.pos < (r.s.size : Int) := h1
  replace p := eq_true p
  replace q0 := eq_true q0
  have hc2 : (bt r.s r.pos != 35) = false := bne_eq_false_iff_eq.mpr hc
  clear hr hh h hc
  go_enter Try.func20, Try.ntmps20
  go_wp2_with (fail)
  go_quiet (fail)
  go_wp2_with (fail)
  refine (leaf_c B b _ r 18 (r.s.size : Int) (H.out.drawn (Drawn0.step (Drawn0.refl w) _)) hl h0 (by omega) (Int.le_refl _)).mono ?_
  rintro _ w2 ⟨rfl, H2, hb⟩
  have H3 := Aside0.mk H2
  have HB := Aside0.mk ((pw_below_drewN (Below.refl B w) _).trans hb)
  clear H2 hb
  go_wp2_with (fail)
  go_ret
  exact ⟨rfl, H3.out, HB.out⟩

set_option maxRecDepth 100000 in
set_option maxHeartbeats 1000000 in
theorem other_c (B b : Nat) (w : World) (r : Rd) (h : RdAt B w b r) (hl : r.ev.length ≤ 1000000) (h0 : 0 ≤ r.pos) (h1 : r.pos < (r.s.size : Int)) (hs : r.s.size ≤ 1000000) :
    Calls Try.prog 26 #[.pointer (some ⟨b, 0, none⟩)] w fun en w' => en = .returned (.bool true) ∧ RdAt B w' b (r.leaf 2 (r.pos + 1)) ∧ Below B w w' := by
  obtain ⟨A, c, hr, hh, c0, c1, c2, c3, c4, c5, c6, c7, hf⟩ := h.open
  have H := Aside0.mk h
  clear hr hh h
  go_enter Try.func26, Try.ntmps26
  go_wp2_with (fail)
  refine (leaf_c B b _ r 2 (r.pos + 1) H.out hl h0 (by omega) (by omega)).mono ?_
  rintro _ w2 ⟨rfl, H2, hb⟩
  have H3 := Aside0.mk H2
  have HB := Aside0.mk hb
  clear H2 hb
  go_wp2_with (fail)
  go_ret
  exact ⟨rfl, H3.out, HB.out⟩

end Go.Proofs.Ytdknppomjcpihaa.PPy
