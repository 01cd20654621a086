/- span.Move and the document's, where the edit is odd. -/
import Derived.Test.YtcbddmmoioggaaaMo
namespace Go.Proofs.Ytcbddmmoioggaaa.Sp
open Go.RowKit Go.Shelf Go.Proofs.YtcbddmmoioggaaaW.PrintWords Go.Proofs.YtcbddmmoioggaaaW.PrintLast Go.Proofs.YtcbddmmoioggaaaW.PrintMore
attribute [local go_sem] max2_int min2_int max_two min_two max_three min_three max_four min_four
set_option linter.unusedVariables false
set_option linter.unusedSimpArgs false
theorem odd_lt {x : Int} (h : x < 0) : odd x = true := by unfold odd; simp [h]
theorem odd_gt {x : Int} (h : 1048576 < x) : odd x = true := by unfold odd; simp [h]
theorem odd_no {x : Int} (h : ¬ x < 0) (h2 : ¬ 1048576 < x) : odd x = false := by unfold odd; simp; omega
set_option maxRecDepth 100000 in
set_option maxHeartbeats 4000000 in
theorem move_odd (A : Option Addr) (n c : Nat) (l : List Rg) (e : Ed) (w : World) (ok : ¬ Ok e) (hA : ReadsRow RRg 2 w A n l) (hn : n ≤ 1000) : Calls Try.prog 22 #[.slice A n c, .agg (edc e)] w fun en w' => OfP w (fun x y => x || y) l [] en w' := by
  obtain ⟨wx, hwx⟩ : ∃ q, w.alloc (.cells (edc e) 35) = q := ⟨_, rfl⟩
  obtain ⟨b, hb⟩ : ∃ q, w.heap.size = q := ⟨_, rfl⟩
  have hx : Bx wx b e := by rw [← hwx, ← hb]; exact Bx.of
  have hbx : Below w.heap.size w wx := by rw [← hwx]; exact below_alloc (Below.refl _ w) _
  obtain ⟨e0, e1, e2⟩ := hx
  have HBX := Aside0.mk hbx
  have HI : Aside0 (((e.s.size : Nat) : Int) = e.i) := ⟨rfl⟩
  have HC := Aside0.mk (norm_c A n c l wx (rgs_below hA hbx) (by omega))
  have HOK := Aside0.mk ok
  have h0i : ¬ ((e.s.size : Nat) : Int) < 0 := by omega
  clear ok hbx hA
  obtain ⟨op, hop⟩ : ∃ q, odd e.p = q := ⟨_, rfl⟩
  obtain ⟨od, hod⟩ : ∃ q, odd e.d = q := ⟨_, rfl⟩
  obtain ⟨oi, hoi⟩ : ∃ q, odd ((e.s.size : Nat) : Int) = q := ⟨_, rfl⟩
  have HO1 := Aside0.mk hop
  have HO2 := Aside0.mk hod
  have HO3 := Aside0.mk hoi
  have hnot : op = false → od = false → oi = true := by
    rintro rfl rfl
    cases oi with
    | true => rfl
    | false =>
      exfalso
      unfold odd at hop hod hoi
      simp at hop hod hoi
      exact HOK.out ⟨by omega, by omega, by rw [← HI.out]; omega⟩
  clear hop hod hoi h0i
  cases op
  case true =>
    clear hnot
    go_enter Try.func22, Try.ntmps22
    go_wp2_with (first | (refine (odd34_c _ _).mono ?_; rintro _ w9 ⟨rfl, h9⟩; rw [h9]; clear h9 w9; first | rw [HO1.out] | rw [HO2.out] | rw [HO3.out]) | (fail))
    refine HC.out.mono ?_
    rintro _ w1 ⟨v, R, rfl, h1, h2, h3, h4, h5⟩
    have H1 := Aside0.mk h1
    have H2 := Aside0.mk h2
    have H3 := Aside0.mk h3
    have H4 := Aside0.mk h4
    have H5 := Aside0.mk h5
    clear h1 h2 h3 h4 h5
    go_wp2_with (fail)
    go_ret
    exact ⟨v, R, rfl, kd_mono H1.out (fun j hj => Nat.le_trans HBX.out.size (H1.out.1 j hj)), H2.out, H3.out, H4.out, HBX.out.trans (H5.out.mono HBX.out.size)⟩
  case false =>
    cases od
    case true =>
      clear hnot
      go_enter Try.func22, Try.ntmps22
      go_wp2_with (first | (refine (odd34_c _ _).mono ?_; rintro _ w9 ⟨rfl, h9⟩; rw [h9]; clear h9 w9; first | rw [HO1.out] | rw [HO2.out] | rw [HO3.out]) | (fail))
      refine HC.out.mono ?_
      rintro _ w1 ⟨v, R, rfl, h1, h2, h3, h4, h5⟩
      have H1 := Aside0.mk h1
      have H2 := Aside0.mk h2
      have H3 := Aside0.mk h3
      have H4 := Aside0.mk h4
      have H5 := Aside0.mk h5
      clear h1 h2 h3 h4 h5
      go_wp2_with (fail)
      go_ret
      exact ⟨v, R, rfl, kd_mono H1.out (fun j hj => Nat.le_trans HBX.out.size (H1.out.1 j hj)), H2.out, H3.out, H4.out, HBX.out.trans (H5.out.mono HBX.out.size)⟩
    case false =>
      obtain rfl := hnot rfl rfl
      clear hnot
      go_enter Try.func22, Try.ntmps22
      go_wp2_with (first | (refine (odd34_c _ _).mono ?_; rintro _ w9 ⟨rfl, h9⟩; rw [h9]; clear h9 w9; first | rw [HO1.out] | rw [HO2.out] | rw [HO3.out]) | (fail))
      refine HC.out.mono ?_
      rintro _ w1 ⟨v, R, rfl, h1, h2, h3, h4, h5⟩
      have H1 := Aside0.mk h1
      have H2 := Aside0.mk h2
      have H3 := Aside0.mk h3
      have H4 := Aside0.mk h4
      have H5 := Aside0.mk h5
      clear h1 h2 h3 h4 h5
      go_wp2_with (fail)
      go_ret
      exact ⟨v, R, rfl, kd_mono H1.out (fun j hj => Nat.le_trans HBX.out.size (H1.out.1 j hj)), H2.out, H3.out, H4.out, HBX.out.trans (H5.out.mono HBX.out.size)⟩
set_option maxRecDepth 100000 in
set_option maxHeartbeats 4000000 in
theorem rmove_odd (A : Option Addr) (n c : Nat) (l : List Rg) (e : Ed) (w : World) (ok : ¬ Ok e) (hA : ReadsRow RRg 2 w A n l) (hn : n ≤ 1000) : Calls Try.prog 23 #[.slice A n c, .agg (edc e)] w fun en w' => OfP w (fun x y => x || y) l [] en w' := by
  obtain ⟨wx, hwx⟩ : ∃ q, w.alloc (.cells (edc e) 35) = q := ⟨_, rfl⟩
  obtain ⟨b, hb⟩ : ∃ q, w.heap.size = q := ⟨_, rfl⟩
  have hx : Bx wx b e := by rw [← hwx, ← hb]; exact Bx.of
  have hbx : Below w.heap.size w wx := by rw [← hwx]; exact below_alloc (Below.refl _ w) _
  obtain ⟨e0, e1, e2⟩ := hx
  have HBX := Aside0.mk hbx
  have HI : Aside0 (((e.s.size : Nat) : Int) = e.i) := ⟨rfl⟩
  have HC := Aside0.mk (rof0_c A n c l none 0 0 [] wx (rgs_below hA hbx) (no_rows wx) (by omega))
  have HOK := Aside0.mk ok
  have h0i : ¬ ((e.s.size : Nat) : Int) < 0 := by omega
  clear ok hbx hA
  by_cases c0 : e.p < 0
  · clear h0i
    go_enter Try.func23, Try.ntmps23
    go_wp2_with (fail)
    refine HC.out.mono ?_
    rintro _ w1 ⟨v, R, rfl, h1, h2, h3, h4, h5⟩
    have H1 := Aside0.mk h1
    have H2 := Aside0.mk h2
    have H3 := Aside0.mk h3
    have H4 := Aside0.mk h4
    have H5 := Aside0.mk h5
    clear h1 h2 h3 h4 h5
    go_wp2_with (fail)
    go_ret
    exact ⟨v, R, rfl, kd_mono H1.out (fun j hj => Nat.le_trans HBX.out.size (H1.out.1 j hj)), H2.out, H3.out, H4.out, HBX.out.trans (H5.out.mono HBX.out.size)⟩
  by_cases c1 : (1048576 : Int) < e.p
  · clear h0i
    go_enter Try.func23, Try.ntmps23
    go_wp2_with (fail)
    refine HC.out.mono ?_
    rintro _ w1 ⟨v, R, rfl, h1, h2, h3, h4, h5⟩
    have H1 := Aside0.mk h1
    have H2 := Aside0.mk h2
    have H3 := Aside0.mk h3
    have H4 := Aside0.mk h4
    have H5 := Aside0.mk h5
    clear h1 h2 h3 h4 h5
    go_wp2_with (fail)
    go_ret
    exact ⟨v, R, rfl, kd_mono H1.out (fun j hj => Nat.le_trans HBX.out.size (H1.out.1 j hj)), H2.out, H3.out, H4.out, HBX.out.trans (H5.out.mono HBX.out.size)⟩
  by_cases c2 : e.d < 0
  · clear h0i
    go_enter Try.func23, Try.ntmps23
    go_wp2_with (fail)
    refine HC.out.mono ?_
    rintro _ w1 ⟨v, R, rfl, h1, h2, h3, h4, h5⟩
    have H1 := Aside0.mk h1
    have H2 := Aside0.mk h2
    have H3 := Aside0.mk h3
    have H4 := Aside0.mk h4
    have H5 := Aside0.mk h5
    clear h1 h2 h3 h4 h5
    go_wp2_with (fail)
    go_ret
    exact ⟨v, R, rfl, kd_mono H1.out (fun j hj => Nat.le_trans HBX.out.size (H1.out.1 j hj)), H2.out, H3.out, H4.out, HBX.out.trans (H5.out.mono HBX.out.size)⟩
  by_cases c3 : (1048576 : Int) < e.d
  · clear h0i
    go_enter Try.func23, Try.ntmps23
    go_wp2_with (fail)
    refine HC.out.mono ?_
    rintro _ w1 ⟨v, R, rfl, h1, h2, h3, h4, h5⟩
    have H1 := Aside0.mk h1
    have H2 := Aside0.mk h2
    have H3 := Aside0.mk h3
    have H4 := Aside0.mk h4
    have H5 := Aside0.mk h5
    clear h1 h2 h3 h4 h5
    go_wp2_with (fail)
    go_ret
    exact ⟨v, R, rfl, kd_mono H1.out (fun j hj => Nat.le_trans HBX.out.size (H1.out.1 j hj)), H2.out, H3.out, H4.out, HBX.out.trans (H5.out.mono HBX.out.size)⟩
  by_cases c4 : (1048576 : Int) < ((e.s.size : Nat) : Int)
  · clear h0i
    go_enter Try.func23, Try.ntmps23
    go_wp2_with (fail)
    refine HC.out.mono ?_
    rintro _ w1 ⟨v, R, rfl, h1, h2, h3, h4, h5⟩
    have H1 := Aside0.mk h1
    have H2 := Aside0.mk h2
    have H3 := Aside0.mk h3
    have H4 := Aside0.mk h4
    have H5 := Aside0.mk h5
    clear h1 h2 h3 h4 h5
    go_wp2_with (fail)
    go_ret
    exact ⟨v, R, rfl, kd_mono H1.out (fun j hj => Nat.le_trans HBX.out.size (H1.out.1 j hj)), H2.out, H3.out, H4.out, HBX.out.trans (H5.out.mono HBX.out.size)⟩
  exact absurd ⟨by omega, by omega, by rw [← HI.out]; omega⟩ HOK.out
end Go.Proofs.Ytcbddmmoioggaaa.Sp
