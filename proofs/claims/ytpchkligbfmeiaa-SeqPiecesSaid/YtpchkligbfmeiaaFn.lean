/- A row in memory: the item at a place. -/
import Derived.Test.YtpchkligbfmeiaaSu
namespace Go.Proofs.Ytpchkligbfmeiaa.Se
open Go.RowKit Go.Proofs.YtpchkligbfmeiaaW.PrintWords Go.Proofs.YtpchkligbfmeiaaW.PrintLast Go.Proofs.YtpchkligbfmeiaaW.PrintMore
attribute [local go_sem] max2_int min2_int max_two min_two max_three min_three max_four min_four
set_option linter.unusedVariables false
set_option linter.unusedSimpArgs false

/-- What Find tells. -/
def FindR (l : Items) (f a o er : Int) : Prop :=
  (0 ≤ f ∧ f < sumL l ∧ er = 0 ∧ ∃ pre it z post, l = pre ++ (it, z) :: post ∧ a = (pre.length : Int) ∧ f = sumL pre + o ∧ 0 ≤ o ∧ o < z) ∨ (¬ (0 ≤ f ∧ f < sumL l) ∧ a = 0 ∧ o = 0 ∧ er = 5)
def FindPost (l : Items) (f : Int) (e : Ending) : Prop := ∃ a o er, e = .returned (.tuple #[.int .i64 a, .int .i64 o, .int .i64 er]) ∧ FindR l f a o er

set_option maxRecDepth 100000 in
set_option maxHeartbeats 1000000 in
theorem find_c (p : Nat) (l : Items) (f : Int) (w : World) (B : Nat) (h : SAt w B p l) : Calls Try.prog 16 #[.pointer (some ⟨p, 0, none⟩), .int .i64 f] w fun e w' => FindPost l f e ∧ Below w.heap.size w w' := by
  have H := Aside0.mk h
  have hfit := h.fit
  have h8 := hfit.n
  have HFIT := Aside0.mk hfit
  obtain ⟨t, v, h1, h2, h3, h4, h5⟩ := h.out
  obtain ⟨a, rfl⟩ := h2.ptr
  have c0 : w.cell? ⟨p, 0, none⟩ = some (.pointer a) := cell_of_row _ _ _ _ _ _ h1
  have H2 := Aside0.mk h2
  have H3 := Aside0.mk h3
  obtain ⟨n, hn⟩ : ∃ n : Int, sumL l = n := ⟨_, rfl⟩
  have hs8 : n ≤ 4398046511104 := by rw [← hn]; exact hfit.s
  have hsize := fun w' (h : SAt w' B p l) => size_c p l w' B h
  rw [hn] at hsize
  have HSIZE := Aside0.mk hsize
  have HN := Aside0.mk hn
  have hfail : Aside0 (¬ (0 ≤ f ∧ f < n) → FindPost l f (.returned (.tuple #[.int .i64 0, .int .i64 0, .int .i64 5]))) := ⟨fun h => ⟨_, _, _, rfl, .inr ⟨by rw [hn]; exact h, rfl, rfl, rfl⟩⟩⟩
  clear h h1 h2 h3 h4 hsize hn hfit
  go_enter Try.func16, Try.ntmps16
  by_cases hi0 : f < 0
  · have HFI := Aside0.mk (hfail.out (by omega))
    clear hfail
    go_wp2_with (fail)
    go_ret3
    exact ⟨HFI.out, Below.refl _ _⟩
  · by_cases hin : n ≤ f
    · have HFI := Aside0.mk (hfail.out (by omega))
      have b1 : decide (n ≤ f) = true := decide_eq_true hin
      clear hfail
      go_wp2_with (refine (HSIZE.out w H.out).mono ?_; rintro _ w9 ⟨rfl, h9⟩; rw [h9]; clear h9 w9)
      go_ret3
      exact ⟨HFI.out, Below.refl _ _⟩
    · have b1 : decide (n ≤ f) = false := decide_eq_false hin
      clear hfail
      go_upto_block 1 with (refine (HSIZE.out w H.out).mono ?_; rintro _ w9 ⟨rfl, h9⟩; rw [h9]; clear h9 w9)
      go_wp2_with (fail)
      go_loopg [1, 7, 8] ((toL t).length + 1) (fun gk v1 v7 v8 wx => ∃ (x : Tr) (j s : Int) (pre post : Items) (q : Option Addr) (z : Nat), v1 = .int .i64 j ∧ v7 = .int .i64 s ∧ v8 = .pointer q ∧ wx = w.drewN z ∧ Aside0 (At w x (.pointer q)) ∧ Aside0 (l = pre ++ (toL x ++ post)) ∧ Aside0 (f = sumL pre + j) ∧ Aside0 (s = (pre.length : Int)) ∧ Aside0 (0 ≤ j ∧ j < sumL (toL x)) ∧ Aside0 ((toL x).length < gk))
      case atStart => exact ⟨t, f, 0, [], [], a, 0, rfl, rfl, rfl, rfl, H2, ⟨by rw [H3.out]; simp⟩, ⟨by simp [sumL]⟩, ⟨rfl⟩, ⟨by omega, by rw [H3.out, HN.out]; omega⟩, ⟨by omega⟩⟩
      case round =>
        clear H2 H3 c0
        obtain ⟨x, j, s, pre, post, q, z, rfl, rfl, rfl, rfl, HX, HE, HI, HS, HJ, HG⟩ := hrel
        cases x with
        | nil => exact absurd HJ.out.2 (by have := HJ.out.1; simp only [toL, sumL]; omega)
        | node xl xi xz xr =>
          obtain ⟨b, v1, v2, hq, hb, hxl, hxr⟩ := HX.out
          injection hq with hq
          subst hq
          have d0 : w.cell? ⟨b, 0, none⟩ = some v1 := cell_of_row _ _ _ _ _ _ hb
          have d1 : w.cell? ⟨b, 1, none⟩ = some v2 := cell_of_row _ _ _ _ _ _ hb
          have d3 : w.cell? ⟨b, 3, none⟩ = some (.int .i64 xz) := cell_of_row _ _ _ _ _ _ hb
          obtain ⟨q1, rfl⟩ := hxl.ptr
          obtain ⟨q2, rfl⟩ := hxr.ptr
          have HL := Aside0.mk hxl
          have HR := Aside0.mk hxr
          have hc := fun w' h => count_c xl (.pointer q1) w' h
          have hsm := fun w' h => sum_c xl (.pointer q1) w' h
          obtain ⟨k, ek⟩ : ∃ y, cntT xl = y := ⟨_, rfl⟩
          obtain ⟨sk, esk⟩ : ∃ y, sumT xl = y := ⟨_, rfl⟩
          rw [ek] at hc
          rw [esk] at hsm
          have C1 := Aside0.mk hc
          have S1 := Aside0.mk hsm
          have EK : Aside0 (k = ((toL xl).length : Int)) := ⟨by rw [← ek, cntT_toL]⟩
          have ES : Aside0 (sk = sumL (toL xl)) := ⟨by rw [← esk, sumT_toL]⟩
          have hk8 : k ≤ 8388608 ∧ 0 ≤ k ∧ s ≤ 8388608 ∧ 0 ≤ s := by
            have e := congrArg List.length HE.out
            simp only [List.length_append, toL, List.length_cons] at e
            have := EK.out
            have := HS.out
            omega
          have hbd := FitL.bd (a := pre) (b := toL xl ++ [(xi, xz)]) (c := toL xr ++ post) (by have h := HFIT.out; rw [HE.out] at h; simpa [toL] using h)
          have hxz : 0 ≤ xz := HFIT.out.p (xi, xz) (by rw [HE.out]; simp [toL])
          have hsk0 : 0 ≤ sk := by rw [ES.out]; exact sumL_pos (fun y hy => HFIT.out.p y (by rw [HE.out]; simp [toL, hy]))
          rw [sumL_append, ← ES.out] at hbd
          simp only [sumL] at hbd
          have hj0 := HJ.out.1
          have hj8 : j ≤ 4398046511104 := by have := HI.out; omega
          have hw3 : IntKind.i64.wrap (sk + xz) = sk + xz := IntWalk.i64_in _ (by omega)
          have hJ2 : j < sk + xz + sumL (toL xr) := by have h := HJ.out.2; have := ES.out; simp only [toL, sumL_append, sumL] at h; omega
          have HJ2 := Aside0.mk hJ2
          obtain ⟨gn, rfl⟩ : ∃ gn, gk = gn + 1 := ⟨gk - 1, by have := HG.out; omega⟩
          clear hb hxl hxr hc hsm ek esk hbd hJ2
          by_cases hjk : j < sk
          · go_wp2_with (refine (S1.out (w.drewN z) (HL.out.move (fun _ _ => rfl))).mono ?_; rintro _ w9 ⟨rfl, h9⟩; rw [h9]; clear h9 w9)
            go_roundg gn
            case measure => exact Nat.lt_succ_self _
            case rel =>
              exact ⟨xl, j, s, pre, (xi, xz) :: (toL xr ++ post), q1, _, rfl, rfl, rfl, rfl, HL, ⟨by rw [HE.out]; simp [toL]⟩, HI, HS, ⟨hj0, by rw [← ES.out]; exact hjk⟩, ⟨by have := HG.out; simp only [toL, List.length_append, List.length_cons] at this; omega⟩⟩
          · by_cases hjk2 : j < sk + xz
            · have hw1 : IntKind.i64.wrap (j - sk) = j - sk := IntWalk.i64_in _ (by omega)
              have hw2 : IntKind.i64.wrap (s + k) = s + k := IntWalk.i64_in _ (by omega)
              have hfin : Aside0 (FindPost l f (.returned (.tuple #[.int .i64 (s + k), .int .i64 (j - sk), .int .i64 0]))) := ⟨⟨_, _, _, rfl, .inl ⟨by omega, by rw [HN.out]; omega, rfl, pre ++ toL xl, xi, xz, toL xr ++ post, by rw [HE.out]; simp [toL], by have := HS.out; have := EK.out; simp only [List.length_append]; omega, by rw [sumL_append, ← ES.out]; have := HI.out; omega, by omega, by omega⟩⟩⟩
              go_wp2_with (first
                | (refine (S1.out (w.drewN z) (HL.out.move (fun _ _ => rfl))).mono ?_; rintro _ w9 ⟨rfl, h9⟩; rw [h9]; clear h9 w9)
                | (refine (C1.out (w.drewN z) (HL.out.move (fun _ _ => rfl))).mono ?_; rintro _ w9 ⟨rfl, h9⟩; rw [h9]; clear h9 w9))
              go_ret3
              exact ⟨hfin.out, pw_below_drewN (Below.refl _ _) _⟩
            · have hw1 : IntKind.i64.wrap (j - sk) = j - sk := IntWalk.i64_in _ (by omega)
              have hw2 : IntKind.i64.wrap (k + 1) = k + 1 := IntWalk.i64_in _ (by omega)
              have hw4 : IntKind.i64.wrap (s + (k + 1)) = s + (k + 1) := IntWalk.i64_in _ (by omega)
              have hw5 : IntKind.i64.wrap (j - sk - xz) = j - sk - xz := IntWalk.i64_in _ (by omega)
              go_upto_region 9 with (first
                | (refine (S1.out (w.drewN z) (HL.out.move (fun _ _ => rfl))).mono ?_; rintro _ w9 ⟨rfl, h9⟩; rw [h9]; clear h9 w9)
                | (refine (C1.out (w.drewN z) (HL.out.move (fun _ _ => rfl))).mono ?_; rintro _ w9 ⟨rfl, h9⟩; rw [h9]; clear h9 w9))
              go_quiet (fail)
              go_wp2_with (fail)
              go_roundg gn
              case measure => exact Nat.lt_succ_self _
              case rel =>
                exact ⟨xr, j - sk - xz, s + (k + 1), pre ++ (toL xl ++ [(xi, xz)]), post, q2, _, rfl, rfl, rfl, by first | rfl | rw [World.drewN_drewN], HR, ⟨by rw [HE.out]; simp [toL]⟩, ⟨by rw [sumL_append, sumL_append, ← ES.out]; simp only [sumL]; have := HI.out; omega⟩, ⟨by have := HS.out; have := EK.out; simp only [List.length_append, List.length_cons, List.length_nil]; omega⟩, ⟨by omega, by have := HJ2.out; omega⟩, ⟨by have := HG.out; simp only [toL, List.length_append, List.length_cons] at this; omega⟩⟩
end Go.Proofs.Ytpchkligbfmeiaa.Se
