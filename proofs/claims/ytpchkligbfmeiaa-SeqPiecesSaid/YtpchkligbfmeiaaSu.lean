/- A row in memory: a place, the item at a place. -/
import Derived.Test.YtpchkligbfmeiaaLk
namespace Go.Proofs.Ytpchkligbfmeiaa.Se
open Go.RowKit Go.Proofs.YtpchkligbfmeiaaW.PrintWords Go.Proofs.YtpchkligbfmeiaaW.PrintLast Go.Proofs.YtpchkligbfmeiaaW.PrintMore
attribute [local go_sem] max2_int min2_int max_two min_two max_three min_three max_four min_four
set_option linter.unusedVariables false
set_option linter.unusedSimpArgs false

/-- What Sum tells. -/
def SumR (l : Items) (i s er : Int) : Prop :=
  (0 ≤ i ∧ i ≤ (l.length : Int) ∧ s = sumL (l.take i.toNat) ∧ er = 0) ∨ (¬ (0 ≤ i ∧ i ≤ (l.length : Int)) ∧ s = 0 ∧ er = 5)
def SumPost (l : Items) (i : Int) (e : Ending) : Prop := ∃ s er, e = .returned (.tuple #[.int .i64 s, .int .i64 er]) ∧ SumR l i s er
theorem FitL.bd {a b c : Items} (h : FitL (a ++ (b ++ c))) : 0 ≤ sumL a ∧ 0 ≤ sumL b ∧ sumL a + sumL b ≤ 4398046511104 := by
  have h1 := sumL_pos (l := a) fun x hx => h.p x (by simp [hx])
  have h2 := sumL_pos (l := b) fun x hx => h.p x (by simp [hx])
  have h3 := sumL_pos (l := c) fun x hx => h.p x (by simp [hx])
  have h4 := h.s
  rw [sumL_append, sumL_append] at h4
  omega

set_option maxRecDepth 100000 in
set_option maxHeartbeats 1000000 in
theorem sums_c (p : Nat) (l : Items) (i : Int) (w : World) (B : Nat) (h : SAt w B p l) : Calls Try.prog 15 #[.pointer (some ⟨p, 0, none⟩), .int .i64 i] w fun e w' => SumPost l i e ∧ Below w.heap.size w w' := by
  have H := Aside0.mk h
  have hfit := h.fit
  have h8 := hfit.n
  have HFIT := Aside0.mk hfit
  obtain ⟨t, v, h1, h2, h3, h4, h5⟩ := h.out
  obtain ⟨a, rfl⟩ := h2.ptr
  have c0 : w.cell? ⟨p, 0, none⟩ = some (.pointer a) := cell_of_row _ _ _ _ _ _ h1
  have H2 := Aside0.mk h2
  have H3 := Aside0.mk h3
  obtain ⟨n, hn⟩ : ∃ n : Int, (l.length : Int) = n := ⟨_, rfl⟩
  have hlen := fun w' (h : SAt w' B p l) => len_c p l w' B h
  rw [hn] at hlen
  have HLEN := Aside0.mk hlen
  have HN := Aside0.mk hn
  have hfail : Aside0 (¬ (0 ≤ i ∧ i ≤ n) → SumPost l i (.returned (.tuple #[.int .i64 0, .int .i64 5]))) := ⟨fun h => ⟨_, _, rfl, .inr ⟨by rw [hn]; exact h, rfl, rfl⟩⟩⟩
  clear h h1 h2 h3 h4 hlen hn hfit
  go_enter Try.func15, Try.ntmps15
  by_cases hi0 : i < 0
  · have HFI := Aside0.mk (hfail.out (by omega))
    clear hfail
    go_wp2_with (fail)
    go_ret2
    exact ⟨HFI.out, Below.refl _ _⟩
  · by_cases hin : n < i
    · have HFI := Aside0.mk (hfail.out (by omega))
      have b1 : decide (n < i) = true := decide_eq_true hin
      clear hfail
      go_wp2_with (refine (HLEN.out w H.out).mono ?_; rintro _ w9 ⟨rfl, h9⟩; rw [h9]; clear h9 w9)
      go_ret2
      exact ⟨HFI.out, Below.refl _ _⟩
    · have b1 : decide (n < i) = false := decide_eq_false hin
      clear hfail
      go_upto_block 1 with (refine (HLEN.out w H.out).mono ?_; rintro _ w9 ⟨rfl, h9⟩; rw [h9]; clear h9 w9)
      go_wp2_with (fail)
      go_loopg [1, 6, 7] ((toL t).length + 1) (fun gk v1 v6 v7 wx => ∃ (x : Tr) (j s : Int) (pre post : Items) (q : Option Addr) (z : Nat), v1 = .int .i64 j ∧ v6 = .int .i64 s ∧ v7 = .pointer q ∧ wx = w.drewN z ∧ Aside0 (At w x (.pointer q)) ∧ Aside0 (l = pre ++ (toL x ++ post)) ∧ Aside0 (i = (pre.length : Int) + j) ∧ Aside0 (s = sumL pre) ∧ Aside0 (0 ≤ j ∧ j ≤ ((toL x).length : Int)) ∧ Aside0 ((toL x).length < gk))
      case atStart => exact ⟨t, i, 0, [], [], a, 0, rfl, rfl, rfl, rfl, H2, ⟨by rw [H3.out]; simp⟩, ⟨by simp⟩, ⟨rfl⟩, ⟨by omega, by rw [H3.out, HN.out]; omega⟩, ⟨by omega⟩⟩
      case round =>
        clear H2 H3 c0
        obtain ⟨x, j, s, pre, post, q, z, rfl, rfl, rfl, rfl, HX, HE, HI, HS, HJ, HG⟩ := hrel
        cases x with
        | nil =>
          have hq : q = none := by have h : Value.pointer q = .pointer none := HX.out; injection h
          subst hq
          have hfin : Aside0 (SumPost l i (.returned (.tuple #[.int .i64 s, .int .i64 0]))) := ⟨⟨_, _, rfl, .inl ⟨by omega, by rw [HN.out]; omega, by
            have h9 := HJ.out
            simp only [toL, List.length_nil] at h9
            have hi : i.toNat = pre.length := by have := HI.out; omega
            rw [HS.out, hi, HE.out, List.take_left], rfl⟩⟩⟩
          clear HX HE HI HS HJ HG
          go_wp2_with (fail)
          go_ret2
          exact ⟨hfin.out, pw_below_drewN (Below.refl _ _) _⟩
        | node xl xi xz xr =>
          obtain ⟨b, v1, v2, hq, hb, hxl, hxr⟩ := HX.out
          injection hq with hq
          subst hq
          have d0 : w.cell? ⟨b, 0, none⟩ = some v1 := cell_of_row _ _ _ _ _ _ hb
          have d1 : w.cell? ⟨b, 1, none⟩ = some v2 := cell_of_row _ _ _ _ _ _ hb
          have d3 : w.cell? ⟨b, 3, none⟩ = some (.int .i64 xz) := cell_of_row _ _ _ _ _ _ hb
          obtain ⟨q1, rfl⟩ := hxl.ptr
          obtain ⟨q2, rfl⟩ := hxr.ptr
          have HL := Aside0.mk hxl
          have HR := Aside0.mk hxr
          have hc := fun w' h => count_c xl (.pointer q1) w' h
          have hsm := fun w' h => sum_c xl (.pointer q1) w' h
          obtain ⟨k, ek⟩ : ∃ y, cntT xl = y := ⟨_, rfl⟩
          obtain ⟨sk, esk⟩ : ∃ y, sumT xl = y := ⟨_, rfl⟩
          rw [ek] at hc
          rw [esk] at hsm
          have C1 := Aside0.mk hc
          have S1 := Aside0.mk hsm
          have EK : Aside0 (k = ((toL xl).length : Int)) := ⟨by rw [← ek, cntT_toL]⟩
          have ES : Aside0 (sk = sumL (toL xl)) := ⟨by rw [← esk, sumT_toL]⟩
          have hk8 : k ≤ 8388608 ∧ 0 ≤ k := by
            have e := congrArg List.length HE.out
            simp only [List.length_append, toL, List.length_cons] at e
            have := EK.out
            omega
          have hj8 : 0 ≤ j ∧ j ≤ 8388608 := by
            have := HJ.out
            have e := congrArg List.length HE.out
            simp only [List.length_append] at e
            omega
          obtain ⟨gn, rfl⟩ : ∃ gn, gk = gn + 1 := ⟨gk - 1, by have := HG.out; omega⟩
          clear hb hxl hxr hc hsm ek esk
          by_cases hjk : j ≤ k
          · go_wp2_with (refine (C1.out (w.drewN z) (HL.out.move (fun _ _ => rfl))).mono ?_; rintro _ w9 ⟨rfl, h9⟩; rw [h9]; clear h9 w9)
            go_roundg gn
            case measure => exact Nat.lt_succ_self _
            case rel =>
              exact ⟨xl, j, s, pre, (xi, xz) :: (toL xr ++ post), q1, _, rfl, rfl, rfl, rfl, HL, ⟨by rw [HE.out]; simp [toL]⟩, HI, HS, ⟨hj8.1, by rw [← EK.out]; exact hjk⟩, ⟨by have := HG.out; simp only [toL, List.length_append, List.length_cons] at this; omega⟩⟩
          · have hw1 : IntKind.i64.wrap (j - k) = j - k := IntWalk.i64_in _ (by omega)
            have hw2 : IntKind.i64.wrap (j - k - 1) = j - k - 1 := IntWalk.i64_in _ (by omega)
            have hbd := FitL.bd (a := pre) (b := toL xl ++ [(xi, xz)]) (c := toL xr ++ post) (by have h := HFIT.out; rw [HE.out] at h; simpa [toL] using h)
            have hxz : 0 ≤ xz := HFIT.out.p (xi, xz) (by rw [HE.out]; simp [toL])
            have hsk0 : 0 ≤ sk := by rw [ES.out]; exact sumL_pos (fun y hy => HFIT.out.p y (by rw [HE.out]; simp [toL, hy]))
            rw [sumL_append, ← ES.out, ← HS.out] at hbd
            simp only [sumL] at hbd
            have hw3 : IntKind.i64.wrap (sk + xz) = sk + xz := IntWalk.i64_in _ (by omega)
            have hw4 : IntKind.i64.wrap (s + (sk + xz)) = s + (sk + xz) := IntWalk.i64_in _ (by omega)
            clear hbd hxz hsk0
            go_upto_region 11 with (refine (C1.out (w.drewN z) (HL.out.move (fun _ _ => rfl))).mono ?_; rintro _ w9 ⟨rfl, h9⟩; rw [h9]; clear h9 w9)
            go_quiet (exact (S1.out (w.drewN _) (HL.out.move (fun _ _ => rfl))).mono (fun e w9 h9 => ⟨h9.1, _, h9.2⟩))
            go_wp2_with (fail)
            go_roundg gn
            case measure => exact Nat.lt_succ_self _
            case rel =>
              exact ⟨xr, j - k - 1, s + (sk + xz), pre ++ (toL xl ++ [(xi, xz)]), post, q2, _, rfl, rfl, rfl, by first | rfl | rw [World.drewN_drewN], HR, ⟨by rw [HE.out]; simp [toL]⟩, ⟨by have := HI.out; have := EK.out; simp only [List.length_append, List.length_cons, List.length_nil]; omega⟩, ⟨by rw [sumL_append, sumL_append, ← ES.out, ← HS.out]; simp only [sumL]; omega⟩, ⟨by omega, by have h9 := HJ.out.2; have h10 := EK.out; simp only [toL, List.length_append, List.length_cons] at h9; omega⟩, ⟨by have := HG.out; simp only [toL, List.length_append, List.length_cons] at this; omega⟩⟩
end Go.Proofs.Ytpchkligbfmeiaa.Se
