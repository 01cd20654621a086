/- even: two trees that are nearly as deep; and the whole of even. -/
import Derived.Test.YtpchkligbfmeiaaEa
import Derived.Test.YtpchkligbfmeiaaEb
import Derived.Test.YtpchkligbfmeiaaEc
import Derived.Test.YtpchkligbfmeiaaEd
namespace Go.Proofs.Ytpchkligbfmeiaa.Se
open Go.RowKit Go.Proofs.YtpchkligbfmeiaaW.PrintWords Go.Proofs.YtpchkligbfmeiaaW.PrintLast Go.Proofs.YtpchkligbfmeiaaW.PrintMore
attribute [local go_sem] max2_int min2_int max_two min_two max_three min_three max_four min_four
set_option linter.unusedVariables false
set_option linter.unusedSimpArgs false
set_option maxRecDepth 100000 in
set_option maxHeartbeats 4000000 in
theorem even_5 (l r : Tr) (it : ByteArray) (z : Int) (vl vm vr : Value) (w : World) (hl : At w l vl) (hm : Mid w it z vm) (hr : At w r vr) (hf : FitL (toL l ++ (it, z) :: toL r)) (h1 : ¬ 1 < depT l - depT r ∧ ¬ depT l - depT r < -1) :
    Calls Try.prog 29 #[vl, vm, vr] w fun e w' => Row w w' e (toL l ++ (it, z) :: toL r) := by
  obtain ⟨a1, rfl⟩ := hl.ptr
  obtain ⟨a2, rfl⟩ := hr.ptr
  obtain ⟨a3, rfl⟩ : ∃ a, vm = .pointer a := by obtain ⟨b, rfl, _⟩ := hm; exact ⟨_, rfl⟩
  have HL := Aside0.mk hl
  have HR := Aside0.mk hr
  have HM := Aside0.mk hm
  have HF := Aside0.mk hf
  have hdl := depT_bd l
  have hdr := depT_bd r
  have hnl : cntT l ≤ 8388608 := by rw [cntT_toL]; have := hf.n; simp only [List.length_append] at this; omega
  have hnr : cntT r ≤ 8388608 := by rw [cntT_toL]; have := hf.n; simp only [List.length_append, List.length_cons] at this; omega
  have hd1 := fun w' h => depth_c l (.pointer a1) w' h
  have hd2 := fun w' h => depth_c r (.pointer a2) w' h
  obtain ⟨dl, edl⟩ : ∃ x, depT l = x := ⟨_, rfl⟩
  obtain ⟨dr, edr⟩ : ∃ x, depT r = x := ⟨_, rfl⟩
  rw [edl] at hd1 hdl h1
  rw [edr] at hd2 hdr h1
  have D1 := Aside0.mk hd1
  have D2 := Aside0.mk hd2
  have hw1 : IntKind.i64.wrap (dl - dr) = dl - dr := IntWalk.i64_in _ (by omega)
  clear hl hr hm hf hd1 hd2 edl edr hnl hnr
  obtain ⟨h1a, h1b⟩ := h1
  go_enter Try.func29, Try.ntmps29
  go_wp2_with (first
      | (refine (D1.out w HL.out).mono ?_; rintro _ w9 ⟨rfl, h9⟩; rw [h9]; clear h9 w9)
      | (refine (D2.out w HR.out).mono ?_; rintro _ w9 ⟨rfl, h9⟩; rw [h9]; clear h9 w9)
      | (refine (lnk l r it z (.pointer a1) (.pointer a3) (.pointer a2) w HL.out HM.out HR.out (a := []) (c := []) HF.out (by simp)).mono ?_))
  rintro _ w5 ⟨v5, rfl, h5, hb5⟩
  have H5 := Aside0.mk h5
  have HB := Aside0.mk hb5
  clear h5 hb5
  go_wp2_with (fail)
  go_ret
  exact ⟨_, _, rfl, H5.out, rfl, HB.out⟩
theorem even_c (l r : Tr) (it : ByteArray) (z : Int) (vl vm vr : Value) (w : World) (hl : At w l vl) (hm : Mid w it z vm) (hr : At w r vr) (hf : FitL (toL l ++ (it, z) :: toL r)) :
    Calls Try.prog 29 #[vl, vm, vr] w fun e w' => Row w w' e (toL l ++ (it, z) :: toL r) := by
  by_cases h1 : 1 < depT l - depT r
  · cases l with
    | nil => have := (depT_bd r).1; exact absurd h1 (by simp only [depT]; omega)
    | node ll li lz lr =>
      by_cases h2 : depT ll < depT lr
      · cases lr with
        | nil => have := (depT_bd ll).1; exact absurd h2 (by simp only [depT]; omega)
        | node lrl lri lrz lrr => exact even_1 ll r li lz lrl lrr lri lrz it z vl vm vr w hl hm hr hf h1 h2
      · exact even_2 ll lr r li lz it z vl vm vr w hl hm hr hf h1 h2
  · by_cases h3 : depT l - depT r < -1
    · cases r with
      | nil => have := (depT_bd l).1; exact absurd h3 (by simp only [depT]; omega)
      | node rl ri rz rr =>
        by_cases h2 : depT rr < depT rl
        · cases rl with
          | nil => have := (depT_bd rr).1; exact absurd h2 (by simp only [depT]; omega)
          | node rll rli rlz rlr => exact even_3 l rr ri rz rll rlr rli rlz it z vl vm vr w hl hm hr hf h3 h2
        · exact even_4 l rl rr ri rz it z vl vm vr w hl hm hr hf h3 h2
    · exact even_5 l r it z vl vm vr w hl hm hr hf ⟨h1, h3⟩
end Go.Proofs.Ytpchkligbfmeiaa.Se
