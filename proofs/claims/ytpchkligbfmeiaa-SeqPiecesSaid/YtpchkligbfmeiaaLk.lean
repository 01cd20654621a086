/- A row in memory: how many items, their sum, an item, a place, the item at a place. -/
import Derived.Test.YtpchkligbfmeiaaMd
namespace Go.Proofs.Ytpchkligbfmeiaa.Se
open Go.RowKit Go.Proofs.YtpchkligbfmeiaaW.PrintWords Go.Proofs.YtpchkligbfmeiaaW.PrintLast Go.Proofs.YtpchkligbfmeiaaW.PrintMore
attribute [local go_sem] max2_int min2_int max_two min_two max_three min_three max_four min_four
set_option linter.unusedVariables false
set_option linter.unusedSimpArgs false

abbrev Items := List (ByteArray × Int)
/-- A row of these items behind p. -/
structure SAt (w : World) (B p : Nat) (l : Items) : Prop where
  mk ::
  out : ∃ t v, w.heap[p]? = some (.cells #[v] 48 (0, 0)) ∧ At w t v ∧ toL t = l ∧ FitL l ∧ B ≤ p
theorem SAt.below {w w' : World} {B p : Nat} {l : Items} (h : SAt w B p l) (hb : Below w.heap.size w w') : SAt w' B p l := by
  obtain ⟨t, v, h1, h2, h3, h4, h5⟩ := h.out
  exact ⟨t, v, (hb.block p (blk_lt h1)).trans h1, h2.below hb, h3, h4, h5⟩
theorem SAt.lt {w : World} {B p : Nat} {l : Items} (h : SAt w B p l) : p < w.heap.size := by
  obtain ⟨t, v, h1, _⟩ := h.out
  exact blk_lt h1
theorem SAt.fit {w : World} {B p : Nat} {l : Items} (h : SAt w B p l) : FitL l := by
  obtain ⟨t, v, h1, h2, h3, h4, h5⟩ := h.out
  exact h4

theorem top_c (p : Nat) (a : Option Addr) (w : World) (h : w.heap[p]? = some (.cells #[.pointer a] 48 (0, 0))) : Calls Try.prog 22 #[.pointer (some ⟨p, 0, none⟩)] w fun e w' => e = .returned (.pointer a) ∧ w' = w := by
  have c0 : w.cell? ⟨p, 0, none⟩ = some (.pointer a) := cell_of_row _ _ _ _ _ _ h
  clear h
  go_enter Try.func22, Try.ntmps22
  go_wp2_with (fail)
  go_ret
  exact ⟨rfl, rfl⟩
theorem len_c (p : Nat) (l : Items) (w : World) (B : Nat) (h : SAt w B p l) : Calls Try.prog 12 #[.pointer (some ⟨p, 0, none⟩)] w fun e w' => e = .returned (.int .i64 (l.length : Int)) ∧ w' = w := by
  obtain ⟨t, v, h1, h2, h3, h4, h5⟩ := h.out
  obtain ⟨a, rfl⟩ := h2.ptr
  have H1 := Aside0.mk h1
  have H2 := Aside0.mk h2
  have E : Aside0 (cntT t = (l.length : Int)) := ⟨by rw [cntT_toL, h3]⟩
  clear h h1 h2 h3 h4
  go_enter Try.func12, Try.ntmps12
  go_wp2_with (first
    | (refine (top_c p a w H1.out).mono ?_; rintro _ w9 ⟨rfl, h9⟩; rw [h9]; clear h9 w9)
    | (refine (count_c t (.pointer a) w H2.out).mono ?_; rintro _ w9 ⟨rfl, h9⟩; rw [h9, E.out]; clear h9 w9))
  go_ret
  exact ⟨rfl, rfl⟩
theorem size_c (p : Nat) (l : Items) (w : World) (B : Nat) (h : SAt w B p l) : Calls Try.prog 13 #[.pointer (some ⟨p, 0, none⟩)] w fun e w' => e = .returned (.int .i64 (sumL l)) ∧ w' = w := by
  obtain ⟨t, v, h1, h2, h3, h4, h5⟩ := h.out
  obtain ⟨a, rfl⟩ := h2.ptr
  have H1 := Aside0.mk h1
  have H2 := Aside0.mk h2
  have E : Aside0 (sumT t = sumL l) := ⟨by rw [sumT_toL, h3]⟩
  clear h h1 h2 h3 h4
  go_enter Try.func13, Try.ntmps13
  go_wp2_with (first
    | (refine (top_c p a w H1.out).mono ?_; rintro _ w9 ⟨rfl, h9⟩; rw [h9]; clear h9 w9)
    | (refine (sum_c t (.pointer a) w H2.out).mono ?_; rintro _ w9 ⟨rfl, h9⟩; rw [h9, E.out]; clear h9 w9))
  go_ret
  exact ⟨rfl, rfl⟩
theorem new_c (w : World) : Calls Try.prog 9 #[] w fun e w' => ∃ p, e = .returned (.pointer (some ⟨p, 0, none⟩)) ∧ SAt w' w.heap.size p [] ∧ Below w.heap.size w w' := by
  have hfin : SAt (w.alloc (.cells #[.pointer none] 48)) w.heap.size w.heap.size [] := ⟨⟨.nil, .pointer none, heap_alloc_new _ _, rfl, rfl, ⟨by simp, by simp [sumL], by simp⟩, Nat.le_refl _⟩⟩
  have HF := Aside0.mk hfin
  clear hfin
  go_enter Try.func9, Try.ntmps9
  go_wp2_with (fail)
  go_ret
  exact ⟨_, rfl, HF.out, below_alloc (Below.refl _ w) _⟩

/-- What At tells. -/
def AtR (l : Items) (i : Int) (it : ByteArray) (z er : Int) : Prop :=
  (0 ≤ i ∧ i < (l.length : Int) ∧ l[i.toNat]? = some (it, z) ∧ er = 0) ∨ (¬ (0 ≤ i ∧ i < (l.length : Int)) ∧ it = ByteArray.empty ∧ z = 0 ∧ er = 5)
def AtPost (l : Items) (i : Int) (e : Ending) : Prop := ∃ it z er, e = .returned (.tuple #[.string it, .int .i64 z, .int .i64 er]) ∧ AtR l i it z er

set_option maxRecDepth 100000 in
set_option maxHeartbeats 1000000 in
theorem at_c (p : Nat) (l : Items) (i : Int) (w : World) (B : Nat) (h : SAt w B p l) : Calls Try.prog 14 #[.pointer (some ⟨p, 0, none⟩), .int .i64 i] w fun e w' => AtPost l i e ∧ Below w.heap.size w w' := by
  have H := Aside0.mk h
  have h8 := h.fit.n
  obtain ⟨t, v, h1, h2, h3, h4, h5⟩ := h.out
  obtain ⟨a, rfl⟩ := h2.ptr
  have c0 : w.cell? ⟨p, 0, none⟩ = some (.pointer a) := cell_of_row _ _ _ _ _ _ h1
  have H2 := Aside0.mk h2
  have H3 := Aside0.mk h3
  obtain ⟨n, hn⟩ : ∃ n : Int, (l.length : Int) = n := ⟨_, rfl⟩
  have hlen := fun w' (h : SAt w' B p l) => len_c p l w' B h
  rw [hn] at hlen
  have HLEN := Aside0.mk hlen
  have HN := Aside0.mk hn
  have hfail : Aside0 (¬ (0 ≤ i ∧ i < n) → AtPost l i (.returned (.tuple #[.string ByteArray.empty, .int .i64 0, .int .i64 5]))) := ⟨fun h => ⟨_, _, _, rfl, .inr ⟨by rw [hn]; exact h, rfl, rfl, rfl⟩⟩⟩
  clear h h1 h2 h3 h4 hlen hn
  go_enter Try.func14, Try.ntmps14
  by_cases hi0 : i < 0
  · have HFI := Aside0.mk (hfail.out (by omega))
    clear hfail
    go_wp2_with (fail)
    go_ret3
    exact ⟨HFI.out, Below.refl _ _⟩
  · by_cases hin : n ≤ i
    · have HFI := Aside0.mk (hfail.out (by omega))
      have b1 : decide (n ≤ i) = true := decide_eq_true hin
      clear hfail
      go_wp2_with (refine (HLEN.out w H.out).mono ?_; rintro _ w9 ⟨rfl, h9⟩; rw [h9]; clear h9 w9)
      go_ret3
      exact ⟨HFI.out, Below.refl _ _⟩
    · have b1 : decide (n ≤ i) = false := decide_eq_false hin
      clear hfail
      go_upto_block 1 with (refine (HLEN.out w H.out).mono ?_; rintro _ w9 ⟨rfl, h9⟩; rw [h9]; clear h9 w9)
      go_wp2_with (fail)
      go_loopg [1, 8] ((toL t).length + 1) (fun gk v1 v8 wr => ∃ (x : Tr) (j : Int) (pre post : Items) (q : Option Addr), v1 = .int .i64 j ∧ v8 = .pointer q ∧ wr = w ∧ Aside0 (At w x (.pointer q)) ∧ Aside0 (l = pre ++ (toL x ++ post)) ∧ Aside0 (i = (pre.length : Int) + j) ∧ Aside0 (0 ≤ j ∧ j < ((toL x).length : Int)) ∧ Aside0 ((toL x).length < gk))
      case atStart => exact ⟨t, i, [], [], a, rfl, rfl, rfl, H2, ⟨by rw [H3.out]; simp⟩, ⟨by simp⟩, ⟨by omega, by rw [H3.out, HN.out]; omega⟩, ⟨by omega⟩⟩
      case round =>
        clear H2 H3 c0
        obtain ⟨x, j, pre, post, q, rfl, rfl, rfl, HX, HE, HI, HJ, HG⟩ := hrel
        cases x with
        | nil => exact absurd HJ.out.2 (by have := HJ.out.1; simp only [toL, List.length_nil]; omega)
        | node xl xi xz xr =>
          obtain ⟨b, v1, v2, hq, hb, hxl, hxr⟩ := HX.out
          injection hq with hq
          subst hq
          have d0 : wr.cell? ⟨b, 0, none⟩ = some v1 := cell_of_row _ _ _ _ _ _ hb
          have d1 : wr.cell? ⟨b, 1, none⟩ = some v2 := cell_of_row _ _ _ _ _ _ hb
          have d2 : wr.cell? ⟨b, 2, none⟩ = some (.string xi) := cell_of_row _ _ _ _ _ _ hb
          have d3 : wr.cell? ⟨b, 3, none⟩ = some (.int .i64 xz) := cell_of_row _ _ _ _ _ _ hb
          obtain ⟨q1, rfl⟩ := hxl.ptr
          obtain ⟨q2, rfl⟩ := hxr.ptr
          have HL := Aside0.mk hxl
          have HR := Aside0.mk hxr
          have hc := fun w' h => count_c xl (.pointer q1) w' h
          obtain ⟨k, ek⟩ : ∃ y, cntT xl = y := ⟨_, rfl⟩
          rw [ek] at hc
          have C1 := Aside0.mk hc
          have EK : Aside0 (k = ((toL xl).length : Int)) := ⟨by rw [← ek, cntT_toL]⟩
          have hk8 : k ≤ 8388608 ∧ 0 ≤ k := by
            have e := HE.out
            have := congrArg List.length e
            simp only [List.length_append, toL, List.length_cons] at this
            have := EK.out
            omega
          have hj8 : 0 ≤ j ∧ j ≤ 8388608 := by
            have := HJ.out
            have e := congrArg List.length HE.out
            simp only [List.length_append] at e
            omega
          obtain ⟨gn, rfl⟩ : ∃ gn, gk = gn + 1 := ⟨gk - 1, by have := HG.out; omega⟩
          clear hb hxl hxr hc ek
          by_cases hjk : j < k
          · go_wp2_with (refine (C1.out wr HL.out).mono ?_; rintro _ w9 ⟨rfl, h9⟩; rw [h9]; clear h9 w9)
            go_roundg gn
            case measure => exact Nat.lt_succ_self _
            case rel =>
              exact ⟨xl, j, pre, (xi, xz) :: (toL xr ++ post), q1, rfl, rfl, rfl, HL, ⟨by rw [HE.out]; simp [toL]⟩, HI, ⟨hj8.1, by rw [← EK.out]; exact hjk⟩, ⟨by have := HG.out; simp only [toL, List.length_append, List.length_cons] at this; omega⟩⟩
          · by_cases hjk2 : j = k
            · have b2 : (j == k) = true := beq_iff_eq.mpr hjk2
              have hfin : Aside0 (AtPost l i (.returned (.tuple #[.string xi, .int .i64 xz, .int .i64 0]))) := ⟨⟨xi, xz, 0, rfl, .inl ⟨by omega, by rw [HN.out]; omega, by
                have hi : i.toNat = pre.length + (toL xl).length := by have := HI.out; have := EK.out; omega
                rw [HE.out, hi, List.getElem?_append_right (by omega)]
                simp [toL], rfl⟩⟩⟩
              subst hjk2
              go_upto_region 12 with (refine (C1.out wr HL.out).mono ?_; rintro _ w9 ⟨rfl, h9⟩; rw [h9]; clear h9 w9)
              go_quiet (fail)
              go_wp2_with (fail)
              go_ret3
              exact ⟨hfin.out, pw_below_drewN (Below.refl _ _) _⟩
            · have b2 : (j == k) = false := beq_eq_false_iff_ne.mpr hjk2
              have hw1 : IntKind.i64.wrap (j - k) = j - k := IntWalk.i64_in _ (by omega)
              have hw2 : IntKind.i64.wrap (j - k - 1) = j - k - 1 := IntWalk.i64_in _ (by omega)
              go_wp2_with (refine (C1.out wr HL.out).mono ?_; rintro _ w9 ⟨rfl, h9⟩; rw [h9]; clear h9 w9)
              go_roundg gn
              case measure => exact Nat.lt_succ_self _
              case rel =>
                exact ⟨xr, j - k - 1, pre ++ (toL xl ++ [(xi, xz)]), post, q2, rfl, rfl, rfl, HR, ⟨by rw [HE.out]; simp [toL]⟩, ⟨by have := HI.out; have := EK.out; simp only [List.length_append, List.length_cons, List.length_nil]; omega⟩, ⟨by omega, by have h9 := HJ.out.2; have h10 := EK.out; simp only [toL, List.length_append, List.length_cons] at h9; omega⟩, ⟨by have := HG.out; simp only [toL, List.length_append, List.length_cons] at this; omega⟩⟩
end Go.Proofs.Ytpchkligbfmeiaa.Se
