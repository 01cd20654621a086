/- BuildBack walked. -/
import Derived.Test.YtfaibpdoalbkpaaBp
namespace Go.Proofs.Ytfaibpdoalbkpaa.Bu
open Go.RowKit Go.Proofs.YtfaibpdoalbkpaaW.PrintWords Go.Proofs.YtfaibpdoalbkpaaW.PrintLast Go.Proofs.YtfaibpdoalbkpaaW.PrintMore
attribute [local go_sem] max2_int min2_int max_two min_two max_three min_three max_four min_four
set_option linter.unusedVariables false
set_option linter.unusedSimpArgs false
theorem goC_0 (st : List (Int × Int)) : ∀ (l : List Nd), goC st l = 0 ∨ goC st l = 60
  | [] => .inl rfl
  | x :: r => by
    rw [goC_cons]
    by_cases h1 : x.d < 1 ∨ (st.length : Int) < x.d
    · rw [if_pos h1]; exact .inr rfl
    rw [if_neg h1]
    cases h : st[x.d.toNat - 1]? with
    | none => exact .inr rfl
    | some p =>
      dsimp only
      by_cases h3 : x.f < p.1 ∨ x.t < x.f ∨ p.2 < x.t
      · rw [if_pos h3]; exact .inr rfl
      rw [if_neg h3]
      exact goC_0 _ r
theorem check_0 {h : Nd} {r : List Nd} (hc : checkB (h :: r) h.t = 0) : h = ⟨1, 0, h.t, 0⟩ ∧ 0 ≤ h.t ∧ h.t ≤ 1048576 ∧ goC [(0, h.t)] r = 0 := by
  have hb : checkB (h :: r) h.t = (if h.t < 0 ∨ 1048576 < h.t ∨ h.k ≠ 1 ∨ h.f ≠ 0 ∨ h.t ≠ h.t ∨ h.d ≠ 0 then 60 else goC [(0, h.t)] r) := rfl
  rw [hb] at hc
  by_cases hx : h.t < 0 ∨ 1048576 < h.t ∨ h.k ≠ 1 ∨ h.f ≠ 0 ∨ h.t ≠ h.t ∨ h.d ≠ 0
  · rw [if_pos hx] at hc; cases hc
  rw [if_neg hx] at hc
  obtain ⟨k, f, t, d⟩ := h
  dsimp only at hx hc ⊢
  have e1 : k = 1 := by omega
  have e2 : f = 0 := by omega
  have e3 : d = 0 := by omega
  subst e1
  subst e2
  subst e3
  exact ⟨rfl, by omega, by omega, hc⟩
/-- Rows of the call's own, each within its own block alone. -/
theorem E_turn {w w1 : World} {ok : Nat → Prop} {v : Value} {xs : List Ev} (h : kE.R 41 w 0 ok v xs) (hm : ∀ k, v.ownBlock = some k → k < w.heap.size → w1.heap[k]? = w.heap[k]?) : kE.R 41 w1 0 ok v xs := by
  obtain ⟨h1, inner, hown, hr⟩ := h
  have ht : kE.R 41 w 0 (fun k => v.ownBlock = some k) v xs := ⟨fun k hk => hk, inner, hown, hr⟩
  obtain ⟨_, inner', hown', hr'⟩ := Kd.R_step ht (w1 := w1) (fun k hk hlt => hm k hk hlt)
  exact ⟨h1, inner', hown', hr'⟩
theorem N_turn {w w1 : World} {ok : Nat → Prop} {v : Value} {xs : List Nd} (h : kN.R 38 w 0 ok v xs) (hm : ∀ k, v.ownBlock = some k → k < w.heap.size → w1.heap[k]? = w.heap[k]?) : kN.R 38 w1 0 ok v xs := by
  obtain ⟨h1, inner, hown, hr⟩ := h
  have ht : kN.R 38 w 0 (fun k => v.ownBlock = some k) v xs := ⟨fun k hk => hk, inner, hown, hr⟩
  obtain ⟨_, inner', hown', hr'⟩ := Kd.R_step ht (w1 := w1) (fun k hk hlt => hm k hk hlt)
  exact ⟨h1, inner', hown', hr'⟩

structure TwoR (w0 w : World) (vE vS : Value) (E : List Ev) (S : List Nd) : Prop where
  rE : kE.R 41 w 0 (fun j => w0.heap.size ≤ j) vE E
  rS : kN.R 38 w 0 (fun j => w0.heap.size ≤ j) vS S
  ne : ∀ j, vE.ownBlock = some j → vS.ownBlock ≠ some j
  b : Below w0.heap.size w0 w
theorem TwoR.below {w0 w w1 : World} {vE vS : Value} {E : List Ev} {S : List Nd} (h : TwoR w0 w vE vS E S) (hb : Below w.heap.size w w1) : TwoR w0 w1 vE vS E S :=
  ⟨Kd.R_below h.rE hb, Kd.R_below h.rS hb, h.ne, h.b.trans (hb.mono h.b.size)⟩
theorem grown_below {w0 w w1 : World} {v : Value} (hb : Below w0.heap.size w0 w) (hg : w.grownBy w1 v.ownBlock) (h : ∀ k, v.ownBlock = some k → w0.heap.size ≤ k) : Below w0.heap.size w0 w1 :=
  hb.grown hg hb.size (fun k e => h k e)
theorem TwoR.addE {w0 w w1 : World} {vE v1 vS : Value} {E E' : List Ev} {S : List Nd} (h : TwoR w0 w vE vS E S) (hR : kE.R 41 w1 0 (fun j => w0.heap.size ≤ j) v1 E') (hg : w.grownBy w1 vE.ownBlock) (hat : v1.ownBlock = vE.ownBlock ∨ ∃ b, v1.ownBlock = some b ∧ w.heap.size ≤ b) : TwoR w0 w1 v1 vS E' S := by
  refine ⟨hR, N_turn h.rS (fun k hk hlt => hg.block k hlt (fun e => h.ne k e.symm hk)), fun j hj => ?_, grown_below h.b hg h.rE.1⟩
  rcases hat with hat | ⟨b, hb, hle⟩
  · rw [hat] at hj; exact h.ne j hj
  · rw [hb] at hj
    injection hj with hj
    intro hs
    have := Kd.R_lt h.rS j hs
    omega
theorem TwoR.addS {w0 w w1 : World} {vE v1 vS : Value} {E : List Ev} {S S' : List Nd} (h : TwoR w0 w vE vS E S) (hR : kN.R 38 w1 0 (fun j => w0.heap.size ≤ j) v1 S') (hg : w.grownBy w1 vS.ownBlock) (hat : v1.ownBlock = vS.ownBlock ∨ ∃ b, v1.ownBlock = some b ∧ w.heap.size ≤ b) : TwoR w0 w1 vE v1 E S' := by
  refine ⟨E_turn h.rE (fun k hk hlt => hg.block k hlt (fun e => h.ne k hk e.symm)), hR, fun j hj => ?_, grown_below h.b hg h.rS.1⟩
  rcases hat with hat | ⟨b, hb, hle⟩
  · rw [hat]; exact h.ne j hj
  · rw [hb]
    intro hs
    injection hs with hs
    have := Kd.R_lt h.rE j hj
    omega
theorem TwoR.cut {w0 w : World} {vE : Value} {E : List Ev} {S : List Nd} {x : Nd} {A : Option Addr} {s c : Nat} (h : TwoR w0 w vE (.slice A (s + 1) c) E (S ++ [x])) (hs : S.length = s) : TwoR w0 w vE (.slice A s c) E S := by
  refine ⟨h.rE, ?_, ?_, h.b⟩
  · have h2 := Kd.R_take (m := s) h.rS (by simp; omega)
    rw [List.take_append_of_le_length (by omega), List.take_of_length_le (by omega)] at h2
    exact h2
  · intro j hj hk
    refine h.ne j hj ?_
    cases A with
    | none => cases hk
    | some a => exact hk
theorem snoc_of {α : Type} {S : List α} {s : Nat} (h : S.length = s + 1) : ∃ S' x, S = S' ++ [x] ∧ S'.length = s := by
  have hne : S ≠ [] := by intro hn; rw [hn] at h; cases h
  refine ⟨S.dropLast, S.getLast hne, (List.dropLast_concat_getLast hne).symm, by simp [h]⟩
set_option maxRecDepth 100000 in
set_option maxHeartbeats 8000000 in
theorem back_c (A : Option Addr) (n c : Nat) (l : List Nd) (w : World) (hX : kN.C w A n l) (hnc : n ≤ c) : Calls Try.prog 7 #[.slice A n c] w fun e w' => WkP w e w' := by
  have hln : l.length = n := hX.1
  have HX := Aside0.mk hX
  have HLN := Aside0.mk hln
  clear hX hln
  by_cases hn3 : (1000 : Int) < (n : Int)
  · go_enter Try.func7, Try.ntmps7
    go_upto_region 1 with (fail)
    go_quiet (fail)
    go_wp2_with (refine (wakes_c _).mono ?_; rintro _ w1 ⟨rfl, hb⟩; have HB := Aside0.mk hb; clear hb)
    go_ret
    exact ⟨rfl, (pw_below_drewN (Below.refl _ w) nq).trans HB.out⟩
  cases l with
  | nil =>
    have h0 : n = 0 := HLN.out.symm
    subst h0
    go_enter Try.func7, Try.ntmps7
    go_upto_region 1 with (fail)
    go_quiet (fail)
    go_wp2_with (refine (wakes_c _).mono ?_; rintro _ w1 ⟨rfl, hb⟩; have HB := Aside0.mk hb; clear hb)
    go_ret
    exact ⟨rfl, (pw_below_drewN (Below.refl _ w) nq).trans HB.out⟩
  | cons h0 r =>
    have hn1 : n = r.length + 1 := by have := HLN.out; simpa using this.symm
    obtain ⟨ad, hA, _⟩ := HX.out.2.2 (by have := HLN.out; omega)
    subst hA
    obtain ⟨a0, a1, a2, a3⟩ := c_at HX.out (i := 0) (y := h0) rfl
    have ea : ad.add 0 = ad := by unfold Addr.add; simp
    rw [Nat.zero_mul, ea] at a0 a1 a2 a3
    have p0 : ¬ ((n : Int) = 0) := by omega
    have p1 : (0 : Int) < (n : Int) := by omega
    have p0b : ((n : Int) == 0) = false := beq_eq_false_iff_ne.mpr p0
    have p2 : 0 < n := by omega
    have hn8 : n ≤ 1000 := by omega
    obtain ⟨N, hN⟩ : ∃ N, h0.t = N := ⟨_, rfl⟩
    rw [hN] at a2
    have HN := Aside0.mk hN
    have A0 := Aside0.mk a0
    have A2 := Aside0.mk a2
    obtain ⟨l, hl⟩ : ∃ l, h0 :: r = l := ⟨_, rfl⟩
    rw [hl] at HX HLN
    have HL := Aside0.mk hl
    clear ea a0 a1 a3 hn1 hN hl
    go_enter Try.func7, Try.ntmps7
    go_upto_region 1 with (fail)
    refine wp_region_noPanic ?_
    refine wp_region_held_drew (S := (fun w' => w'.cell? ⟨ad.block, ad.off + 2, none⟩ = some (.int .i64 N))) (by kernel_rfl) ?_ (fun hHeld => ?_)
    · exact a2
    refine wpAnyH_take (i := 0) (v := ?_) rfl (by kernel_rfl) (by kernel_rfl) (by kernel_rfl) (fun _ _ _ h => h) (Or.inl ⟨by rfl, ?_⟩) (by assumption) ?_
    rotate_left
    · intro w hSw
      go_simp
      try with_reducible rfl
    simp only [Act.put, List.getElem_toArray, List.getElem_cons_zero, List.getElem_cons_succ, List.setIfInBounds_toArray, List.set_cons_zero, List.set_cons_succ]
    refine wpAnyH_take (i := 1) (v := ?_) rfl (by kernel_rfl) (by kernel_rfl) (by kernel_rfl) (fun _ _ _ h => h) (Or.inl ⟨by rfl, ?_⟩) (by assumption) ?_
    rotate_left
    · intro w hSw
      go_simp
      try with_reducible rfl
    simp only [Act.put, List.getElem_toArray, List.getElem_cons_zero, List.getElem_cons_succ, List.setIfInBounds_toArray, List.set_cons_zero, List.set_cons_succ]
    refine wpAnyH_take (i := 2) (v := ?_) rfl (by kernel_rfl) (by kernel_rfl) (by kernel_rfl) (fun _ _ _ h => h) (Or.inl ⟨by rfl, ?_⟩) (by assumption) ?_
    rotate_left
    · intro w hSw
      go_simp
      try with_reducible rfl
    simp only [Act.put, List.getElem_toArray, List.getElem_cons_zero, List.getElem_cons_succ, List.setIfInBounds_toArray, List.set_cons_zero, List.set_cons_succ]
    refine wpAnyH_take (i := 3) (v := ?_) rfl (by kernel_rfl) (by kernel_rfl) (by kernel_rfl) (fun _ _ _ h => h) (Or.inl ⟨by rfl, ?_⟩) (by assumption) ?_
    rotate_left
    · intro w hSw
      go_simp
      try with_reducible rfl
    simp only [Act.put, List.getElem_toArray, List.getElem_cons_zero, List.getElem_cons_succ, List.setIfInBounds_toArray, List.set_cons_zero, List.set_cons_succ]
    refine wpAnyH_take (i := 4) (v := ?_) rfl (by kernel_rfl) (by kernel_rfl) (by kernel_rfl) (fun _ _ _ h => h) (Or.inl ⟨by rfl, ?_⟩) (by assumption) ?_
    rotate_left
    · intro w hSw
      go_simp
      try with_reducible rfl
    simp only [Act.put, List.getElem_toArray, List.getElem_cons_zero, List.getElem_cons_succ, List.setIfInBounds_toArray, List.set_cons_zero, List.set_cons_succ]
    refine wpAnyH_take (i := 5) (v := ?_) rfl (by kernel_rfl) (by kernel_rfl) (by kernel_rfl) (fun _ _ _ h => h) (Or.inl ⟨by rfl, ?_⟩) (by assumption) ?_
    rotate_left
    · intro w hSw
      go_simp
      try with_reducible rfl
    simp only [Act.put, List.getElem_toArray, List.getElem_cons_zero, List.getElem_cons_succ, List.setIfInBounds_toArray, List.set_cons_zero, List.set_cons_succ]
    refine wpAnyH_take (i := 6) (v := ?_) rfl (by kernel_rfl) (by kernel_rfl) (by kernel_rfl) (fun _ _ _ h => h) (Or.inl ⟨by rfl, ?_⟩) (by assumption) ?_
    rotate_left
    · intro w hSw
      go_simp
      try with_reducible rfl
    simp only [Act.put, List.getElem_toArray, List.getElem_cons_zero, List.getElem_cons_succ, List.setIfInBounds_toArray, List.set_cons_zero, List.set_cons_succ]
    refine wpAnyH_take (i := 7) (v := ?_) rfl (by kernel_rfl) (by kernel_rfl) (by kernel_rfl) (fun _ _ _ h => h) (Or.inl ⟨by rfl, ?_⟩) (by assumption) ?_
    rotate_left
    · intro w hSw
      go_simp
      try with_reducible rfl
    simp only [Act.put, List.getElem_toArray, List.getElem_cons_zero, List.getElem_cons_succ, List.setIfInBounds_toArray, List.set_cons_zero, List.set_cons_succ]
    refine wpAnyH_take (i := 8) (v := ?_) rfl (by kernel_rfl) (by kernel_rfl) (by kernel_rfl) (fun _ _ _ h => h) (Or.inl ⟨by rfl, ?_⟩) (by assumption) ?_
    rotate_left
    · intro w hSw
      go_simp
      try with_reducible rfl
    simp only [Act.put, List.getElem_toArray, List.getElem_cons_zero, List.getElem_cons_succ, List.setIfInBounds_toArray, List.set_cons_zero, List.set_cons_succ]
    refine wpAnyH_take (i := 9) (v := ?_) rfl (by kernel_rfl) (by kernel_rfl) (by kernel_rfl) (fun _ _ _ h => h) (Or.inl ⟨by rfl, ?_⟩) (by assumption) ?_
    rotate_left
    · intro w hSw
      go_simp
      try with_reducible rfl
    simp only [Act.put, List.getElem_toArray, List.getElem_cons_zero, List.getElem_cons_succ, List.setIfInBounds_toArray, List.set_cons_zero, List.set_cons_succ]
    refine wpAnyH_take (i := 11) (v := ?_) rfl (by kernel_rfl) (by kernel_rfl) (by kernel_rfl) (fun _ _ _ h => h) (Or.inl ⟨by rfl, ?_⟩) (by assumption) ?_
    rotate_left
    · intro w hSw
      go_simp
      try with_reducible rfl
    simp only [Act.put, List.getElem_toArray, List.getElem_cons_zero, List.getElem_cons_succ, List.setIfInBounds_toArray, List.set_cons_zero, List.set_cons_succ]
    refine wpAnyH_take (i := 12) (v := ?_) rfl (by kernel_rfl) (by kernel_rfl) (by kernel_rfl) (fun _ _ _ h => h) (Or.inl ⟨by rfl, ?_⟩) (by assumption) ?_
    rotate_left
    · intro w hSw
      go_simp
      try with_reducible rfl
    simp only [Act.put, List.getElem_toArray, List.getElem_cons_zero, List.getElem_cons_succ, List.setIfInBounds_toArray, List.set_cons_zero, List.set_cons_succ]
    refine wpAnyH_take (i := 13) (v := ?_) rfl (by kernel_rfl) (by kernel_rfl) (by kernel_rfl) (fun _ _ _ h => h) (Or.inl ⟨by rfl, ?_⟩) (by assumption) ?_
    rotate_left
    · intro w hSw
      go_simp
      try with_reducible rfl
    simp only [Act.put, List.getElem_toArray, List.getElem_cons_zero, List.getElem_cons_succ, List.setIfInBounds_toArray, List.set_cons_zero, List.set_cons_succ]
    refine wpAnyH_take (i := 14) (v := ?_) rfl (by kernel_rfl) (by kernel_rfl) (by kernel_rfl) (fun _ _ _ h => h) (Or.inl ⟨by rfl, ?_⟩) (by assumption) ?_
    rotate_left
    · intro w hSw
      go_simp
      try with_reducible rfl
    simp only [Act.put, List.getElem_toArray, List.getElem_cons_zero, List.getElem_cons_succ, List.setIfInBounds_toArray, List.set_cons_zero, List.set_cons_succ]
    refine wpAnyH_ready (rs := [10]) (by kernel_rfl) (by simp) ?_
    refine AllReadyH.cons rfl (fun K hK => ?_) AllReadyH.nil
    refine Kd.R_append_rows_step kN (w0 := w) 0 (by rfl) (.const (.slice none 0 0)) (.tmp 19) 32 38 (.agg #[.int .u8 0, .int .i64 0, .int .i64 0, .int .i64 0]) 32 rfl Try.underlying32 info38 rfl (by decide) (by decide) (.slice none 0 0) [] l (some ad) n c (fun k => w.heap.size ≤ k) (fun _ => False) rfl rfl (Kd.R_nil _ _ _ _ _) (Kd.C_below HX.out (below_drew (Below.refl _ w))) (fun _ _ h => h) (fun _ h => h.elim) (fun _ h => h) (below_drew (Below.refl 0 w)) (Nat.zero_le _) (by simp; omega) ?_
    intro v1 w1 hR1 _ hg1 hat1
    rw [List.nil_append] at hR1
    obtain ⟨A1, c1, hv1, hle1, hc1⟩ := Kd.R_reads hR1
    rw [HLN.out] at hv1 hle1 hc1
    subst hv1
    have hb1 : Below w.heap.size w w1 := (below_drew (Below.refl w.heap.size w)).trans ⟨hg1.os, hg1.tape, hg1.output, hg1.size, fun k hk => hg1.block k hk (by simp [Value.ownBlock])⟩
    have HB1 := Aside0.mk hb1
    have HCH := Aside0.mk (check_c A1 n c1 l N w1 hc1 hle1 (by omega))
    clear hR1 hg1 hat1 hc1 hle1
    refine hK.out _ _ (pw_cell_below hb1 A2.out) (fun hHeld2 => ?_)
    clear hK K hHeld
    have hHeld := hHeld2
    clear hHeld2
    try simp only [Act.put, List.getElem_toArray, List.getElem_cons_zero, List.getElem_cons_succ, List.setIfInBounds_toArray, List.set_cons_zero, List.set_cons_succ]
    refine wpAnyH_ready (rs := [15]) (by kernel_rfl) (by simp) ?_
    refine AllReadyH.cons rfl (fun K hK => ?_) AllReadyH.nil
    go_simp
    refine HCH.out.mono ?_
    rintro _ w2 ⟨rfl, h2⟩
    have hb2 : Below w.heap.size w w2 := HB1.out.trans (h2.mono HB1.out.size)
    have HB2 := Aside0.mk hb2
    clear h2 HCH
    refine hK.out _ _ (pw_cell_below hb2 A2.out) (fun hHeld2 => ?_)
    clear hK K hHeld
    have hHeld := hHeld2
    clear hHeld2
    try simp only [Act.put, List.getElem_toArray, List.getElem_cons_zero, List.getElem_cons_succ, List.setIfInBounds_toArray, List.set_cons_zero, List.set_cons_succ]
    refine wpAnyH_take (i := 16) (v := ?_) rfl (by kernel_rfl) (by kernel_rfl) (by kernel_rfl) (fun _ _ _ h => h) (Or.inl ⟨by rfl, ?_⟩) (by assumption) ?_
    rotate_left
    · intro w hSw
      go_simp
      try with_reducible rfl
    simp only [Act.put, List.getElem_toArray, List.getElem_cons_zero, List.getElem_cons_succ, List.setIfInBounds_toArray, List.set_cons_zero, List.set_cons_succ]
    refine wpAnyH_take (i := 17) (v := ?_) rfl (by kernel_rfl) (by kernel_rfl) (by kernel_rfl) (fun _ _ _ h => h) (Or.inl ⟨by rfl, ?_⟩) (by assumption) ?_
    rotate_left
    · intro w hSw
      go_simp
      try with_reducible rfl
    simp only [Act.put, List.getElem_toArray, List.getElem_cons_zero, List.getElem_cons_succ, List.setIfInBounds_toArray, List.set_cons_zero, List.set_cons_succ]
    refine wpAnyH_done (by kernel_rfl) ?_ _
    refine NoPanic.normal ?_
    clear hb1 hb2 a2 hHeld
    by_cases hrc : checkB l N = 0
    rotate_left
    · have br2 : (checkB l N != 0) = true := by simp [hrc]
      go_wp2_with (refine (wakes_c _).mono ?_; rintro _ w9 ⟨rfl, hb⟩; have HB := Aside0.mk hb; clear hb)
      go_ret
      exact ⟨rfl, HB2.out.trans (HB.out.mono HB2.out.size)⟩
    have br2 : (checkB l N != 0) = false := by simp [hrc]
    obtain ⟨eh, hN0, hN1, hgo⟩ := check_0 (h := h0) (r := r) (by rw [HN.out, HL.out]; exact hrc)
    rw [HN.out] at eh hN0 hN1 hgo
    have hBI : BI l 1 [] [] [(0, N)] (newB 1) := by rw [← HL.out, eh]; exact BI.start ⟨hN0, hN1⟩ hgo
    have h00 : l[0]? = some h0 := by rw [← HL.out]; rfl
    have H00 := Aside0.mk h00
    have HBI0 := Aside0.mk hBI
    have EH := Aside0.mk eh
    have HT0 : Aside0 (TwoR w w2 (.slice none 0 0) (.slice none 0 0) [] []) := ⟨⟨Kd.R_nil _ _ _ _ _, Kd.R_nil _ _ _ _ _, (fun j hj => by cases hj), HB2.out⟩⟩
    obtain ⟨i38, hi38, hz38⟩ := Option.map_eq_some_iff.1 info38s
    have I38 := Aside0.mk hi38
    clear hrc hgo h00 hBI eh hN0 hN1 hi38 hz38 HB1
    go_upto_block 0 with (fail)
    go_wp2_with (fail)
    clear br2
    go_loopg [3, 4, 5] (n - 1) (fun gi v3 v4 v5 wq => ∃ (i : Nat) (gk : Nat), v5 = .int .i64 (i : Int) ∧ Aside0 (i + gi = n) ∧ ∃ (E : List Ev) (S : List Nd) (st : List (Int × Int)) (m : Bl) (AE : Option Addr) (cE : Nat) (AS : Option Addr) (cS : Nat) (e : Nat), v3 = .slice AE e cE ∧ v4 = .slice AS gk cS ∧ Aside0 (E.length = e) ∧ Aside0 (S.length = gk) ∧ Aside0 (gk ≤ 2000) ∧ Aside0 (TwoR w wq (.slice AE e cE) (.slice AS gk cS) E S) ∧ Aside0 (BI l i E S st m))
    case atStart => exact ⟨1, 0, rfl, ⟨by omega⟩, [], [], _, _, none, 0, none, 0, 0, rfl, rfl, ⟨rfl⟩, ⟨rfl⟩, ⟨by omega⟩, HT0, HBI0⟩
    case round =>
      clear HT0 HBI0 HB2
      obtain ⟨i, s, rfl, HIN, E, S, st, m, AE, cE, AS, cS, e, rfl, rfl, HE, HS, HSB, HT, HBI⟩ := hrel
      by_cases hin : i < n
      · obtain ⟨gn, rfl⟩ : ∃ gn, gk = gn + 1 := ⟨gk - 1, by have := HIN.out; omega⟩
        obtain ⟨y, hy⟩ : ∃ y, l[i]? = some y := ⟨_, List.getElem?_eq_getElem (by rw [HLN.out]; exact hin)⟩
        have HY := Aside0.mk hy
        have q0 : (0 : Int) ≤ (i : Int) := by omega
        have q1 : (i : Int) < (n : Int) := by omega
        clear hy
        go_upto_block 2 with (fail)
        go_wp2_with (fail)
        go_loopg [3, 4] s (fun gk v3 v4 wr => ∃ (E : List Ev) (S : List Nd) (st : List (Int × Int)) (m : Bl) (AE : Option Addr) (cE : Nat) (AS : Option Addr) (cS : Nat) (e : Nat), v3 = .slice AE e cE ∧ v4 = .slice AS gk cS ∧ Aside0 (E.length = e) ∧ Aside0 (S.length = gk) ∧ Aside0 (gk ≤ 2000) ∧ Aside0 (TwoR w wr (.slice AE e cE) (.slice AS gk cS) E S) ∧ Aside0 (BI l i E S st m))
        case atStart => exact ⟨E, S, st, m, AE, cE, AS, cS, e, rfl, rfl, HE, HS, HSB, HT, HBI⟩
        case round =>
          clear HE HS HSB HT HBI
          obtain ⟨E, S, st, m, AE, cE, AS, cS, e, rfl, rfl, HE, HS, HSB, HT, HBI⟩ := hrel
          obtain ⟨y0, y1, y2, y3⟩ := c_at (Kd.C_below HX.out HT.out.b) HY.out
          by_cases hge : y.d ≤ (gk : Int)
          · have hyd := (goC_len HBI.out.go HY.out).1
            obtain ⟨gs, rfl⟩ : ∃ gs, gk = gs + 1 := ⟨gk - 1, by omega⟩
            clear y0 y1 y2
            obtain ⟨S', x, hSx, hSl⟩ := snoc_of HS.out
            subst hSx
            have hT := HT.out
            obtain ⟨g, cap, hv, hcap⟩ := row_form hT.rS (by simp)
            injection hv with hv1 hv2 hv3
            subst hv1
            subst hv3
            have hpr := row_at (xs := S' ++ [x]) (by have := hT.rS; exact this) (i := gs) (y := x) (by rw [List.getElem?_append_right (by omega), hSl, Nat.sub_self]; rfl)
            have c2x : wr.cell? ⟨g, gs * 4 + 2, none⟩ = some (.int .i64 x.t) := hpr 2 _ rfl
            have hcut := cut_to (P := Try.prog) 32 38 .i64 Try.underlying32 I38.out (some ⟨g, 0, none⟩) (gs + 1) cS (gs : Int) (by omega) (by omega) (by simp at hcap; omega)
            rw [Int.toNat_natCast] at hcut
            have hwm : IntKind.i64.wrap (((gs + 1 : Nat) : Int) - 1) = (gs : Int) := by
              rw [show ((gs + 1 : Nat) : Int) - 1 = (gs : Int) from by omega]
              exact IntWalk.i64_in _ (by have := HSB.out; omega)
            have hwm2 : IntKind.i64.wrap ((gs : Int) + 1 - 1) = (gs : Int) := by
              rw [show (gs : Int) + 1 - 1 = (gs : Int) from by omega]
              exact IntWalk.i64_in _ (by have := HSB.out; omega)
            have hwm3 : IntKind.i64.wrap (gs : Int) = (gs : Int) := IntWalk.i64_in _ (by have := HSB.out; omega)
            have t0 : (0 : Int) ≤ (gs : Int) := by omega
            have t1 : (gs : Int) < ((gs + 1 : Nat) : Int) := by omega
            have t3 : (gs : Int) < (gs : Int) + 1 := by omega
            have hEle : e ≤ 2000 := by have := HE.out; have := HBI.out.cnt; simp at this; have := HIN.out; omega
            have HSL := Aside0.mk hSl
            have hge2 : y.d ≤ (gs : Int) + 1 := by omega
            clear hv2 hT hpr hcap hSl hyd
            go_wp2_with (at_builtin; refine Kd.R_append kE (w0 := wr) 0 rfl (.tmp 43) (.tmp 52) 29 41 (.agg #[.int .u8 0, .int .u8 0, .int .i64 0, .int .i64 0]) 24 rfl Try.underlying29 info41 rfl (by decide) (by decide) (.slice AE e cE) E (endE x) [.int .u8 2, .int .u8 0, .int .i64 x.t, .int .i64 0] (fun j => w.heap.size ≤ j) (fun _ => False) rfl rfl rfl (fun _ h => h.elim) (fun k hk => Nat.le_trans HT.out.b.size hk) HT.out.rE (Below.refl _ _) (Nat.zero_le _) (by rw [HE.out]; omega) ?_; intro v1 w4 hR4 _ hg4 hat4; have hT4 := HT.out.addE hR4 hg4 hat4; obtain ⟨A4, c4, hv4, _, _⟩ := Kd.R_reads hR4; have hl4 : (E ++ [(endE x)]).length = e + 1 := (by rw [List.length_append, HE.out]; rfl); rw [hl4] at hv4; subst hv4; have HT4 := Aside0.mk hT4; clear hR4 hg4 hat4 hT4 hl4)
            go_roundg gs
            case measure => exact Nat.lt_succ_self _
            case rel => exact ⟨E ++ [endE x], S', st, endB m (endE x), A4, c4, _, cS, e + 1, rfl, rfl, ⟨by rw [List.length_append, HE.out]; rfl⟩, HSL, ⟨by have := HSB.out; omega⟩, ⟨HT4.out.cut HSL.out⟩, ⟨HBI.out.pop (fun z hz => by have h1 := HY.out; rw [hz] at h1; injection h1 with h1; rw [h1, HSL.out]; exact hge2)⟩⟩
          · have hsy : (gk : Int) < y.d := by omega
            obtain ⟨yd, hyd⟩ : ∃ q, y.d = q := ⟨_, rfl⟩
            rw [hyd] at y3 hge
            have HYD := Aside0.mk hyd
            have HSY := Aside0.mk hsy
            obtain ⟨k0, k1, k2, k3⟩ := c_at HX.out HY.out
            have Y0 := Aside0.mk k0
            have Y1 := Aside0.mk k1
            have Y2 := Aside0.mk k2
            have Y3 := Aside0.mk k3
            have hE8 : e ≤ 2000 := by have := HE.out; have := HBI.out.cnt; omega
            have HE8 := Aside0.mk hE8
            have hin1 : (i : Int) < (n : Int) := by omega
            have hwi : IntKind.i64.wrap ((i : Int) + 1) = (i : Int) + 1 := IntWalk.i64_in _ (by omega)
            have hti : ((i : Int) + 1).toNat = i + 1 := by omega
            clear y0 y1 y2 k0 k1 k2 k3 hsy hyd hE8
            by_cases hi1 : i + 1 < n
            · obtain ⟨z, hz⟩ : ∃ z, l[i + 1]? = some z := ⟨_, List.getElem?_eq_getElem (by rw [HLN.out]; exact hi1)⟩
              have HZ := Aside0.mk hz
              obtain ⟨z0, z1, z2, z3⟩ := c_at (Kd.C_below HX.out HT.out.b) hz
              have i1 : (i : Int) + 1 < (n : Int) := by omega
              have i0 : (0 : Int) ≤ (i : Int) + 1 := by omega
              clear z0 z1 z2 hz
              go_upto_region 11 with (fail)
              go_quiet (fail)
              obtain ⟨wz, hwz⟩ : ∃ X, wr.drewN nq = X := ⟨_, rfl⟩
              rw [hwz]
              have hbz : Below wr.heap.size wr wz := by rw [← hwz]; exact pw_below_drewN (Below.refl _ wr) nq
              have HTZ := Aside0.mk (HT.out.below hbz)
              have HTD := Aside0.mk (HTZ.out.below (below_drew (Below.refl _ wz)))
              have y0 := pw_cell_below HTZ.out.b Y0.out
              have y1 := pw_cell_below HTZ.out.b Y1.out
              have y2 := pw_cell_below HTZ.out.b Y2.out
              clear hwz hbz
              by_cases hgt : yd < z.d
              · go_upto_region 12 with (fail)
                refine wp_region_noPanic ?_
                refine wp_region_held_drew (S := (fun w' => w'.cell? (ad.add (i * 4)) = some (.int .u8 y.k) ∧ w'.cell? ⟨(ad.add (i * 4)).block, (ad.add (i * 4)).off + 1, none⟩ = some (.int .i64 y.f))) (by kernel_rfl) ?_ (fun hHeld => ?_)
                · exact ⟨pw_cell_below (HTZ.out.b) Y0.out, pw_cell_below (HTZ.out.b) Y1.out⟩
                refine wpAnyH_take (i := 0) (v := ?_) rfl (by kernel_rfl) (by kernel_rfl) (by kernel_rfl) (fun _ _ _ h => h) (Or.inl ⟨by rfl, ?_⟩) (by assumption) ?_
                rotate_left
                · intro w hSw
                  go_simp
                  try with_reducible rfl
                simp only [Act.put, List.getElem_toArray, List.getElem_cons_zero, List.getElem_cons_succ, List.setIfInBounds_toArray, List.set_cons_zero, List.set_cons_succ]
                refine wpAnyH_take (i := 1) (v := ?_) rfl (by kernel_rfl) (by kernel_rfl) (by kernel_rfl) (fun _ _ _ h => h) (Or.inl ⟨by rfl, ?_⟩) (by assumption) ?_
                rotate_left
                · intro w hSw
                  go_simp
                  try with_reducible rfl
                simp only [Act.put, List.getElem_toArray, List.getElem_cons_zero, List.getElem_cons_succ, List.setIfInBounds_toArray, List.set_cons_zero, List.set_cons_succ]
                refine wpAnyH_take (i := 2) (v := ?_) rfl (by kernel_rfl) (by kernel_rfl) (by kernel_rfl) (fun _ _ _ h => h) (Or.inl ⟨by rfl, ?_⟩) (by assumption) ?_
                rotate_left
                · intro w hSw
                  go_simp
                  try with_reducible rfl
                simp only [Act.put, List.getElem_toArray, List.getElem_cons_zero, List.getElem_cons_succ, List.setIfInBounds_toArray, List.set_cons_zero, List.set_cons_succ]
                refine wpAnyH_take (i := 3) (v := ?_) rfl (by kernel_rfl) (by kernel_rfl) (by kernel_rfl) (fun _ _ _ h => h) (Or.inl ⟨by rfl, ?_⟩) (by assumption) ?_
                rotate_left
                · intro w hSw
                  go_simp
                  try with_reducible rfl
                simp only [Act.put, List.getElem_toArray, List.getElem_cons_zero, List.getElem_cons_succ, List.setIfInBounds_toArray, List.set_cons_zero, List.set_cons_succ]
                refine wpAnyH_take (i := 4) (v := ?_) rfl (by kernel_rfl) (by kernel_rfl) (by kernel_rfl) (fun _ _ _ h => h) (Or.inl ⟨by rfl, ?_⟩) (by assumption) ?_
                rotate_left
                · intro w hSw
                  go_simp
                  try with_reducible rfl
                simp only [Act.put, List.getElem_toArray, List.getElem_cons_zero, List.getElem_cons_succ, List.setIfInBounds_toArray, List.set_cons_zero, List.set_cons_succ]
                refine wpAnyH_take (i := 5) (v := ?_) rfl (by kernel_rfl) (by kernel_rfl) (by kernel_rfl) (fun _ _ _ h => h) (Or.inl ⟨by rfl, ?_⟩) (by assumption) ?_
                rotate_left
                · intro w hSw
                  go_simp
                  try with_reducible rfl
                simp only [Act.put, List.getElem_toArray, List.getElem_cons_zero, List.getElem_cons_succ, List.setIfInBounds_toArray, List.set_cons_zero, List.set_cons_succ]
                refine wpAnyH_take (i := 6) (v := ?_) rfl (by kernel_rfl) (by kernel_rfl) (by kernel_rfl) (fun _ _ _ h => h) (Or.inl ⟨by rfl, ?_⟩) (by assumption) ?_
                rotate_left
                · intro w hSw
                  go_simp
                  try with_reducible rfl
                simp only [Act.put, List.getElem_toArray, List.getElem_cons_zero, List.getElem_cons_succ, List.setIfInBounds_toArray, List.set_cons_zero, List.set_cons_succ]
                refine wpAnyH_take (i := 7) (v := ?_) rfl (by kernel_rfl) (by kernel_rfl) (by kernel_rfl) (fun _ _ _ h => h) (Or.inl ⟨by rfl, ?_⟩) (by assumption) ?_
                rotate_left
                · intro w hSw
                  go_simp
                  try with_reducible rfl
                simp only [Act.put, List.getElem_toArray, List.getElem_cons_zero, List.getElem_cons_succ, List.setIfInBounds_toArray, List.set_cons_zero, List.set_cons_succ]
                refine wpAnyH_take (i := 8) (v := ?_) rfl (by kernel_rfl) (by kernel_rfl) (by kernel_rfl) (fun _ _ _ h => h) (Or.inl ⟨by rfl, ?_⟩) (by assumption) ?_
                rotate_left
                · intro w hSw
                  go_simp
                  try with_reducible rfl
                simp only [Act.put, List.getElem_toArray, List.getElem_cons_zero, List.getElem_cons_succ, List.setIfInBounds_toArray, List.set_cons_zero, List.set_cons_succ]
                refine wpAnyH_take (i := 9) (v := ?_) rfl (by kernel_rfl) (by kernel_rfl) (by kernel_rfl) (fun _ _ _ h => h) (Or.inl ⟨by rfl, ?_⟩) (by assumption) ?_
                rotate_left
                · intro w hSw
                  go_simp
                  try with_reducible rfl
                simp only [Act.put, List.getElem_toArray, List.getElem_cons_zero, List.getElem_cons_succ, List.setIfInBounds_toArray, List.set_cons_zero, List.set_cons_succ]
                refine wpAnyH_take (i := 10) (v := ?_) rfl (by kernel_rfl) (by kernel_rfl) (by kernel_rfl) (fun _ _ _ h => h) (Or.inl ⟨by rfl, ?_⟩) (by assumption) ?_
                rotate_left
                · intro w hSw
                  go_simp
                  try with_reducible rfl
                simp only [Act.put, List.getElem_toArray, List.getElem_cons_zero, List.getElem_cons_succ, List.setIfInBounds_toArray, List.set_cons_zero, List.set_cons_succ]
                refine wpAnyH_take (i := 11) (v := ?_) rfl (by kernel_rfl) (by kernel_rfl) (by kernel_rfl) (fun _ _ _ h => h) (Or.inl ⟨by rfl, ?_⟩) (by assumption) ?_
                rotate_left
                · intro w hSw
                  go_simp
                  try with_reducible rfl
                simp only [Act.put, List.getElem_toArray, List.getElem_cons_zero, List.getElem_cons_succ, List.setIfInBounds_toArray, List.set_cons_zero, List.set_cons_succ]
                refine wpAnyH_ready (rs := [12]) (by kernel_rfl) (by simp) ?_
                refine AllReadyH.cons rfl (fun K hK => ?_) AllReadyH.nil
                go_simp
                refine hK.out _ _ ⟨pw_cell_below (below_drew (below_alloc HTZ.out.b _)) Y0.out, pw_cell_below (below_drew (below_alloc HTZ.out.b _)) Y1.out⟩ (fun hHeld2 => ?_)
                clear hK K hHeld
                have hHeld := hHeld2
                clear hHeld2
                try simp only [Act.put, List.getElem_toArray, List.getElem_cons_zero, List.getElem_cons_succ, List.setIfInBounds_toArray, List.set_cons_zero, List.set_cons_succ]
                refine wpAnyH_ready (rs := [13]) (by kernel_rfl) (by simp) ?_
                refine AllReadyH.cons rfl (fun K hK => ?_) AllReadyH.nil
                refine Kd.R_append_step (W := wz.drew) kE (w0 := wz.drew) 0 (by rfl) (.tmp 78) (.tmp 90) 29 41 (.agg #[.int .u8 0, .int .u8 0, .int .i64 0, .int .i64 0]) 24 rfl Try.underlying29 info41 rfl (by decide) (by decide) (.slice AE e cE) E (begE y) [.int .u8 1, .int .u8 y.k, .int .i64 y.f, .int .i64 0] (fun j => w.heap.size ≤ j) (fun _ => False) rfl rfl rfl (fun _ h => h.elim) (fun k hk => Nat.le_trans HTD.out.b.size hk) HTD.out.rE (Below.refl _ _) (Nat.zero_le _) (by rw [HE.out]; have := HE8.out; omega) ?_
                intro v1 w4 hR4 _ hg4 hat4
                have hT4 := HTD.out.addE hR4 hg4 hat4
                obtain ⟨A4, c4, hv4, _, _⟩ := Kd.R_reads hR4
                have hl4 : (E ++ [(begE y)]).length = e + 1 := (by rw [List.length_append, HE.out]; rfl)
                rw [hl4] at hv4
                subst hv4
                have HT4 := Aside0.mk hT4
                clear hR4 hg4 hat4 hT4 hl4
                refine hK.out _ _ ⟨pw_cell_below (HT4.out.b) Y0.out, pw_cell_below (HT4.out.b) Y1.out⟩ (fun hHeld2 => ?_)
                clear hK K hHeld
                have hHeld := hHeld2
                clear hHeld2
                try simp only [Act.put, List.getElem_toArray, List.getElem_cons_zero, List.getElem_cons_succ, List.setIfInBounds_toArray, List.set_cons_zero, List.set_cons_succ]
                refine wpAnyH_take (i := 14) (v := ?_) rfl (by kernel_rfl) (by kernel_rfl) (by kernel_rfl) (fun _ _ _ h => h) (Or.inl ⟨by rfl, ?_⟩) (by assumption) ?_
                rotate_left
                · intro w hSw
                  go_simp
                  try with_reducible rfl
                simp only [Act.put, List.getElem_toArray, List.getElem_cons_zero, List.getElem_cons_succ, List.setIfInBounds_toArray, List.set_cons_zero, List.set_cons_succ]
                refine wpAnyH_done (by kernel_rfl) ?_ _
                refine NoPanic.normal ?_
                clear hHeld y0 y1 y2
                have y0 := pw_cell_below HT4.out.b Y0.out
                have y1 := pw_cell_below HT4.out.b Y1.out
                have y2 := pw_cell_below HT4.out.b Y2.out
                have y3 := pw_cell_below HT4.out.b Y3.out
                obtain ⟨st', hbi⟩ := HBI.out.push HY.out (by rw [HS.out, HYD.out]; have := HSY.out; rw [HYD.out] at this; exact this)
                have HBJ := Aside0.mk hbi
                have hg8 := HSB.out
                have hS1 : (S ++ [y]).length = gk + 1 := by rw [List.length_append, HS.out]; rfl
                have HS1 := Aside0.mk hS1
                clear hbi hS1
                go_wp2_with (at_builtin; refine Kd.R_append kN (w0 := w4) 0 rfl (.tmp 92) (.tmp 97) 32 38 (.agg #[.int .u8 0, .int .i64 0, .int .i64 0, .int .i64 0]) 32 rfl Try.underlying32 info38 rfl (by decide) (by decide) (.slice AS gk cS) S y [.int .u8 y.k, .int .i64 y.f, .int .i64 y.t, .int .i64 y.d] (fun j => w.heap.size ≤ j) (fun _ => False) rfl rfl rfl (fun _ h => h.elim) (fun k hk => Nat.le_trans HT4.out.b.size hk) HT4.out.rS (Below.refl _ _) (Nat.zero_le _) (by rw [HS.out]; omega) ?_; intro v5 w5 hR5 _ hg5 hat5; have hT5 := HT4.out.addS hR5 hg5 hat5; obtain ⟨A5, c5, hv5, _, _⟩ := Kd.R_reads hR5; rw [HS1.out] at hv5; subst hv5; have HT5 := Aside0.mk hT5; clear hR5 hg5 hat5 hT5)
                go_roundg gn
                case measure => exact Nat.lt_succ_self _
                case rel => exact ⟨i + 1, gk + 1, by simp, ⟨by have := HIN.out; omega⟩, E ++ [begE y], S ++ [y], st', _, A4, c4, A5, c5, e + 1, rfl, rfl, ⟨by rw [List.length_append, HE.out]; rfl⟩, HS1, ⟨by have h1 := HBJ.out.cnt; have h2 := HS1.out; have h3 := HIN.out; omega⟩, HT5, HBJ⟩
              · go_upto_region 14 with (fail)
                refine wp_region_noPanic ?_
                refine wp_region_held_drew (S := (fun w' => w'.cell? (ad.add (i * 4)) = some (.int .u8 y.k) ∧ w'.cell? ⟨(ad.add (i * 4)).block, (ad.add (i * 4)).off + 1, none⟩ = some (.int .i64 y.f) ∧ w'.cell? ⟨(ad.add (i * 4)).block, (ad.add (i * 4)).off + 2, none⟩ = some (.int .i64 y.t))) (by kernel_rfl) ?_ (fun hHeld => ?_)
                · exact ⟨pw_cell_below (HTZ.out.b) Y0.out, pw_cell_below (HTZ.out.b) Y1.out, pw_cell_below (HTZ.out.b) Y2.out⟩
                refine wpAnyH_take (i := 0) (v := ?_) rfl (by kernel_rfl) (by kernel_rfl) (by kernel_rfl) (fun _ _ _ h => h) (Or.inl ⟨by rfl, ?_⟩) (by assumption) ?_
                rotate_left
                · intro w hSw
                  go_simp
                  try with_reducible rfl
                simp only [Act.put, List.getElem_toArray, List.getElem_cons_zero, List.getElem_cons_succ, List.setIfInBounds_toArray, List.set_cons_zero, List.set_cons_succ]
                refine wpAnyH_take (i := 1) (v := ?_) rfl (by kernel_rfl) (by kernel_rfl) (by kernel_rfl) (fun _ _ _ h => h) (Or.inl ⟨by rfl, ?_⟩) (by assumption) ?_
                rotate_left
                · intro w hSw
                  go_simp
                  try with_reducible rfl
                simp only [Act.put, List.getElem_toArray, List.getElem_cons_zero, List.getElem_cons_succ, List.setIfInBounds_toArray, List.set_cons_zero, List.set_cons_succ]
                refine wpAnyH_take (i := 2) (v := ?_) rfl (by kernel_rfl) (by kernel_rfl) (by kernel_rfl) (fun _ _ _ h => h) (Or.inl ⟨by rfl, ?_⟩) (by assumption) ?_
                rotate_left
                · intro w hSw
                  go_simp
                  try with_reducible rfl
                simp only [Act.put, List.getElem_toArray, List.getElem_cons_zero, List.getElem_cons_succ, List.setIfInBounds_toArray, List.set_cons_zero, List.set_cons_succ]
                refine wpAnyH_take (i := 3) (v := ?_) rfl (by kernel_rfl) (by kernel_rfl) (by kernel_rfl) (fun _ _ _ h => h) (Or.inl ⟨by rfl, ?_⟩) (by assumption) ?_
                rotate_left
                · intro w hSw
                  go_simp
                  try with_reducible rfl
                simp only [Act.put, List.getElem_toArray, List.getElem_cons_zero, List.getElem_cons_succ, List.setIfInBounds_toArray, List.set_cons_zero, List.set_cons_succ]
                refine wpAnyH_take (i := 4) (v := ?_) rfl (by kernel_rfl) (by kernel_rfl) (by kernel_rfl) (fun _ _ _ h => h) (Or.inl ⟨by rfl, ?_⟩) (by assumption) ?_
                rotate_left
                · intro w hSw
                  go_simp
                  try with_reducible rfl
                simp only [Act.put, List.getElem_toArray, List.getElem_cons_zero, List.getElem_cons_succ, List.setIfInBounds_toArray, List.set_cons_zero, List.set_cons_succ]
                refine wpAnyH_take (i := 5) (v := ?_) rfl (by kernel_rfl) (by kernel_rfl) (by kernel_rfl) (fun _ _ _ h => h) (Or.inl ⟨by rfl, ?_⟩) (by assumption) ?_
                rotate_left
                · intro w hSw
                  go_simp
                  try with_reducible rfl
                simp only [Act.put, List.getElem_toArray, List.getElem_cons_zero, List.getElem_cons_succ, List.setIfInBounds_toArray, List.set_cons_zero, List.set_cons_succ]
                refine wpAnyH_take (i := 6) (v := ?_) rfl (by kernel_rfl) (by kernel_rfl) (by kernel_rfl) (fun _ _ _ h => h) (Or.inl ⟨by rfl, ?_⟩) (by assumption) ?_
                rotate_left
                · intro w hSw
                  go_simp
                  try with_reducible rfl
                simp only [Act.put, List.getElem_toArray, List.getElem_cons_zero, List.getElem_cons_succ, List.setIfInBounds_toArray, List.set_cons_zero, List.set_cons_succ]
                refine wpAnyH_take (i := 7) (v := ?_) rfl (by kernel_rfl) (by kernel_rfl) (by kernel_rfl) (fun _ _ _ h => h) (Or.inl ⟨by rfl, ?_⟩) (by assumption) ?_
                rotate_left
                · intro w hSw
                  go_simp
                  try with_reducible rfl
                simp only [Act.put, List.getElem_toArray, List.getElem_cons_zero, List.getElem_cons_succ, List.setIfInBounds_toArray, List.set_cons_zero, List.set_cons_succ]
                refine wpAnyH_take (i := 8) (v := ?_) rfl (by kernel_rfl) (by kernel_rfl) (by kernel_rfl) (fun _ _ _ h => h) (Or.inl ⟨by rfl, ?_⟩) (by assumption) ?_
                rotate_left
                · intro w hSw
                  go_simp
                  try with_reducible rfl
                simp only [Act.put, List.getElem_toArray, List.getElem_cons_zero, List.getElem_cons_succ, List.setIfInBounds_toArray, List.set_cons_zero, List.set_cons_succ]
                refine wpAnyH_take (i := 9) (v := ?_) rfl (by kernel_rfl) (by kernel_rfl) (by kernel_rfl) (fun _ _ _ h => h) (Or.inl ⟨by rfl, ?_⟩) (by assumption) ?_
                rotate_left
                · intro w hSw
                  go_simp
                  try with_reducible rfl
                simp only [Act.put, List.getElem_toArray, List.getElem_cons_zero, List.getElem_cons_succ, List.setIfInBounds_toArray, List.set_cons_zero, List.set_cons_succ]
                refine wpAnyH_take (i := 10) (v := ?_) rfl (by kernel_rfl) (by kernel_rfl) (by kernel_rfl) (fun _ _ _ h => h) (Or.inl ⟨by rfl, ?_⟩) (by assumption) ?_
                rotate_left
                · intro w hSw
                  go_simp
                  try with_reducible rfl
                simp only [Act.put, List.getElem_toArray, List.getElem_cons_zero, List.getElem_cons_succ, List.setIfInBounds_toArray, List.set_cons_zero, List.set_cons_succ]
                refine wpAnyH_take (i := 11) (v := ?_) rfl (by kernel_rfl) (by kernel_rfl) (by kernel_rfl) (fun _ _ _ h => h) (Or.inl ⟨by rfl, ?_⟩) (by assumption) ?_
                rotate_left
                · intro w hSw
                  go_simp
                  try with_reducible rfl
                simp only [Act.put, List.getElem_toArray, List.getElem_cons_zero, List.getElem_cons_succ, List.setIfInBounds_toArray, List.set_cons_zero, List.set_cons_succ]
                refine wpAnyH_take (i := 12) (v := ?_) rfl (by kernel_rfl) (by kernel_rfl) (by kernel_rfl) (fun _ _ _ h => h) (Or.inl ⟨by rfl, ?_⟩) (by assumption) ?_
                rotate_left
                · intro w hSw
                  go_simp
                  try with_reducible rfl
                simp only [Act.put, List.getElem_toArray, List.getElem_cons_zero, List.getElem_cons_succ, List.setIfInBounds_toArray, List.set_cons_zero, List.set_cons_succ]
                refine wpAnyH_take (i := 13) (v := ?_) rfl (by kernel_rfl) (by kernel_rfl) (by kernel_rfl) (fun _ _ _ h => h) (Or.inl ⟨by rfl, ?_⟩) (by assumption) ?_
                rotate_left
                · intro w hSw
                  go_simp
                  try with_reducible rfl
                simp only [Act.put, List.getElem_toArray, List.getElem_cons_zero, List.getElem_cons_succ, List.setIfInBounds_toArray, List.set_cons_zero, List.set_cons_succ]
                refine wpAnyH_take (i := 14) (v := ?_) rfl (by kernel_rfl) (by kernel_rfl) (by kernel_rfl) (fun _ _ _ h => h) (Or.inl ⟨by rfl, ?_⟩) (by assumption) ?_
                rotate_left
                · intro w hSw
                  go_simp
                  try with_reducible rfl
                simp only [Act.put, List.getElem_toArray, List.getElem_cons_zero, List.getElem_cons_succ, List.setIfInBounds_toArray, List.set_cons_zero, List.set_cons_succ]
                refine wpAnyH_take (i := 15) (v := ?_) rfl (by kernel_rfl) (by kernel_rfl) (by kernel_rfl) (fun _ _ _ h => h) (Or.inl ⟨by rfl, ?_⟩) (by assumption) ?_
                rotate_left
                · intro w hSw
                  go_simp
                  try with_reducible rfl
                simp only [Act.put, List.getElem_toArray, List.getElem_cons_zero, List.getElem_cons_succ, List.setIfInBounds_toArray, List.set_cons_zero, List.set_cons_succ]
                refine wpAnyH_take (i := 16) (v := ?_) rfl (by kernel_rfl) (by kernel_rfl) (by kernel_rfl) (fun _ _ _ h => h) (Or.inl ⟨by rfl, ?_⟩) (by assumption) ?_
                rotate_left
                · intro w hSw
                  go_simp
                  try with_reducible rfl
                simp only [Act.put, List.getElem_toArray, List.getElem_cons_zero, List.getElem_cons_succ, List.setIfInBounds_toArray, List.set_cons_zero, List.set_cons_succ]
                refine wpAnyH_ready (rs := [17]) (by kernel_rfl) (by simp) ?_
                refine AllReadyH.cons rfl (fun K hK => ?_) AllReadyH.nil
                go_simp
                refine hK.out _ _ ⟨pw_cell_below (below_drew (below_alloc HTZ.out.b _)) Y0.out, pw_cell_below (below_drew (below_alloc HTZ.out.b _)) Y1.out, pw_cell_below (below_drew (below_alloc HTZ.out.b _)) Y2.out⟩ (fun hHeld2 => ?_)
                clear hK K hHeld
                have hHeld := hHeld2
                clear hHeld2
                try simp only [Act.put, List.getElem_toArray, List.getElem_cons_zero, List.getElem_cons_succ, List.setIfInBounds_toArray, List.set_cons_zero, List.set_cons_succ]
                refine wpAnyH_ready (rs := [18]) (by kernel_rfl) (by simp) ?_
                refine AllReadyH.cons rfl (fun K hK => ?_) AllReadyH.nil
                refine Kd.R_append_step (W := wz.drew) kE (w0 := wz.drew) 0 (by rfl) (.tmp 99) (.tmp 116) 29 41 (.agg #[.int .u8 0, .int .u8 0, .int .i64 0, .int .i64 0]) 24 rfl Try.underlying29 info41 rfl (by decide) (by decide) (.slice AE e cE) E (leafE y) [.int .u8 3, .int .u8 y.k, .int .i64 y.f, .int .i64 y.t] (fun j => w.heap.size ≤ j) (fun _ => False) rfl rfl rfl (fun _ h => h.elim) (fun k hk => Nat.le_trans HTD.out.b.size hk) HTD.out.rE (Below.refl _ _) (Nat.zero_le _) (by rw [HE.out]; have := HE8.out; omega) ?_
                intro v1 w4 hR4 _ hg4 hat4
                have hT4 := HTD.out.addE hR4 hg4 hat4
                obtain ⟨A4, c4, hv4, _, _⟩ := Kd.R_reads hR4
                have hl4 : (E ++ [(leafE y)]).length = e + 1 := (by rw [List.length_append, HE.out]; rfl)
                rw [hl4] at hv4
                subst hv4
                have HT4 := Aside0.mk hT4
                clear hR4 hg4 hat4 hT4 hl4
                refine hK.out _ _ ⟨pw_cell_below (HT4.out.b) Y0.out, pw_cell_below (HT4.out.b) Y1.out, pw_cell_below (HT4.out.b) Y2.out⟩ (fun hHeld2 => ?_)
                clear hK K hHeld
                have hHeld := hHeld2
                clear hHeld2
                try simp only [Act.put, List.getElem_toArray, List.getElem_cons_zero, List.getElem_cons_succ, List.setIfInBounds_toArray, List.set_cons_zero, List.set_cons_succ]
                refine wpAnyH_take (i := 19) (v := ?_) rfl (by kernel_rfl) (by kernel_rfl) (by kernel_rfl) (fun _ _ _ h => h) (Or.inl ⟨by rfl, ?_⟩) (by assumption) ?_
                rotate_left
                · intro w hSw
                  go_simp
                  try with_reducible rfl
                simp only [Act.put, List.getElem_toArray, List.getElem_cons_zero, List.getElem_cons_succ, List.setIfInBounds_toArray, List.set_cons_zero, List.set_cons_succ]
                refine wpAnyH_done (by kernel_rfl) ?_ _
                refine NoPanic.normal ?_
                clear hHeld y0 y1 y2
                obtain ⟨st', hbi⟩ := HBI.out.put HY.out (by rw [HS.out, HYD.out]; have := HSY.out; rw [HYD.out] at this; exact this) (fun z' hz' => by have h1 := HZ.out; rw [hz'] at h1; injection h1 with h1; rw [h1, HYD.out]; omega)
                have HBJ := Aside0.mk hbi
                clear hbi
                go_wp2_with (fail)
                go_roundg gn
                case measure => exact Nat.lt_succ_self _
                case rel => exact ⟨i + 1, gk, by simp, ⟨by have := HIN.out; omega⟩, E ++ [leafE y], S, st', _, A4, c4, AS, cS, e + 1, rfl, rfl, ⟨by rw [List.length_append, HE.out]; rfl⟩, HS, HSB, HT4, HBJ⟩
            · have i1 : ¬ ((i : Int) + 1 < (n : Int)) := by omega
              go_upto_region 11 with (fail)
              go_quiet (fail)
              obtain ⟨wz, hwz⟩ : ∃ X, wr.drewN nq = X := ⟨_, rfl⟩
              rw [hwz]
              have hbz : Below wr.heap.size wr wz := by rw [← hwz]; exact pw_below_drewN (Below.refl _ wr) nq
              have HTZ := Aside0.mk (HT.out.below hbz)
              have HTD := Aside0.mk (HTZ.out.below (below_drew (Below.refl _ wz)))
              have y0 := pw_cell_below HTZ.out.b Y0.out
              have y1 := pw_cell_below HTZ.out.b Y1.out
              have y2 := pw_cell_below HTZ.out.b Y2.out
              clear hwz hbz
              go_upto_region 14 with (fail)
              refine wp_region_noPanic ?_
              refine wp_region_held_drew (S := (fun w' => w'.cell? (ad.add (i * 4)) = some (.int .u8 y.k) ∧ w'.cell? ⟨(ad.add (i * 4)).block, (ad.add (i * 4)).off + 1, none⟩ = some (.int .i64 y.f) ∧ w'.cell? ⟨(ad.add (i * 4)).block, (ad.add (i * 4)).off + 2, none⟩ = some (.int .i64 y.t))) (by kernel_rfl) ?_ (fun hHeld => ?_)
              · exact ⟨pw_cell_below (HTZ.out.b) Y0.out, pw_cell_below (HTZ.out.b) Y1.out, pw_cell_below (HTZ.out.b) Y2.out⟩
              refine wpAnyH_take (i := 0) (v := ?_) rfl (by kernel_rfl) (by kernel_rfl) (by kernel_rfl) (fun _ _ _ h => h) (Or.inl ⟨by rfl, ?_⟩) (by assumption) ?_
              rotate_left
              · intro w hSw
                go_simp
                try with_reducible rfl
              simp only [Act.put, List.getElem_toArray, List.getElem_cons_zero, List.getElem_cons_succ, List.setIfInBounds_toArray, List.set_cons_zero, List.set_cons_succ]
              refine wpAnyH_take (i := 1) (v := ?_) rfl (by kernel_rfl) (by kernel_rfl) (by kernel_rfl) (fun _ _ _ h => h) (Or.inl ⟨by rfl, ?_⟩) (by assumption) ?_
              rotate_left
              · intro w hSw
                go_simp
                try with_reducible rfl
              simp only [Act.put, List.getElem_toArray, List.getElem_cons_zero, List.getElem_cons_succ, List.setIfInBounds_toArray, List.set_cons_zero, List.set_cons_succ]
              refine wpAnyH_take (i := 2) (v := ?_) rfl (by kernel_rfl) (by kernel_rfl) (by kernel_rfl) (fun _ _ _ h => h) (Or.inl ⟨by rfl, ?_⟩) (by assumption) ?_
              rotate_left
              · intro w hSw
                go_simp
                try with_reducible rfl
              simp only [Act.put, List.getElem_toArray, List.getElem_cons_zero, List.getElem_cons_succ, List.setIfInBounds_toArray, List.set_cons_zero, List.set_cons_succ]
              refine wpAnyH_take (i := 3) (v := ?_) rfl (by kernel_rfl) (by kernel_rfl) (by kernel_rfl) (fun _ _ _ h => h) (Or.inl ⟨by rfl, ?_⟩) (by assumption) ?_
              rotate_left
              · intro w hSw
                go_simp
                try with_reducible rfl
              simp only [Act.put, List.getElem_toArray, List.getElem_cons_zero, List.getElem_cons_succ, List.setIfInBounds_toArray, List.set_cons_zero, List.set_cons_succ]
              refine wpAnyH_take (i := 4) (v := ?_) rfl (by kernel_rfl) (by kernel_rfl) (by kernel_rfl) (fun _ _ _ h => h) (Or.inl ⟨by rfl, ?_⟩) (by assumption) ?_
              rotate_left
              · intro w hSw
                go_simp
                try with_reducible rfl
              simp only [Act.put, List.getElem_toArray, List.getElem_cons_zero, List.getElem_cons_succ, List.setIfInBounds_toArray, List.set_cons_zero, List.set_cons_succ]
              refine wpAnyH_take (i := 5) (v := ?_) rfl (by kernel_rfl) (by kernel_rfl) (by kernel_rfl) (fun _ _ _ h => h) (Or.inl ⟨by rfl, ?_⟩) (by assumption) ?_
              rotate_left
              · intro w hSw
                go_simp
                try with_reducible rfl
              simp only [Act.put, List.getElem_toArray, List.getElem_cons_zero, List.getElem_cons_succ, List.setIfInBounds_toArray, List.set_cons_zero, List.set_cons_succ]
              refine wpAnyH_take (i := 6) (v := ?_) rfl (by kernel_rfl) (by kernel_rfl) (by kernel_rfl) (fun _ _ _ h => h) (Or.inl ⟨by rfl, ?_⟩) (by assumption) ?_
              rotate_left
              · intro w hSw
                go_simp
                try with_reducible rfl
              simp only [Act.put, List.getElem_toArray, List.getElem_cons_zero, List.getElem_cons_succ, List.setIfInBounds_toArray, List.set_cons_zero, List.set_cons_succ]
              refine wpAnyH_take (i := 7) (v := ?_) rfl (by kernel_rfl) (by kernel_rfl) (by kernel_rfl) (fun _ _ _ h => h) (Or.inl ⟨by rfl, ?_⟩) (by assumption) ?_
              rotate_left
              · intro w hSw
                go_simp
                try with_reducible rfl
              simp only [Act.put, List.getElem_toArray, List.getElem_cons_zero, List.getElem_cons_succ, List.setIfInBounds_toArray, List.set_cons_zero, List.set_cons_succ]
              refine wpAnyH_take (i := 8) (v := ?_) rfl (by kernel_rfl) (by kernel_rfl) (by kernel_rfl) (fun _ _ _ h => h) (Or.inl ⟨by rfl, ?_⟩) (by assumption) ?_
              rotate_left
              · intro w hSw
                go_simp
                try with_reducible rfl
              simp only [Act.put, List.getElem_toArray, List.getElem_cons_zero, List.getElem_cons_succ, List.setIfInBounds_toArray, List.set_cons_zero, List.set_cons_succ]
              refine wpAnyH_take (i := 9) (v := ?_) rfl (by kernel_rfl) (by kernel_rfl) (by kernel_rfl) (fun _ _ _ h => h) (Or.inl ⟨by rfl, ?_⟩) (by assumption) ?_
              rotate_left
              · intro w hSw
                go_simp
                try with_reducible rfl
              simp only [Act.put, List.getElem_toArray, List.getElem_cons_zero, List.getElem_cons_succ, List.setIfInBounds_toArray, List.set_cons_zero, List.set_cons_succ]
              refine wpAnyH_take (i := 10) (v := ?_) rfl (by kernel_rfl) (by kernel_rfl) (by kernel_rfl) (fun _ _ _ h => h) (Or.inl ⟨by rfl, ?_⟩) (by assumption) ?_
              rotate_left
              · intro w hSw
                go_simp
                try with_reducible rfl
              simp only [Act.put, List.getElem_toArray, List.getElem_cons_zero, List.getElem_cons_succ, List.setIfInBounds_toArray, List.set_cons_zero, List.set_cons_succ]
              refine wpAnyH_take (i := 11) (v := ?_) rfl (by kernel_rfl) (by kernel_rfl) (by kernel_rfl) (fun _ _ _ h => h) (Or.inl ⟨by rfl, ?_⟩) (by assumption) ?_
              rotate_left
              · intro w hSw
                go_simp
                try with_reducible rfl
              simp only [Act.put, List.getElem_toArray, List.getElem_cons_zero, List.getElem_cons_succ, List.setIfInBounds_toArray, List.set_cons_zero, List.set_cons_succ]
              refine wpAnyH_take (i := 12) (v := ?_) rfl (by kernel_rfl) (by kernel_rfl) (by kernel_rfl) (fun _ _ _ h => h) (Or.inl ⟨by rfl, ?_⟩) (by assumption) ?_
              rotate_left
              · intro w hSw
                go_simp
                try with_reducible rfl
              simp only [Act.put, List.getElem_toArray, List.getElem_cons_zero, List.getElem_cons_succ, List.setIfInBounds_toArray, List.set_cons_zero, List.set_cons_succ]
              refine wpAnyH_take (i := 13) (v := ?_) rfl (by kernel_rfl) (by kernel_rfl) (by kernel_rfl) (fun _ _ _ h => h) (Or.inl ⟨by rfl, ?_⟩) (by assumption) ?_
              rotate_left
              · intro w hSw
                go_simp
                try with_reducible rfl
              simp only [Act.put, List.getElem_toArray, List.getElem_cons_zero, List.getElem_cons_succ, List.setIfInBounds_toArray, List.set_cons_zero, List.set_cons_succ]
              refine wpAnyH_take (i := 14) (v := ?_) rfl (by kernel_rfl) (by kernel_rfl) (by kernel_rfl) (fun _ _ _ h => h) (Or.inl ⟨by rfl, ?_⟩) (by assumption) ?_
              rotate_left
              · intro w hSw
                go_simp
                try with_reducible rfl
              simp only [Act.put, List.getElem_toArray, List.getElem_cons_zero, List.getElem_cons_succ, List.setIfInBounds_toArray, List.set_cons_zero, List.set_cons_succ]
              refine wpAnyH_take (i := 15) (v := ?_) rfl (by kernel_rfl) (by kernel_rfl) (by kernel_rfl) (fun _ _ _ h => h) (Or.inl ⟨by rfl, ?_⟩) (by assumption) ?_
              rotate_left
              · intro w hSw
                go_simp
                try with_reducible rfl
              simp only [Act.put, List.getElem_toArray, List.getElem_cons_zero, List.getElem_cons_succ, List.setIfInBounds_toArray, List.set_cons_zero, List.set_cons_succ]
              refine wpAnyH_take (i := 16) (v := ?_) rfl (by kernel_rfl) (by kernel_rfl) (by kernel_rfl) (fun _ _ _ h => h) (Or.inl ⟨by rfl, ?_⟩) (by assumption) ?_
              rotate_left
              · intro w hSw
                go_simp
                try with_reducible rfl
              simp only [Act.put, List.getElem_toArray, List.getElem_cons_zero, List.getElem_cons_succ, List.setIfInBounds_toArray, List.set_cons_zero, List.set_cons_succ]
              refine wpAnyH_ready (rs := [17]) (by kernel_rfl) (by simp) ?_
              refine AllReadyH.cons rfl (fun K hK => ?_) AllReadyH.nil
              go_simp
              refine hK.out _ _ ⟨pw_cell_below (below_drew (below_alloc HTZ.out.b _)) Y0.out, pw_cell_below (below_drew (below_alloc HTZ.out.b _)) Y1.out, pw_cell_below (below_drew (below_alloc HTZ.out.b _)) Y2.out⟩ (fun hHeld2 => ?_)
              clear hK K hHeld
              have hHeld := hHeld2
              clear hHeld2
              try simp only [Act.put, List.getElem_toArray, List.getElem_cons_zero, List.getElem_cons_succ, List.setIfInBounds_toArray, List.set_cons_zero, List.set_cons_succ]
              refine wpAnyH_ready (rs := [18]) (by kernel_rfl) (by simp) ?_
              refine AllReadyH.cons rfl (fun K hK => ?_) AllReadyH.nil
              refine Kd.R_append_step (W := wz.drew) kE (w0 := wz.drew) 0 (by rfl) (.tmp 99) (.tmp 116) 29 41 (.agg #[.int .u8 0, .int .u8 0, .int .i64 0, .int .i64 0]) 24 rfl Try.underlying29 info41 rfl (by decide) (by decide) (.slice AE e cE) E (leafE y) [.int .u8 3, .int .u8 y.k, .int .i64 y.f, .int .i64 y.t] (fun j => w.heap.size ≤ j) (fun _ => False) rfl rfl rfl (fun _ h => h.elim) (fun k hk => Nat.le_trans HTD.out.b.size hk) HTD.out.rE (Below.refl _ _) (Nat.zero_le _) (by rw [HE.out]; have := HE8.out; omega) ?_
              intro v1 w4 hR4 _ hg4 hat4
              have hT4 := HTD.out.addE hR4 hg4 hat4
              obtain ⟨A4, c4, hv4, _, _⟩ := Kd.R_reads hR4
              have hl4 : (E ++ [(leafE y)]).length = e + 1 := (by rw [List.length_append, HE.out]; rfl)
              rw [hl4] at hv4
              subst hv4
              have HT4 := Aside0.mk hT4
              clear hR4 hg4 hat4 hT4 hl4
              refine hK.out _ _ ⟨pw_cell_below (HT4.out.b) Y0.out, pw_cell_below (HT4.out.b) Y1.out, pw_cell_below (HT4.out.b) Y2.out⟩ (fun hHeld2 => ?_)
              clear hK K hHeld
              have hHeld := hHeld2
              clear hHeld2
              try simp only [Act.put, List.getElem_toArray, List.getElem_cons_zero, List.getElem_cons_succ, List.setIfInBounds_toArray, List.set_cons_zero, List.set_cons_succ]
              refine wpAnyH_take (i := 19) (v := ?_) rfl (by kernel_rfl) (by kernel_rfl) (by kernel_rfl) (fun _ _ _ h => h) (Or.inl ⟨by rfl, ?_⟩) (by assumption) ?_
              rotate_left
              · intro w hSw
                go_simp
                try with_reducible rfl
              simp only [Act.put, List.getElem_toArray, List.getElem_cons_zero, List.getElem_cons_succ, List.setIfInBounds_toArray, List.set_cons_zero, List.set_cons_succ]
              refine wpAnyH_done (by kernel_rfl) ?_ _
              refine NoPanic.normal ?_
              clear hHeld y0 y1 y2
              obtain ⟨st', hbi⟩ := HBI.out.put HY.out (by rw [HS.out, HYD.out]; have := HSY.out; rw [HYD.out] at this; exact this) (fun z' hz' => by have h1 := (List.getElem?_eq_some_iff.1 hz').1; rw [HLN.out] at h1; omega)
              have HBJ := Aside0.mk hbi
              clear hbi
              go_wp2_with (fail)
              go_roundg gn
              case measure => exact Nat.lt_succ_self _
              case rel => exact ⟨i + 1, gk, by simp, ⟨by have := HIN.out; omega⟩, E ++ [leafE y], S, st', _, A4, c4, AS, cS, e + 1, rfl, rfl, ⟨by rw [List.length_append, HE.out]; rfl⟩, HS, HSB, HT4, HBJ⟩
      · have hie : i = n := by have := HIN.out; omega
        have hbn := HBI.out
        rw [hie] at hbn
        have HBN := Aside0.mk hbn
        have q1 : ¬ ((i : Int) < (n : Int)) := by omega
        clear hbn HBI hin hie
        go_upto_block 4 with (fail)
        go_wp2_with (fail)
        go_loopg [3, 4] s (fun gk v3 v4 wr => ∃ (E : List Ev) (S : List Nd) (st : List (Int × Int)) (m : Bl) (AE : Option Addr) (cE : Nat) (AS : Option Addr) (cS : Nat) (e : Nat), v3 = .slice AE e cE ∧ v4 = .slice AS gk cS ∧ Aside0 (E.length = e) ∧ Aside0 (S.length = gk) ∧ Aside0 (gk ≤ 2000) ∧ Aside0 (TwoR w wr (.slice AE e cE) (.slice AS gk cS) E S) ∧ Aside0 (BI l n E S st m))
        case atStart => exact ⟨E, S, st, m, AE, cE, AS, cS, e, rfl, rfl, HE, HS, HSB, HT, HBN⟩
        case round =>
          clear HE HS HSB HT HBN
          obtain ⟨E, S, st, m, AE, cE, AS, cS, e, rfl, rfl, HE, HS, HSB, HT, HBI⟩ := hrel
          by_cases hgk : gk = 0
          rotate_left
          · obtain ⟨gs, rfl⟩ : ∃ gs, gk = gs + 1 := ⟨gk - 1, by omega⟩
            obtain ⟨S', x, hSx, hSl⟩ := snoc_of HS.out
            subst hSx
            have hT := HT.out
            obtain ⟨g, cap, hv, hcap⟩ := row_form hT.rS (by simp)
            injection hv with hv1 hv2 hv3
            subst hv1
            subst hv3
            have hpr := row_at (xs := S' ++ [x]) (by have := hT.rS; exact this) (i := gs) (y := x) (by rw [List.getElem?_append_right (by omega), hSl, Nat.sub_self]; rfl)
            have c2x : wr.cell? ⟨g, gs * 4 + 2, none⟩ = some (.int .i64 x.t) := hpr 2 _ rfl
            have hcut := cut_to (P := Try.prog) 32 38 .i64 Try.underlying32 I38.out (some ⟨g, 0, none⟩) (gs + 1) cS (gs : Int) (by omega) (by omega) (by simp at hcap; omega)
            rw [Int.toNat_natCast] at hcut
            have hwm : IntKind.i64.wrap (((gs + 1 : Nat) : Int) - 1) = (gs : Int) := by
              rw [show ((gs + 1 : Nat) : Int) - 1 = (gs : Int) from by omega]
              exact IntWalk.i64_in _ (by have := HSB.out; omega)
            have hwm2 : IntKind.i64.wrap ((gs : Int) + 1 - 1) = (gs : Int) := by
              rw [show (gs : Int) + 1 - 1 = (gs : Int) from by omega]
              exact IntWalk.i64_in _ (by have := HSB.out; omega)
            have hwm3 : IntKind.i64.wrap (gs : Int) = (gs : Int) := IntWalk.i64_in _ (by have := HSB.out; omega)
            have t0 : (0 : Int) ≤ (gs : Int) := by omega
            have t1 : (gs : Int) < ((gs + 1 : Nat) : Int) := by omega
            have t3 : (gs : Int) < (gs : Int) + 1 := by omega
            have hEle : e ≤ 2000 := by have := HE.out; have := HBI.out.cnt; simp at this; have := HIN.out; omega
            have HSL := Aside0.mk hSl
            have g0 : (0 : Int) < (gs : Int) + 1 := by omega
            clear hv2 hT hpr hcap hSl
            go_wp2_with (at_builtin; refine Kd.R_append kE (w0 := wr) 0 rfl (.tmp 121) (.tmp 130) 29 41 (.agg #[.int .u8 0, .int .u8 0, .int .i64 0, .int .i64 0]) 24 rfl Try.underlying29 info41 rfl (by decide) (by decide) (.slice AE e cE) E (endE x) [.int .u8 2, .int .u8 0, .int .i64 x.t, .int .i64 0] (fun j => w.heap.size ≤ j) (fun _ => False) rfl rfl rfl (fun _ h => h.elim) (fun k hk => Nat.le_trans HT.out.b.size hk) HT.out.rE (Below.refl _ _) (Nat.zero_le _) (by rw [HE.out]; omega) ?_; intro v1 w4 hR4 _ hg4 hat4; have hT4 := HT.out.addE hR4 hg4 hat4; obtain ⟨A4, c4, hv4, _, _⟩ := Kd.R_reads hR4; have hl4 : (E ++ [(endE x)]).length = e + 1 := (by rw [List.length_append, HE.out]; rfl); rw [hl4] at hv4; subst hv4; have HT4 := Aside0.mk hT4; clear hR4 hg4 hat4 hT4 hl4)
            go_roundg gs
            case measure => exact Nat.lt_succ_self _
            case rel => exact ⟨E ++ [endE x], S', st, endB m (endE x), A4, c4, _, cS, e + 1, rfl, rfl, ⟨by rw [List.length_append, HE.out]; rfl⟩, HSL, ⟨by have := HSB.out; omega⟩, ⟨HT4.out.cut HSL.out⟩, ⟨HBI.out.pop (fun z hz => by have h1 := (List.getElem?_eq_some_iff.1 hz).1; rw [HLN.out] at h1; omega)⟩⟩
          · subst hgk
            have hS0 : S = [] := List.eq_nil_of_length_eq_zero HS.out
            subst hS0
            have hE8 : e ≤ 2000 := by have := HE.out; have := HBI.out.cnt; simp at this; omega
            have hbl : BI l l.length E [] st m := by rw [HLN.out]; exact HBI.out
            obtain ⟨P1, P2, P3, P4⟩ := hbl.done H00.out
            rw [HN.out] at P2 P3 P4
            have HP1 := Aside0.mk P1
            have HP2 := Aside0.mk P2
            have HNB : Aside0 (¬ (N < m.far ∨ 1048576 < N)) := ⟨by omega⟩
            have hmL : m.L.length ≤ 1000000 := by rw [HBI.out.L]; omega
            have hmO : m.O.length ≤ 1000000 := by rw [HBI.out.ln]; simp
            have a0 := pw_cell_below HT.out.b A0.out
            rw [EH.out] at a0
            dsimp only at a0
            have a2 := pw_cell_below HT.out.b A2.out
            clear P1 P2 P3 P4 hbl
            go_wp2_with (refine (new_c 1 _).mono ?_)
            rintro _ w3 ⟨b, ps, vN, vO, rfl, h3, b3⟩
            have hpu := put_c b ps (newB 1) vN vO AE e cE E 0 w3 _ h3 (fun w' hf => by
              have h1 := Kd.R_below HT.out.rE b3
              have h2 := E_turn h1 (fun k hk hlt => hf.block k hlt (fun hh => by have h5 := Kd.R_lt HT.out.rE k hk; have hh' : wr.heap.size ≤ k := hh; omega))
              obtain ⟨e3, _, e4⟩ := Kd.R_reads' h2
              rw [e3]
              exact e4) 1 wf1 (by omega)
            have HPU := Aside0.mk hpu
            have B3 : Aside0 (Below w.heap.size w w3) := ⟨HT.out.b.trans (b3.mono HT.out.b.size)⟩
            have hz3 : wr.heap.size ≤ w3.heap.size := b3.size
            clear h3 b3 hpu a0
            go_wp2_with (refine HPU.out.mono ?_)
            rintro _ w4 ⟨rfl, ⟨ps4, vN4, vO4, h4⟩, f4⟩
            rw [if_pos HP1.out, HBI.out.pe] at h4
            have hp1 := HP1.out
            rw [hp1]
            have B4 : Aside0 (Below w.heap.size w w4) := ⟨B3.out.trans (f4.below B3.out.size (fun j hj => Nat.le_trans HT.out.b.size hj))⟩
            have HDN := Aside0.mk (done_c b ps4 m vN4 vO4 N w4 _ h4 HBI.out.sr hmL hmO)
            have a2 := pw_cell_below B4.out A2.out
            clear h4 f4 hp1
            go_wp2_with (refine HDN.out.mono ?_)
            rintro _ w5 ⟨b5, (⟨hbad, _⟩ | ⟨_, v5, rfl, hr5⟩)⟩
            · exact absurd hbad HNB.out
            rw [HP2.out] at hr5
            obtain ⟨A5, c5, hv5, hle5, hc5⟩ := Kd.R_reads hr5
            rw [HLN.out] at hv5 hle5 hc5
            subst hv5
            have B5 : Aside0 (Below w.heap.size w w5) := ⟨B4.out.trans (b5.mono B4.out.size)⟩
            have HSM := Aside0.mk (same_c A5 (some ad) n c5 c l w5 hc5 (Kd.C_below HX.out B5.out))
            clear b5 hr5 hle5 hc5 HDN HPU
            go_wp2_with (first
              | (refine HSM.out.mono ?_; rintro _ w6 ⟨rfl, h6⟩; have B6 : Aside0 (Below w.heap.size w w6) := ⟨B5.out.trans (h6.mono B5.out.size)⟩; clear h6)
              | (refine (wakes_c _).mono ?_; rintro _ w7 ⟨rfl, h7⟩; have B7 : Aside0 (Below w.heap.size w w7) := ⟨B6.out.trans (h7.mono B6.out.size)⟩; clear h7))
            go_ret
            exact ⟨rfl, B7.out⟩
end Go.Proofs.Ytfaibpdoalbkpaa.Bu
