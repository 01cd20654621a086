/- The document's Of: one or the other. -/
import Derived.Test.YtcbddmmoioggaaaOa
namespace Go.Proofs.Ytcbddmmoioggaaa.Sp
open Go.RowKit Go.Proofs.YtcbddmmoioggaaaW.PrintWords Go.Proofs.YtcbddmmoioggaaaW.PrintLast Go.Proofs.YtcbddmmoioggaaaW.PrintMore
attribute [local go_sem] max2_int min2_int max_two min_two max_three min_three max_four min_four
set_option linter.unusedVariables false
set_option linter.unusedSimpArgs false
set_option maxRecDepth 100000 in
set_option maxHeartbeats 16000000 in
theorem rof0_c (A : Option Addr) (n c : Nat) (a : List Rg) (B : Option Addr) (m d : Nat) (b : List Rg) (w : World) (hA : ReadsRow RRg 2 w A n a) (hB : ReadsRow RRg 2 w B m b) (hnm : n + m ≤ 100000) :
    Calls Try.prog 19 #[.slice A n c, .slice B m d, .int .i64 0] w fun e w' => OfP w (fun x y => x || y) a b e w' := by
  have HA := Aside0.mk hA
  have HB_ := Aside0.mk hB
  have HAL := Aside0.mk hA.1
  have HBL := Aside0.mk hB.1
  have hE1 := ends_c A n c a (.slice none 0 0) [] w w.heap.size (fun w' hb => rgs_below hA hb) (Kd.R_nil _ _ _ _ _) (Nat.le_refl _) ⟨List.Pairwise.nil, fun p hp => (by cases hp), fun e he => by rcases he with h | h <;> cases h⟩ (by simp; omega)
  have HE1 := Aside0.mk hE1
  clear hA hB hE1
  go_enter Try.func19, Try.ntmps19
  go_wp2_with (refine HE1.out.mono ?_)
  rintro _ w1 ⟨v1, out1, rfl, hR1, hEI1, hL1, hb1⟩
  have hE2 := ends_c B m d b v1 out1 w1 w.heap.size (fun w' hb => rgs_below HB_.out (hb1.trans hb)) hR1 hb1.size ⟨hEI1.s, hEI1.r, fun e he => by rcases he with h | h; exact h; cases h⟩ (by rw [HAL.out] at hL1; simp at hL1; omega)
  obtain ⟨B1, c1, hv1, _, _⟩ := Kd.R_reads hR1
  subst hv1
  have HE2 := Aside0.mk hE2
  have HB1 := Aside0.mk hb1
  have HEI1 := Aside0.mk hEI1
  have HL1 := Aside0.mk hL1
  clear hR1 hEI1 hL1 hb1 hE2 HE1
  go_wp2_with (refine HE2.out.mono ?_)
  rintro _ w2 ⟨v2, pts, rfl, hR2, hEI2, hL2, hb2⟩
  have hB2 : Below w.heap.size w w2 := HB1.out.trans hb2
  have hok := ref_ok (P := fun x y => x || y) rfl (a := a) (b := b) (pts := pts) hEI2.s hEI2.r (fun e he => by
    rcases he with h | h
    · exact hEI2.a e (.inl (HEI1.out.a e (.inr h)))
    · exact hEI2.a e (.inr h))
  obtain ⟨X, cX, hv2, hcX, _⟩ := Kd.R_reads hR2
  obtain ⟨N, hN⟩ : ∃ q, pts.length = q := ⟨_, rfl⟩
  have hN8 : N ≤ 2 * (n + m) := by
    rw [← hN]
    have h1 := HL1.out
    rw [HAL.out] at h1
    rw [HBL.out] at hL2
    simp at h1
    omega
  rw [hN] at hv2
  subst hv2
  have HOK := Aside0.mk hok
  have HN := Aside0.mk hN
  have HX2 := Aside0.mk hR2
  have HB2 := Aside0.mk hB2
  clear hok hN hR2 hB2 hEI2 hL2 hb2 HE2 HEI1 HL1 hcX
  go_upto_block 0 with (fail)
  go_wp2_with (fail)
  go_loopg [9, 8] N (fun gk v9 v8 wr => ∃ (i q c3 : Nat) (A3 : Option Addr) (R : List Rg), v9 = .int .i64 (i : Int) ∧ v8 = .slice A3 q c3 ∧ Aside0 (i + gk = N) ∧ Aside0 (kR.R 31 wr 0 (fun j => w.heap.size ≤ j) (.slice A3 q c3) R) ∧ Aside0 (R.length = q) ∧ Aside0 (q ≤ i) ∧ Aside0 (kI.R 3 wr 0 (fun j => w.heap.size ≤ j) (.slice X N cX) pts) ∧ Aside0 (Below w.heap.size w wr) ∧ Aside0 (runB (fun x => (fun x y => x || y) (has a x) (has b x)) pts [] = runB (fun x => (fun x y => x || y) (has a x) (has b x)) (pts.drop i) R))
  case atStart => exact ⟨0, 0, 0, none, [], rfl, rfl, ⟨by omega⟩, ⟨Kd.R_nil _ _ _ _ _⟩, ⟨rfl⟩, ⟨Nat.le_refl _⟩, HX2, HB2, ⟨rfl⟩⟩
  case round =>
    clear HX2 HB2
    obtain ⟨i, q, c3, A3, R, rfl, rfl, HI, HR, HRL, HQL, HX, HB, HRUN⟩ := hrel
    have hwi : IntKind.i64.wrap ((i : Int) + 1) = (i : Int) + 1 := IntWalk.i64_in _ (by have := HI.out; omega)
    have hti : ((i : Int) + 1).toNat = i + 1 := by omega
    by_cases hiN : i + 1 < N
    · obtain ⟨gn, rfl⟩ : ∃ gn, gk = gn + 1 := ⟨gk - 1, by have := HI.out; omega⟩
      obtain ⟨p, hp⟩ : ∃ p, pts[i]? = some p := ⟨_, List.getElem?_eq_getElem (by rw [HN.out]; omega)⟩
      obtain ⟨z, hz⟩ : ∃ z, pts[i + 1]? = some z := ⟨_, List.getElem?_eq_getElem (by rw [HN.out]; omega)⟩
      obtain ⟨gp, cp, hvp, _⟩ := Sp.formI HX.out (by rw [HN.out]; omega)
      injection hvp with hx1 hx2 hx3
      subst hx1
      have dp := atI HX.out hp
      have dz := atI HX.out hz
      have HP := Aside0.mk hp
      have HZ := Aside0.mk hz
      have p0 : (0 : Int) ≤ (i : Int) := by omega
      have p1 : (i : Int) < (N : Int) := by omega
      have p2 : (i : Int) + 1 < (N : Int) := by omega
      have p3 : (0 : Int) ≤ (i : Int) + 1 := by omega
      have hq8 : q ≤ 1000000 := by have := HQL.out; omega
      have hha := rhas_c A n c a p wr.drew (rgs_below HA.out (below_drew HB.out))
      have hhb := rhas_c B m d b p wr.drew (rgs_below HB_.out (below_drew HB.out))
      obtain ⟨ga, hga⟩ : ∃ x, has a p = x := ⟨_, rfl⟩
      obtain ⟨gb, hgb⟩ : ∃ x, has b p = x := ⟨_, rfl⟩
      rw [hga] at hha
      rw [hgb] at hhb
      have HHA := Aside0.mk hha
      have HHB := Aside0.mk hhb
      clear hx2 hx3 hha hhb
      cases ga <;> cases gb
      · have hnx : runB (fun x => (fun x y => x || y) (has a x) (has b x)) (pts.drop i) R = runB (fun x => (fun x y => x || y) (has a x) (has b x)) (pts.drop (i + 1)) R := by
          rw [runB_at hp hz, hga, hgb]
          rfl
        have HNX := Aside0.mk hnx
        clear hnx hga hgb hp hz
        go_upto_region 6 with (fail)
        refine wp_region_noPanic ?_
        refine wp_region_held_drew (S := (fun w' => w'.cell? ⟨gp, i, none⟩ = some (.int .i64 p))) (by kernel_rfl) ?_ (fun hHeld => ?_)
        · exact dp
        refine wpAnyH_take (i := 0) (v := ?_) rfl (by kernel_rfl) (by kernel_rfl) (by kernel_rfl) (fun _ _ _ h => h) (Or.inl ⟨by rfl, ?_⟩) (by assumption) ?_
        rotate_left
        · intro w hSw
          go_simp
          try with_reducible rfl
        simp only [Act.put, List.getElem_toArray, List.getElem_cons_zero, List.getElem_cons_succ, List.setIfInBounds_toArray, List.set_cons_zero, List.set_cons_succ]
        refine wpAnyH_take (i := 1) (v := ?_) rfl (by kernel_rfl) (by kernel_rfl) (by kernel_rfl) (fun _ _ _ h => h) (Or.inl ⟨by rfl, ?_⟩) (by assumption) ?_
        rotate_left
        · intro w hSw
          go_simp
          try with_reducible rfl
        simp only [Act.put, List.getElem_toArray, List.getElem_cons_zero, List.getElem_cons_succ, List.setIfInBounds_toArray, List.set_cons_zero, List.set_cons_succ]
        refine wpAnyH_take (i := 2) (v := ?_) rfl (by kernel_rfl) (by kernel_rfl) (by kernel_rfl) (fun _ _ _ h => h) (Or.inl ⟨by rfl, ?_⟩) (by assumption) ?_
        rotate_left
        · intro w hSw
          go_simp
          try with_reducible rfl
        simp only [Act.put, List.getElem_toArray, List.getElem_cons_zero, List.getElem_cons_succ, List.setIfInBounds_toArray, List.set_cons_zero, List.set_cons_succ]
        refine wpAnyH_take (i := 3) (v := ?_) rfl (by kernel_rfl) (by kernel_rfl) (by kernel_rfl) (fun _ _ _ h => h) (Or.inl ⟨by rfl, ?_⟩) (by assumption) ?_
        rotate_left
        · intro w hSw
          go_simp
          try with_reducible rfl
        simp only [Act.put, List.getElem_toArray, List.getElem_cons_zero, List.getElem_cons_succ, List.setIfInBounds_toArray, List.set_cons_zero, List.set_cons_succ]
        refine wpAnyH_take (i := 4) (v := ?_) rfl (by kernel_rfl) (by kernel_rfl) (by kernel_rfl) (fun _ _ _ h => h) (Or.inl ⟨by rfl, ?_⟩) (by assumption) ?_
        rotate_left
        · intro w hSw
          go_simp
          try with_reducible rfl
        simp only [Act.put, List.getElem_toArray, List.getElem_cons_zero, List.getElem_cons_succ, List.setIfInBounds_toArray, List.set_cons_zero, List.set_cons_succ]
        refine wpAnyH_take (i := 6) (v := ?_) rfl (by kernel_rfl) (by kernel_rfl) (by kernel_rfl) (fun _ _ _ h => h) (Or.inl ⟨by rfl, ?_⟩) (by assumption) ?_
        rotate_left
        · intro w hSw
          go_simp
          try with_reducible rfl
        simp only [Act.put, List.getElem_toArray, List.getElem_cons_zero, List.getElem_cons_succ, List.setIfInBounds_toArray, List.set_cons_zero, List.set_cons_succ]
        refine wpAnyH_take (i := 7) (v := ?_) rfl (by kernel_rfl) (by kernel_rfl) (by kernel_rfl) (fun _ _ _ h => h) (Or.inl ⟨by rfl, ?_⟩) (by assumption) ?_
        rotate_left
        · intro w hSw
          go_simp
          try with_reducible rfl
        simp only [Act.put, List.getElem_toArray, List.getElem_cons_zero, List.getElem_cons_succ, List.setIfInBounds_toArray, List.set_cons_zero, List.set_cons_succ]
        refine wpAnyH_take (i := 8) (v := ?_) rfl (by kernel_rfl) (by kernel_rfl) (by kernel_rfl) (fun _ _ _ h => h) (Or.inl ⟨by rfl, ?_⟩) (by assumption) ?_
        rotate_left
        · intro w hSw
          go_simp
          try with_reducible rfl
        simp only [Act.put, List.getElem_toArray, List.getElem_cons_zero, List.getElem_cons_succ, List.setIfInBounds_toArray, List.set_cons_zero, List.set_cons_succ]
        refine wpAnyH_take (i := 9) (v := ?_) rfl (by kernel_rfl) (by kernel_rfl) (by kernel_rfl) (fun _ _ _ h => h) (Or.inl ⟨by rfl, ?_⟩) (by assumption) ?_
        rotate_left
        · intro w hSw
          go_simp
          try with_reducible rfl
        simp only [Act.put, List.getElem_toArray, List.getElem_cons_zero, List.getElem_cons_succ, List.setIfInBounds_toArray, List.set_cons_zero, List.set_cons_succ]
        refine wpAnyH_take (i := 10) (v := ?_) rfl (by kernel_rfl) (by kernel_rfl) (by kernel_rfl) (fun _ _ _ h => h) (Or.inl ⟨by rfl, ?_⟩) (by assumption) ?_
        rotate_left
        · intro w hSw
          go_simp
          try with_reducible rfl
        simp only [Act.put, List.getElem_toArray, List.getElem_cons_zero, List.getElem_cons_succ, List.setIfInBounds_toArray, List.set_cons_zero, List.set_cons_succ]
        refine wpAnyH_ready (rs := [5]) (by kernel_rfl) (by simp) ?_
        refine AllReadyH.cons rfl (fun K hK => ?_) AllReadyH.nil
        go_simp
        refine HHA.out.mono ?_
        rintro _ w9 ⟨rfl, h9⟩
        rw [h9]
        clear h9 w9
        refine hK.out _ _ dp (fun hHeld2 => ?_)
        clear hK K hHeld
        have hHeld := hHeld2
        clear hHeld2
        try simp only [Act.put, List.getElem_toArray, List.getElem_cons_zero, List.getElem_cons_succ, List.setIfInBounds_toArray, List.set_cons_zero, List.set_cons_succ]
        refine wpAnyH_ready (rs := [11]) (by kernel_rfl) (by simp) ?_
        refine AllReadyH.cons rfl (fun K hK => ?_) AllReadyH.nil
        go_simp
        refine HHB.out.mono ?_
        rintro _ w9 ⟨rfl, h9⟩
        rw [h9]
        clear h9 w9
        refine hK.out _ _ dp (fun hHeld2 => ?_)
        clear hK K hHeld
        have hHeld := hHeld2
        clear hHeld2
        try simp only [Act.put, List.getElem_toArray, List.getElem_cons_zero, List.getElem_cons_succ, List.setIfInBounds_toArray, List.set_cons_zero, List.set_cons_succ]
        refine wpAnyH_take (i := 12) (v := ?_) rfl (by kernel_rfl) (by kernel_rfl) (by kernel_rfl) (fun _ _ _ h => h) (Or.inl ⟨by rfl, ?_⟩) (by assumption) ?_
        rotate_left
        · intro w hSw
          go_simp
          try with_reducible rfl
        simp only [Act.put, List.getElem_toArray, List.getElem_cons_zero, List.getElem_cons_succ, List.setIfInBounds_toArray, List.set_cons_zero, List.set_cons_succ]
        refine wpAnyH_take (i := 13) (v := ?_) rfl (by kernel_rfl) (by kernel_rfl) (by kernel_rfl) (fun _ _ _ h => h) (Or.inl ⟨by rfl, ?_⟩) (by assumption) ?_
        rotate_left
        · intro w hSw
          go_simp
          try with_reducible rfl
        simp only [Act.put, List.getElem_toArray, List.getElem_cons_zero, List.getElem_cons_succ, List.setIfInBounds_toArray, List.set_cons_zero, List.set_cons_succ]
        refine wpAnyH_done (by kernel_rfl) ?_ _
        refine NoPanic.normal ?_
        obtain ⟨wz, hwz⟩ : ∃ x, wr.drew = x := ⟨_, rfl⟩
        rw [hwz]
        have hbz : Below wr.heap.size wr wz := by rw [← hwz]; exact below_drew (Below.refl _ wr)
        have HRZ := Aside0.mk (Kd.R_below HR.out hbz)
        have HXZ := Aside0.mk (Kd.R_below HX.out hbz)
        have HBZ : Aside0 (Below w.heap.size w wz) := ⟨HB.out.trans (hbz.mono HB.out.size)⟩
        have dp := pw_cell_below hbz dp
        have dz := pw_cell_below hbz dz
        clear hwz hHeld HHA HHB
        go_wp2_with (fail)
        go_roundg gn
        case measure => exact Nat.lt_succ_self _
        case rel => exact ⟨i + 1, q, c3, A3, R, by simp, rfl, ⟨by have := HI.out; omega⟩, HRZ, HRL, ⟨by have := HQL.out; omega⟩, HXZ, HBZ, ⟨by rw [HRUN.out, HNX.out]⟩⟩
      · have hnx : runB (fun x => (fun x y => x || y) (has a x) (has b x)) (pts.drop i) R = runB (fun x => (fun x y => x || y) (has a x) (has b x)) (pts.drop (i + 1)) (putB R p z) := by
          rw [runB_at hp hz, hga, hgb]
          rfl
        have HNX := Aside0.mk hnx
        clear hnx hga hgb hp hz
        go_upto_region 6 with (fail)
        refine wp_region_noPanic ?_
        refine wp_region_held_drew (S := (fun w' => w'.cell? ⟨gp, i, none⟩ = some (.int .i64 p))) (by kernel_rfl) ?_ (fun hHeld => ?_)
        · exact dp
        refine wpAnyH_take (i := 0) (v := ?_) rfl (by kernel_rfl) (by kernel_rfl) (by kernel_rfl) (fun _ _ _ h => h) (Or.inl ⟨by rfl, ?_⟩) (by assumption) ?_
        rotate_left
        · intro w hSw
          go_simp
          try with_reducible rfl
        simp only [Act.put, List.getElem_toArray, List.getElem_cons_zero, List.getElem_cons_succ, List.setIfInBounds_toArray, List.set_cons_zero, List.set_cons_succ]
        refine wpAnyH_take (i := 1) (v := ?_) rfl (by kernel_rfl) (by kernel_rfl) (by kernel_rfl) (fun _ _ _ h => h) (Or.inl ⟨by rfl, ?_⟩) (by assumption) ?_
        rotate_left
        · intro w hSw
          go_simp
          try with_reducible rfl
        simp only [Act.put, List.getElem_toArray, List.getElem_cons_zero, List.getElem_cons_succ, List.setIfInBounds_toArray, List.set_cons_zero, List.set_cons_succ]
        refine wpAnyH_take (i := 2) (v := ?_) rfl (by kernel_rfl) (by kernel_rfl) (by kernel_rfl) (fun _ _ _ h => h) (Or.inl ⟨by rfl, ?_⟩) (by assumption) ?_
        rotate_left
        · intro w hSw
          go_simp
          try with_reducible rfl
        simp only [Act.put, List.getElem_toArray, List.getElem_cons_zero, List.getElem_cons_succ, List.setIfInBounds_toArray, List.set_cons_zero, List.set_cons_succ]
        refine wpAnyH_take (i := 3) (v := ?_) rfl (by kernel_rfl) (by kernel_rfl) (by kernel_rfl) (fun _ _ _ h => h) (Or.inl ⟨by rfl, ?_⟩) (by assumption) ?_
        rotate_left
        · intro w hSw
          go_simp
          try with_reducible rfl
        simp only [Act.put, List.getElem_toArray, List.getElem_cons_zero, List.getElem_cons_succ, List.setIfInBounds_toArray, List.set_cons_zero, List.set_cons_succ]
        refine wpAnyH_take (i := 4) (v := ?_) rfl (by kernel_rfl) (by kernel_rfl) (by kernel_rfl) (fun _ _ _ h => h) (Or.inl ⟨by rfl, ?_⟩) (by assumption) ?_
        rotate_left
        · intro w hSw
          go_simp
          try with_reducible rfl
        simp only [Act.put, List.getElem_toArray, List.getElem_cons_zero, List.getElem_cons_succ, List.setIfInBounds_toArray, List.set_cons_zero, List.set_cons_succ]
        refine wpAnyH_take (i := 6) (v := ?_) rfl (by kernel_rfl) (by kernel_rfl) (by kernel_rfl) (fun _ _ _ h => h) (Or.inl ⟨by rfl, ?_⟩) (by assumption) ?_
        rotate_left
        · intro w hSw
          go_simp
          try with_reducible rfl
        simp only [Act.put, List.getElem_toArray, List.getElem_cons_zero, List.getElem_cons_succ, List.setIfInBounds_toArray, List.set_cons_zero, List.set_cons_succ]
        refine wpAnyH_take (i := 7) (v := ?_) rfl (by kernel_rfl) (by kernel_rfl) (by kernel_rfl) (fun _ _ _ h => h) (Or.inl ⟨by rfl, ?_⟩) (by assumption) ?_
        rotate_left
        · intro w hSw
          go_simp
          try with_reducible rfl
        simp only [Act.put, List.getElem_toArray, List.getElem_cons_zero, List.getElem_cons_succ, List.setIfInBounds_toArray, List.set_cons_zero, List.set_cons_succ]
        refine wpAnyH_take (i := 8) (v := ?_) rfl (by kernel_rfl) (by kernel_rfl) (by kernel_rfl) (fun _ _ _ h => h) (Or.inl ⟨by rfl, ?_⟩) (by assumption) ?_
        rotate_left
        · intro w hSw
          go_simp
          try with_reducible rfl
        simp only [Act.put, List.getElem_toArray, List.getElem_cons_zero, List.getElem_cons_succ, List.setIfInBounds_toArray, List.set_cons_zero, List.set_cons_succ]
        refine wpAnyH_take (i := 9) (v := ?_) rfl (by kernel_rfl) (by kernel_rfl) (by kernel_rfl) (fun _ _ _ h => h) (Or.inl ⟨by rfl, ?_⟩) (by assumption) ?_
        rotate_left
        · intro w hSw
          go_simp
          try with_reducible rfl
        simp only [Act.put, List.getElem_toArray, List.getElem_cons_zero, List.getElem_cons_succ, List.setIfInBounds_toArray, List.set_cons_zero, List.set_cons_succ]
        refine wpAnyH_take (i := 10) (v := ?_) rfl (by kernel_rfl) (by kernel_rfl) (by kernel_rfl) (fun _ _ _ h => h) (Or.inl ⟨by rfl, ?_⟩) (by assumption) ?_
        rotate_left
        · intro w hSw
          go_simp
          try with_reducible rfl
        simp only [Act.put, List.getElem_toArray, List.getElem_cons_zero, List.getElem_cons_succ, List.setIfInBounds_toArray, List.set_cons_zero, List.set_cons_succ]
        refine wpAnyH_ready (rs := [5]) (by kernel_rfl) (by simp) ?_
        refine AllReadyH.cons rfl (fun K hK => ?_) AllReadyH.nil
        go_simp
        refine HHA.out.mono ?_
        rintro _ w9 ⟨rfl, h9⟩
        rw [h9]
        clear h9 w9
        refine hK.out _ _ dp (fun hHeld2 => ?_)
        clear hK K hHeld
        have hHeld := hHeld2
        clear hHeld2
        try simp only [Act.put, List.getElem_toArray, List.getElem_cons_zero, List.getElem_cons_succ, List.setIfInBounds_toArray, List.set_cons_zero, List.set_cons_succ]
        refine wpAnyH_ready (rs := [11]) (by kernel_rfl) (by simp) ?_
        refine AllReadyH.cons rfl (fun K hK => ?_) AllReadyH.nil
        go_simp
        refine HHB.out.mono ?_
        rintro _ w9 ⟨rfl, h9⟩
        rw [h9]
        clear h9 w9
        refine hK.out _ _ dp (fun hHeld2 => ?_)
        clear hK K hHeld
        have hHeld := hHeld2
        clear hHeld2
        try simp only [Act.put, List.getElem_toArray, List.getElem_cons_zero, List.getElem_cons_succ, List.setIfInBounds_toArray, List.set_cons_zero, List.set_cons_succ]
        refine wpAnyH_take (i := 12) (v := ?_) rfl (by kernel_rfl) (by kernel_rfl) (by kernel_rfl) (fun _ _ _ h => h) (Or.inl ⟨by rfl, ?_⟩) (by assumption) ?_
        rotate_left
        · intro w hSw
          go_simp
          try with_reducible rfl
        simp only [Act.put, List.getElem_toArray, List.getElem_cons_zero, List.getElem_cons_succ, List.setIfInBounds_toArray, List.set_cons_zero, List.set_cons_succ]
        refine wpAnyH_take (i := 13) (v := ?_) rfl (by kernel_rfl) (by kernel_rfl) (by kernel_rfl) (fun _ _ _ h => h) (Or.inl ⟨by rfl, ?_⟩) (by assumption) ?_
        rotate_left
        · intro w hSw
          go_simp
          try with_reducible rfl
        simp only [Act.put, List.getElem_toArray, List.getElem_cons_zero, List.getElem_cons_succ, List.setIfInBounds_toArray, List.set_cons_zero, List.set_cons_succ]
        refine wpAnyH_done (by kernel_rfl) ?_ _
        refine NoPanic.normal ?_
        obtain ⟨wz, hwz⟩ : ∃ x, wr.drew = x := ⟨_, rfl⟩
        rw [hwz]
        have hbz : Below wr.heap.size wr wz := by rw [← hwz]; exact below_drew (Below.refl _ wr)
        have HRZ := Aside0.mk (Kd.R_below HR.out hbz)
        have HXZ := Aside0.mk (Kd.R_below HX.out hbz)
        have HBZ : Aside0 (Below w.heap.size w wz) := ⟨HB.out.trans (hbz.mono HB.out.size)⟩
        have dp := pw_cell_below hbz dp
        have dz := pw_cell_below hbz dz
        clear hwz hHeld HHA HHB
        rcases List.eq_nil_or_concat R with hRn | ⟨R', r, hRn⟩
        · subst hRn
          obtain rfl : q = 0 := HRL.out.symm
          go_upto_region 15 with (fail)
          go_quiet (fail)
          obtain ⟨wq, hwq⟩ : ∃ x, wz.drewN nq = x := ⟨_, rfl⟩
          rw [hwq]
          have hbq : Below wz.heap.size wz wq := by rw [← hwq]; exact pw_below_drewN (Below.refl _ wz) nq
          have HRQ := Aside0.mk (Kd.R_below HRZ.out hbq)
          have HXQ := Aside0.mk (Kd.R_below HXZ.out hbq)
          have HBQ : Aside0 (Below w.heap.size w wq) := ⟨HBZ.out.trans (hbq.mono HBZ.out.size)⟩
          have dp := pw_cell_below hbq dp
          have dz := pw_cell_below hbq dz
          clear hwq hbq
          go_upto_region 17 with (fail)
          refine wp_region_noPanic ?_
          refine wp_region_held_drew (S := (fun w' => w'.cell? ⟨gp, i, none⟩ = some (.int .i64 p) ∧ w'.cell? ⟨gp, i + 1, none⟩ = some (.int .i64 z))) (by kernel_rfl) ?_ (fun hHeld => ?_)
          · exact ⟨dp, dz⟩
          refine wpAnyH_take (i := 0) (v := ?_) rfl (by kernel_rfl) (by kernel_rfl) (by kernel_rfl) (fun _ _ _ h => h) (Or.inl ⟨by rfl, ?_⟩) (by assumption) ?_
          rotate_left
          · intro w hSw
            go_simp
            try with_reducible rfl
          simp only [Act.put, List.getElem_toArray, List.getElem_cons_zero, List.getElem_cons_succ, List.setIfInBounds_toArray, List.set_cons_zero, List.set_cons_succ]
          refine wpAnyH_take (i := 1) (v := ?_) rfl (by kernel_rfl) (by kernel_rfl) (by kernel_rfl) (fun _ _ _ h => h) (Or.inl ⟨by rfl, ?_⟩) (by assumption) ?_
          rotate_left
          · intro w hSw
            go_simp
            try with_reducible rfl
          simp only [Act.put, List.getElem_toArray, List.getElem_cons_zero, List.getElem_cons_succ, List.setIfInBounds_toArray, List.set_cons_zero, List.set_cons_succ]
          refine wpAnyH_take (i := 2) (v := ?_) rfl (by kernel_rfl) (by kernel_rfl) (by kernel_rfl) (fun _ _ _ h => h) (Or.inl ⟨by rfl, ?_⟩) (by assumption) ?_
          rotate_left
          · intro w hSw
            go_simp
            try with_reducible rfl
          simp only [Act.put, List.getElem_toArray, List.getElem_cons_zero, List.getElem_cons_succ, List.setIfInBounds_toArray, List.set_cons_zero, List.set_cons_succ]
          refine wpAnyH_take (i := 3) (v := ?_) rfl (by kernel_rfl) (by kernel_rfl) (by kernel_rfl) (fun _ _ _ h => h) (Or.inl ⟨by rfl, ?_⟩) (by assumption) ?_
          rotate_left
          · intro w hSw
            go_simp
            try with_reducible rfl
          simp only [Act.put, List.getElem_toArray, List.getElem_cons_zero, List.getElem_cons_succ, List.setIfInBounds_toArray, List.set_cons_zero, List.set_cons_succ]
          refine wpAnyH_take (i := 4) (v := ?_) rfl (by kernel_rfl) (by kernel_rfl) (by kernel_rfl) (fun _ _ _ h => h) (Or.inl ⟨by rfl, ?_⟩) (by assumption) ?_
          rotate_left
          · intro w hSw
            go_simp
            try with_reducible rfl
          simp only [Act.put, List.getElem_toArray, List.getElem_cons_zero, List.getElem_cons_succ, List.setIfInBounds_toArray, List.set_cons_zero, List.set_cons_succ]
          refine wpAnyH_take (i := 5) (v := ?_) rfl (by kernel_rfl) (by kernel_rfl) (by kernel_rfl) (fun _ _ _ h => h) (Or.inl ⟨by rfl, ?_⟩) (by assumption) ?_
          rotate_left
          · intro w hSw
            go_simp
            try with_reducible rfl
          simp only [Act.put, List.getElem_toArray, List.getElem_cons_zero, List.getElem_cons_succ, List.setIfInBounds_toArray, List.set_cons_zero, List.set_cons_succ]
          refine wpAnyH_take (i := 6) (v := ?_) rfl (by kernel_rfl) (by kernel_rfl) (by kernel_rfl) (fun _ _ _ h => h) (Or.inl ⟨by rfl, ?_⟩) (by assumption) ?_
          rotate_left
          · intro w hSw
            go_simp
            try with_reducible rfl
          simp only [Act.put, List.getElem_toArray, List.getElem_cons_zero, List.getElem_cons_succ, List.setIfInBounds_toArray, List.set_cons_zero, List.set_cons_succ]
          refine wpAnyH_take (i := 7) (v := ?_) rfl (by kernel_rfl) (by kernel_rfl) (by kernel_rfl) (fun _ _ _ h => h) (Or.inl ⟨by rfl, ?_⟩) (by assumption) ?_
          rotate_left
          · intro w hSw
            go_simp
            try with_reducible rfl
          simp only [Act.put, List.getElem_toArray, List.getElem_cons_zero, List.getElem_cons_succ, List.setIfInBounds_toArray, List.set_cons_zero, List.set_cons_succ]
          refine wpAnyH_take (i := 8) (v := ?_) rfl (by kernel_rfl) (by kernel_rfl) (by kernel_rfl) (fun _ _ _ h => h) (Or.inl ⟨by rfl, ?_⟩) (by assumption) ?_
          rotate_left
          · intro w hSw
            go_simp
            try with_reducible rfl
          simp only [Act.put, List.getElem_toArray, List.getElem_cons_zero, List.getElem_cons_succ, List.setIfInBounds_toArray, List.set_cons_zero, List.set_cons_succ]
          refine wpAnyH_take (i := 9) (v := ?_) rfl (by kernel_rfl) (by kernel_rfl) (by kernel_rfl) (fun _ _ _ h => h) (Or.inl ⟨by rfl, ?_⟩) (by assumption) ?_
          rotate_left
          · intro w hSw
            go_simp
            try with_reducible rfl
          simp only [Act.put, List.getElem_toArray, List.getElem_cons_zero, List.getElem_cons_succ, List.setIfInBounds_toArray, List.set_cons_zero, List.set_cons_succ]
          refine wpAnyH_take (i := 10) (v := ?_) rfl (by kernel_rfl) (by kernel_rfl) (by kernel_rfl) (fun _ _ _ h => h) (Or.inl ⟨by rfl, ?_⟩) (by assumption) ?_
          rotate_left
          · intro w hSw
            go_simp
            try with_reducible rfl
          simp only [Act.put, List.getElem_toArray, List.getElem_cons_zero, List.getElem_cons_succ, List.setIfInBounds_toArray, List.set_cons_zero, List.set_cons_succ]
          refine wpAnyH_ready (rs := [11]) (by kernel_rfl) (by simp) ?_
          refine AllReadyH.cons rfl (fun K hK => ?_) AllReadyH.nil
          go_simp
          refine hK.out _ _ ⟨pw_cell_below (below_alloc (Below.refl _ wq) _) dp, pw_cell_below (below_alloc (Below.refl _ wq) _) dz⟩ (fun hHeld2 => ?_)
          clear hK K hHeld
          have hHeld := hHeld2
          clear hHeld2
          try simp only [Act.put, List.getElem_toArray, List.getElem_cons_zero, List.getElem_cons_succ, List.setIfInBounds_toArray, List.set_cons_zero, List.set_cons_succ]
          refine wpAnyH_ready (rs := [12]) (by kernel_rfl) (by simp) ?_
          refine AllReadyH.cons rfl (fun K hK => ?_) AllReadyH.nil
          refine Kd.R_append_step (W := wq.drew) kR (w0 := wq.drew) 0 (by rfl) (.tmp 84) (.tmp 95) 22 31 (.agg #[.int .i64 0, .int .i64 0]) 16 rfl Try.underlying22 info31 rfl (by decide) (by decide) (.slice A3 0 c3) ([] : List Rg) ⟨p, z⟩ [.int .i64 p, .int .i64 z] (fun j => w.heap.size ≤ j) (fun _ => False) rfl rfl rfl (fun _ h => h.elim) (fun j hj => Nat.le_trans HBQ.out.size hj) (Kd.R_drew HRQ.out) (Below.refl _ _) (Nat.zero_le _) (by rw [List.length_nil]; omega) ?_
          intro v4 w4 hR4 _ hg4 hat4
          obtain ⟨A4, c4, hv4, _, _⟩ := Kd.R_reads hR4
          rw [show (([] : List Rg) ++ [(⟨p, z⟩ : Rg)]).length = 0 + 1 from (by rw [List.length_append, List.length_nil]; rfl)] at hv4
          subst hv4
          have HR4 := Aside0.mk hR4
          have hx4 := Kd.R_over (d' := kR) (Kd.R_drew HXQ.out) (Kd.R_drew HRQ.out) (by decide) hg4
          have HX4 := Aside0.mk hx4
          have HB4 : Aside0 (Below w.heap.size w w4) := ⟨(below_drew HBQ.out).grown hg4 HBQ.out.size (fun j e => HRQ.out.1 j e)⟩
          have dp := atI hx4 HP.out
          have dz := atI hx4 HZ.out
          clear hR4 hg4 hat4 hx4
          refine hK.out _ _ ⟨dp, dz⟩ (fun hHeld2 => ?_)
          clear hK K hHeld
          have hHeld := hHeld2
          clear hHeld2
          try simp only [Act.put, List.getElem_toArray, List.getElem_cons_zero, List.getElem_cons_succ, List.setIfInBounds_toArray, List.set_cons_zero, List.set_cons_succ]
          refine wpAnyH_take (i := 13) (v := ?_) rfl (by kernel_rfl) (by kernel_rfl) (by kernel_rfl) (fun _ _ _ h => h) (Or.inl ⟨by rfl, ?_⟩) (by assumption) ?_
          rotate_left
          · intro w hSw
            go_simp
            try with_reducible rfl
          simp only [Act.put, List.getElem_toArray, List.getElem_cons_zero, List.getElem_cons_succ, List.setIfInBounds_toArray, List.set_cons_zero, List.set_cons_succ]
          refine wpAnyH_done (by kernel_rfl) ?_ _
          refine NoPanic.normal ?_
          clear dp dz hHeld
          go_wp2_with (fail)
          go_roundg gn
          case measure => exact Nat.lt_succ_self _
          case rel => exact ⟨i + 1, 0 + 1, c4, A4, (([] : List Rg) ++ [(⟨p, z⟩ : Rg)]), by simp, rfl, ⟨by have := HI.out; omega⟩, HR4, ⟨by rw [List.length_append, List.length_nil]; rfl⟩, ⟨by have := HQL.out; omega⟩, HX4, HB4, ⟨by rw [HRUN.out, HNX.out, putB_nil, List.nil_append]⟩⟩
        · rw [List.concat_eq_append] at hRn
          subst hRn
          obtain ⟨q1, hq1⟩ : ∃ q1, R'.length = q1 := ⟨_, rfl⟩
          obtain rfl : q = q1 + 1 := by have h := HRL.out; rw [List.length_append, hq1] at h; exact h.symm
          obtain ⟨gR, cR, hvR, _⟩ := formR HRZ.out (by rw [HRL.out]; omega)
          injection hvR with hv1 hv2 hv3
          subst hv1
          have hlast : (R' ++ [r])[q1]? = some r := by rw [List.getElem?_append_right (by omega), hq1, Nat.sub_self]; rfl
          have HLAST := Aside0.mk hlast
          have HQ1 := Aside0.mk hq1
          have cr := atR HRZ.out hlast 1 _ rfl
          have u0 : (0 : Int) ≤ (q1 : Int) := by omega
          have u1 : (q1 : Int) < ((q1 + 1 : Nat) : Int) := by omega
          have u2 : (q1 : Int) < (q1 : Int) + 1 := by omega
          have u3 : IntKind.i64.wrap (q1 : Int) = (q1 : Int) := IntWalk.i64_in _ (by omega)
          have u4 : (0 : Int) < (q1 : Int) + 1 := by omega
          obtain ⟨rt, hrt⟩ : ∃ x, r.t = x := ⟨_, rfl⟩
          rw [hrt] at cr
          have HRT := Aside0.mk hrt
          clear hv2 hv3 hlast hq1 hrt
          by_cases hrp : rt = p
          · have bq : (rt == p) = true := beq_iff_eq.mpr hrp
            have HPUT := Aside0.mk (putB_hit R' r p z (HRT.out.trans hrp))
            clear hrp
            go_upto_region 15 with (fail)
            go_quiet (fail)
            obtain ⟨wq, hwq⟩ : ∃ x, wz.drewN nq = x := ⟨_, rfl⟩
            rw [hwq]
            have hbq : Below wz.heap.size wz wq := by rw [← hwq]; exact pw_below_drewN (Below.refl _ wz) nq
            have HRQ := Aside0.mk (Kd.R_below HRZ.out hbq)
            have HXQ := Aside0.mk (Kd.R_below HXZ.out hbq)
            have HBQ : Aside0 (Below w.heap.size w wq) := ⟨HBZ.out.trans (hbq.mono HBZ.out.size)⟩
            have dp := pw_cell_below hbq dp
            have dz := pw_cell_below hbq dz
            clear hwq hbq
            have HYY := Aside0.mk (atR HRQ.out HLAST.out)
            go_wp2_with ((with_reducible refine gate_ (.store 3 (.tmp 83) (.tmp 81)) rfl ?_); refine Kd.R_store kR (w0 := wq) 0 rfl rfl 3 (.tmp 83) (.tmp 81) rfl 31 (g := gR) (n := q1 + 1) (cap := c3) (o' := q1 * 2 + 1) (q1 : Int) 1 (R' ++ [r]) ⟨r.f, z⟩ (.int .i64 z) [.int .i64 z] (rgc r).toList (fun j => w.heap.size ≤ j) (fun _ => False) rfl (by simp [kR, flat]) rfl rfl info3s (fun q hq => by simp at hq; subst hq; rfl) HRQ.out (by omega) (by omega) rfl HYY.out (Nat.le_refl 2) rfl (fun _ h => h.elim) (Below.refl _ _) ?_; intro w7 hR7 _ hg7; have HR7 := Aside0.mk hR7; have HG7 := Aside0.mk hg7; clear hR7 hg7)
            go_roundg gn
            case measure => exact Nat.lt_succ_self _
            case rel =>
              refine ⟨i + 1, q1 + 1, c3, _, _, by simp, rfl, ⟨by have := HI.out; omega⟩, HR7, ⟨by rw [List.length_set]; exact HRL.out⟩, ⟨by have := HQL.out; omega⟩, ⟨Kd.R_over HXQ.out HRQ.out (by decide) HG7.out⟩, ⟨HBQ.out.grown HG7.out HBQ.out.size (fun j e => HRQ.out.1 j e)⟩, ⟨?_⟩⟩
              rw [HRUN.out, HNX.out, HPUT.out, Int.toNat_natCast, ← HQ1.out, set_last]
          · have bq : (rt == p) = false := beq_eq_false_iff_ne.mpr hrp
            have HPUT := Aside0.mk (putB_miss R' r p z (by rw [HRT.out]; exact hrp))
            clear hrp
            go_upto_region 15 with (fail)
            go_quiet (fail)
            obtain ⟨wq, hwq⟩ : ∃ x, wz.drewN nq = x := ⟨_, rfl⟩
            rw [hwq]
            have hbq : Below wz.heap.size wz wq := by rw [← hwq]; exact pw_below_drewN (Below.refl _ wz) nq
            have HRQ := Aside0.mk (Kd.R_below HRZ.out hbq)
            have HXQ := Aside0.mk (Kd.R_below HXZ.out hbq)
            have HBQ : Aside0 (Below w.heap.size w wq) := ⟨HBZ.out.trans (hbq.mono HBZ.out.size)⟩
            have dp := pw_cell_below hbq dp
            have dz := pw_cell_below hbq dz
            clear hwq hbq
            go_upto_region 17 with (fail)
            refine wp_region_noPanic ?_
            refine wp_region_held_drew (S := (fun w' => w'.cell? ⟨gp, i, none⟩ = some (.int .i64 p) ∧ w'.cell? ⟨gp, i + 1, none⟩ = some (.int .i64 z))) (by kernel_rfl) ?_ (fun hHeld => ?_)
            · exact ⟨dp, dz⟩
            refine wpAnyH_take (i := 0) (v := ?_) rfl (by kernel_rfl) (by kernel_rfl) (by kernel_rfl) (fun _ _ _ h => h) (Or.inl ⟨by rfl, ?_⟩) (by assumption) ?_
            rotate_left
            · intro w hSw
              go_simp
              try with_reducible rfl
            simp only [Act.put, List.getElem_toArray, List.getElem_cons_zero, List.getElem_cons_succ, List.setIfInBounds_toArray, List.set_cons_zero, List.set_cons_succ]
            refine wpAnyH_take (i := 1) (v := ?_) rfl (by kernel_rfl) (by kernel_rfl) (by kernel_rfl) (fun _ _ _ h => h) (Or.inl ⟨by rfl, ?_⟩) (by assumption) ?_
            rotate_left
            · intro w hSw
              go_simp
              try with_reducible rfl
            simp only [Act.put, List.getElem_toArray, List.getElem_cons_zero, List.getElem_cons_succ, List.setIfInBounds_toArray, List.set_cons_zero, List.set_cons_succ]
            refine wpAnyH_take (i := 2) (v := ?_) rfl (by kernel_rfl) (by kernel_rfl) (by kernel_rfl) (fun _ _ _ h => h) (Or.inl ⟨by rfl, ?_⟩) (by assumption) ?_
            rotate_left
            · intro w hSw
              go_simp
              try with_reducible rfl
            simp only [Act.put, List.getElem_toArray, List.getElem_cons_zero, List.getElem_cons_succ, List.setIfInBounds_toArray, List.set_cons_zero, List.set_cons_succ]
            refine wpAnyH_take (i := 3) (v := ?_) rfl (by kernel_rfl) (by kernel_rfl) (by kernel_rfl) (fun _ _ _ h => h) (Or.inl ⟨by rfl, ?_⟩) (by assumption) ?_
            rotate_left
            · intro w hSw
              go_simp
              try with_reducible rfl
            simp only [Act.put, List.getElem_toArray, List.getElem_cons_zero, List.getElem_cons_succ, List.setIfInBounds_toArray, List.set_cons_zero, List.set_cons_succ]
            refine wpAnyH_take (i := 4) (v := ?_) rfl (by kernel_rfl) (by kernel_rfl) (by kernel_rfl) (fun _ _ _ h => h) (Or.inl ⟨by rfl, ?_⟩) (by assumption) ?_
            rotate_left
            · intro w hSw
              go_simp
              try with_reducible rfl
            simp only [Act.put, List.getElem_toArray, List.getElem_cons_zero, List.getElem_cons_succ, List.setIfInBounds_toArray, List.set_cons_zero, List.set_cons_succ]
            refine wpAnyH_take (i := 5) (v := ?_) rfl (by kernel_rfl) (by kernel_rfl) (by kernel_rfl) (fun _ _ _ h => h) (Or.inl ⟨by rfl, ?_⟩) (by assumption) ?_
            rotate_left
            · intro w hSw
              go_simp
              try with_reducible rfl
            simp only [Act.put, List.getElem_toArray, List.getElem_cons_zero, List.getElem_cons_succ, List.setIfInBounds_toArray, List.set_cons_zero, List.set_cons_succ]
            refine wpAnyH_take (i := 6) (v := ?_) rfl (by kernel_rfl) (by kernel_rfl) (by kernel_rfl) (fun _ _ _ h => h) (Or.inl ⟨by rfl, ?_⟩) (by assumption) ?_
            rotate_left
            · intro w hSw
              go_simp
              try with_reducible rfl
            simp only [Act.put, List.getElem_toArray, List.getElem_cons_zero, List.getElem_cons_succ, List.setIfInBounds_toArray, List.set_cons_zero, List.set_cons_succ]
            refine wpAnyH_take (i := 7) (v := ?_) rfl (by kernel_rfl) (by kernel_rfl) (by kernel_rfl) (fun _ _ _ h => h) (Or.inl ⟨by rfl, ?_⟩) (by assumption) ?_
            rotate_left
            · intro w hSw
              go_simp
              try with_reducible rfl
            simp only [Act.put, List.getElem_toArray, List.getElem_cons_zero, List.getElem_cons_succ, List.setIfInBounds_toArray, List.set_cons_zero, List.set_cons_succ]
            refine wpAnyH_take (i := 8) (v := ?_) rfl (by kernel_rfl) (by kernel_rfl) (by kernel_rfl) (fun _ _ _ h => h) (Or.inl ⟨by rfl, ?_⟩) (by assumption) ?_
            rotate_left
            · intro w hSw
              go_simp
              try with_reducible rfl
            simp only [Act.put, List.getElem_toArray, List.getElem_cons_zero, List.getElem_cons_succ, List.setIfInBounds_toArray, List.set_cons_zero, List.set_cons_succ]
            refine wpAnyH_take (i := 9) (v := ?_) rfl (by kernel_rfl) (by kernel_rfl) (by kernel_rfl) (fun _ _ _ h => h) (Or.inl ⟨by rfl, ?_⟩) (by assumption) ?_
            rotate_left
            · intro w hSw
              go_simp
              try with_reducible rfl
            simp only [Act.put, List.getElem_toArray, List.getElem_cons_zero, List.getElem_cons_succ, List.setIfInBounds_toArray, List.set_cons_zero, List.set_cons_succ]
            refine wpAnyH_take (i := 10) (v := ?_) rfl (by kernel_rfl) (by kernel_rfl) (by kernel_rfl) (fun _ _ _ h => h) (Or.inl ⟨by rfl, ?_⟩) (by assumption) ?_
            rotate_left
            · intro w hSw
              go_simp
              try with_reducible rfl
            simp only [Act.put, List.getElem_toArray, List.getElem_cons_zero, List.getElem_cons_succ, List.setIfInBounds_toArray, List.set_cons_zero, List.set_cons_succ]
            refine wpAnyH_ready (rs := [11]) (by kernel_rfl) (by simp) ?_
            refine AllReadyH.cons rfl (fun K hK => ?_) AllReadyH.nil
            go_simp
            refine hK.out _ _ ⟨pw_cell_below (below_alloc (Below.refl _ wq) _) dp, pw_cell_below (below_alloc (Below.refl _ wq) _) dz⟩ (fun hHeld2 => ?_)
            clear hK K hHeld
            have hHeld := hHeld2
            clear hHeld2
            try simp only [Act.put, List.getElem_toArray, List.getElem_cons_zero, List.getElem_cons_succ, List.setIfInBounds_toArray, List.set_cons_zero, List.set_cons_succ]
            refine wpAnyH_ready (rs := [12]) (by kernel_rfl) (by simp) ?_
            refine AllReadyH.cons rfl (fun K hK => ?_) AllReadyH.nil
            refine Kd.R_append_step (W := wq.drew) kR (w0 := wq.drew) 0 (by rfl) (.tmp 84) (.tmp 95) 22 31 (.agg #[.int .i64 0, .int .i64 0]) 16 rfl Try.underlying22 info31 rfl (by decide) (by decide) (.slice (some ⟨gR, 0, none⟩) (q1 + 1) c3) (R' ++ [r]) ⟨p, z⟩ [.int .i64 p, .int .i64 z] (fun j => w.heap.size ≤ j) (fun _ => False) rfl rfl rfl (fun _ h => h.elim) (fun j hj => Nat.le_trans HBQ.out.size hj) (Kd.R_drew HRQ.out) (Below.refl _ _) (Nat.zero_le _) (by rw [HRL.out]; omega) ?_
            intro v4 w4 hR4 _ hg4 hat4
            obtain ⟨A4, c4, hv4, _, _⟩ := Kd.R_reads hR4
            rw [show ((R' ++ [r]) ++ [(⟨p, z⟩ : Rg)]).length = (q1 + 1) + 1 from (by rw [List.length_append, HRL.out]; rfl)] at hv4
            subst hv4
            have HR4 := Aside0.mk hR4
            have hx4 := Kd.R_over (d' := kR) (Kd.R_drew HXQ.out) (Kd.R_drew HRQ.out) (by decide) hg4
            have HX4 := Aside0.mk hx4
            have HB4 : Aside0 (Below w.heap.size w w4) := ⟨(below_drew HBQ.out).grown hg4 HBQ.out.size (fun j e => HRQ.out.1 j e)⟩
            have dp := atI hx4 HP.out
            have dz := atI hx4 HZ.out
            clear hR4 hg4 hat4 hx4
            refine hK.out _ _ ⟨dp, dz⟩ (fun hHeld2 => ?_)
            clear hK K hHeld
            have hHeld := hHeld2
            clear hHeld2
            try simp only [Act.put, List.getElem_toArray, List.getElem_cons_zero, List.getElem_cons_succ, List.setIfInBounds_toArray, List.set_cons_zero, List.set_cons_succ]
            refine wpAnyH_take (i := 13) (v := ?_) rfl (by kernel_rfl) (by kernel_rfl) (by kernel_rfl) (fun _ _ _ h => h) (Or.inl ⟨by rfl, ?_⟩) (by assumption) ?_
            rotate_left
            · intro w hSw
              go_simp
              try with_reducible rfl
            simp only [Act.put, List.getElem_toArray, List.getElem_cons_zero, List.getElem_cons_succ, List.setIfInBounds_toArray, List.set_cons_zero, List.set_cons_succ]
            refine wpAnyH_done (by kernel_rfl) ?_ _
            refine NoPanic.normal ?_
            clear dp dz hHeld
            go_wp2_with (fail)
            go_roundg gn
            case measure => exact Nat.lt_succ_self _
            case rel => exact ⟨i + 1, (q1 + 1) + 1, c4, A4, ((R' ++ [r]) ++ [(⟨p, z⟩ : Rg)]), by simp, rfl, ⟨by have := HI.out; omega⟩, HR4, ⟨by rw [List.length_append, HRL.out]; rfl⟩, ⟨by have := HQL.out; omega⟩, HX4, HB4, ⟨by rw [HRUN.out, HNX.out, HPUT.out]⟩⟩
      · have hnx : runB (fun x => (fun x y => x || y) (has a x) (has b x)) (pts.drop i) R = runB (fun x => (fun x y => x || y) (has a x) (has b x)) (pts.drop (i + 1)) (putB R p z) := by
          rw [runB_at hp hz, hga, hgb]
          rfl
        have HNX := Aside0.mk hnx
        clear hnx hga hgb hp hz
        go_upto_region 6 with (fail)
        refine wp_region_noPanic ?_
        refine wp_region_held_drew (S := (fun w' => w'.cell? ⟨gp, i, none⟩ = some (.int .i64 p))) (by kernel_rfl) ?_ (fun hHeld => ?_)
        · exact dp
        refine wpAnyH_take (i := 0) (v := ?_) rfl (by kernel_rfl) (by kernel_rfl) (by kernel_rfl) (fun _ _ _ h => h) (Or.inl ⟨by rfl, ?_⟩) (by assumption) ?_
        rotate_left
        · intro w hSw
          go_simp
          try with_reducible rfl
        simp only [Act.put, List.getElem_toArray, List.getElem_cons_zero, List.getElem_cons_succ, List.setIfInBounds_toArray, List.set_cons_zero, List.set_cons_succ]
        refine wpAnyH_take (i := 1) (v := ?_) rfl (by kernel_rfl) (by kernel_rfl) (by kernel_rfl) (fun _ _ _ h => h) (Or.inl ⟨by rfl, ?_⟩) (by assumption) ?_
        rotate_left
        · intro w hSw
          go_simp
          try with_reducible rfl
        simp only [Act.put, List.getElem_toArray, List.getElem_cons_zero, List.getElem_cons_succ, List.setIfInBounds_toArray, List.set_cons_zero, List.set_cons_succ]
        refine wpAnyH_take (i := 2) (v := ?_) rfl (by kernel_rfl) (by kernel_rfl) (by kernel_rfl) (fun _ _ _ h => h) (Or.inl ⟨by rfl, ?_⟩) (by assumption) ?_
        rotate_left
        · intro w hSw
          go_simp
          try with_reducible rfl
        simp only [Act.put, List.getElem_toArray, List.getElem_cons_zero, List.getElem_cons_succ, List.setIfInBounds_toArray, List.set_cons_zero, List.set_cons_succ]
        refine wpAnyH_take (i := 3) (v := ?_) rfl (by kernel_rfl) (by kernel_rfl) (by kernel_rfl) (fun _ _ _ h => h) (Or.inl ⟨by rfl, ?_⟩) (by assumption) ?_
        rotate_left
        · intro w hSw
          go_simp
          try with_reducible rfl
        simp only [Act.put, List.getElem_toArray, List.getElem_cons_zero, List.getElem_cons_succ, List.setIfInBounds_toArray, List.set_cons_zero, List.set_cons_succ]
        refine wpAnyH_take (i := 4) (v := ?_) rfl (by kernel_rfl) (by kernel_rfl) (by kernel_rfl) (fun _ _ _ h => h) (Or.inl ⟨by rfl, ?_⟩) (by assumption) ?_
        rotate_left
        · intro w hSw
          go_simp
          try with_reducible rfl
        simp only [Act.put, List.getElem_toArray, List.getElem_cons_zero, List.getElem_cons_succ, List.setIfInBounds_toArray, List.set_cons_zero, List.set_cons_succ]
        refine wpAnyH_take (i := 6) (v := ?_) rfl (by kernel_rfl) (by kernel_rfl) (by kernel_rfl) (fun _ _ _ h => h) (Or.inl ⟨by rfl, ?_⟩) (by assumption) ?_
        rotate_left
        · intro w hSw
          go_simp
          try with_reducible rfl
        simp only [Act.put, List.getElem_toArray, List.getElem_cons_zero, List.getElem_cons_succ, List.setIfInBounds_toArray, List.set_cons_zero, List.set_cons_succ]
        refine wpAnyH_take (i := 7) (v := ?_) rfl (by kernel_rfl) (by kernel_rfl) (by kernel_rfl) (fun _ _ _ h => h) (Or.inl ⟨by rfl, ?_⟩) (by assumption) ?_
        rotate_left
        · intro w hSw
          go_simp
          try with_reducible rfl
        simp only [Act.put, List.getElem_toArray, List.getElem_cons_zero, List.getElem_cons_succ, List.setIfInBounds_toArray, List.set_cons_zero, List.set_cons_succ]
        refine wpAnyH_take (i := 8) (v := ?_) rfl (by kernel_rfl) (by kernel_rfl) (by kernel_rfl) (fun _ _ _ h => h) (Or.inl ⟨by rfl, ?_⟩) (by assumption) ?_
        rotate_left
        · intro w hSw
          go_simp
          try with_reducible rfl
        simp only [Act.put, List.getElem_toArray, List.getElem_cons_zero, List.getElem_cons_succ, List.setIfInBounds_toArray, List.set_cons_zero, List.set_cons_succ]
        refine wpAnyH_take (i := 9) (v := ?_) rfl (by kernel_rfl) (by kernel_rfl) (by kernel_rfl) (fun _ _ _ h => h) (Or.inl ⟨by rfl, ?_⟩) (by assumption) ?_
        rotate_left
        · intro w hSw
          go_simp
          try with_reducible rfl
        simp only [Act.put, List.getElem_toArray, List.getElem_cons_zero, List.getElem_cons_succ, List.setIfInBounds_toArray, List.set_cons_zero, List.set_cons_succ]
        refine wpAnyH_take (i := 10) (v := ?_) rfl (by kernel_rfl) (by kernel_rfl) (by kernel_rfl) (fun _ _ _ h => h) (Or.inl ⟨by rfl, ?_⟩) (by assumption) ?_
        rotate_left
        · intro w hSw
          go_simp
          try with_reducible rfl
        simp only [Act.put, List.getElem_toArray, List.getElem_cons_zero, List.getElem_cons_succ, List.setIfInBounds_toArray, List.set_cons_zero, List.set_cons_succ]
        refine wpAnyH_ready (rs := [5]) (by kernel_rfl) (by simp) ?_
        refine AllReadyH.cons rfl (fun K hK => ?_) AllReadyH.nil
        go_simp
        refine HHA.out.mono ?_
        rintro _ w9 ⟨rfl, h9⟩
        rw [h9]
        clear h9 w9
        refine hK.out _ _ dp (fun hHeld2 => ?_)
        clear hK K hHeld
        have hHeld := hHeld2
        clear hHeld2
        try simp only [Act.put, List.getElem_toArray, List.getElem_cons_zero, List.getElem_cons_succ, List.setIfInBounds_toArray, List.set_cons_zero, List.set_cons_succ]
        refine wpAnyH_ready (rs := [11]) (by kernel_rfl) (by simp) ?_
        refine AllReadyH.cons rfl (fun K hK => ?_) AllReadyH.nil
        go_simp
        refine HHB.out.mono ?_
        rintro _ w9 ⟨rfl, h9⟩
        rw [h9]
        clear h9 w9
        refine hK.out _ _ dp (fun hHeld2 => ?_)
        clear hK K hHeld
        have hHeld := hHeld2
        clear hHeld2
        try simp only [Act.put, List.getElem_toArray, List.getElem_cons_zero, List.getElem_cons_succ, List.setIfInBounds_toArray, List.set_cons_zero, List.set_cons_succ]
        refine wpAnyH_take (i := 12) (v := ?_) rfl (by kernel_rfl) (by kernel_rfl) (by kernel_rfl) (fun _ _ _ h => h) (Or.inl ⟨by rfl, ?_⟩) (by assumption) ?_
        rotate_left
        · intro w hSw
          go_simp
          try with_reducible rfl
        simp only [Act.put, List.getElem_toArray, List.getElem_cons_zero, List.getElem_cons_succ, List.setIfInBounds_toArray, List.set_cons_zero, List.set_cons_succ]
        refine wpAnyH_take (i := 13) (v := ?_) rfl (by kernel_rfl) (by kernel_rfl) (by kernel_rfl) (fun _ _ _ h => h) (Or.inl ⟨by rfl, ?_⟩) (by assumption) ?_
        rotate_left
        · intro w hSw
          go_simp
          try with_reducible rfl
        simp only [Act.put, List.getElem_toArray, List.getElem_cons_zero, List.getElem_cons_succ, List.setIfInBounds_toArray, List.set_cons_zero, List.set_cons_succ]
        refine wpAnyH_done (by kernel_rfl) ?_ _
        refine NoPanic.normal ?_
        obtain ⟨wz, hwz⟩ : ∃ x, wr.drew = x := ⟨_, rfl⟩
        rw [hwz]
        have hbz : Below wr.heap.size wr wz := by rw [← hwz]; exact below_drew (Below.refl _ wr)
        have HRZ := Aside0.mk (Kd.R_below HR.out hbz)
        have HXZ := Aside0.mk (Kd.R_below HX.out hbz)
        have HBZ : Aside0 (Below w.heap.size w wz) := ⟨HB.out.trans (hbz.mono HB.out.size)⟩
        have dp := pw_cell_below hbz dp
        have dz := pw_cell_below hbz dz
        clear hwz hHeld HHA HHB
        rcases List.eq_nil_or_concat R with hRn | ⟨R', r, hRn⟩
        · subst hRn
          obtain rfl : q = 0 := HRL.out.symm
          go_upto_region 15 with (fail)
          go_quiet (fail)
          obtain ⟨wq, hwq⟩ : ∃ x, wz.drewN nq = x := ⟨_, rfl⟩
          rw [hwq]
          have hbq : Below wz.heap.size wz wq := by rw [← hwq]; exact pw_below_drewN (Below.refl _ wz) nq
          have HRQ := Aside0.mk (Kd.R_below HRZ.out hbq)
          have HXQ := Aside0.mk (Kd.R_below HXZ.out hbq)
          have HBQ : Aside0 (Below w.heap.size w wq) := ⟨HBZ.out.trans (hbq.mono HBZ.out.size)⟩
          have dp := pw_cell_below hbq dp
          have dz := pw_cell_below hbq dz
          clear hwq hbq
          go_upto_region 17 with (fail)
          refine wp_region_noPanic ?_
          refine wp_region_held_drew (S := (fun w' => w'.cell? ⟨gp, i, none⟩ = some (.int .i64 p) ∧ w'.cell? ⟨gp, i + 1, none⟩ = some (.int .i64 z))) (by kernel_rfl) ?_ (fun hHeld => ?_)
          · exact ⟨dp, dz⟩
          refine wpAnyH_take (i := 0) (v := ?_) rfl (by kernel_rfl) (by kernel_rfl) (by kernel_rfl) (fun _ _ _ h => h) (Or.inl ⟨by rfl, ?_⟩) (by assumption) ?_
          rotate_left
          · intro w hSw
            go_simp
            try with_reducible rfl
          simp only [Act.put, List.getElem_toArray, List.getElem_cons_zero, List.getElem_cons_succ, List.setIfInBounds_toArray, List.set_cons_zero, List.set_cons_succ]
          refine wpAnyH_take (i := 1) (v := ?_) rfl (by kernel_rfl) (by kernel_rfl) (by kernel_rfl) (fun _ _ _ h => h) (Or.inl ⟨by rfl, ?_⟩) (by assumption) ?_
          rotate_left
          · intro w hSw
            go_simp
            try with_reducible rfl
          simp only [Act.put, List.getElem_toArray, List.getElem_cons_zero, List.getElem_cons_succ, List.setIfInBounds_toArray, List.set_cons_zero, List.set_cons_succ]
          refine wpAnyH_take (i := 2) (v := ?_) rfl (by kernel_rfl) (by kernel_rfl) (by kernel_rfl) (fun _ _ _ h => h) (Or.inl ⟨by rfl, ?_⟩) (by assumption) ?_
          rotate_left
          · intro w hSw
            go_simp
            try with_reducible rfl
          simp only [Act.put, List.getElem_toArray, List.getElem_cons_zero, List.getElem_cons_succ, List.setIfInBounds_toArray, List.set_cons_zero, List.set_cons_succ]
          refine wpAnyH_take (i := 3) (v := ?_) rfl (by kernel_rfl) (by kernel_rfl) (by kernel_rfl) (fun _ _ _ h => h) (Or.inl ⟨by rfl, ?_⟩) (by assumption) ?_
          rotate_left
          · intro w hSw
            go_simp
            try with_reducible rfl
          simp only [Act.put, List.getElem_toArray, List.getElem_cons_zero, List.getElem_cons_succ, List.setIfInBounds_toArray, List.set_cons_zero, List.set_cons_succ]
          refine wpAnyH_take (i := 4) (v := ?_) rfl (by kernel_rfl) (by kernel_rfl) (by kernel_rfl) (fun _ _ _ h => h) (Or.inl ⟨by rfl, ?_⟩) (by assumption) ?_
          rotate_left
          · intro w hSw
            go_simp
            try with_reducible rfl
          simp only [Act.put, List.getElem_toArray, List.getElem_cons_zero, List.getElem_cons_succ, List.setIfInBounds_toArray, List.set_cons_zero, List.set_cons_succ]
          refine wpAnyH_take (i := 5) (v := ?_) rfl (by kernel_rfl) (by kernel_rfl) (by kernel_rfl) (fun _ _ _ h => h) (Or.inl ⟨by rfl, ?_⟩) (by assumption) ?_
          rotate_left
          · intro w hSw
            go_simp
            try with_reducible rfl
          simp only [Act.put, List.getElem_toArray, List.getElem_cons_zero, List.getElem_cons_succ, List.setIfInBounds_toArray, List.set_cons_zero, List.set_cons_succ]
          refine wpAnyH_take (i := 6) (v := ?_) rfl (by kernel_rfl) (by kernel_rfl) (by kernel_rfl) (fun _ _ _ h => h) (Or.inl ⟨by rfl, ?_⟩) (by assumption) ?_
          rotate_left
          · intro w hSw
            go_simp
            try with_reducible rfl
          simp only [Act.put, List.getElem_toArray, List.getElem_cons_zero, List.getElem_cons_succ, List.setIfInBounds_toArray, List.set_cons_zero, List.set_cons_succ]
          refine wpAnyH_take (i := 7) (v := ?_) rfl (by kernel_rfl) (by kernel_rfl) (by kernel_rfl) (fun _ _ _ h => h) (Or.inl ⟨by rfl, ?_⟩) (by assumption) ?_
          rotate_left
          · intro w hSw
            go_simp
            try with_reducible rfl
          simp only [Act.put, List.getElem_toArray, List.getElem_cons_zero, List.getElem_cons_succ, List.setIfInBounds_toArray, List.set_cons_zero, List.set_cons_succ]
          refine wpAnyH_take (i := 8) (v := ?_) rfl (by kernel_rfl) (by kernel_rfl) (by kernel_rfl) (fun _ _ _ h => h) (Or.inl ⟨by rfl, ?_⟩) (by assumption) ?_
          rotate_left
          · intro w hSw
            go_simp
            try with_reducible rfl
          simp only [Act.put, List.getElem_toArray, List.getElem_cons_zero, List.getElem_cons_succ, List.setIfInBounds_toArray, List.set_cons_zero, List.set_cons_succ]
          refine wpAnyH_take (i := 9) (v := ?_) rfl (by kernel_rfl) (by kernel_rfl) (by kernel_rfl) (fun _ _ _ h => h) (Or.inl ⟨by rfl, ?_⟩) (by assumption) ?_
          rotate_left
          · intro w hSw
            go_simp
            try with_reducible rfl
          simp only [Act.put, List.getElem_toArray, List.getElem_cons_zero, List.getElem_cons_succ, List.setIfInBounds_toArray, List.set_cons_zero, List.set_cons_succ]
          refine wpAnyH_take (i := 10) (v := ?_) rfl (by kernel_rfl) (by kernel_rfl) (by kernel_rfl) (fun _ _ _ h => h) (Or.inl ⟨by rfl, ?_⟩) (by assumption) ?_
          rotate_left
          · intro w hSw
            go_simp
            try with_reducible rfl
          simp only [Act.put, List.getElem_toArray, List.getElem_cons_zero, List.getElem_cons_succ, List.setIfInBounds_toArray, List.set_cons_zero, List.set_cons_succ]
          refine wpAnyH_ready (rs := [11]) (by kernel_rfl) (by simp) ?_
          refine AllReadyH.cons rfl (fun K hK => ?_) AllReadyH.nil
          go_simp
          refine hK.out _ _ ⟨pw_cell_below (below_alloc (Below.refl _ wq) _) dp, pw_cell_below (below_alloc (Below.refl _ wq) _) dz⟩ (fun hHeld2 => ?_)
          clear hK K hHeld
          have hHeld := hHeld2
          clear hHeld2
          try simp only [Act.put, List.getElem_toArray, List.getElem_cons_zero, List.getElem_cons_succ, List.setIfInBounds_toArray, List.set_cons_zero, List.set_cons_succ]
          refine wpAnyH_ready (rs := [12]) (by kernel_rfl) (by simp) ?_
          refine AllReadyH.cons rfl (fun K hK => ?_) AllReadyH.nil
          refine Kd.R_append_step (W := wq.drew) kR (w0 := wq.drew) 0 (by rfl) (.tmp 84) (.tmp 95) 22 31 (.agg #[.int .i64 0, .int .i64 0]) 16 rfl Try.underlying22 info31 rfl (by decide) (by decide) (.slice A3 0 c3) ([] : List Rg) ⟨p, z⟩ [.int .i64 p, .int .i64 z] (fun j => w.heap.size ≤ j) (fun _ => False) rfl rfl rfl (fun _ h => h.elim) (fun j hj => Nat.le_trans HBQ.out.size hj) (Kd.R_drew HRQ.out) (Below.refl _ _) (Nat.zero_le _) (by rw [List.length_nil]; omega) ?_
          intro v4 w4 hR4 _ hg4 hat4
          obtain ⟨A4, c4, hv4, _, _⟩ := Kd.R_reads hR4
          rw [show (([] : List Rg) ++ [(⟨p, z⟩ : Rg)]).length = 0 + 1 from (by rw [List.length_append, List.length_nil]; rfl)] at hv4
          subst hv4
          have HR4 := Aside0.mk hR4
          have hx4 := Kd.R_over (d' := kR) (Kd.R_drew HXQ.out) (Kd.R_drew HRQ.out) (by decide) hg4
          have HX4 := Aside0.mk hx4
          have HB4 : Aside0 (Below w.heap.size w w4) := ⟨(below_drew HBQ.out).grown hg4 HBQ.out.size (fun j e => HRQ.out.1 j e)⟩
          have dp := atI hx4 HP.out
          have dz := atI hx4 HZ.out
          clear hR4 hg4 hat4 hx4
          refine hK.out _ _ ⟨dp, dz⟩ (fun hHeld2 => ?_)
          clear hK K hHeld
          have hHeld := hHeld2
          clear hHeld2
          try simp only [Act.put, List.getElem_toArray, List.getElem_cons_zero, List.getElem_cons_succ, List.setIfInBounds_toArray, List.set_cons_zero, List.set_cons_succ]
          refine wpAnyH_take (i := 13) (v := ?_) rfl (by kernel_rfl) (by kernel_rfl) (by kernel_rfl) (fun _ _ _ h => h) (Or.inl ⟨by rfl, ?_⟩) (by assumption) ?_
          rotate_left
          · intro w hSw
            go_simp
            try with_reducible rfl
          simp only [Act.put, List.getElem_toArray, List.getElem_cons_zero, List.getElem_cons_succ, List.setIfInBounds_toArray, List.set_cons_zero, List.set_cons_succ]
          refine wpAnyH_done (by kernel_rfl) ?_ _
          refine NoPanic.normal ?_
          clear dp dz hHeld
          go_wp2_with (fail)
          go_roundg gn
          case measure => exact Nat.lt_succ_self _
          case rel => exact ⟨i + 1, 0 + 1, c4, A4, (([] : List Rg) ++ [(⟨p, z⟩ : Rg)]), by simp, rfl, ⟨by have := HI.out; omega⟩, HR4, ⟨by rw [List.length_append, List.length_nil]; rfl⟩, ⟨by have := HQL.out; omega⟩, HX4, HB4, ⟨by rw [HRUN.out, HNX.out, putB_nil, List.nil_append]⟩⟩
        · rw [List.concat_eq_append] at hRn
          subst hRn
          obtain ⟨q1, hq1⟩ : ∃ q1, R'.length = q1 := ⟨_, rfl⟩
          obtain rfl : q = q1 + 1 := by have h := HRL.out; rw [List.length_append, hq1] at h; exact h.symm
          obtain ⟨gR, cR, hvR, _⟩ := formR HRZ.out (by rw [HRL.out]; omega)
          injection hvR with hv1 hv2 hv3
          subst hv1
          have hlast : (R' ++ [r])[q1]? = some r := by rw [List.getElem?_append_right (by omega), hq1, Nat.sub_self]; rfl
          have HLAST := Aside0.mk hlast
          have HQ1 := Aside0.mk hq1
          have cr := atR HRZ.out hlast 1 _ rfl
          have u0 : (0 : Int) ≤ (q1 : Int) := by omega
          have u1 : (q1 : Int) < ((q1 + 1 : Nat) : Int) := by omega
          have u2 : (q1 : Int) < (q1 : Int) + 1 := by omega
          have u3 : IntKind.i64.wrap (q1 : Int) = (q1 : Int) := IntWalk.i64_in _ (by omega)
          have u4 : (0 : Int) < (q1 : Int) + 1 := by omega
          obtain ⟨rt, hrt⟩ : ∃ x, r.t = x := ⟨_, rfl⟩
          rw [hrt] at cr
          have HRT := Aside0.mk hrt
          clear hv2 hv3 hlast hq1 hrt
          by_cases hrp : rt = p
          · have bq : (rt == p) = true := beq_iff_eq.mpr hrp
            have HPUT := Aside0.mk (putB_hit R' r p z (HRT.out.trans hrp))
            clear hrp
            go_upto_region 15 with (fail)
            go_quiet (fail)
            obtain ⟨wq, hwq⟩ : ∃ x, wz.drewN nq = x := ⟨_, rfl⟩
            rw [hwq]
            have hbq : Below wz.heap.size wz wq := by rw [← hwq]; exact pw_below_drewN (Below.refl _ wz) nq
            have HRQ := Aside0.mk (Kd.R_below HRZ.out hbq)
            have HXQ := Aside0.mk (Kd.R_below HXZ.out hbq)
            have HBQ : Aside0 (Below w.heap.size w wq) := ⟨HBZ.out.trans (hbq.mono HBZ.out.size)⟩
            have dp := pw_cell_below hbq dp
            have dz := pw_cell_below hbq dz
            clear hwq hbq
            have HYY := Aside0.mk (atR HRQ.out HLAST.out)
            go_wp2_with ((with_reducible refine gate_ (.store 3 (.tmp 83) (.tmp 81)) rfl ?_); refine Kd.R_store kR (w0 := wq) 0 rfl rfl 3 (.tmp 83) (.tmp 81) rfl 31 (g := gR) (n := q1 + 1) (cap := c3) (o' := q1 * 2 + 1) (q1 : Int) 1 (R' ++ [r]) ⟨r.f, z⟩ (.int .i64 z) [.int .i64 z] (rgc r).toList (fun j => w.heap.size ≤ j) (fun _ => False) rfl (by simp [kR, flat]) rfl rfl info3s (fun q hq => by simp at hq; subst hq; rfl) HRQ.out (by omega) (by omega) rfl HYY.out (Nat.le_refl 2) rfl (fun _ h => h.elim) (Below.refl _ _) ?_; intro w7 hR7 _ hg7; have HR7 := Aside0.mk hR7; have HG7 := Aside0.mk hg7; clear hR7 hg7)
            go_roundg gn
            case measure => exact Nat.lt_succ_self _
            case rel =>
              refine ⟨i + 1, q1 + 1, c3, _, _, by simp, rfl, ⟨by have := HI.out; omega⟩, HR7, ⟨by rw [List.length_set]; exact HRL.out⟩, ⟨by have := HQL.out; omega⟩, ⟨Kd.R_over HXQ.out HRQ.out (by decide) HG7.out⟩, ⟨HBQ.out.grown HG7.out HBQ.out.size (fun j e => HRQ.out.1 j e)⟩, ⟨?_⟩⟩
              rw [HRUN.out, HNX.out, HPUT.out, Int.toNat_natCast, ← HQ1.out, set_last]
          · have bq : (rt == p) = false := beq_eq_false_iff_ne.mpr hrp
            have HPUT := Aside0.mk (putB_miss R' r p z (by rw [HRT.out]; exact hrp))
            clear hrp
            go_upto_region 15 with (fail)
            go_quiet (fail)
            obtain ⟨wq, hwq⟩ : ∃ x, wz.drewN nq = x := ⟨_, rfl⟩
            rw [hwq]
            have hbq : Below wz.heap.size wz wq := by rw [← hwq]; exact pw_below_drewN (Below.refl _ wz) nq
            have HRQ := Aside0.mk (Kd.R_below HRZ.out hbq)
            have HXQ := Aside0.mk (Kd.R_below HXZ.out hbq)
            have HBQ : Aside0 (Below w.heap.size w wq) := ⟨HBZ.out.trans (hbq.mono HBZ.out.size)⟩
            have dp := pw_cell_below hbq dp
            have dz := pw_cell_below hbq dz
            clear hwq hbq
            go_upto_region 17 with (fail)
            refine wp_region_noPanic ?_
            refine wp_region_held_drew (S := (fun w' => w'.cell? ⟨gp, i, none⟩ = some (.int .i64 p) ∧ w'.cell? ⟨gp, i + 1, none⟩ = some (.int .i64 z))) (by kernel_rfl) ?_ (fun hHeld => ?_)
            · exact ⟨dp, dz⟩
            refine wpAnyH_take (i := 0) (v := ?_) rfl (by kernel_rfl) (by kernel_rfl) (by kernel_rfl) (fun _ _ _ h => h) (Or.inl ⟨by rfl, ?_⟩) (by assumption) ?_
            rotate_left
            · intro w hSw
              go_simp
              try with_reducible rfl
            simp only [Act.put, List.getElem_toArray, List.getElem_cons_zero, List.getElem_cons_succ, List.setIfInBounds_toArray, List.set_cons_zero, List.set_cons_succ]
            refine wpAnyH_take (i := 1) (v := ?_) rfl (by kernel_rfl) (by kernel_rfl) (by kernel_rfl) (fun _ _ _ h => h) (Or.inl ⟨by rfl, ?_⟩) (by assumption) ?_
            rotate_left
            · intro w hSw
              go_simp
              try with_reducible rfl
            simp only [Act.put, List.getElem_toArray, List.getElem_cons_zero, List.getElem_cons_succ, List.setIfInBounds_toArray, List.set_cons_zero, List.set_cons_succ]
            refine wpAnyH_take (i := 2) (v := ?_) rfl (by kernel_rfl) (by kernel_rfl) (by kernel_rfl) (fun _ _ _ h => h) (Or.inl ⟨by rfl, ?_⟩) (by assumption) ?_
            rotate_left
            · intro w hSw
              go_simp
              try with_reducible rfl
            simp only [Act.put, List.getElem_toArray, List.getElem_cons_zero, List.getElem_cons_succ, List.setIfInBounds_toArray, List.set_cons_zero, List.set_cons_succ]
            refine wpAnyH_take (i := 3) (v := ?_) rfl (by kernel_rfl) (by kernel_rfl) (by kernel_rfl) (fun _ _ _ h => h) (Or.inl ⟨by rfl, ?_⟩) (by assumption) ?_
            rotate_left
            · intro w hSw
              go_simp
              try with_reducible rfl
            simp only [Act.put, List.getElem_toArray, List.getElem_cons_zero, List.getElem_cons_succ, List.setIfInBounds_toArray, List.set_cons_zero, List.set_cons_succ]
            refine wpAnyH_take (i := 4) (v := ?_) rfl (by kernel_rfl) (by kernel_rfl) (by kernel_rfl) (fun _ _ _ h => h) (Or.inl ⟨by rfl, ?_⟩) (by assumption) ?_
            rotate_left
            · intro w hSw
              go_simp
              try with_reducible rfl
            simp only [Act.put, List.getElem_toArray, List.getElem_cons_zero, List.getElem_cons_succ, List.setIfInBounds_toArray, List.set_cons_zero, List.set_cons_succ]
            refine wpAnyH_take (i := 5) (v := ?_) rfl (by kernel_rfl) (by kernel_rfl) (by kernel_rfl) (fun _ _ _ h => h) (Or.inl ⟨by rfl, ?_⟩) (by assumption) ?_
            rotate_left
            · intro w hSw
              go_simp
              try with_reducible rfl
            simp only [Act.put, List.getElem_toArray, List.getElem_cons_zero, List.getElem_cons_succ, List.setIfInBounds_toArray, List.set_cons_zero, List.set_cons_succ]
            refine wpAnyH_take (i := 6) (v := ?_) rfl (by kernel_rfl) (by kernel_rfl) (by kernel_rfl) (fun _ _ _ h => h) (Or.inl ⟨by rfl, ?_⟩) (by assumption) ?_
            rotate_left
            · intro w hSw
              go_simp
              try with_reducible rfl
            simp only [Act.put, List.getElem_toArray, List.getElem_cons_zero, List.getElem_cons_succ, List.setIfInBounds_toArray, List.set_cons_zero, List.set_cons_succ]
            refine wpAnyH_take (i := 7) (v := ?_) rfl (by kernel_rfl) (by kernel_rfl) (by kernel_rfl) (fun _ _ _ h => h) (Or.inl ⟨by rfl, ?_⟩) (by assumption) ?_
            rotate_left
            · intro w hSw
              go_simp
              try with_reducible rfl
            simp only [Act.put, List.getElem_toArray, List.getElem_cons_zero, List.getElem_cons_succ, List.setIfInBounds_toArray, List.set_cons_zero, List.set_cons_succ]
            refine wpAnyH_take (i := 8) (v := ?_) rfl (by kernel_rfl) (by kernel_rfl) (by kernel_rfl) (fun _ _ _ h => h) (Or.inl ⟨by rfl, ?_⟩) (by assumption) ?_
            rotate_left
            · intro w hSw
              go_simp
              try with_reducible rfl
            simp only [Act.put, List.getElem_toArray, List.getElem_cons_zero, List.getElem_cons_succ, List.setIfInBounds_toArray, List.set_cons_zero, List.set_cons_succ]
            refine wpAnyH_take (i := 9) (v := ?_) rfl (by kernel_rfl) (by kernel_rfl) (by kernel_rfl) (fun _ _ _ h => h) (Or.inl ⟨by rfl, ?_⟩) (by assumption) ?_
            rotate_left
            · intro w hSw
              go_simp
              try with_reducible rfl
            simp only [Act.put, List.getElem_toArray, List.getElem_cons_zero, List.getElem_cons_succ, List.setIfInBounds_toArray, List.set_cons_zero, List.set_cons_succ]
            refine wpAnyH_take (i := 10) (v := ?_) rfl (by kernel_rfl) (by kernel_rfl) (by kernel_rfl) (fun _ _ _ h => h) (Or.inl ⟨by rfl, ?_⟩) (by assumption) ?_
            rotate_left
            · intro w hSw
              go_simp
              try with_reducible rfl
            simp only [Act.put, List.getElem_toArray, List.getElem_cons_zero, List.getElem_cons_succ, List.setIfInBounds_toArray, List.set_cons_zero, List.set_cons_succ]
            refine wpAnyH_ready (rs := [11]) (by kernel_rfl) (by simp) ?_
            refine AllReadyH.cons rfl (fun K hK => ?_) AllReadyH.nil
            go_simp
            refine hK.out _ _ ⟨pw_cell_below (below_alloc (Below.refl _ wq) _) dp, pw_cell_below (below_alloc (Below.refl _ wq) _) dz⟩ (fun hHeld2 => ?_)
            clear hK K hHeld
            have hHeld := hHeld2
            clear hHeld2
            try simp only [Act.put, List.getElem_toArray, List.getElem_cons_zero, List.getElem_cons_succ, List.setIfInBounds_toArray, List.set_cons_zero, List.set_cons_succ]
            refine wpAnyH_ready (rs := [12]) (by kernel_rfl) (by simp) ?_
            refine AllReadyH.cons rfl (fun K hK => ?_) AllReadyH.nil
            refine Kd.R_append_step (W := wq.drew) kR (w0 := wq.drew) 0 (by rfl) (.tmp 84) (.tmp 95) 22 31 (.agg #[.int .i64 0, .int .i64 0]) 16 rfl Try.underlying22 info31 rfl (by decide) (by decide) (.slice (some ⟨gR, 0, none⟩) (q1 + 1) c3) (R' ++ [r]) ⟨p, z⟩ [.int .i64 p, .int .i64 z] (fun j => w.heap.size ≤ j) (fun _ => False) rfl rfl rfl (fun _ h => h.elim) (fun j hj => Nat.le_trans HBQ.out.size hj) (Kd.R_drew HRQ.out) (Below.refl _ _) (Nat.zero_le _) (by rw [HRL.out]; omega) ?_
            intro v4 w4 hR4 _ hg4 hat4
            obtain ⟨A4, c4, hv4, _, _⟩ := Kd.R_reads hR4
            rw [show ((R' ++ [r]) ++ [(⟨p, z⟩ : Rg)]).length = (q1 + 1) + 1 from (by rw [List.length_append, HRL.out]; rfl)] at hv4
            subst hv4
            have HR4 := Aside0.mk hR4
            have hx4 := Kd.R_over (d' := kR) (Kd.R_drew HXQ.out) (Kd.R_drew HRQ.out) (by decide) hg4
            have HX4 := Aside0.mk hx4
            have HB4 : Aside0 (Below w.heap.size w w4) := ⟨(below_drew HBQ.out).grown hg4 HBQ.out.size (fun j e => HRQ.out.1 j e)⟩
            have dp := atI hx4 HP.out
            have dz := atI hx4 HZ.out
            clear hR4 hg4 hat4 hx4
            refine hK.out _ _ ⟨dp, dz⟩ (fun hHeld2 => ?_)
            clear hK K hHeld
            have hHeld := hHeld2
            clear hHeld2
            try simp only [Act.put, List.getElem_toArray, List.getElem_cons_zero, List.getElem_cons_succ, List.setIfInBounds_toArray, List.set_cons_zero, List.set_cons_succ]
            refine wpAnyH_take (i := 13) (v := ?_) rfl (by kernel_rfl) (by kernel_rfl) (by kernel_rfl) (fun _ _ _ h => h) (Or.inl ⟨by rfl, ?_⟩) (by assumption) ?_
            rotate_left
            · intro w hSw
              go_simp
              try with_reducible rfl
            simp only [Act.put, List.getElem_toArray, List.getElem_cons_zero, List.getElem_cons_succ, List.setIfInBounds_toArray, List.set_cons_zero, List.set_cons_succ]
            refine wpAnyH_done (by kernel_rfl) ?_ _
            refine NoPanic.normal ?_
            clear dp dz hHeld
            go_wp2_with (fail)
            go_roundg gn
            case measure => exact Nat.lt_succ_self _
            case rel => exact ⟨i + 1, (q1 + 1) + 1, c4, A4, ((R' ++ [r]) ++ [(⟨p, z⟩ : Rg)]), by simp, rfl, ⟨by have := HI.out; omega⟩, HR4, ⟨by rw [List.length_append, HRL.out]; rfl⟩, ⟨by have := HQL.out; omega⟩, HX4, HB4, ⟨by rw [HRUN.out, HNX.out, HPUT.out]⟩⟩
      · have hnx : runB (fun x => (fun x y => x || y) (has a x) (has b x)) (pts.drop i) R = runB (fun x => (fun x y => x || y) (has a x) (has b x)) (pts.drop (i + 1)) (putB R p z) := by
          rw [runB_at hp hz, hga, hgb]
          rfl
        have HNX := Aside0.mk hnx
        clear hnx hga hgb hp hz
        go_upto_region 6 with (fail)
        refine wp_region_noPanic ?_
        refine wp_region_held_drew (S := (fun w' => w'.cell? ⟨gp, i, none⟩ = some (.int .i64 p))) (by kernel_rfl) ?_ (fun hHeld => ?_)
        · exact dp
        refine wpAnyH_take (i := 0) (v := ?_) rfl (by kernel_rfl) (by kernel_rfl) (by kernel_rfl) (fun _ _ _ h => h) (Or.inl ⟨by rfl, ?_⟩) (by assumption) ?_
        rotate_left
        · intro w hSw
          go_simp
          try with_reducible rfl
        simp only [Act.put, List.getElem_toArray, List.getElem_cons_zero, List.getElem_cons_succ, List.setIfInBounds_toArray, List.set_cons_zero, List.set_cons_succ]
        refine wpAnyH_take (i := 1) (v := ?_) rfl (by kernel_rfl) (by kernel_rfl) (by kernel_rfl) (fun _ _ _ h => h) (Or.inl ⟨by rfl, ?_⟩) (by assumption) ?_
        rotate_left
        · intro w hSw
          go_simp
          try with_reducible rfl
        simp only [Act.put, List.getElem_toArray, List.getElem_cons_zero, List.getElem_cons_succ, List.setIfInBounds_toArray, List.set_cons_zero, List.set_cons_succ]
        refine wpAnyH_take (i := 2) (v := ?_) rfl (by kernel_rfl) (by kernel_rfl) (by kernel_rfl) (fun _ _ _ h => h) (Or.inl ⟨by rfl, ?_⟩) (by assumption) ?_
        rotate_left
        · intro w hSw
          go_simp
          try with_reducible rfl
        simp only [Act.put, List.getElem_toArray, List.getElem_cons_zero, List.getElem_cons_succ, List.setIfInBounds_toArray, List.set_cons_zero, List.set_cons_succ]
        refine wpAnyH_take (i := 3) (v := ?_) rfl (by kernel_rfl) (by kernel_rfl) (by kernel_rfl) (fun _ _ _ h => h) (Or.inl ⟨by rfl, ?_⟩) (by assumption) ?_
        rotate_left
        · intro w hSw
          go_simp
          try with_reducible rfl
        simp only [Act.put, List.getElem_toArray, List.getElem_cons_zero, List.getElem_cons_succ, List.setIfInBounds_toArray, List.set_cons_zero, List.set_cons_succ]
        refine wpAnyH_take (i := 4) (v := ?_) rfl (by kernel_rfl) (by kernel_rfl) (by kernel_rfl) (fun _ _ _ h => h) (Or.inl ⟨by rfl, ?_⟩) (by assumption) ?_
        rotate_left
        · intro w hSw
          go_simp
          try with_reducible rfl
        simp only [Act.put, List.getElem_toArray, List.getElem_cons_zero, List.getElem_cons_succ, List.setIfInBounds_toArray, List.set_cons_zero, List.set_cons_succ]
        refine wpAnyH_take (i := 6) (v := ?_) rfl (by kernel_rfl) (by kernel_rfl) (by kernel_rfl) (fun _ _ _ h => h) (Or.inl ⟨by rfl, ?_⟩) (by assumption) ?_
        rotate_left
        · intro w hSw
          go_simp
          try with_reducible rfl
        simp only [Act.put, List.getElem_toArray, List.getElem_cons_zero, List.getElem_cons_succ, List.setIfInBounds_toArray, List.set_cons_zero, List.set_cons_succ]
        refine wpAnyH_take (i := 7) (v := ?_) rfl (by kernel_rfl) (by kernel_rfl) (by kernel_rfl) (fun _ _ _ h => h) (Or.inl ⟨by rfl, ?_⟩) (by assumption) ?_
        rotate_left
        · intro w hSw
          go_simp
          try with_reducible rfl
        simp only [Act.put, List.getElem_toArray, List.getElem_cons_zero, List.getElem_cons_succ, List.setIfInBounds_toArray, List.set_cons_zero, List.set_cons_succ]
        refine wpAnyH_take (i := 8) (v := ?_) rfl (by kernel_rfl) (by kernel_rfl) (by kernel_rfl) (fun _ _ _ h => h) (Or.inl ⟨by rfl, ?_⟩) (by assumption) ?_
        rotate_left
        · intro w hSw
          go_simp
          try with_reducible rfl
        simp only [Act.put, List.getElem_toArray, List.getElem_cons_zero, List.getElem_cons_succ, List.setIfInBounds_toArray, List.set_cons_zero, List.set_cons_succ]
        refine wpAnyH_take (i := 9) (v := ?_) rfl (by kernel_rfl) (by kernel_rfl) (by kernel_rfl) (fun _ _ _ h => h) (Or.inl ⟨by rfl, ?_⟩) (by assumption) ?_
        rotate_left
        · intro w hSw
          go_simp
          try with_reducible rfl
        simp only [Act.put, List.getElem_toArray, List.getElem_cons_zero, List.getElem_cons_succ, List.setIfInBounds_toArray, List.set_cons_zero, List.set_cons_succ]
        refine wpAnyH_take (i := 10) (v := ?_) rfl (by kernel_rfl) (by kernel_rfl) (by kernel_rfl) (fun _ _ _ h => h) (Or.inl ⟨by rfl, ?_⟩) (by assumption) ?_
        rotate_left
        · intro w hSw
          go_simp
          try with_reducible rfl
        simp only [Act.put, List.getElem_toArray, List.getElem_cons_zero, List.getElem_cons_succ, List.setIfInBounds_toArray, List.set_cons_zero, List.set_cons_succ]
        refine wpAnyH_ready (rs := [5]) (by kernel_rfl) (by simp) ?_
        refine AllReadyH.cons rfl (fun K hK => ?_) AllReadyH.nil
        go_simp
        refine HHA.out.mono ?_
        rintro _ w9 ⟨rfl, h9⟩
        rw [h9]
        clear h9 w9
        refine hK.out _ _ dp (fun hHeld2 => ?_)
        clear hK K hHeld
        have hHeld := hHeld2
        clear hHeld2
        try simp only [Act.put, List.getElem_toArray, List.getElem_cons_zero, List.getElem_cons_succ, List.setIfInBounds_toArray, List.set_cons_zero, List.set_cons_succ]
        refine wpAnyH_ready (rs := [11]) (by kernel_rfl) (by simp) ?_
        refine AllReadyH.cons rfl (fun K hK => ?_) AllReadyH.nil
        go_simp
        refine HHB.out.mono ?_
        rintro _ w9 ⟨rfl, h9⟩
        rw [h9]
        clear h9 w9
        refine hK.out _ _ dp (fun hHeld2 => ?_)
        clear hK K hHeld
        have hHeld := hHeld2
        clear hHeld2
        try simp only [Act.put, List.getElem_toArray, List.getElem_cons_zero, List.getElem_cons_succ, List.setIfInBounds_toArray, List.set_cons_zero, List.set_cons_succ]
        refine wpAnyH_take (i := 12) (v := ?_) rfl (by kernel_rfl) (by kernel_rfl) (by kernel_rfl) (fun _ _ _ h => h) (Or.inl ⟨by rfl, ?_⟩) (by assumption) ?_
        rotate_left
        · intro w hSw
          go_simp
          try with_reducible rfl
        simp only [Act.put, List.getElem_toArray, List.getElem_cons_zero, List.getElem_cons_succ, List.setIfInBounds_toArray, List.set_cons_zero, List.set_cons_succ]
        refine wpAnyH_take (i := 13) (v := ?_) rfl (by kernel_rfl) (by kernel_rfl) (by kernel_rfl) (fun _ _ _ h => h) (Or.inl ⟨by rfl, ?_⟩) (by assumption) ?_
        rotate_left
        · intro w hSw
          go_simp
          try with_reducible rfl
        simp only [Act.put, List.getElem_toArray, List.getElem_cons_zero, List.getElem_cons_succ, List.setIfInBounds_toArray, List.set_cons_zero, List.set_cons_succ]
        refine wpAnyH_done (by kernel_rfl) ?_ _
        refine NoPanic.normal ?_
        obtain ⟨wz, hwz⟩ : ∃ x, wr.drew = x := ⟨_, rfl⟩
        rw [hwz]
        have hbz : Below wr.heap.size wr wz := by rw [← hwz]; exact below_drew (Below.refl _ wr)
        have HRZ := Aside0.mk (Kd.R_below HR.out hbz)
        have HXZ := Aside0.mk (Kd.R_below HX.out hbz)
        have HBZ : Aside0 (Below w.heap.size w wz) := ⟨HB.out.trans (hbz.mono HB.out.size)⟩
        have dp := pw_cell_below hbz dp
        have dz := pw_cell_below hbz dz
        clear hwz hHeld HHA HHB
        rcases List.eq_nil_or_concat R with hRn | ⟨R', r, hRn⟩
        · subst hRn
          obtain rfl : q = 0 := HRL.out.symm
          go_upto_region 15 with (fail)
          go_quiet (fail)
          obtain ⟨wq, hwq⟩ : ∃ x, wz.drewN nq = x := ⟨_, rfl⟩
          rw [hwq]
          have hbq : Below wz.heap.size wz wq := by rw [← hwq]; exact pw_below_drewN (Below.refl _ wz) nq
          have HRQ := Aside0.mk (Kd.R_below HRZ.out hbq)
          have HXQ := Aside0.mk (Kd.R_below HXZ.out hbq)
          have HBQ : Aside0 (Below w.heap.size w wq) := ⟨HBZ.out.trans (hbq.mono HBZ.out.size)⟩
          have dp := pw_cell_below hbq dp
          have dz := pw_cell_below hbq dz
          clear hwq hbq
          go_upto_region 17 with (fail)
          refine wp_region_noPanic ?_
          refine wp_region_held_drew (S := (fun w' => w'.cell? ⟨gp, i, none⟩ = some (.int .i64 p) ∧ w'.cell? ⟨gp, i + 1, none⟩ = some (.int .i64 z))) (by kernel_rfl) ?_ (fun hHeld => ?_)
          · exact ⟨dp, dz⟩
          refine wpAnyH_take (i := 0) (v := ?_) rfl (by kernel_rfl) (by kernel_rfl) (by kernel_rfl) (fun _ _ _ h => h) (Or.inl ⟨by rfl, ?_⟩) (by assumption) ?_
          rotate_left
          · intro w hSw
            go_simp
            try with_reducible rfl
          simp only [Act.put, List.getElem_toArray, List.getElem_cons_zero, List.getElem_cons_succ, List.setIfInBounds_toArray, List.set_cons_zero, List.set_cons_succ]
          refine wpAnyH_take (i := 1) (v := ?_) rfl (by kernel_rfl) (by kernel_rfl) (by kernel_rfl) (fun _ _ _ h => h) (Or.inl ⟨by rfl, ?_⟩) (by assumption) ?_
          rotate_left
          · intro w hSw
            go_simp
            try with_reducible rfl
          simp only [Act.put, List.getElem_toArray, List.getElem_cons_zero, List.getElem_cons_succ, List.setIfInBounds_toArray, List.set_cons_zero, List.set_cons_succ]
          refine wpAnyH_take (i := 2) (v := ?_) rfl (by kernel_rfl) (by kernel_rfl) (by kernel_rfl) (fun _ _ _ h => h) (Or.inl ⟨by rfl, ?_⟩) (by assumption) ?_
          rotate_left
          · intro w hSw
            go_simp
            try with_reducible rfl
          simp only [Act.put, List.getElem_toArray, List.getElem_cons_zero, List.getElem_cons_succ, List.setIfInBounds_toArray, List.set_cons_zero, List.set_cons_succ]
          refine wpAnyH_take (i := 3) (v := ?_) rfl (by kernel_rfl) (by kernel_rfl) (by kernel_rfl) (fun _ _ _ h => h) (Or.inl ⟨by rfl, ?_⟩) (by assumption) ?_
          rotate_left
          · intro w hSw
            go_simp
            try with_reducible rfl
          simp only [Act.put, List.getElem_toArray, List.getElem_cons_zero, List.getElem_cons_succ, List.setIfInBounds_toArray, List.set_cons_zero, List.set_cons_succ]
          refine wpAnyH_take (i := 4) (v := ?_) rfl (by kernel_rfl) (by kernel_rfl) (by kernel_rfl) (fun _ _ _ h => h) (Or.inl ⟨by rfl, ?_⟩) (by assumption) ?_
          rotate_left
          · intro w hSw
            go_simp
            try with_reducible rfl
          simp only [Act.put, List.getElem_toArray, List.getElem_cons_zero, List.getElem_cons_succ, List.setIfInBounds_toArray, List.set_cons_zero, List.set_cons_succ]
          refine wpAnyH_take (i := 5) (v := ?_) rfl (by kernel_rfl) (by kernel_rfl) (by kernel_rfl) (fun _ _ _ h => h) (Or.inl ⟨by rfl, ?_⟩) (by assumption) ?_
          rotate_left
          · intro w hSw
            go_simp
            try with_reducible rfl
          simp only [Act.put, List.getElem_toArray, List.getElem_cons_zero, List.getElem_cons_succ, List.setIfInBounds_toArray, List.set_cons_zero, List.set_cons_succ]
          refine wpAnyH_take (i := 6) (v := ?_) rfl (by kernel_rfl) (by kernel_rfl) (by kernel_rfl) (fun _ _ _ h => h) (Or.inl ⟨by rfl, ?_⟩) (by assumption) ?_
          rotate_left
          · intro w hSw
            go_simp
            try with_reducible rfl
          simp only [Act.put, List.getElem_toArray, List.getElem_cons_zero, List.getElem_cons_succ, List.setIfInBounds_toArray, List.set_cons_zero, List.set_cons_succ]
          refine wpAnyH_take (i := 7) (v := ?_) rfl (by kernel_rfl) (by kernel_rfl) (by kernel_rfl) (fun _ _ _ h => h) (Or.inl ⟨by rfl, ?_⟩) (by assumption) ?_
          rotate_left
          · intro w hSw
            go_simp
            try with_reducible rfl
          simp only [Act.put, List.getElem_toArray, List.getElem_cons_zero, List.getElem_cons_succ, List.setIfInBounds_toArray, List.set_cons_zero, List.set_cons_succ]
          refine wpAnyH_take (i := 8) (v := ?_) rfl (by kernel_rfl) (by kernel_rfl) (by kernel_rfl) (fun _ _ _ h => h) (Or.inl ⟨by rfl, ?_⟩) (by assumption) ?_
          rotate_left
          · intro w hSw
            go_simp
            try with_reducible rfl
          simp only [Act.put, List.getElem_toArray, List.getElem_cons_zero, List.getElem_cons_succ, List.setIfInBounds_toArray, List.set_cons_zero, List.set_cons_succ]
          refine wpAnyH_take (i := 9) (v := ?_) rfl (by kernel_rfl) (by kernel_rfl) (by kernel_rfl) (fun _ _ _ h => h) (Or.inl ⟨by rfl, ?_⟩) (by assumption) ?_
          rotate_left
          · intro w hSw
            go_simp
            try with_reducible rfl
          simp only [Act.put, List.getElem_toArray, List.getElem_cons_zero, List.getElem_cons_succ, List.setIfInBounds_toArray, List.set_cons_zero, List.set_cons_succ]
          refine wpAnyH_take (i := 10) (v := ?_) rfl (by kernel_rfl) (by kernel_rfl) (by kernel_rfl) (fun _ _ _ h => h) (Or.inl ⟨by rfl, ?_⟩) (by assumption) ?_
          rotate_left
          · intro w hSw
            go_simp
            try with_reducible rfl
          simp only [Act.put, List.getElem_toArray, List.getElem_cons_zero, List.getElem_cons_succ, List.setIfInBounds_toArray, List.set_cons_zero, List.set_cons_succ]
          refine wpAnyH_ready (rs := [11]) (by kernel_rfl) (by simp) ?_
          refine AllReadyH.cons rfl (fun K hK => ?_) AllReadyH.nil
          go_simp
          refine hK.out _ _ ⟨pw_cell_below (below_alloc (Below.refl _ wq) _) dp, pw_cell_below (below_alloc (Below.refl _ wq) _) dz⟩ (fun hHeld2 => ?_)
          clear hK K hHeld
          have hHeld := hHeld2
          clear hHeld2
          try simp only [Act.put, List.getElem_toArray, List.getElem_cons_zero, List.getElem_cons_succ, List.setIfInBounds_toArray, List.set_cons_zero, List.set_cons_succ]
          refine wpAnyH_ready (rs := [12]) (by kernel_rfl) (by simp) ?_
          refine AllReadyH.cons rfl (fun K hK => ?_) AllReadyH.nil
          refine Kd.R_append_step (W := wq.drew) kR (w0 := wq.drew) 0 (by rfl) (.tmp 84) (.tmp 95) 22 31 (.agg #[.int .i64 0, .int .i64 0]) 16 rfl Try.underlying22 info31 rfl (by decide) (by decide) (.slice A3 0 c3) ([] : List Rg) ⟨p, z⟩ [.int .i64 p, .int .i64 z] (fun j => w.heap.size ≤ j) (fun _ => False) rfl rfl rfl (fun _ h => h.elim) (fun j hj => Nat.le_trans HBQ.out.size hj) (Kd.R_drew HRQ.out) (Below.refl _ _) (Nat.zero_le _) (by rw [List.length_nil]; omega) ?_
          intro v4 w4 hR4 _ hg4 hat4
          obtain ⟨A4, c4, hv4, _, _⟩ := Kd.R_reads hR4
          rw [show (([] : List Rg) ++ [(⟨p, z⟩ : Rg)]).length = 0 + 1 from (by rw [List.length_append, List.length_nil]; rfl)] at hv4
          subst hv4
          have HR4 := Aside0.mk hR4
          have hx4 := Kd.R_over (d' := kR) (Kd.R_drew HXQ.out) (Kd.R_drew HRQ.out) (by decide) hg4
          have HX4 := Aside0.mk hx4
          have HB4 : Aside0 (Below w.heap.size w w4) := ⟨(below_drew HBQ.out).grown hg4 HBQ.out.size (fun j e => HRQ.out.1 j e)⟩
          have dp := atI hx4 HP.out
          have dz := atI hx4 HZ.out
          clear hR4 hg4 hat4 hx4
          refine hK.out _ _ ⟨dp, dz⟩ (fun hHeld2 => ?_)
          clear hK K hHeld
          have hHeld := hHeld2
          clear hHeld2
          try simp only [Act.put, List.getElem_toArray, List.getElem_cons_zero, List.getElem_cons_succ, List.setIfInBounds_toArray, List.set_cons_zero, List.set_cons_succ]
          refine wpAnyH_take (i := 13) (v := ?_) rfl (by kernel_rfl) (by kernel_rfl) (by kernel_rfl) (fun _ _ _ h => h) (Or.inl ⟨by rfl, ?_⟩) (by assumption) ?_
          rotate_left
          · intro w hSw
            go_simp
            try with_reducible rfl
          simp only [Act.put, List.getElem_toArray, List.getElem_cons_zero, List.getElem_cons_succ, List.setIfInBounds_toArray, List.set_cons_zero, List.set_cons_succ]
          refine wpAnyH_done (by kernel_rfl) ?_ _
          refine NoPanic.normal ?_
          clear dp dz hHeld
          go_wp2_with (fail)
          go_roundg gn
          case measure => exact Nat.lt_succ_self _
          case rel => exact ⟨i + 1, 0 + 1, c4, A4, (([] : List Rg) ++ [(⟨p, z⟩ : Rg)]), by simp, rfl, ⟨by have := HI.out; omega⟩, HR4, ⟨by rw [List.length_append, List.length_nil]; rfl⟩, ⟨by have := HQL.out; omega⟩, HX4, HB4, ⟨by rw [HRUN.out, HNX.out, putB_nil, List.nil_append]⟩⟩
        · rw [List.concat_eq_append] at hRn
          subst hRn
          obtain ⟨q1, hq1⟩ : ∃ q1, R'.length = q1 := ⟨_, rfl⟩
          obtain rfl : q = q1 + 1 := by have h := HRL.out; rw [List.length_append, hq1] at h; exact h.symm
          obtain ⟨gR, cR, hvR, _⟩ := formR HRZ.out (by rw [HRL.out]; omega)
          injection hvR with hv1 hv2 hv3
          subst hv1
          have hlast : (R' ++ [r])[q1]? = some r := by rw [List.getElem?_append_right (by omega), hq1, Nat.sub_self]; rfl
          have HLAST := Aside0.mk hlast
          have HQ1 := Aside0.mk hq1
          have cr := atR HRZ.out hlast 1 _ rfl
          have u0 : (0 : Int) ≤ (q1 : Int) := by omega
          have u1 : (q1 : Int) < ((q1 + 1 : Nat) : Int) := by omega
          have u2 : (q1 : Int) < (q1 : Int) + 1 := by omega
          have u3 : IntKind.i64.wrap (q1 : Int) = (q1 : Int) := IntWalk.i64_in _ (by omega)
          have u4 : (0 : Int) < (q1 : Int) + 1 := by omega
          obtain ⟨rt, hrt⟩ : ∃ x, r.t = x := ⟨_, rfl⟩
          rw [hrt] at cr
          have HRT := Aside0.mk hrt
          clear hv2 hv3 hlast hq1 hrt
          by_cases hrp : rt = p
          · have bq : (rt == p) = true := beq_iff_eq.mpr hrp
            have HPUT := Aside0.mk (putB_hit R' r p z (HRT.out.trans hrp))
            clear hrp
            go_upto_region 15 with (fail)
            go_quiet (fail)
            obtain ⟨wq, hwq⟩ : ∃ x, wz.drewN nq = x := ⟨_, rfl⟩
            rw [hwq]
            have hbq : Below wz.heap.size wz wq := by rw [← hwq]; exact pw_below_drewN (Below.refl _ wz) nq
            have HRQ := Aside0.mk (Kd.R_below HRZ.out hbq)
            have HXQ := Aside0.mk (Kd.R_below HXZ.out hbq)
            have HBQ : Aside0 (Below w.heap.size w wq) := ⟨HBZ.out.trans (hbq.mono HBZ.out.size)⟩
            have dp := pw_cell_below hbq dp
            have dz := pw_cell_below hbq dz
            clear hwq hbq
            have HYY := Aside0.mk (atR HRQ.out HLAST.out)
            go_wp2_with ((with_reducible refine gate_ (.store 3 (.tmp 83) (.tmp 81)) rfl ?_); refine Kd.R_store kR (w0 := wq) 0 rfl rfl 3 (.tmp 83) (.tmp 81) rfl 31 (g := gR) (n := q1 + 1) (cap := c3) (o' := q1 * 2 + 1) (q1 : Int) 1 (R' ++ [r]) ⟨r.f, z⟩ (.int .i64 z) [.int .i64 z] (rgc r).toList (fun j => w.heap.size ≤ j) (fun _ => False) rfl (by simp [kR, flat]) rfl rfl info3s (fun q hq => by simp at hq; subst hq; rfl) HRQ.out (by omega) (by omega) rfl HYY.out (Nat.le_refl 2) rfl (fun _ h => h.elim) (Below.refl _ _) ?_; intro w7 hR7 _ hg7; have HR7 := Aside0.mk hR7; have HG7 := Aside0.mk hg7; clear hR7 hg7)
            go_roundg gn
            case measure => exact Nat.lt_succ_self _
            case rel =>
              refine ⟨i + 1, q1 + 1, c3, _, _, by simp, rfl, ⟨by have := HI.out; omega⟩, HR7, ⟨by rw [List.length_set]; exact HRL.out⟩, ⟨by have := HQL.out; omega⟩, ⟨Kd.R_over HXQ.out HRQ.out (by decide) HG7.out⟩, ⟨HBQ.out.grown HG7.out HBQ.out.size (fun j e => HRQ.out.1 j e)⟩, ⟨?_⟩⟩
              rw [HRUN.out, HNX.out, HPUT.out, Int.toNat_natCast, ← HQ1.out, set_last]
          · have bq : (rt == p) = false := beq_eq_false_iff_ne.mpr hrp
            have HPUT := Aside0.mk (putB_miss R' r p z (by rw [HRT.out]; exact hrp))
            clear hrp
            go_upto_region 15 with (fail)
            go_quiet (fail)
            obtain ⟨wq, hwq⟩ : ∃ x, wz.drewN nq = x := ⟨_, rfl⟩
            rw [hwq]
            have hbq : Below wz.heap.size wz wq := by rw [← hwq]; exact pw_below_drewN (Below.refl _ wz) nq
            have HRQ := Aside0.mk (Kd.R_below HRZ.out hbq)
            have HXQ := Aside0.mk (Kd.R_below HXZ.out hbq)
            have HBQ : Aside0 (Below w.heap.size w wq) := ⟨HBZ.out.trans (hbq.mono HBZ.out.size)⟩
            have dp := pw_cell_below hbq dp
            have dz := pw_cell_below hbq dz
            clear hwq hbq
            go_upto_region 17 with (fail)
            refine wp_region_noPanic ?_
            refine wp_region_held_drew (S := (fun w' => w'.cell? ⟨gp, i, none⟩ = some (.int .i64 p) ∧ w'.cell? ⟨gp, i + 1, none⟩ = some (.int .i64 z))) (by kernel_rfl) ?_ (fun hHeld => ?_)
            · exact ⟨dp, dz⟩
            refine wpAnyH_take (i := 0) (v := ?_) rfl (by kernel_rfl) (by kernel_rfl) (by kernel_rfl) (fun _ _ _ h => h) (Or.inl ⟨by rfl, ?_⟩) (by assumption) ?_
            rotate_left
            · intro w hSw
              go_simp
              try with_reducible rfl
            simp only [Act.put, List.getElem_toArray, List.getElem_cons_zero, List.getElem_cons_succ, List.setIfInBounds_toArray, List.set_cons_zero, List.set_cons_succ]
            refine wpAnyH_take (i := 1) (v := ?_) rfl (by kernel_rfl) (by kernel_rfl) (by kernel_rfl) (fun _ _ _ h => h) (Or.inl ⟨by rfl, ?_⟩) (by assumption) ?_
            rotate_left
            · intro w hSw
              go_simp
              try with_reducible rfl
            simp only [Act.put, List.getElem_toArray, List.getElem_cons_zero, List.getElem_cons_succ, List.setIfInBounds_toArray, List.set_cons_zero, List.set_cons_succ]
            refine wpAnyH_take (i := 2) (v := ?_) rfl (by kernel_rfl) (by kernel_rfl) (by kernel_rfl) (fun _ _ _ h => h) (Or.inl ⟨by rfl, ?_⟩) (by assumption) ?_
            rotate_left
            · intro w hSw
              go_simp
              try with_reducible rfl
            simp only [Act.put, List.getElem_toArray, List.getElem_cons_zero, List.getElem_cons_succ, List.setIfInBounds_toArray, List.set_cons_zero, List.set_cons_succ]
            refine wpAnyH_take (i := 3) (v := ?_) rfl (by kernel_rfl) (by kernel_rfl) (by kernel_rfl) (fun _ _ _ h => h) (Or.inl ⟨by rfl, ?_⟩) (by assumption) ?_
            rotate_left
            · intro w hSw
              go_simp
              try with_reducible rfl
            simp only [Act.put, List.getElem_toArray, List.getElem_cons_zero, List.getElem_cons_succ, List.setIfInBounds_toArray, List.set_cons_zero, List.set_cons_succ]
            refine wpAnyH_take (i := 4) (v := ?_) rfl (by kernel_rfl) (by kernel_rfl) (by kernel_rfl) (fun _ _ _ h => h) (Or.inl ⟨by rfl, ?_⟩) (by assumption) ?_
            rotate_left
            · intro w hSw
              go_simp
              try with_reducible rfl
            simp only [Act.put, List.getElem_toArray, List.getElem_cons_zero, List.getElem_cons_succ, List.setIfInBounds_toArray, List.set_cons_zero, List.set_cons_succ]
            refine wpAnyH_take (i := 5) (v := ?_) rfl (by kernel_rfl) (by kernel_rfl) (by kernel_rfl) (fun _ _ _ h => h) (Or.inl ⟨by rfl, ?_⟩) (by assumption) ?_
            rotate_left
            · intro w hSw
              go_simp
              try with_reducible rfl
            simp only [Act.put, List.getElem_toArray, List.getElem_cons_zero, List.getElem_cons_succ, List.setIfInBounds_toArray, List.set_cons_zero, List.set_cons_succ]
            refine wpAnyH_take (i := 6) (v := ?_) rfl (by kernel_rfl) (by kernel_rfl) (by kernel_rfl) (fun _ _ _ h => h) (Or.inl ⟨by rfl, ?_⟩) (by assumption) ?_
            rotate_left
            · intro w hSw
              go_simp
              try with_reducible rfl
            simp only [Act.put, List.getElem_toArray, List.getElem_cons_zero, List.getElem_cons_succ, List.setIfInBounds_toArray, List.set_cons_zero, List.set_cons_succ]
            refine wpAnyH_take (i := 7) (v := ?_) rfl (by kernel_rfl) (by kernel_rfl) (by kernel_rfl) (fun _ _ _ h => h) (Or.inl ⟨by rfl, ?_⟩) (by assumption) ?_
            rotate_left
            · intro w hSw
              go_simp
              try with_reducible rfl
            simp only [Act.put, List.getElem_toArray, List.getElem_cons_zero, List.getElem_cons_succ, List.setIfInBounds_toArray, List.set_cons_zero, List.set_cons_succ]
            refine wpAnyH_take (i := 8) (v := ?_) rfl (by kernel_rfl) (by kernel_rfl) (by kernel_rfl) (fun _ _ _ h => h) (Or.inl ⟨by rfl, ?_⟩) (by assumption) ?_
            rotate_left
            · intro w hSw
              go_simp
              try with_reducible rfl
            simp only [Act.put, List.getElem_toArray, List.getElem_cons_zero, List.getElem_cons_succ, List.setIfInBounds_toArray, List.set_cons_zero, List.set_cons_succ]
            refine wpAnyH_take (i := 9) (v := ?_) rfl (by kernel_rfl) (by kernel_rfl) (by kernel_rfl) (fun _ _ _ h => h) (Or.inl ⟨by rfl, ?_⟩) (by assumption) ?_
            rotate_left
            · intro w hSw
              go_simp
              try with_reducible rfl
            simp only [Act.put, List.getElem_toArray, List.getElem_cons_zero, List.getElem_cons_succ, List.setIfInBounds_toArray, List.set_cons_zero, List.set_cons_succ]
            refine wpAnyH_take (i := 10) (v := ?_) rfl (by kernel_rfl) (by kernel_rfl) (by kernel_rfl) (fun _ _ _ h => h) (Or.inl ⟨by rfl, ?_⟩) (by assumption) ?_
            rotate_left
            · intro w hSw
              go_simp
              try with_reducible rfl
            simp only [Act.put, List.getElem_toArray, List.getElem_cons_zero, List.getElem_cons_succ, List.setIfInBounds_toArray, List.set_cons_zero, List.set_cons_succ]
            refine wpAnyH_ready (rs := [11]) (by kernel_rfl) (by simp) ?_
            refine AllReadyH.cons rfl (fun K hK => ?_) AllReadyH.nil
            go_simp
            refine hK.out _ _ ⟨pw_cell_below (below_alloc (Below.refl _ wq) _) dp, pw_cell_below (below_alloc (Below.refl _ wq) _) dz⟩ (fun hHeld2 => ?_)
            clear hK K hHeld
            have hHeld := hHeld2
            clear hHeld2
            try simp only [Act.put, List.getElem_toArray, List.getElem_cons_zero, List.getElem_cons_succ, List.setIfInBounds_toArray, List.set_cons_zero, List.set_cons_succ]
            refine wpAnyH_ready (rs := [12]) (by kernel_rfl) (by simp) ?_
            refine AllReadyH.cons rfl (fun K hK => ?_) AllReadyH.nil
            refine Kd.R_append_step (W := wq.drew) kR (w0 := wq.drew) 0 (by rfl) (.tmp 84) (.tmp 95) 22 31 (.agg #[.int .i64 0, .int .i64 0]) 16 rfl Try.underlying22 info31 rfl (by decide) (by decide) (.slice (some ⟨gR, 0, none⟩) (q1 + 1) c3) (R' ++ [r]) ⟨p, z⟩ [.int .i64 p, .int .i64 z] (fun j => w.heap.size ≤ j) (fun _ => False) rfl rfl rfl (fun _ h => h.elim) (fun j hj => Nat.le_trans HBQ.out.size hj) (Kd.R_drew HRQ.out) (Below.refl _ _) (Nat.zero_le _) (by rw [HRL.out]; omega) ?_
            intro v4 w4 hR4 _ hg4 hat4
            obtain ⟨A4, c4, hv4, _, _⟩ := Kd.R_reads hR4
            rw [show ((R' ++ [r]) ++ [(⟨p, z⟩ : Rg)]).length = (q1 + 1) + 1 from (by rw [List.length_append, HRL.out]; rfl)] at hv4
            subst hv4
            have HR4 := Aside0.mk hR4
            have hx4 := Kd.R_over (d' := kR) (Kd.R_drew HXQ.out) (Kd.R_drew HRQ.out) (by decide) hg4
            have HX4 := Aside0.mk hx4
            have HB4 : Aside0 (Below w.heap.size w w4) := ⟨(below_drew HBQ.out).grown hg4 HBQ.out.size (fun j e => HRQ.out.1 j e)⟩
            have dp := atI hx4 HP.out
            have dz := atI hx4 HZ.out
            clear hR4 hg4 hat4 hx4
            refine hK.out _ _ ⟨dp, dz⟩ (fun hHeld2 => ?_)
            clear hK K hHeld
            have hHeld := hHeld2
            clear hHeld2
            try simp only [Act.put, List.getElem_toArray, List.getElem_cons_zero, List.getElem_cons_succ, List.setIfInBounds_toArray, List.set_cons_zero, List.set_cons_succ]
            refine wpAnyH_take (i := 13) (v := ?_) rfl (by kernel_rfl) (by kernel_rfl) (by kernel_rfl) (fun _ _ _ h => h) (Or.inl ⟨by rfl, ?_⟩) (by assumption) ?_
            rotate_left
            · intro w hSw
              go_simp
              try with_reducible rfl
            simp only [Act.put, List.getElem_toArray, List.getElem_cons_zero, List.getElem_cons_succ, List.setIfInBounds_toArray, List.set_cons_zero, List.set_cons_succ]
            refine wpAnyH_done (by kernel_rfl) ?_ _
            refine NoPanic.normal ?_
            clear dp dz hHeld
            go_wp2_with (fail)
            go_roundg gn
            case measure => exact Nat.lt_succ_self _
            case rel => exact ⟨i + 1, (q1 + 1) + 1, c4, A4, ((R' ++ [r]) ++ [(⟨p, z⟩ : Rg)]), by simp, rfl, ⟨by have := HI.out; omega⟩, HR4, ⟨by rw [List.length_append, HRL.out]; rfl⟩, ⟨by have := HQL.out; omega⟩, HX4, HB4, ⟨by rw [HRUN.out, HNX.out, HPUT.out]⟩⟩
    · have hiN2 : ¬ ((i : Int) + 1 < (N : Int)) := by omega
      have hfin : OfP w (fun x y => x || y) a b (.returned (.slice A3 q c3)) wr := by
        have hrun := HRUN.out
        rw [runB_end (by rw [HN.out]; omega)] at hrun
        obtain ⟨h1, h2⟩ := HOK.out
        rw [hrun] at h1 h2
        refine ⟨_, R, rfl, HR.out, h1, h2, ?_, HB.out⟩
        rw [HRL.out, HAL.out, HBL.out]
        have h3 := HQL.out
        have h4 := HI.out
        omega
      have HF := Aside0.mk hfin
      clear hfin HI HR HRL HQL HX HB HRUN HOK
      go_wp2_with (fail)
      go_ret
      exact HF.out
end Go.Proofs.Ytcbddmmoioggaaa.Sp
