/- SeqPlaces walked. -/
import Derived.Test.YtpchkligbfmeiaaPa
namespace Go.Proofs.Ytpchkligbfmeiaa.Se
open Go.RowKit Go.Proofs.YtpchkligbfmeiaaW.PrintWords Go.Proofs.YtpchkligbfmeiaaW.PrintLast Go.Proofs.YtpchkligbfmeiaaW.PrintMore
attribute [local go_sem] max2_int min2_int max_two min_two max_three min_three max_four min_four
set_option linter.unusedVariables false
set_option linter.unusedSimpArgs false

set_option maxRecDepth 100000 in
set_option maxHeartbeats 4000000 in
theorem places_c (A : Option Addr) (n c : Nat) (l : List ActM) (off : Int) (w : World) (hR : ReadsRow (RAct w) 5 w A n l) : Calls Try.prog 5 #[.slice A n c, .int .i64 off] w fun e w' => e = .returned (.bool true) ∧ Below w.heap.size w w' := by
  have hln := hR.1
  have hn8 := hR.2.1
  have HR := Aside0.mk hR
  have HLN := Aside0.mk hln
  have HGR := Aside0.mk (great_c A n c l w hR)
  clear hR hln
  go_enter Try.func5, Try.ntmps5
  go_wp2_with (refine HGR.out.mono ?_)
  rintro _ w0 ⟨⟨b, rfl, hsm⟩, rfl⟩
  clear HGR
  cases b
  case true =>
    clear hsm
    go_wp2_with (refine (wakes_c _).mono ?_)
    rintro _ w1 ⟨rfl, hb⟩
    have HB := Aside0.mk hb
    clear hb
    go_wp2_with (fail)
    go_ret
    exact ⟨rfl, HB.out⟩
  case false =>
    have HSM := Aside0.mk (hsm rfl)
    clear hsm
    go_wp2_with (refine (new_c _).mono ?_)
    rintro _ w1 ⟨p, rfl, h1, b1⟩
    have H1 := Aside0.mk h1
    have B1 := Aside0.mk b1
    clear h1 b1
    go_upto_block 0 with (fail)
    go_wp2_with (fail)
    go_loopg [6] n (fun gk v6 wr => ∃ (k : Nat) (L : Items), v6 = .int .i64 (k : Int) ∧ Aside0 (SAt wr w0.heap.size p L) ∧ Aside0 (Below w0.heap.size w0 wr) ∧ Aside0 (k + gk = n))
    case atStart => exact ⟨0, [], rfl, H1, B1, ⟨by omega⟩⟩
    case round =>
      clear H1 B1
      obtain ⟨k, L, rfl, HS, HB, HK⟩ := hrel
      by_cases hkn : k < n
      · obtain ⟨gn, rfl⟩ : ∃ gn, gk = gn + 1 := ⟨gk - 1, by have := HK.out; omega⟩
        obtain ⟨x, hx⟩ : ∃ x, l[k]? = some x := ⟨_, List.getElem?_eq_getElem (by rw [HLN.out]; exact hkn)⟩
        obtain ⟨ad, hA, _⟩ := HR.out.2.2 (by omega)
        subst hA
        obtain ⟨A1, c1, A2, c2, hL, e0, e1, e2, e3, e4⟩ := act_at HR.out hx
        have HSMX := Aside0.mk (HSM.out.a x (List.mem_of_getElem? hx))
        obtain ⟨m1, hm1⟩ : ∃ m, x.xs.length = m := ⟨_, rfl⟩
        obtain ⟨m2, hm2⟩ : ∃ m, x.ys.length = m := ⟨_, rfl⟩
        obtain ⟨xd, hxd⟩ : ∃ m, x.d = m := ⟨_, rfl⟩
        obtain ⟨xi, hxi⟩ : ∃ m, x.i = m := ⟨_, rfl⟩
        obtain ⟨xn, hxn⟩ : ∃ m, x.n = m := ⟨_, rfl⟩
        have hL2 := hL.below HB.out
        have hlx := hL2.x
        have hly := hL2.y
        have hle1 := hL2.le1
        have hle2 := hL2.le2
        rw [hm1] at e3 hlx hle1
        rw [hm2] at e4 hly hle2
        rw [hxd] at e0
        rw [hxi] at e1
        rw [hxn] at e2
        have D1 := Aside0.mk e1
        have D2 := Aside0.mk e2
        have D3 := Aside0.mk e3
        have D4 := Aside0.mk e4
        have d0 := pw_cell_below HB.out e0
        have d1 := pw_cell_below HB.out e1
        have d2 := pw_cell_below HB.out e2
        have d3 := pw_cell_below HB.out e3
        have d4 := pw_cell_below HB.out e4
        have HM1 := Aside0.mk hm1
        have HM2 := Aside0.mk hm2
        have HLX := Aside0.mk hlx
        have HLY := Aside0.mk hly
        have HLE1 := Aside0.mk hle1
        have HLE2 := Aside0.mk hle2
        have p0 : (0 : Int) ≤ (k : Int) := by omega
        have p1 : (k : Int) < (n : Int) := by omega
        have hw1 : IntKind.i64.wrap ((k : Int) + 1) = (k : Int) + 1 := IntWalk.i64_in _ (by omega)
        clear hx hL hL2 hlx hly hle1 hle2 hm1 hm2 hxd hxi hxn e0 e1 e2 e3 e4
        by_cases hd : xd = 0
        · subst hd
          go_upto_region 8 with (fail)
          refine wp_region_noPanic ?_
          refine wp_region_held_drew (S := (fun w' => w'.cell? ⟨(ad.add (k * 5)).block, (ad.add (k * 5)).off + 1, none⟩ = some (.int .i64 xi) ∧ w'.cell? ⟨(ad.add (k * 5)).block, (ad.add (k * 5)).off + 2, none⟩ = some (.int .i64 xn) ∧ w'.cell? ⟨(ad.add (k * 5)).block, (ad.add (k * 5)).off + 3, none⟩ = some (.slice A1 m1 c1) ∧ w'.cell? ⟨(ad.add (k * 5)).block, (ad.add (k * 5)).off + 4, none⟩ = some (.slice A2 m2 c2))) (by kernel_rfl) ?_ (fun hHeld => ?_)
          · exact ⟨d1, d2, d3, d4⟩
          refine wpAnyH_take (i := 0) (v := ?_) rfl (by kernel_rfl) (by kernel_rfl) (by kernel_rfl) (fun _ _ _ h => h) (Or.inl ⟨by rfl, ?_⟩) (by assumption) ?_
          rotate_left
          · intro w hSw
            go_simp
            try with_reducible rfl
          simp only [Act.put, List.getElem_toArray, List.getElem_cons_zero, List.getElem_cons_succ, List.setIfInBounds_toArray, List.set_cons_zero, List.set_cons_succ]
          refine wpAnyH_take (i := 1) (v := ?_) rfl (by kernel_rfl) (by kernel_rfl) (by kernel_rfl) (fun _ _ _ h => h) (Or.inl ⟨by rfl, ?_⟩) (by assumption) ?_
          rotate_left
          · intro w hSw
            go_simp
            try with_reducible rfl
          simp only [Act.put, List.getElem_toArray, List.getElem_cons_zero, List.getElem_cons_succ, List.setIfInBounds_toArray, List.set_cons_zero, List.set_cons_succ]
          refine wpAnyH_take (i := 2) (v := ?_) rfl (by kernel_rfl) (by kernel_rfl) (by kernel_rfl) (fun _ _ _ h => h) (Or.inl ⟨by rfl, ?_⟩) (by assumption) ?_
          rotate_left
          · intro w hSw
            go_simp
            try with_reducible rfl
          simp only [Act.put, List.getElem_toArray, List.getElem_cons_zero, List.getElem_cons_succ, List.setIfInBounds_toArray, List.set_cons_zero, List.set_cons_succ]
          refine wpAnyH_take (i := 3) (v := ?_) rfl (by kernel_rfl) (by kernel_rfl) (by kernel_rfl) (fun _ _ _ h => h) (Or.inl ⟨by rfl, ?_⟩) (by assumption) ?_
          rotate_left
          · intro w hSw
            go_simp
            try with_reducible rfl
          simp only [Act.put, List.getElem_toArray, List.getElem_cons_zero, List.getElem_cons_succ, List.setIfInBounds_toArray, List.set_cons_zero, List.set_cons_succ]
          refine wpAnyH_take (i := 4) (v := ?_) rfl (by kernel_rfl) (by kernel_rfl) (by kernel_rfl) (fun _ _ _ h => h) (Or.inl ⟨by rfl, ?_⟩) (by assumption) ?_
          rotate_left
          · intro w hSw
            go_simp
            try with_reducible rfl
          simp only [Act.put, List.getElem_toArray, List.getElem_cons_zero, List.getElem_cons_succ, List.setIfInBounds_toArray, List.set_cons_zero, List.set_cons_succ]
          refine wpAnyH_take (i := 5) (v := ?_) rfl (by kernel_rfl) (by kernel_rfl) (by kernel_rfl) (fun _ _ _ h => h) (Or.inl ⟨by rfl, ?_⟩) (by assumption) ?_
          rotate_left
          · intro w hSw
            go_simp
            try with_reducible rfl
          simp only [Act.put, List.getElem_toArray, List.getElem_cons_zero, List.getElem_cons_succ, List.setIfInBounds_toArray, List.set_cons_zero, List.set_cons_succ]
          refine wpAnyH_take (i := 6) (v := ?_) rfl (by kernel_rfl) (by kernel_rfl) (by kernel_rfl) (fun _ _ _ h => h) (Or.inl ⟨by rfl, ?_⟩) (by assumption) ?_
          rotate_left
          · intro w hSw
            go_simp
            try with_reducible rfl
          simp only [Act.put, List.getElem_toArray, List.getElem_cons_zero, List.getElem_cons_succ, List.setIfInBounds_toArray, List.set_cons_zero, List.set_cons_succ]
          refine wpAnyH_take (i := 7) (v := ?_) rfl (by kernel_rfl) (by kernel_rfl) (by kernel_rfl) (fun _ _ _ h => h) (Or.inl ⟨by rfl, ?_⟩) (by assumption) ?_
          rotate_left
          · intro w hSw
            go_simp
            try with_reducible rfl
          simp only [Act.put, List.getElem_toArray, List.getElem_cons_zero, List.getElem_cons_succ, List.setIfInBounds_toArray, List.set_cons_zero, List.set_cons_succ]
          refine wpAnyH_take (i := 8) (v := ?_) rfl (by kernel_rfl) (by kernel_rfl) (by kernel_rfl) (fun _ _ _ h => h) (Or.inl ⟨by rfl, ?_⟩) (by assumption) ?_
          rotate_left
          · intro w hSw
            go_simp
            try with_reducible rfl
          simp only [Act.put, List.getElem_toArray, List.getElem_cons_zero, List.getElem_cons_succ, List.setIfInBounds_toArray, List.set_cons_zero, List.set_cons_succ]
          refine wpAnyH_take (i := 9) (v := ?_) rfl (by kernel_rfl) (by kernel_rfl) (by kernel_rfl) (fun _ _ _ h => h) (Or.inl ⟨by rfl, ?_⟩) (by assumption) ?_
          rotate_left
          · intro w hSw
            go_simp
            try with_reducible rfl
          simp only [Act.put, List.getElem_toArray, List.getElem_cons_zero, List.getElem_cons_succ, List.setIfInBounds_toArray, List.set_cons_zero, List.set_cons_succ]
          refine wpAnyH_take (i := 10) (v := ?_) rfl (by kernel_rfl) (by kernel_rfl) (by kernel_rfl) (fun _ _ _ h => h) (Or.inl ⟨by rfl, ?_⟩) (by assumption) ?_
          rotate_left
          · intro w hSw
            go_simp
            try with_reducible rfl
          simp only [Act.put, List.getElem_toArray, List.getElem_cons_zero, List.getElem_cons_succ, List.setIfInBounds_toArray, List.set_cons_zero, List.set_cons_succ]
          refine wpAnyH_take (i := 11) (v := ?_) rfl (by kernel_rfl) (by kernel_rfl) (by kernel_rfl) (fun _ _ _ h => h) (Or.inl ⟨by rfl, ?_⟩) (by assumption) ?_
          rotate_left
          · intro w hSw
            go_simp
            try with_reducible rfl
          simp only [Act.put, List.getElem_toArray, List.getElem_cons_zero, List.getElem_cons_succ, List.setIfInBounds_toArray, List.set_cons_zero, List.set_cons_succ]
          refine wpAnyH_take (i := 12) (v := ?_) rfl (by kernel_rfl) (by kernel_rfl) (by kernel_rfl) (fun _ _ _ h => h) (Or.inl ⟨by rfl, ?_⟩) (by assumption) ?_
          rotate_left
          · intro w hSw
            go_simp
            try with_reducible rfl
          simp only [Act.put, List.getElem_toArray, List.getElem_cons_zero, List.getElem_cons_succ, List.setIfInBounds_toArray, List.set_cons_zero, List.set_cons_succ]
          refine wpAnyH_take (i := 13) (v := ?_) rfl (by kernel_rfl) (by kernel_rfl) (by kernel_rfl) (fun _ _ _ h => h) (Or.inl ⟨by rfl, ?_⟩) (by assumption) ?_
          rotate_left
          · intro w hSw
            go_simp
            try with_reducible rfl
          simp only [Act.put, List.getElem_toArray, List.getElem_cons_zero, List.getElem_cons_succ, List.setIfInBounds_toArray, List.set_cons_zero, List.set_cons_succ]
          refine wpAnyH_take (i := 14) (v := ?_) rfl (by kernel_rfl) (by kernel_rfl) (by kernel_rfl) (fun _ _ _ h => h) (Or.inl ⟨by rfl, ?_⟩) (by assumption) ?_
          rotate_left
          · intro w hSw
            go_simp
            try with_reducible rfl
          simp only [Act.put, List.getElem_toArray, List.getElem_cons_zero, List.getElem_cons_succ, List.setIfInBounds_toArray, List.set_cons_zero, List.set_cons_succ]
          refine wpAnyH_take (i := 15) (v := ?_) rfl (by kernel_rfl) (by kernel_rfl) (by kernel_rfl) (fun _ _ _ h => h) (Or.inl ⟨by rfl, ?_⟩) (by assumption) ?_
          rotate_left
          · intro w hSw
            go_simp
            try with_reducible rfl
          simp only [Act.put, List.getElem_toArray, List.getElem_cons_zero, List.getElem_cons_succ, List.setIfInBounds_toArray, List.set_cons_zero, List.set_cons_succ]
          refine wpAnyH_take (i := 16) (v := ?_) rfl (by kernel_rfl) (by kernel_rfl) (by kernel_rfl) (fun _ _ _ h => h) (Or.inl ⟨by rfl, ?_⟩) (by assumption) ?_
          rotate_left
          · intro w hSw
            go_simp
            try with_reducible rfl
          simp only [Act.put, List.getElem_toArray, List.getElem_cons_zero, List.getElem_cons_succ, List.setIfInBounds_toArray, List.set_cons_zero, List.set_cons_succ]
          refine wpAnyH_take (i := 17) (v := ?_) rfl (by kernel_rfl) (by kernel_rfl) (by kernel_rfl) (fun _ _ _ h => h) (Or.inl ⟨by rfl, ?_⟩) (by assumption) ?_
          rotate_left
          · intro w hSw
            go_simp
            try with_reducible rfl
          simp only [Act.put, List.getElem_toArray, List.getElem_cons_zero, List.getElem_cons_succ, List.setIfInBounds_toArray, List.set_cons_zero, List.set_cons_succ]
          refine wpAnyH_take (i := 18) (v := ?_) rfl (by kernel_rfl) (by kernel_rfl) (by kernel_rfl) (fun _ _ _ h => h) (Or.inl ⟨by rfl, ?_⟩) (by assumption) ?_
          rotate_left
          · intro w hSw
            go_simp
            try with_reducible rfl
          simp only [Act.put, List.getElem_toArray, List.getElem_cons_zero, List.getElem_cons_succ, List.setIfInBounds_toArray, List.set_cons_zero, List.set_cons_succ]
          refine wpAnyH_take (i := 19) (v := ?_) rfl (by kernel_rfl) (by kernel_rfl) (by kernel_rfl) (fun _ _ _ h => h) (Or.inl ⟨by rfl, ?_⟩) (by assumption) ?_
          rotate_left
          · intro w hSw
            go_simp
            try with_reducible rfl
          simp only [Act.put, List.getElem_toArray, List.getElem_cons_zero, List.getElem_cons_succ, List.setIfInBounds_toArray, List.set_cons_zero, List.set_cons_succ]
          refine wpAnyH_take (i := 20) (v := ?_) rfl (by kernel_rfl) (by kernel_rfl) (by kernel_rfl) (fun _ _ _ h => h) (Or.inl ⟨by rfl, ?_⟩) (by assumption) ?_
          rotate_left
          · intro w hSw
            go_simp
            try with_reducible rfl
          simp only [Act.put, List.getElem_toArray, List.getElem_cons_zero, List.getElem_cons_succ, List.setIfInBounds_toArray, List.set_cons_zero, List.set_cons_succ]
          refine wpAnyH_ready (rs := [21]) (by kernel_rfl) (by simp) ?_
          refine AllReadyH.cons rfl (fun K hK => ?_) AllReadyH.nil
          go_simp
          refine (splice_c p L xi xn m1 m2 x.xs x.ys A1 c1 A2 c2 wr.drew w0.heap.size (HS.out.below (below_drew (Below.refl _ wr))) HM1.out HM2.out HLE1.out HLE2.out (by have := HSMX.out.1; have := HM1.out; omega) (Kd.C_below HLX.out (below_drew (Below.refl _ wr))) (Kd.C_below HLY.out (below_drew (Below.refl _ wr)))).mono ?_
          rintro _ w5 ⟨er, L', rfl, -, hs5, hb5⟩
          have hb6 : Below w0.heap.size w0 w5 := (below_drew HB.out).trans hb5
          refine hK.out _ _ ⟨pw_cell_below hb6 D1.out, pw_cell_below hb6 D2.out, pw_cell_below hb6 D3.out, pw_cell_below hb6 D4.out⟩ (fun hHeld2 => ?_)
          clear hK K hHeld
          have hHeld := hHeld2
          clear hHeld2
          try simp only [Act.put, List.getElem_toArray, List.getElem_cons_zero, List.getElem_cons_succ, List.setIfInBounds_toArray, List.set_cons_zero, List.set_cons_succ]
          refine wpAnyH_done (by kernel_rfl) ?_ _
          refine NoPanic.normal ?_
          have HS5 := Aside0.mk hs5
          have HB5 := Aside0.mk hb6
          clear hs5 hb5 hb6 hHeld d0 d1 d2 d3 d4
          go_wp2_with (fail)
          go_roundg gn
          case measure => exact Nat.lt_succ_self _
          case rel => exact ⟨k + 1, L', by simp, HS5, HB5, ⟨by have := HK.out; omega⟩⟩
        · have hd2 : (xd == 0) = false := beq_eq_false_iff_ne.mpr hd
          clear d1 d2 d3 d4
          go_wp2_with (fail)
          go_roundg gn
          case measure => exact Nat.lt_succ_self _
          case rel => exact ⟨k + 1, L, by simp, HS, HB, ⟨by have := HK.out; omega⟩⟩
      · have hkm : n ≤ k := by omega
        have hfit := HS.out.fit
        have HFIT := Aside0.mk hfit
        have hl8 := hfit.n
        have hs8 := hfit.s
        have b1 : decide (k < n) = false := decide_eq_false hkn
        clear HK hfit HSM
        go_upto_block 2 with (fail)
        go_wp2_with (fail)
        go_loopg [7, 8] L.length (fun gk v7 v8 wr => ∃ (i : Nat) (T : Int), v7 = .int .i64 T ∧ v8 = .int .i64 (i : Int) ∧ Aside0 (SAt wr w0.heap.size p L) ∧ Aside0 (Below w0.heap.size w0 wr) ∧ Aside0 (i + gk = L.length) ∧ Aside0 (T = sumL (L.take i)))
        case atStart => exact ⟨0, 0, rfl, rfl, HS, HB, ⟨by omega⟩, ⟨by simp [sumL]⟩⟩
        case round =>
          clear HS HB
          obtain ⟨i, T, rfl, rfl, HS, HB, HK, HT⟩ := hrel
          obtain ⟨N, hN⟩ : ∃ N, L.length = N := ⟨_, rfl⟩
          have hlen := fun w' (h : SAt w' w0.heap.size p L) => len_c p L w' w0.heap.size h
          rw [hN] at hlen
          have HLEN := Aside0.mk hlen
          have HN := Aside0.mk hN
          rw [hN] at hl8
          clear hN hlen
          by_cases hin : i < N
          · obtain ⟨gn, rfl⟩ : ∃ gn, gk = gn + 1 := ⟨gk - 1, by have := HK.out; have := HN.out; omega⟩
            have p0 : (i : Int) < (N : Int) := by omega
            have hw1 : IntKind.i64.wrap ((i : Int) + 1) = (i : Int) + 1 := IntWalk.i64_in _ (by omega)
            have hT0 : 0 ≤ T := by rw [HT.out]; exact sumL_pos fun x hx => HFIT.out.p x (List.mem_of_mem_take hx)
            go_upto_region 13 with (refine (HLEN.out wr HS.out).mono ?_; rintro _ w9 ⟨rfl, h9⟩; rw [h9]; clear h9 w9)
            go_wp2_with (refine (sums_c p L (i : Int) wr w0.heap.size HS.out).mono ?_)
            rintro _ w2 ⟨⟨s, er, rfl, hsr⟩, hb2⟩
            obtain ⟨hs1, rfl⟩ := sum_take_len hsr rfl (by rw [HN.out]; omega)
            rw [← HT.out] at hs1
            subst hs1
            have HS2 := Aside0.mk (HS.out.below hb2)
            have HB2 := Aside0.mk (HB.out.trans (hb2.mono HB.out.size))
            clear hsr hb2 HS HB
            go_wp2_with (refine (at_c p L (i : Int) w2 w0.heap.size HS2.out).mono ?_)
            rintro _ w3 ⟨⟨it, z, er, rfl, har⟩, hb3⟩
            obtain ⟨hit, rfl⟩ := at_in har rfl (by rw [HN.out]; exact hin)
            have HIT := Aside0.mk hit
            have hz0 : 0 ≤ z := HFIT.out.p (it, z) (List.mem_of_getElem? hit)
            have HS3 := Aside0.mk (HS2.out.below hb3)
            have HB3 := Aside0.mk (HB2.out.trans (hb3.mono HB2.out.size))
            have hTz : s + z ≤ 4398046511104 := by
              have h := sumL_take_succ hit
              have h2 := sumL_take_le HFIT.out.p (i + 1)
              rw [← HT.out] at h
              simp only at h
              omega
            have HTZ : Aside0 (s + z = sumL (L.take (i + 1))) := ⟨by rw [sumL_take_succ hit, ← HT.out]⟩
            have hw2 : IntKind.i64.wrap (s + z) = s + z := IntWalk.i64_in _ (by omega)
            have hw3 : IntKind.i64.wrap (s + z - 1) = s + z - 1 := IntWalk.i64_in _ (by omega)
            have hw4 : IntKind.i64.wrap (z - 1) = z - 1 := IntWalk.i64_in _ (by omega)
            clear har hb3 hit HS2 HB2
            by_cases hz : 0 < z
            · go_wp2_with (refine (find_c p L s w3 w0.heap.size HS3.out).mono ?_)
              rintro _ w4 ⟨⟨a, o, er, rfl, hfr⟩, hb4⟩
              obtain ⟨rfl, rfl, rfl⟩ := find_place HFIT.out.p HIT.out (o := 0) (by omega) hz (by rw [← HT.out]; simpa using hfr)
              have HS4 := Aside0.mk (HS3.out.below hb4)
              have HB4 := Aside0.mk (HB3.out.trans (hb4.mono HB3.out.size))
              clear hfr hb4 HS3 HB3
              go_wp2_with (refine (find_c p L (s + z - 1) w4 w0.heap.size HS4.out).mono ?_)
              rintro _ w5 ⟨⟨a, o, er, rfl, hfr⟩, hb5⟩
              obtain ⟨rfl, rfl, rfl⟩ := find_place HFIT.out.p HIT.out (o := z - 1) (by omega) (by omega) (by rw [← HT.out]; rw [show s + (z - 1) = s + z - 1 from by omega]; exact hfr)
              have HS5 := Aside0.mk (HS4.out.below hb5)
              have HB5 := Aside0.mk (HB4.out.trans (hb5.mono HB4.out.size))
              clear hfr hb5 HS4 HB4
              go_wp2_with (fail)
              go_roundg gn
              case measure => exact Nat.lt_succ_self _
              case rel => exact ⟨i + 1, s + z, rfl, by simp, HS5, HB5, ⟨by have := HK.out; omega⟩, HTZ⟩
            · have hz' : z = 0 := by omega
              subst hz'
              go_wp2_with (fail)
              go_roundg gn
              case measure => exact Nat.lt_succ_self _
              case rel => exact ⟨i + 1, s + 0, by simp, by simp, HS3, HB3, ⟨by have := HK.out; omega⟩, HTZ⟩
          · have hiN : N ≤ i := by omega
            have hT : T = sumL L := by
              have h := HT.out
              rw [List.take_of_length_le (by rw [HN.out]; exact hiN)] at h
              exact h
            have HTL := Aside0.mk hT
            have p0 : decide ((i : Int) < (N : Int)) = false := decide_eq_false (by omega)
            clear HT HK hT
            go_upto_region 23 with (refine (HLEN.out wr HS.out).mono ?_; rintro _ w9 ⟨rfl, h9⟩; rw [h9]; clear h9 w9)
            go_wp2_with (first
              | (refine (HLEN.out wr HS.out).mono ?_; rintro _ w9 ⟨rfl, h9⟩; rw [h9]; clear h9 w9)
              | (refine (sums_c p L (N : Int) wr w0.heap.size HS.out).mono ?_))
            rintro _ w2 ⟨⟨s, er, rfl, hsr⟩, hb2⟩
            obtain ⟨hs1, rfl⟩ := sum_take_len hsr rfl (by rw [HN.out]; omega)
            rw [List.take_of_length_le (by rw [HN.out]; omega), ← HTL.out] at hs1
            subst hs1
            have HS2 := Aside0.mk (HS.out.below hb2)
            have HB2 := Aside0.mk (HB.out.trans (hb2.mono HB.out.size))
            clear hsr hb2 HS HB
            go_wp2_with (refine (find_c p L off w2 w0.heap.size HS2.out).mono ?_)
            rintro _ w3 ⟨⟨a, o, er, rfl, hfr⟩, hb3⟩
            have HS3 := Aside0.mk (HS2.out.below hb3)
            have HB3 := Aside0.mk (HB2.out.trans (hb3.mono HB2.out.size))
            have hsz := size_c p L w3 w0.heap.size HS3.out
            rw [← HTL.out] at hsz
            have HSZ := Aside0.mk hsz
            clear hb3 HS2 HB2 hsz
            rcases hfr with ⟨f0, f1, rfl, pre, it, z, post, hl, ha, hf, o0, o1⟩ | ⟨hnf, rfl, rfl, rfl⟩
            · rw [← HTL.out] at f1
              have hpre : L.take pre.length = pre := by rw [hl]; simp
              have hpl : pre.length ≤ L.length := by rw [hl]; simp
              obtain ⟨P, hP⟩ : ∃ P, sumL pre = P := ⟨_, rfl⟩
              rw [hP] at hf
              subst hf
              have HP := Aside0.mk hP
              have HSUM := Aside0.mk (sums_c p L a w3 w0.heap.size HS3.out)
              have HA := Aside0.mk ha
              have HPRE := Aside0.mk hpre
              have HPL := Aside0.mk hpl
              have hw5 : IntKind.i64.wrap (P + o) = P + o := IntWalk.i64_in _ (by have := HTL.out; omega)
              clear hl ha hpre hpl hP
              go_upto_region 28 with (refine HSZ.out.mono ?_; rintro _ w9 ⟨rfl, h9⟩; rw [h9]; clear h9 w9)
              go_wp2_with (refine HSUM.out.mono ?_)
              rintro _ w4 ⟨⟨s', er, rfl, hsr⟩, hb4⟩
              obtain ⟨hs1, rfl⟩ := sum_take_len hsr HA.out HPL.out
              rw [HPRE.out, HP.out] at hs1
              subst hs1
              have HB4 := Aside0.mk (HB3.out.trans (hb4.mono HB3.out.size))
              clear hsr hb4 HSUM HA
              go_wp2_with (refine (wakes_c _).mono ?_)
              rintro _ w5 ⟨rfl, hb5⟩
              have HB5 := Aside0.mk (HB4.out.trans (hb5.mono HB4.out.size))
              clear hb5 HB4
              go_wp2_with (fail)
              go_ret
              exact ⟨rfl, HB5.out⟩
            · rw [← HTL.out] at hnf
              have hcs : off < 0 ∨ (0 ≤ off ∧ s ≤ off) := by omega
              clear hnf
              rcases hcs with hneg | ⟨hof0, hof1⟩
              · go_upto_region 31 with (refine HSZ.out.mono ?_; rintro _ w9 ⟨rfl, h9⟩; rw [h9]; clear h9 w9)
                go_wp2_with (refine (wakes_c _).mono ?_)
                first | (rintro _ w5 rfl hb5) | (rintro _ w5 ⟨rfl, hb5⟩)
                have HB5 := Aside0.mk (HB3.out.trans (hb5.mono HB3.out.size))
                clear hb5 HB3
                go_wp2_with (fail)
                go_ret
                exact ⟨rfl, HB5.out⟩
              · go_upto_region 31 with (refine HSZ.out.mono ?_; rintro _ w9 ⟨rfl, h9⟩; rw [h9]; clear h9 w9)
                go_wp2_with (refine (wakes_c _).mono ?_)
                first | (rintro _ w5 rfl hb5) | (rintro _ w5 ⟨rfl, hb5⟩)
                have HB5 := Aside0.mk (HB3.out.trans (hb5.mono HB3.out.size))
                clear hb5 HB3
                go_wp2_with (fail)
                go_ret
                exact ⟨rfl, HB5.out⟩
end Go.Proofs.Ytpchkligbfmeiaa.Se
