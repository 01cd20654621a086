/- Splice walked. -/
import Derived.Test.YtpchkligbfmeiaaSm
namespace Go.Proofs.Ytpchkligbfmeiaa.Se
open Go.RowKit Go.Proofs.YtpchkligbfmeiaaW.PrintWords Go.Proofs.YtpchkligbfmeiaaW.PrintLast Go.Proofs.YtpchkligbfmeiaaW.PrintMore
attribute [local go_sem] max2_int min2_int max_two min_two max_three min_three max_four min_four
set_option linter.unusedVariables false
set_option linter.unusedSimpArgs false

set_option maxRecDepth 100000 in
set_option maxHeartbeats 4000000 in
theorem splice_c (p : Nat) (l : Items) (i n : Int) (m m2 : Nat) (xs : List ByteArray) (ys : List Int) (A1 : Option Addr) (c1 : Nat) (A2 : Option Addr) (c2 : Nat) (w : World) (B : Nat) (h : SAt w B p l)
    (hx : xs.length = m) (hy : ys.length = m2) (h1 : m ≤ c1) (h2 : m2 ≤ c2) (hm : m ≤ 2000) (hX : Kd.string.C w A1 m xs) (hY : (Kd.int .i64).C w A2 m2 ys) :
    Calls Try.prog 10 #[.pointer (some ⟨p, 0, none⟩), .int .i64 i, .int .i64 n, .slice A1 m c1, .slice A2 m2 c2] w fun e w' => SplP B p l i n xs ys w w' e := by
  have H := Aside0.mk h
  have hfit := h.fit
  have h8 := hfit.n
  have HFIT := Aside0.mk hfit
  have hBw : B ≤ w.heap.size := by
    have := h.lt
    obtain ⟨_, _, _, _, _, _, h5⟩ := h.out
    omega
  have HBW := Aside0.mk hBw
  obtain ⟨t, v, g1, g2, g3, g4, g5⟩ := h.out
  obtain ⟨a, rfl⟩ := g2.ptr
  have HP := Aside0.mk g1
  have HBP := Aside0.mk g5
  have c0 : w.cell? ⟨p, 0, none⟩ = some (.pointer a) := cell_of_row _ _ _ _ _ _ g1
  have H2 := Aside0.mk g2
  have H3 := Aside0.mk g3
  obtain ⟨N, hN⟩ : ∃ N : Int, (l.length : Int) = N := ⟨_, rfl⟩
  have hN8 : 0 ≤ N ∧ N ≤ 8388608 := by omega
  have hlen := fun w' (h : SAt w' B p l) => len_c p l w' B h
  rw [hN] at hlen
  have HLEN := Aside0.mk hlen
  have HN := Aside0.mk hN
  have hfail : Aside0 (∀ er w', SplR l i n xs ys er l → SAt w' B p l → Below B w w' → KG p w w' → SplP B p l i n xs ys w w' (.returned (.int .i64 er))) := ⟨fun er w' h h1 h2 h3 => ⟨_, _, rfl, h, h1, h2, h3⟩⟩
  have HX := Aside0.mk hX
  have HY := Aside0.mk hY
  have HXL := Aside0.mk hx
  have HYL := Aside0.mk hy
  clear h g1 g2 g3 g4 g5 hlen hN hfit hX hY hx hy h8 hBw
  go_enter Try.func10, Try.ntmps10
  by_cases hi0 : i < 0
  · have HFI := Aside0.mk (hfail.out 5 w (.bad (.inl hi0)) H.out (Below.refl _ _) (KG.refl _ _))
    clear hfail
    go_wp2_with (fail)
    go_ret
    exact HFI.out
  by_cases hn0 : n < 0
  · have HFI := Aside0.mk (hfail.out 5 w (.bad (.inr (.inl hn0))) H.out (Below.refl _ _) (KG.refl _ _))
    clear hfail
    go_wp2_with (fail)
    go_ret
    exact HFI.out
  by_cases hiN : N < i
  · have HFI := Aside0.mk (hfail.out 5 w (.bad (.inr (.inr (.inl (by rw [HN.out]; exact hiN))))) H.out (Below.refl _ _) (KG.refl _ _))
    clear hfail
    go_wp2_with (refine (HLEN.out w H.out).mono ?_; rintro _ w9 ⟨rfl, h9⟩; rw [h9]; clear h9 w9)
    go_ret
    exact HFI.out
  have hw1 : IntKind.i64.wrap (N - i) = N - i := IntWalk.i64_in _ (by omega)
  by_cases hnN : N - i < n
  · have HFI := Aside0.mk (hfail.out 5 w (.bad (.inr (.inr (.inr (by rw [HN.out]; exact hnN))))) H.out (Below.refl _ _) (KG.refl _ _))
    clear hfail
    go_wp2_with (refine (HLEN.out w H.out).mono ?_; rintro _ w9 ⟨rfl, h9⟩; rw [h9]; clear h9 w9)
    go_ret
    exact HFI.out
  have hi0' : 0 ≤ i := by omega
  have hn0' : 0 ≤ n := by omega
  have HIN : Aside0 (i + n ≤ (l.length : Int)) := ⟨by rw [HN.out]; omega⟩
  by_cases hne : m = m2
  case neg =>
    have HFI := Aside0.mk (hfail.out 1 w (.len hi0' hn0' HIN.out (by rw [HXL.out, HYL.out]; exact hne)) H.out (Below.refl _ _) (KG.refl _ _))
    have hne2 : ((m : Int) == (m2 : Int)) = false := beq_eq_false_iff_ne.mpr (by omega)
    clear hfail
    go_wp2_with (refine (HLEN.out w H.out).mono ?_; rintro _ w9 ⟨rfl, h9⟩; rw [h9]; clear h9 w9)
    go_ret
    exact HFI.out
  subst hne
  have HXY : Aside0 (xs.length = ys.length) := ⟨by rw [HXL.out, HYL.out]⟩
  go_upto_block 1 with (refine (HLEN.out w H.out).mono ?_; rintro _ w9 ⟨rfl, h9⟩; rw [h9]; clear h9 w9)
  go_wp2_with (fail)
  go_loopg [11, 50] m (fun gk v11 v50 wr => ∃ (k : Nat) (T : Int), v11 = .int .i64 T ∧ v50 = .int .i64 (k : Int) ∧ wr = w ∧ Aside0 (k + gk = m) ∧ Aside0 (T = capS (sumI (ys.take k))) ∧ Aside0 (∀ y ∈ ys.take k, OkS y))
  case atStart => exact ⟨0, 0, rfl, rfl, rfl, ⟨by omega⟩, ⟨rfl⟩, ⟨by simp⟩⟩
  case round =>
    obtain ⟨k, T, rfl, rfl, rfl, HK, HT, HO⟩ := hrel
    by_cases hkm : k < m
    · obtain ⟨gn, rfl⟩ : ∃ gn, gk = gn + 1 := ⟨gk - 1, by have := HK.out; omega⟩
      obtain ⟨y, hyk⟩ : ∃ y, ys[k]? = some y := ⟨_, List.getElem?_eq_getElem (by rw [HYL.out]; exact hkm)⟩
      obtain ⟨ad, rfl, hcy⟩ := int_at HY.out hyk
      have HYK := Aside0.mk hyk
      have hT0 : 0 ≤ T ∧ T ≤ 1099511627777 := by rw [HT.out]; exact capS_bd (sumI_pos fun z hz => (HO.out z hz).1)
      have p0 : (0 : Int) ≤ (k : Int) := by omega
      have p1 : (k : Int) < (m : Int) := by omega
      have hw2 : IntKind.i64.wrap ((k : Int) + 1) = (k : Int) + 1 := IntWalk.i64_in _ (by omega)
      clear hyk
      by_cases hy0 : y < 0
      · have HFI := Aside0.mk (hfail.out 1 wr (.size hi0' hn0' HIN.out HXY.out ⟨y, List.mem_of_getElem? HYK.out, fun h => by have := h.1; omega⟩) H.out (Below.refl _ _) (KG.refl _ _))
        clear hfail HT HO HK
        go_wp2_with (fail)
        go_ret
        exact HFI.out
      by_cases hy1 : 1099511627776 < y
      · have HFI := Aside0.mk (hfail.out 1 wr (.size hi0' hn0' HIN.out HXY.out ⟨y, List.mem_of_getElem? HYK.out, fun h => by have := h.2; omega⟩) H.out (Below.refl _ _) (KG.refl _ _))
        clear hfail HT HO HK
        go_wp2_with (fail)
        go_ret
        exact HFI.out
      have hw3 : IntKind.i64.wrap (T + y) = T + y := IntWalk.i64_in _ (by omega)
      have hcs : (if (1099511627777 : Int) < T + y then 1099511627777 else T + y) = capS (sumI (ys.take (k + 1))) := by
        rw [take_snoc HYK.out, sumI_append, HT.out]
        simp only [sumI, Int.add_zero]
        exact capS_step (sumI_pos fun z hz => (HO.out z hz).1) (by omega)
      by_cases hcap : (1099511627777 : Int) < T + y
      · rw [if_pos hcap] at hcs
        have HCS := Aside0.mk hcs
        clear hcs
        go_wp2_with (fail)
        go_roundg gn
        case measure => exact Nat.lt_succ_self _
        case rel =>
          refine ⟨k + 1, _, rfl, by simp, rfl, ⟨by have := HK.out; omega⟩, ⟨HCS.out⟩, ⟨?_⟩⟩
          intro z hz
          rw [take_snoc HYK.out] at hz
          rcases List.mem_append.1 hz with h | h
          · exact HO.out z h
          · simp at h
            subst h
            exact ⟨by omega, by omega⟩
      · rw [if_neg hcap] at hcs
        have HCS := Aside0.mk hcs
        clear hcs
        go_wp2_with (fail)
        go_roundg gn
        case measure => exact Nat.lt_succ_self _
        case rel =>
          refine ⟨k + 1, _, rfl, by simp, rfl, ⟨by have := HK.out; omega⟩, ⟨HCS.out⟩, ⟨?_⟩⟩
          intro z hz
          rw [take_snoc HYK.out] at hz
          rcases List.mem_append.1 hz with h | h
          · exact HO.out z h
          · simp at h
            subst h
            exact ⟨by omega, by omega⟩
    · have hkm' : k = m := by have := HK.out; omega
      have b1 : decide ((k : Int) < (m : Int)) = false := decide_eq_false (by omega)
      have hall : ∀ y ∈ ys, OkS y := by
        have h := HO.out
        rw [List.take_of_length_le (by rw [HYL.out]; omega)] at h
        exact h
      have hT : T = capS (sumI ys) := by
        have h := HT.out
        rw [List.take_of_length_le (by rw [HYL.out]; omega)] at h
        exact h
      have HALL := Aside0.mk hall
      have hT0 : 0 ≤ T ∧ T ≤ 1099511627777 := by rw [hT]; exact capS_bd (sumI_pos fun z hz => (hall z hz).1)
      have HT' := Aside0.mk hT
      have hkm2 : m ≤ k := by omega
      clear hall hT HK HT HO hkm'
      have hsp := split_c t (.pointer a) i wr H2.out hi0' (by omega) (by rw [H3.out]; exact HFIT.out)
      rw [H3.out] at hsp
      have HSP := Aside0.mk hsp
      clear hsp
      go_wp2_with (refine HSP.out.mono ?_)
      rintro _ w1 ⟨t1, t2, v1, v2, rfl, g1, g2, e1, e2, b1⟩
      obtain ⟨a1, rfl⟩ := g1.ptr
      obtain ⟨a2, rfl⟩ := g2.ptr
      have hf2 : FitL (l.drop i.toNat) := FitL.part (a := l.take i.toNat) (c := []) (by rw [List.append_nil, List.take_append_drop]; exact HFIT.out)
      have hsp := split_c t2 (.pointer a2) n w1 g2 hn0' (by omega) (by rw [e2]; exact hf2)
      rw [e2] at hsp
      have HSP2 := Aside0.mk hsp
      have G1 := Aside0.mk g1
      have E1 := Aside0.mk e1
      have B1 := Aside0.mk b1
      clear hsp g1 g2 e1 e2 b1 hf2 HSP
      go_wp2_with (refine HSP2.out.mono ?_)
      rintro _ w2 ⟨t3, t4, v3, v4, rfl, g3, g4, e3, e4, b2⟩
      obtain ⟨a3, rfl⟩ := g3.ptr
      obtain ⟨a4, rfl⟩ := g4.ptr
      have B2 : Aside0 (Below wr.heap.size wr w2) := ⟨B1.out.trans (b2.mono B1.out.size)⟩
      have HH : Aside0 (SAt w2 B p l) := ⟨H.out.below B2.out⟩
      have G1' : Aside0 (At w2 t1 (.pointer a1)) := ⟨G1.out.below b2⟩
      have G4 := Aside0.mk g4
      have E4 := Aside0.mk e4
      obtain ⟨s1, hs1⟩ : ∃ s, sumT t1 = s := ⟨_, rfl⟩
      obtain ⟨s4, hs4⟩ : ∃ s, sumT t4 = s := ⟨_, rfl⟩
      have hc1 := sum_c t1 (.pointer a1) w2 G1'.out
      have hc4 := sum_c t4 (.pointer a4) w2 G4.out
      rw [hs1] at hc1
      rw [hs4] at hc4
      have C1 := Aside0.mk hc1
      have C4 := Aside0.mk hc4
      have hs1' : s1 = sumL (l.take i.toNat) := by rw [← hs1, sumT_toL, E1.out]
      have hs4' : s4 = sumL ((l.drop i.toNat).drop n.toNat) := by rw [← hs4, sumT_toL, E4.out]
      have hs1b : 0 ≤ s1 ∧ 0 ≤ s4 ∧ s1 + s4 ≤ 4398046511104 := by
        have h := FitL.bd (a := l.take i.toNat) (b := (l.drop i.toNat).take n.toNat) (c := (l.drop i.toNat).drop n.toNat) (by rw [List.take_append_drop, List.take_append_drop]; exact HFIT.out)
        have h' : sumL l = sumL (l.take i.toNat) + (sumL ((l.drop i.toNat).take n.toNat) + sumL ((l.drop i.toNat).drop n.toNat)) := by
          rw [← sumL_append, ← sumL_append, List.take_append_drop, List.take_append_drop]
        have h4 : 0 ≤ sumL ((l.drop i.toNat).drop n.toNat) := sumL_pos fun x hx => HFIT.out.p x (List.mem_of_mem_drop (List.mem_of_mem_drop hx))
        have := HFIT.out.s
        omega
      have HSUM : Aside0 (sumL (l.take i.toNat ++ (xs.zip ys ++ (l.drop i.toNat).drop n.toNat)) = s1 + sumI ys + s4) := ⟨by rw [sumL_append, sumL_append, sumL_zip xs ys HXY.out, ← hs1', ← hs4']; omega⟩
      have hw5 : IntKind.i64.wrap (N - n) = N - n := IntWalk.i64_in _ (by omega)
      have hw6 : IntKind.i64.wrap (N - n + (m : Int)) = N - n + (m : Int) := IntWalk.i64_in _ (by omega)
      have hw7 : IntKind.i64.wrap (s1 + s4) = s1 + s4 := IntWalk.i64_in _ (by omega)
      have hw8 : IntKind.i64.wrap (1099511627776 - T) = 1099511627776 - T := IntWalk.i64_in _ (by omega)
      have b0 : decide ((2097152 : Int) < (m : Int)) = false := decide_eq_false (by omega)
      have HS1 := Aside0.mk hs1'
      have HS4 := Aside0.mk hs4'
      clear g3 g4 e3 e4 b2 hc1 hc4 hs1 hs4 hs1' hs4' HSP2 G1
      by_cases hbig : 2097152 < N - n + (m : Int)
      · have HFI := Aside0.mk (hfail.out 2 w2 (.big hi0' hn0' HIN.out HXY.out HALL.out (.inl (by rw [HN.out, HXL.out]; exact hbig))) HH.out (B2.out.mono HBW.out) (KG.of_below B2.out))
        clear hfail
        go_wp2_with (refine (HLEN.out w2 HH.out).mono ?_; rintro _ w9 ⟨rfl, h9⟩; rw [h9]; clear h9 w9)
        go_ret
        exact HFI.out
      by_cases hbs : 1099511627776 - T < s1 + s4
      · have HFI := Aside0.mk (hfail.out 2 w2 (.big hi0' hn0' HIN.out HXY.out HALL.out (.inr (by
            rw [HSUM.out]
            have := HT'.out
            unfold capS at this
            split at this <;> omega))) HH.out (B2.out.mono HBW.out) (KG.of_below B2.out))
        clear hfail
        go_wp2_with (first
          | (refine (HLEN.out w2 HH.out).mono ?_; rintro _ w9 ⟨rfl, h9⟩; rw [h9]; clear h9 w9)
          | (refine C1.out.mono ?_; rintro _ w9 ⟨rfl, h9⟩; rw [h9]; clear h9 w9)
          | (refine C4.out.mono ?_; rintro _ w9 ⟨rfl, h9⟩; rw [h9]; clear h9 w9))
        go_ret
        exact HFI.out
      have hle : sumL (l.take i.toNat ++ (xs.zip ys ++ (l.drop i.toNat).drop n.toNat)) ≤ 1099511627776 := by
        rw [HSUM.out]
        have := HT'.out
        unfold capS at this
        split at this <;> omega
      have hfn : FitL (l.take i.toNat ++ (xs.zip ys ++ (l.drop i.toNat).drop n.toNat)) := by
        refine ⟨fun x hx => ?_, by omega, ?_⟩
        · rcases List.mem_append.1 hx with h | h
          · exact HFIT.out.p x (List.mem_of_mem_take h)
          · rcases List.mem_append.1 h with h | h
            · exact (HALL.out x.2 (List.of_mem_zip h).2).1
            · exact HFIT.out.p x (List.mem_of_mem_drop (List.mem_of_mem_drop h))
        · have := HXL.out
          have := HYL.out
          have := HN.out
          simp only [List.length_append, List.length_take, List.length_zip, List.length_drop]
          omega
      have HFN := Aside0.mk hfn
      have HOK : Aside0 (SplR l i n xs ys 0 (l.take i.toNat ++ (xs.zip ys ++ (l.drop i.toNat).drop n.toNat))) := ⟨.ok hi0' hn0' HIN.out HXY.out HALL.out (by rw [HN.out, HXL.out]; omega) hle⟩
      have hmade := made_c m xs ys A1 c1 A2 c2 w2 HXL.out HYL.out h1 h2 (Kd.C_below HX.out B2.out) (Kd.C_below HY.out B2.out) (FitL.part (a := l.take i.toNat) (c := (l.drop i.toNat).drop n.toNat) hfn)
      have HMADE := Aside0.mk hmade
      clear hfail hle hfn hmade
      go_upto_region 19 with (first
          | (refine (HLEN.out w2 HH.out).mono ?_; rintro _ w9 ⟨rfl, h9⟩; rw [h9]; clear h9 w9)
          | (refine C1.out.mono ?_; rintro _ w9 ⟨rfl, h9⟩; rw [h9]; clear h9 w9)
          | (refine C4.out.mono ?_; rintro _ w9 ⟨rfl, h9⟩; rw [h9]; clear h9 w9))
      go_wp2_with (refine HMADE.out.mono ?_)
      rintro _ w3 ⟨t5, v5, rfl, g5, e5, b5⟩
      obtain ⟨a5, rfl⟩ := g5.ptr
      have hb1 := both_c t1 t5 (.pointer a1) (.pointer a5) w3 (G1'.out.below b5) g5 (by rw [E1.out, e5]; exact FitL.part (a := []) (c := (l.drop i.toNat).drop n.toNat) (by simpa using HFN.out))
      have HB1 := Aside0.mk hb1
      have G4' : Aside0 (At w3 t4 (.pointer a4)) := ⟨G4.out.below b5⟩
      have B3 : Aside0 (Below wr.heap.size wr w3) := ⟨B2.out.trans (b5.mono B2.out.size)⟩
      have E5 := Aside0.mk e5
      clear hb1 g5 e5 b5 HMADE C1 C4 HH
      go_wp2_with (refine HB1.out.mono ?_)
      rintro _ w4 ⟨t6, v6, rfl, g6, e6, b6⟩
      obtain ⟨a6, rfl⟩ := g6.ptr
      rw [E1.out, E5.out] at e6
      have hb2 := both_c t6 t4 (.pointer a6) (.pointer a4) w4 g6 (G4'.out.below b6) (by rw [e6, E4.out]; simpa using HFN.out)
      have HB2 := Aside0.mk hb2
      have B4 : Aside0 (Below wr.heap.size wr w4) := ⟨B3.out.trans (b6.mono B3.out.size)⟩
      have E6 := Aside0.mk e6
      clear hb2 g6 e6 b6 HB1
      go_wp2_with (refine HB2.out.mono ?_)
      rintro _ w5 ⟨t7, v7, rfl, g7, e7, b7⟩
      obtain ⟨a7, rfl⟩ := g7.ptr
      rw [E6.out, E4.out] at e7
      have B5 : Aside0 (Below wr.heap.size wr w5) := ⟨B4.out.trans (b7.mono B4.out.size)⟩
      have hp5 : w5.heap[p]? = some (.cells #[.pointer a] 48 (0, 0)) := (B5.out.block p (blk_lt HP.out)).trans HP.out
      have c5 : w5.cell? ⟨p, 0, none⟩ = some (.pointer a) := cell_of_row _ _ _ _ _ _ hp5
      have f5 : w5.frozen? ⟨p, 0, none⟩ = false := blk_frozen hp5 0
      have hst := SAt.store (B := B) hp5 HBP.out g7 (by rw [e7]; simpa using HFN.out)
      rw [e7] at hst
      have HST := Aside0.mk hst
      have HBF : Aside0 (Below B wr (w5.setCell ⟨p, 0, none⟩ (.pointer a7))) := ⟨(B5.out.mono HBW.out).setCell (p := ⟨p, 0, none⟩) HBP.out _⟩
      have HKF : Aside0 (KG p wr (w5.setCell ⟨p, 0, none⟩ (.pointer a7))) := ⟨(KG.of_below B5.out).trans (KG.store _ hp5)⟩
      have hfin : Aside0 (SplP B p l i n xs ys wr (w5.setCell ⟨p, 0, none⟩ (.pointer a7)) (.returned (.int .i64 0))) := ⟨⟨_, _, rfl, HOK.out, by simpa using HST.out, HBF.out, HKF.out⟩⟩
      clear hst g7 e7 b7 hp5 HB2 HST HBF
      go_wp2_with (fail)
      go_ret
      exact hfin.out
end Go.Proofs.Ytpchkligbfmeiaa.Se
