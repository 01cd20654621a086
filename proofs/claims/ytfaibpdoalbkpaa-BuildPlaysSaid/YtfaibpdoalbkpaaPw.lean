/- BuildPieces walked. -/
import Derived.Test.YtfaibpdoalbkpaaPp
namespace Go.Proofs.Ytfaibpdoalbkpaa.Bu
open Go.RowKit Go.Proofs.YtfaibpdoalbkpaaW.PrintWords Go.Proofs.YtfaibpdoalbkpaaW.PrintLast Go.Proofs.YtfaibpdoalbkpaaW.PrintMore
attribute [local go_sem] max2_int min2_int max_two min_two max_three min_three max_four min_four
set_option linter.unusedVariables false
set_option linter.unusedSimpArgs false
theorem newO (k : Int) : (newB k).O.length = 1 := rfl
theorem newF (k : Int) : (newB k).far = 0 := rfl
theorem wfn (k : Int) : WF (newB k) 1 := ⟨by simp [newB], by simp [newB], by simp [newB], by simp [newB]⟩
theorem srtn (k : Int) : Srt (newB k) := ⟨by simp [newB], by simp [newB]⟩
/-- A row of events of the call's own is read, whatever else is turned. -/
theorem evs_own {w w' : World} {s : Nat} {A : Option Addr} {n c : Nat} {l : List Ev} {fp : Nat → Prop} (h : kE.R 41 w 0 (fun k => s ≤ k) (.slice A n c) l) (hf : Fr fp w w') (hd : ∀ k, fp k → k < s) : ReadsRow REv 4 w' A n l := by
  have h2 := Kd.R_step h (w1 := w') (fun k hk hlt => hf.block k hlt (fun hh => by have := hd k hh; omega))
  obtain ⟨h3, _, h4⟩ := Kd.R_reads' h2
  rw [h3]
  exact h4

set_option maxRecDepth 100000 in
set_option maxHeartbeats 8000000 in
theorem pieces_c (A : Option Addr) (n c : Nat) (l : List Ev) (at_ cut by_ : Int) (w : World) (hR : ReadsRow REv 4 w A n l) (hnc : n ≤ c) : Calls Try.prog 5 #[.slice A n c, .int .i64 at_, .int .i64 cut, .int .i64 by_] w fun e w' => WkP w e w' := by
  have hln := hR.1
  have HR := Aside0.mk hR
  have HLN := Aside0.mk hln
  have HW := Aside0.mk (wakes_c w)
  clear hR hln
  by_cases hn3 : (3000 : Int) < (n : Int)
  · go_enter Try.func5, Try.ntmps5
    go_wp2_with (refine HW.out.mono ?_; rintro _ w1 ⟨rfl, hb⟩; have HB := Aside0.mk hb; clear hb)
    go_ret
    exact ⟨rfl, HB.out⟩
  by_cases ha0 : at_ < 0
  · go_enter Try.func5, Try.ntmps5
    go_wp2_with (refine HW.out.mono ?_; rintro _ w1 ⟨rfl, hb⟩; have HB := Aside0.mk hb; clear hb)
    go_ret
    exact ⟨rfl, HB.out⟩
  by_cases ha1 : (524288 : Int) < at_
  · go_enter Try.func5, Try.ntmps5
    go_wp2_with (refine HW.out.mono ?_; rintro _ w1 ⟨rfl, hb⟩; have HB := Aside0.mk hb; clear hb)
    go_ret
    exact ⟨rfl, HB.out⟩
  have hn8 : n ≤ 3000 := by omega
  go_enter Try.func5, Try.ntmps5
  go_wp2_with (refine (new_c 7 _).mono ?_)
  rintro _ w1 ⟨ba, psA, vNA, vOA, rfl, h1, b1⟩
  have HA1 := Aside0.mk h1.bound
  have B1 := Aside0.mk b1
  clear h1 b1
  go_wp2_with (first
    | (at_builtin; refine Kd.R_append_rows kE (Rr := REv) (w0 := w1) 0 rfl (.const (.slice none 0 0)) (.tmp 36) 29 41 (.agg #[.int .u8 0, .int .u8 0, .int .i64 0, .int .i64 0]) 24 rfl Try.underlying29 info41 rfl (by decide) (by decide) (.slice none 0 0) [] l A n c (fun k => w1.heap.size ≤ k) (fun _ => False) rfl rfl (Kd.R_nil _ _ _ _ _) (evs_below HR.out B1.out) (fun _ _ h => h) (fun _ h => h.elim) (fun _ h => h) (Below.refl _ _) (Nat.zero_le _) (by simp; omega) ?_; intro v2 w2 hR2 _ hg2 hat2; rw [List.nil_append] at hR2; obtain ⟨A2, c2, hv2, hc2, _⟩ := Kd.R_reads hR2; rw [HLN.out] at hv2; subst hv2; have hb12 : Below w1.heap.size w1 w2 := ⟨hg2.os, hg2.tape, hg2.output, hg2.size, fun k hk => hg2.block k hk (by simp [Value.ownBlock])⟩; have HR2 := Aside0.mk hR2; have HB12 := Aside0.mk hb12; clear hR2 hg2 hat2 hb12)
    | (refine (put_c ba psA (newB 7) vNA vOA A2 n c2 l at_ w2 _ (HA1.out.below HB12.out) (fun w' hf => evs_own HR2.out hf (fun k hk => hk.2)) 1 (wfn 7) (by omega)).mono ?_))
  rintro _ w3 ⟨rfl, ⟨psA3, vNA3, vOA3, h3⟩, f3⟩
  have B2 : Aside0 (Below w.heap.size w w2) := ⟨B1.out.trans (HB12.out.mono B1.out.size)⟩
  have B3 : Aside0 (Below w.heap.size w w3) := ⟨B2.out.trans (f3.below B2.out.size (fun j hj => hj.1))⟩
  have H3 := Aside0.mk (h3.mono (fp' := fun j => w.heap.size ≤ j) (fun j hj => hj.elim (fun h => h.1) (fun h => Nat.le_trans B2.out.size h)))
  clear h3 f3
  obtain ⟨r, hr⟩ : ∃ r, putE (newB 7) at_ l = r := ⟨_, rfl⟩
  rw [hr] at H3 ⊢
  by_cases hr0 : r = 0
  case neg =>
    have br : (r == 0) = false := beq_eq_false_iff_ne.mpr hr0
    rw [if_neg hr0] at H3
    have hO := open_c ba psA3 (newB 7) vNA3 vOA3 w3 _ H3.out (by decide)
    have hF := far_c ba psA3 (newB 7) vNA3 vOA3 w3 _ H3.out
    have ho1 : (((newB 7).O.length : Int) - 1) = 0 := rfl
    have hf1 : (newB 7).far = 0 := rfl
    rw [ho1] at hO
    rw [hf1] at hF
    have HO := Aside0.mk hO
    have HF := Aside0.mk hF
    clear hO hF ho1 hf1 hr
    go_wp2_with (first
      | (refine HO.out.mono ?_; rintro _ w9 ⟨rfl, h9⟩; rw [h9]; clear h9 w9)
      | (refine HF.out.mono ?_; rintro _ w9 ⟨rfl, h9⟩; rw [h9]; clear h9 w9)
      | (refine (wakes_c _).mono ?_; rintro _ w4 ⟨rfl, h4⟩; have HB4 : Aside0 (Below w.heap.size w w4) := ⟨B3.out.trans (h4.mono B3.out.size)⟩; clear h4))
    go_ret
    exact ⟨rfl, HB4.out⟩
  subst hr0
  rw [if_pos rfl] at H3
  have HPE := Aside0.mk hr
  have hw1 : IntKind.i64.wrap ((n : Int) + 1) = (n : Int) + 1 := IntWalk.i64_in _ (by omega)
  have hw2 : IntKind.i64.wrap (at_ + 1) = at_ + 1 := IntWalk.i64_in _ (by omega)
  clear hr
  go_wp2_with (refine (place_c cut ((n : Int) + 1) w3 (by omega)).mono ?_)
  rintro _ w9 ⟨⟨k, rfl, hk⟩, h9⟩
  rw [h9]
  clear h9 w9
  go_wp2_with (refine (place_c by_ (at_ + 1) w3 (by omega)).mono ?_)
  rintro _ w9 ⟨⟨d, rfl, hd⟩, h9⟩
  rw [h9]
  clear h9 w9
  have hkn : k ≤ n := by omega
  have hda : (d : Int) ≤ at_ := by omega
  obtain ⟨P1, P2, P3, P4⟩ := pieces (k := k) (d := (d : Int)) (l := l) (m := newB 7) (n := 1) (at_ := at_) (by omega) (by omega) (wfn 7) HPE.out
  have HP1 := Aside0.mk P1
  have HP2 := Aside0.mk P2
  have HP3 := Aside0.mk P3
  have HP4 := Aside0.mk P4
  have HWFA : Aside0 (WF (putB at_ (newB 7) l) (1 + l.length)) := ⟨by
    have h := HPE.out
    rw [putE_in (by omega)] at h
    exact (sound_rest (l1 := l) (l2 := []) (by omega) (wfn 7) (by rw [List.append_nil]; exact h)).1⟩
  clear P1 P2 P3 P4
  go_wp2_with (refine (new_c 7 _).mono ?_)
  rintro _ w4 ⟨bb, psB, vNB, vOB, rfl, h4, b4⟩
  have HB4 := Aside0.mk h4.bound
  have HA4 := Aside0.mk (H3.out.bound.below b4)
  have B4 : Aside0 (Below w.heap.size w w4) := ⟨B3.out.trans (b4.mono B3.out.size)⟩
  have S34 : Aside0 (w3.heap.size ≤ w4.heap.size) := ⟨b4.size⟩
  clear h4 b4 H3
  obtain ⟨i41, hi41, hz41⟩ := Option.map_eq_some_iff.1 (show (Try.prog.info? 41).map (·.size) = some 4 by kernel_rfl)
  have hcut := cut_to (P := Try.prog) 29 41 .i64 Try.underlying29 hi41 A n c (k : Int) (by omega) (by omega) hnc
  rw [Int.toNat_natCast] at hcut
  have hltk : (l.take k).length = k := by rw [List.length_take, HLN.out]; omega
  have HRT : Aside0 (ReadsRow REv 4 w4 A k (l.take k)) := ⟨by
    have h := Kd.C_take (k := kE) (m := k) (xs := l) (A := A) (w := w4) (by rw [HLN.out]; exact evs_below HR.out B4.out) (by rw [HLN.out]; exact hkn)
    rw [hltk] at h
    exact h⟩
  have HLTK := Aside0.mk hltk
  clear hi41 hz41 hltk
  go_wp2_with (first
    | (at_builtin; refine Kd.R_append_rows kE (Rr := REv) (w0 := w4) 0 rfl (.const (.slice none 0 0)) (.tmp 66) 29 41 (.agg #[.int .u8 0, .int .u8 0, .int .i64 0, .int .i64 0]) 24 rfl Try.underlying29 info41 rfl (by decide) (by decide) (.slice none 0 0) [] (l.take k) A k c (fun k => w4.heap.size ≤ k) (fun _ => False) rfl rfl (Kd.R_nil _ _ _ _ _) HRT.out (fun _ _ h => h) (fun _ h => h.elim) (fun _ h => h) (Below.refl _ _) (Nat.zero_le _) (by simp; omega) ?_; intro v5 w5 hR5 _ hg5 hat5; rw [List.nil_append] at hR5; obtain ⟨A5, c5, hv5, hc5, _⟩ := Kd.R_reads hR5; rw [HLTK.out] at hv5; subst hv5; have hb45 : Below w4.heap.size w4 w5 := ⟨hg5.os, hg5.tape, hg5.output, hg5.size, fun k hk => hg5.block k hk (by simp [Value.ownBlock])⟩; have HR5 := Aside0.mk hR5; have HB45 := Aside0.mk hb45; clear hR5 hg5 hat5 hb45)
    | (refine (put_c bb psB (newB 7) vNB vOB A5 k c5 (l.take k) at_ w5 _ (HB4.out.below HB45.out) (fun w' hf => evs_own HR5.out hf (fun k hk => hk.2)) 1 (wfn 7) (by omega)).mono ?_))
  rintro _ w6 ⟨rfl, ⟨psB6, vNB6, vOB6, h6⟩, f6⟩
  rw [if_pos HP1.out] at h6
  have hpe1 := HP1.out
  rw [hpe1]
  have B5 : Aside0 (Below w.heap.size w w5) := ⟨B4.out.trans (HB45.out.mono B4.out.size)⟩
  have B6 : Aside0 (Below w.heap.size w w6) := ⟨B5.out.trans (f6.below B5.out.size (fun j hj => Nat.le_trans B3.out.size hj.1))⟩
  have HA6 := Aside0.mk (((HA4.out.below HB45.out).fr f6 (fun j hj hj' => by have := hj.2; have := hj'.1; omega)).bound)
  have HB6 := Aside0.mk h6.bound
  clear h6 f6 HA4 HB4 hcut hpe1
  go_upto_block 0 with (fail)
  go_wp2_with (fail)
  go_loopg [14, 15] (n - k) (fun gk v14 v15 wr => ∃ (i q : Nat) (A' : Option Addr) (c' : Nat) (R : List Ev), v14 = .slice A' q c' ∧ v15 = .int .i64 (i : Int) ∧ Aside0 (i + gk = n) ∧ Aside0 (i = k + q) ∧ Aside0 (kE.R 41 wr 0 (fun j => w6.heap.size ≤ j) (.slice A' q c') R) ∧ Aside0 (Below w6.heap.size w6 wr) ∧ Aside0 (R = ((l.drop k).take q).map (shD (d : Int))) ∧ Aside0 (R.length = q))
  case atStart => exact ⟨k, 0, none, 0, [], rfl, rfl, ⟨by omega⟩, ⟨by omega⟩, ⟨Kd.R_nil _ _ _ _ _⟩, ⟨Below.refl _ _⟩, ⟨by simp⟩, ⟨rfl⟩⟩
  case round =>
    obtain ⟨i, q, A', c', R, rfl, rfl, HK, HIQ, HRR, HB, HRE, HRL⟩ := hrel
    by_cases hin : i < n
    · obtain ⟨gn, rfl⟩ : ∃ gn, gk = gn + 1 := ⟨gk - 1, by have := HK.out; omega⟩
      obtain ⟨x, hx⟩ : ∃ x, l[i]? = some x := ⟨_, List.getElem?_eq_getElem (by rw [HLN.out]; exact hin)⟩
      obtain ⟨ad, hA, _⟩ := HR.out.2.2 (by omega)
      subst hA
      obtain ⟨e0, e1, e2, e3⟩ := ev_at (evs_below HR.out (B6.out.trans (HB.out.mono B6.out.size))) hx
      have HNX : Aside0 (R ++ [shD (d : Int) x] = ((l.drop k).take (q + 1)).map (shD (d : Int))) := ⟨by
        have h1 : (l.drop k)[q]? = some x := by rw [List.getElem?_drop, ← HIQ.out]; exact hx
        rw [take_snoc h1, List.map_append, HRE.out]
        rfl⟩
      have hq8 : q ≤ 3000 := by have := HIQ.out; omega
      have p0 : (0 : Int) ≤ (i : Int) := by omega
      have p1 : (i : Int) < (n : Int) := by omega
      have hwi : IntKind.i64.wrap ((i : Int) + 1) = (i : Int) + 1 := IntWalk.i64_in _ (by omega)
      by_cases ho : x.o = 3
      · have bo : (x.o == 3) = true := beq_iff_eq.mpr ho
        go_upto_region 20 with (fail)
        obtain ⟨b16, hb16⟩ : ∃ p, wr.heap.size = p := ⟨_, rfl⟩
        obtain ⟨wa, hwa⟩ : ∃ X, wr.alloc (.cells #[.int .u8 3, .int .u8 x.k, .int .i64 (wrap64 (x.a + (d : Int))), .int .i64 (wrap64 (x.t + (d : Int)))] 41) = X := ⟨_, rfl⟩
        rw [hwa, hb16]
        have hev : evc (shD (d : Int) x) = #[.int .u8 3, .int .u8 x.k, .int .i64 (wrap64 (x.a + (d : Int))), .int .i64 (wrap64 (x.t + (d : Int)))] := by simp [shD, ho]
        have rE : wa.heap[b16]? = some (.cells (evc (shD (d : Int) x)) 41 (0, 0)) := by rw [← hwa, ← hb16, hev]; exact heap_alloc_new _ _
        have f0 : wa.cell? ⟨b16, 0, none⟩ = some (.int .u8 3) := by
          have h := cell_of_row wa b16 0 _ _ _ rE
          rw [hev] at h
          exact h
        have f1 : wa.cell? ⟨b16, 1, none⟩ = some (.int .u8 x.k) := cell_of_row _ _ _ _ _ _ rE
        have f2 : wa.cell? ⟨b16, 2, none⟩ = some (.int .i64 (wrap64 (x.a + (d : Int)))) := cell_of_row _ _ _ _ _ _ rE
        have f3 : wa.cell? ⟨b16, 3, none⟩ = some (.int .i64 (wrap64 (x.t + (d : Int)))) := by
          have h := cell_of_row wa b16 3 _ _ _ rE
          rw [hev] at h
          exact h
        have hba : Below wr.heap.size wr wa := by rw [← hwa]; exact below_alloc (Below.refl _ wr) _
        have HBA : Aside0 (Below w6.heap.size w6 wa) := ⟨HB.out.trans (hba.mono HB.out.size)⟩
        have HRA := Aside0.mk (Kd.R_below HRR.out hba)
        have HEV : Aside0 ((evc (shD (d : Int) x)).toList = [.int .u8 3, .int .u8 x.k, .int .i64 (wrap64 (x.a + (d : Int))), .int .i64 (wrap64 (x.t + (d : Int)))]) := ⟨by rw [hev]⟩
        clear hwa rE hba hev HB HRR e0 e1 e2 e3 hx
        go_wp2_with (at_builtin; refine Kd.R_append kE (w0 := wa) 0 rfl (.tmp 95) (.tmp 97) 29 41 (.agg #[.int .u8 0, .int .u8 0, .int .i64 0, .int .i64 0]) 24 rfl Try.underlying29 info41 rfl (by decide) (by decide) (.slice A' q c') R (shD (d : Int) x) [.int .u8 3, .int .u8 x.k, .int .i64 (wrap64 (x.a + (d : Int))), .int .i64 (wrap64 (x.t + (d : Int)))] (fun j => w6.heap.size ≤ j) (fun _ => False) rfl rfl HEV.out.symm (fun _ h => h.elim) (fun j hj => Nat.le_trans HBA.out.size hj) HRA.out (Below.refl _ _) (Nat.zero_le _) (by rw [HRL.out]; omega) ?_; intro v7 w7 hR7 _ hg7 hat7; obtain ⟨A7, c7, hv7, hc7, _⟩ := Kd.R_reads hR7; rw [show (R ++ [shD (d : Int) x]).length = q + 1 from (by rw [List.length_append, HRL.out]; rfl)] at hv7 hc7; subst hv7; have hb7 : Below w6.heap.size w6 w7 := HBA.out.grown hg7 HBA.out.size (fun j e => HRA.out.1 j e); have HR7 := Aside0.mk hR7; have HB7 := Aside0.mk hb7; clear hR7 hg7 hat7 hb7 hc7)
        go_roundg gn
        case measure => exact Nat.lt_succ_self _
        case rel => exact ⟨i + 1, q + 1, A7, c7, _, rfl, by simp, ⟨by have := HK.out; omega⟩, ⟨by have := HIQ.out; omega⟩, HR7, HB7, HNX, ⟨by rw [List.length_append, HRL.out]; rfl⟩⟩
      · have bo : (x.o == 3) = false := beq_eq_false_iff_ne.mpr ho
        go_upto_region 20 with (fail)
        obtain ⟨b16, hb16⟩ : ∃ p, wr.heap.size = p := ⟨_, rfl⟩
        obtain ⟨wa, hwa⟩ : ∃ X, wr.alloc (.cells #[.int .u8 x.o, .int .u8 x.k, .int .i64 (wrap64 (x.a + (d : Int))), .int .i64 x.t] 41) = X := ⟨_, rfl⟩
        rw [hwa, hb16]
        have hev : evc (shD (d : Int) x) = #[.int .u8 x.o, .int .u8 x.k, .int .i64 (wrap64 (x.a + (d : Int))), .int .i64 x.t] := by simp [shD, ho]
        have rE : wa.heap[b16]? = some (.cells (evc (shD (d : Int) x)) 41 (0, 0)) := by rw [← hwa, ← hb16, hev]; exact heap_alloc_new _ _
        have f0 : wa.cell? ⟨b16, 0, none⟩ = some (.int .u8 x.o) := cell_of_row _ _ _ _ _ _ rE
        have f1 : wa.cell? ⟨b16, 1, none⟩ = some (.int .u8 x.k) := cell_of_row _ _ _ _ _ _ rE
        have f2 : wa.cell? ⟨b16, 2, none⟩ = some (.int .i64 (wrap64 (x.a + (d : Int)))) := cell_of_row _ _ _ _ _ _ rE
        have f3 : wa.cell? ⟨b16, 3, none⟩ = some (.int .i64 x.t) := by
          have h := cell_of_row wa b16 3 _ _ _ rE
          rw [hev] at h
          exact h
        have hba : Below wr.heap.size wr wa := by rw [← hwa]; exact below_alloc (Below.refl _ wr) _
        have HBA : Aside0 (Below w6.heap.size w6 wa) := ⟨HB.out.trans (hba.mono HB.out.size)⟩
        have HRA := Aside0.mk (Kd.R_below HRR.out hba)
        have HEV : Aside0 ((evc (shD (d : Int) x)).toList = [.int .u8 x.o, .int .u8 x.k, .int .i64 (wrap64 (x.a + (d : Int))), .int .i64 x.t]) := ⟨by rw [hev]⟩
        clear hwa rE hba hev HB HRR e0 e1 e2 e3 hx
        go_wp2_with (at_builtin; refine Kd.R_append kE (w0 := wa) 0 rfl (.tmp 95) (.tmp 97) 29 41 (.agg #[.int .u8 0, .int .u8 0, .int .i64 0, .int .i64 0]) 24 rfl Try.underlying29 info41 rfl (by decide) (by decide) (.slice A' q c') R (shD (d : Int) x) [.int .u8 x.o, .int .u8 x.k, .int .i64 (wrap64 (x.a + (d : Int))), .int .i64 x.t] (fun j => w6.heap.size ≤ j) (fun _ => False) rfl rfl HEV.out.symm (fun _ h => h.elim) (fun j hj => Nat.le_trans HBA.out.size hj) HRA.out (Below.refl _ _) (Nat.zero_le _) (by rw [HRL.out]; omega) ?_; intro v7 w7 hR7 _ hg7 hat7; obtain ⟨A7, c7, hv7, hc7, _⟩ := Kd.R_reads hR7; rw [show (R ++ [shD (d : Int) x]).length = q + 1 from (by rw [List.length_append, HRL.out]; rfl)] at hv7 hc7; subst hv7; have hb7 : Below w6.heap.size w6 w7 := HBA.out.grown hg7 HBA.out.size (fun j e => HRA.out.1 j e); have HR7 := Aside0.mk hR7; have HB7 := Aside0.mk hb7; clear hR7 hg7 hat7 hb7 hc7)
        go_roundg gn
        case measure => exact Nat.lt_succ_self _
        case rel => exact ⟨i + 1, q + 1, A7, c7, _, rfl, by simp, ⟨by have := HK.out; omega⟩, ⟨by have := HIQ.out; omega⟩, HR7, HB7, HNX, ⟨by rw [List.length_append, HRL.out]; rfl⟩⟩
    · have hie : i = n := by have := HK.out; omega
      have hqe : q = n - k := by have := HIQ.out; omega
      have hRe : R = (l.drop k).map (shD (d : Int)) := by
        rw [HRE.out, List.take_of_length_le (by rw [List.length_drop, HLN.out]; omega)]
      obtain ⟨R2, hR2⟩ : ∃ R2, (l.drop k).map (shD (d : Int)) = R2 := ⟨_, rfl⟩
      obtain ⟨M, hM⟩ : ∃ M, putB at_ (newB 7) l = M := ⟨_, rfl⟩
      obtain ⟨M1, hM1⟩ : ∃ M1, putB at_ (newB 7) (l.take k) = M1 := ⟨_, rfl⟩
      rw [hR2, hM1] at HP3
      rw [hR2, hM1, hM] at HP4
      rw [hM1] at HP2 HB6
      rw [hM] at HA6 HWFA
      rw [hR2] at hRe
      have hsrt : Srt M := by rw [← hM]; exact Srt.put (srtn 7)
      have hrr := HRR.out
      rw [hRe] at hrr
      have HRQ := Aside0.mk hrr
      have q0 : ¬ ((i : Int) < (n : Int)) := by omega
      have hwd : IntKind.i64.wrap (at_ - (d : Int)) = at_ - (d : Int) := IntWalk.i64_in _ (by omega)
      have hltk := HLTK.out
      have HPUT := Aside0.mk (put_c bb psB6 M1 vNB6 vOB6 A' q c' R2 (at_ - (d : Int)) wr _ (HB6.out.below HB.out) (fun w' hf => evs_own HRQ.out hf (fun j hj => hj.2)) _ HP2.out (by rw [hltk]; omega))
      have HAR := Aside0.mk (HA6.out.below HB.out)
      have B7 : Aside0 (Below w.heap.size w wr) := ⟨B6.out.trans (HB.out.mono B6.out.size)⟩
      have hpe3 := HP3.out
      have S35 : Aside0 (w3.heap.size ≤ w5.heap.size) := ⟨Nat.le_trans S34.out HB45.out.size⟩
      clear HRE HRR hrr HB hRe hqe hltk hR2 hM hM1
      go_wp2_with (refine HPUT.out.mono ?_)
      rintro _ w8 ⟨rfl, ⟨psB8, vNB8, vOB8, h8⟩, f8⟩
      rw [if_pos hpe3, HP4.out] at h8
      rw [hpe3]
      have B8 : Aside0 (Below w.heap.size w w8) := ⟨B7.out.trans (f8.below B7.out.size (fun j hj => hj.1.elim (fun h => Nat.le_trans B3.out.size h.1) (fun h => Nat.le_trans B5.out.size h)))⟩
      have HA8 := Aside0.mk (HAR.out.fr f8 (fun j hj hj' => by
        have h1 := hj.1.2
        rcases hj'.1 with h2 | h2
        · have := h2.1; omega
        · have := S35.out; omega))
      have HB8 := Aside0.mk h8
      have hmf := HWFA.out.f
      have hmL := HWFA.out.L
      have hmO := HWFA.out.O
      have hll := HLN.out
      obtain ⟨far, hfar⟩ : ∃ q, M.far = q := ⟨_, rfl⟩
      have hfa := far_c ba psA3 M vNA3 vOA3 w8 _ HA8.out
      rw [hfar] at hfa hmf
      have HFA := Aside0.mk hfa
      have HDA := Aside0.mk (done_c ba psA3 M vNA3 vOA3 far w8 _ HA8.out hsrt (by omega) (by omega))
      have HNB : Aside0 (¬ (far < M.far ∨ 1048576 < far)) := ⟨by rw [hfar]; omega⟩
      have HFAR := Aside0.mk hfar
      clear h8 f8 hfa hfar HPUT hpe3 HAR
      go_wp2_with (first
        | (refine HFA.out.mono ?_; rintro _ w9 ⟨rfl, h9⟩; rw [h9]; clear h9 w9)
        | (refine HDA.out.mono ?_))
      rintro _ w10 ⟨b10, (⟨hbad, _⟩ | ⟨_, v10, rfl, hr10⟩)⟩
      · exact absurd hbad HNB.out
      obtain ⟨A10, c10, rfl, hle10, hc10⟩ := Kd.R_reads hr10
      have hfb := far_c bb psB8 M vNB8 vOB8 w10 _ (HB8.out.below b10)
      rw [HFAR.out] at hfb
      have HFB := Aside0.mk hfb
      have HDB := Aside0.mk (done_c bb psB8 M vNB8 vOB8 far w10 _ (HB8.out.below b10) hsrt (by omega) (by omega))
      have HC10 := Aside0.mk hc10
      have B10 : Aside0 (Below w.heap.size w w10) := ⟨B8.out.trans (b10.mono B8.out.size)⟩
      obtain ⟨DL, hDL⟩ : ∃ q, (doneL M far).length = q := ⟨_, rfl⟩
      rw [hDL] at HC10 hle10 ⊢
      clear b10 hr10 hc10 hfb HDA HFA
      go_wp2_with (first
        | (refine HFB.out.mono ?_; rintro _ w9 ⟨rfl, h9⟩; rw [h9]; clear h9 w9)
        | (refine HDB.out.mono ?_))
      rintro _ w11 ⟨b11, (⟨hbad, _⟩ | ⟨_, v11, rfl, hr11⟩)⟩
      · exact absurd hbad HNB.out
      obtain ⟨A11, c11, rfl, hle11, hc11⟩ := Kd.R_reads hr11
      rw [hDL] at hc11 hle11 ⊢
      have HSM := Aside0.mk (same_c A10 A11 DL c10 c11 (doneL M far) w11 (Kd.C_below HC10.out b11) hc11)
      have B11 : Aside0 (Below w.heap.size w w11) := ⟨B10.out.trans (b11.mono B10.out.size)⟩
      clear b11 hr11 hc11 HDB HFB hDL
      go_wp2_with (first
        | (refine HSM.out.mono ?_; rintro _ w12 ⟨rfl, h12⟩; have B12 : Aside0 (Below w.heap.size w w12) := ⟨B11.out.trans (h12.mono B11.out.size)⟩; clear h12)
        | (refine (wakes_c _).mono ?_; rintro _ w13 ⟨rfl, h13⟩; have B13 : Aside0 (Below w.heap.size w w13) := ⟨B12.out.trans (h13.mono B12.out.size)⟩; clear h13))
      go_ret
      exact ⟨rfl, B13.out⟩
end Go.Proofs.Ytfaibpdoalbkpaa.Bu
