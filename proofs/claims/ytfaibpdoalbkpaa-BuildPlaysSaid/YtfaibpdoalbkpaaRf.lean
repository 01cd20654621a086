/- BuildPlays walked. -/
import Derived.Test.YtfaibpdoalbkpaaRv
import Derived.Test.YtfaibpdoalbkpaaPw
import Derived.Test.YtfaibpdoalbkpaaSa
namespace Go.Proofs.Ytfaibpdoalbkpaa.Bu
open Go.RowKit Go.Proofs.YtfaibpdoalbkpaaW.PrintWords Go.Proofs.YtfaibpdoalbkpaaW.PrintLast Go.Proofs.YtfaibpdoalbkpaaW.PrintMore
attribute [local go_sem] max2_int min2_int max_two min_two max_three min_three max_four min_four
set_option linter.unusedVariables false
set_option linter.unusedSimpArgs false
set_option maxRecDepth 100000 in
set_option maxHeartbeats 16000000 in
theorem plays_c (kd : Int) (A : Option Addr) (n c : Nat) (l : List ActM) (w : World) (hR : ReadsRow (RAct w) 3 w A n l) : Calls Try.prog 3 #[.int .u8 kd, .slice A n c] w fun e w' => WkP w e w' := by
  have hln := hR.1
  have hn8 := hR.2.1
  have HR := Aside0.mk hR
  have HLN := Aside0.mk hln
  have HGR := Aside0.mk (great_c A n c l w hR)
  clear hR hln
  go_enter Try.func3, Try.ntmps3
  go_wp2_with (refine HGR.out.mono ?_)
  rintro _ w0 ⟨⟨b, rfl, hsm⟩, rfl⟩
  clear HGR
  cases b
  case true =>
    clear hsm
    go_wp2_with (refine (wakes_c _).mono ?_)
    rintro _ w1 ⟨rfl, hb⟩
    have HB := Aside0.mk hb
    clear hb
    go_wp2_with (fail)
    go_ret
    exact ⟨rfl, HB.out⟩
  case false =>
    have HSM := Aside0.mk (hsm rfl)
    clear hsm
    go_wp2_with (first | (refine (new_c kd _).mono ?_) | (refine (rnew_c kd _).mono ?_))
    rintro _ w1 ⟨ba, ps0, vN0, vO0, rfl, h1, b1⟩
    have H1 := Aside0.mk h1.bound
    have B1 := Aside0.mk b1
    clear h1 b1
    go_wp2_with (first | (refine (rnew_c kd _).mono ?_))
    rintro _ w2 ⟨bb, vL0, vP0, rfl, h2, b2⟩
    have HTW : Aside0 (Two (fun j => w0.heap.size ≤ j) w2 ba bb (newB kd)) := ⟨⟨_, _, ps0, vN0, vO0, vL0, vP0, H1.out.below b2, h2.bound, fun j hj hj' => by have h3 := hj.2; have h4 := hj'.1; omega, fun j hj => by
      have h5 := b2.size
      have h6 := B1.out.size
      rcases hj with hj | hj
      · exact ⟨hj.1, by have := hj.2; omega⟩
      · exact ⟨by have := hj.1; omega, hj.2⟩⟩⟩
    have B2 : Aside0 (Below w0.heap.size w0 w2) := ⟨B1.out.trans (b2.mono B1.out.size)⟩
    clear h2 b2 H1 B1
    go_upto_block 0 with (fail)
    go_wp2_with (fail)
    go_loopg [7] n (fun gk v7 wr => ∃ (k : Nat) (m : Bl), v7 = .int .i64 (k : Int) ∧ Aside0 (Two (fun j => w0.heap.size ≤ j) wr ba bb m) ∧ Aside0 (Below w0.heap.size w0 wr) ∧ Aside0 (k + gk = n) ∧ Aside0 (Srt m) ∧ Aside0 (WF m (1 + tot (l.take k))))
    case atStart => exact ⟨0, newB kd, rfl, HTW, B2, ⟨by omega⟩, ⟨srtn kd⟩, ⟨wfn kd⟩⟩
    case round =>
      clear HTW B2
      obtain ⟨k, m, rfl, HTW, HB, HK, HST, HWF⟩ := hrel
      by_cases hkn : k < n
      · obtain ⟨gn, rfl⟩ : ∃ gn, gk = gn + 1 := ⟨gk - 1, by have := HK.out; omega⟩
        obtain ⟨x, hx⟩ : ∃ x, l[k]? = some x := ⟨_, List.getElem?_eq_getElem (by rw [HLN.out]; exact hkn)⟩
        obtain ⟨ad, hA, _⟩ := HR.out.2.2 (by omega)
        subst hA
        obtain ⟨A1, c1, hcl, hL, e0, e1, e2⟩ := act_at HR.out hx
        have htk : tot (l.take (k + 1)) = tot (l.take k) + x.l.length := by rw [take_snoc hx, tot_append]; simp [tot]
        have HTK := Aside0.mk htk
        have HBD : Aside0 (1 + tot (l.take k) + x.l.length ≤ 1000000) := ⟨by
          have h1 := tot_take l (k + 1)
          have h2 := HSM.out.t
          omega⟩
        obtain ⟨ln, hlen⟩ : ∃ q, x.l.length = q := ⟨_, rfl⟩
        rw [hlen] at hL e2 hcl HBD
        have HLE := Aside0.mk hlen
        have HL := Aside0.mk hL
        have HCL := Aside0.mk hcl
        have d0 := pw_cell_below HB.out e0
        have d1 := pw_cell_below HB.out e1
        have d2 := pw_cell_below HB.out e2
        have p0 : (0 : Int) ≤ (k : Int) := by omega
        have p1 : (k : Int) < (n : Int) := by omega
        have hw1 : IntKind.i64.wrap ((k : Int) + 1) = (k : Int) + 1 := IntWalk.i64_in _ (by omega)
        clear hx hL hcl e0 e1 e2 htk hlen
        go_upto_region 9 with (fail)
        obtain ⟨b8, hb8⟩ : ∃ q, wr.heap.size = q := ⟨_, rfl⟩
        obtain ⟨wx, hwx⟩ : ∃ q, wr.alloc (.cells #[.int .i64 x.d, .int .i64 x.a, .slice A1 ln c1] 31) = q := ⟨_, rfl⟩
        rw [hwx, hb8]
        have hbx : Below wr.heap.size wr wx := by rw [← hwx]; exact below_alloc (Below.refl _ wr) _
        have hszx : wx.heap.size = b8 + 1 := by rw [← hwx, ← hb8]; simp
        have hx8 : wx.heap[b8]? = some (.cells #[.int .i64 x.d, .int .i64 x.a, .slice A1 ln c1] 31 (0, 0)) := by rw [← hwx, ← hb8]; exact heap_alloc_new _ _
        have HTX : Aside0 (Two (fun j => w0.heap.size ≤ j ∧ j < b8) wx ba bb m) := ⟨(HTW.out.narrow (S' := fun j => w0.heap.size ≤ j ∧ j < b8) (fun j hj hl => ⟨hj, by rw [← hb8]; exact hl⟩)).below hbx⟩
        have HBX : Aside0 (Below w0.heap.size w0 wx) := ⟨HB.out.trans (hbx.mono HB.out.size)⟩
        have H8 : Aside0 (w0.heap.size ≤ b8 ∧ wx.heap.size = b8 + 1) := ⟨by rw [← hb8]; exact HB.out.size, hszx⟩
        have x0 : wx.cell? ⟨b8, 0, none⟩ = some (.int .i64 x.d) := cell_of_row _ _ _ _ _ _ hx8
        have x1 : wx.cell? ⟨b8, 1, none⟩ = some (.int .i64 x.a) := cell_of_row _ _ _ _ _ _ hx8
        have x2 : wx.cell? ⟨b8, 2, none⟩ = some (.slice A1 ln c1) := cell_of_row _ _ _ _ _ _ hx8
        have HX8 := Aside0.mk hx8
        obtain ⟨xa, hxa⟩ : ∃ q, x.a = q := ⟨_, rfl⟩
        obtain ⟨xd, hxd⟩ : ∃ q, x.d = q := ⟨_, rfl⟩
        rw [hxa] at x1
        rw [hxd] at x0
        rw [hxa, hxd] at HX8
        clear hwx hbx hx8 hszx hb8 HTW HB d0 d1 d2
        obtain ⟨fpA, fpB, ps, vN, vO, vL, vP, hAA, hBB, hdd, hSS⟩ := HTX.out
        have HAA := Aside0.mk hAA
        have HBB := Aside0.mk hBB
        have HDD := Aside0.mk hdd
        have HSS := Aside0.mk hSS
        have HL8 : Aside0 (m.L.length ≤ 1000000 ∧ m.O.length ≤ 1000000) := ⟨by have h1 := HWF.out.L; have h2 := HWF.out.O; have h3 := HBD.out; omega⟩
        clear hAA hBB hdd hSS
        by_cases hd0 : xd = 0
        · have HDA := Aside0.mk (done_c ba ps m vN vO xa wx _ HAA.out HST.out HL8.out.1 HL8.out.2)
          have bd : (xd == 0) = true := beq_iff_eq.mpr hd0
          rw [hd0] at x0
          clear hd0 hxd
          go_wp2_with (refine HDA.out.mono ?_)
          intro _ w3 hd3
          obtain ⟨b3, v3, rfl, r3⟩ := hd3.one
          have x13 := pw_cell_below b3 x1
          have HDB := Aside0.mk (rdone_c bb m vL vP xa w3 _ (HBB.out.below b3) HST.out HL8.out.1 HL8.out.2)
          have HB3 := Aside0.mk b3
          obtain ⟨DV, hDV⟩ : ∃ q, doneV m xa = q := ⟨_, rfl⟩
          have hN8 : DV.length ≤ 1000000 := by rw [← hDV]; exact Nat.le_trans (len_doneV _ _) HL8.out.1
          obtain ⟨N, hN⟩ : ∃ q, DV.length = q := ⟨_, rfl⟩
          rw [hDV] at r3
          obtain ⟨A3, c3, rfl, hle3, hc3⟩ := Kd.R_reads r3
          rw [hN] at r3 hle3 hc3 hN8 ⊢
          have HR3 := Aside0.mk r3
          have HC3 := Aside0.mk hc3
          have HDV := Aside0.mk hDV
          have HN := Aside0.mk hN
          obtain ⟨code, hcode⟩ : ∃ q, doneC m xa = q := ⟨_, rfl⟩
          have HCODE := Aside0.mk hcode
          rw [hcode]
          clear r3 b3 hd3 hc3 hDV hN hcode HDA x1
          go_wp2_with (refine HDB.out.mono ?_)
          intro _ w4 hd4
          obtain ⟨b4, v4, rfl, r4⟩ := hd4.one
          rw [HDV.out] at r4
          obtain ⟨A4, c4, rfl, hle4, hc4⟩ := Kd.R_reads r4
          rw [HN.out] at hc4 hle4 ⊢
          rw [HCODE.out]
          have HSA := Aside0.mk (same_c A3 A4 N c3 c4 DV w4 (Kd.C_below HC3.out b4) hc4)
          have HR4 := Aside0.mk (Kd.R_below HR3.out b4)
          have HB4 : Aside0 (Below wx.heap.size wx w4) := ⟨HB3.out.trans (b4.mono HB3.out.size)⟩
          clear b4 hd4 r4 hc4 HDB x13
          go_wp2_with (refine HSA.out.mono ?_)
          rintro _ w5 ⟨rfl, b5⟩
          have HR5 := Aside0.mk (Kd.R_below HR4.out b5)
          have HB5 : Aside0 (Below wx.heap.size wx w5) := ⟨HB4.out.trans (b5.mono HB4.out.size)⟩
          clear b5 HR4 HB4 HSA
          go_upto_block 2 with (fail)
          go_wp2_with (fail)
          go_loopg [13] N (fun gq v13 wq => ∃ (q : Nat) (R : List Nd), v13 = .int .i64 (q : Int) ∧ Aside0 (q + gq = N) ∧ Aside0 (kN.R 38 wq 0 (fun j => wx.heap.size ≤ j) (.slice A3 N c3) R) ∧ Aside0 (R.length = N) ∧ Aside0 (Below wx.heap.size wx wq))
          case atStart => exact ⟨0, DV, rfl, ⟨by omega⟩, HR5, HN, HB5⟩
          case round =>
            clear HR5 HB5
            obtain ⟨q, R, rfl, HQ, HR6, HRL, HB6⟩ := hrel
            by_cases hqn : q < N
            · obtain ⟨gm, rfl⟩ : ∃ gm, gk = gm + 1 := ⟨gk - 1, by have := HQ.out; omega⟩
              obtain ⟨g, cap, hv, hcap⟩ := row_form HR6.out (by rw [HRL.out]; omega)
              injection hv with hv1 hv2 hv3
              subst hv1
              obtain ⟨y, hy⟩ : ∃ y, R[q]? = some y := ⟨_, List.getElem?_eq_getElem (by rw [HRL.out]; exact hqn)⟩
              have HY := Aside0.mk (row_at HR6.out hy)
              have p2 : (0 : Int) ≤ (q : Int) := by omega
              have p3 : (q : Int) < (N : Int) := by omega
              have hw2 : IntKind.i64.wrap ((q : Int) + 1) = (q : Int) + 1 := IntWalk.i64_in _ (by omega)
              clear hv2 hv3 hcap hy
              go_wp2_with ((with_reducible refine gate_ (.store 38 (.tmp 72) (.tmp 71)) rfl ?_); refine Kd.R_store kN (w0 := wr) 0 rfl rfl 38 (.tmp 72) (.tmp 71) rfl 38 (g := g) (n := N) (cap := c3) (o' := q * 4) (q : Int) 0 R ⟨99, 7, 0, 0⟩ (.agg #[.int .u8 99, .int .i64 7, .int .i64 0, .int .i64 0]) [.int .u8 99, .int .i64 7, .int .i64 0, .int .i64 0] (ndc y).toList (fun k => wx.heap.size ≤ k) (fun _ => False) rfl (by simp [kN, flat]) rfl rfl info38s (fun q hq => by simp at hq; rcases hq with rfl | rfl | rfl | rfl <;> rfl) HR6.out (by omega) (by omega) rfl HY.out (Nat.le_refl 4) rfl (fun _ h => h.elim) (Below.refl _ _) ?_; intro w7 hR7 _ hg7; have HR7 := Aside0.mk hR7; have HG7 := Aside0.mk hg7; clear hR7 hg7)
              go_roundg gm
              case measure => exact Nat.lt_succ_self _
              case rel => exact ⟨q + 1, _, by simp, ⟨by have := HQ.out; omega⟩, HR7, ⟨by rw [List.length_set]; exact HRL.out⟩, ⟨HB6.out.grown HG7.out HB6.out.size (fun k e => by cases e; exact HR6.out.1 g rfl)⟩⟩
            · have hq : ¬ ((q : Int) < (N : Int)) := by omega
              have HTF : Aside0 (Two (fun j => w0.heap.size ≤ j) wr ba bb m) := ⟨(HTX.out.below HB6.out).narrow (fun j hj _ => hj.1)⟩
              have HBF : Aside0 (Below w0.heap.size w0 wr) := ⟨HBX.out.trans (HB6.out.mono HBX.out.size)⟩
              have HSTF := HST
              have HWFF : Aside0 (WF m (1 + tot (l.take (k + 1)))) := ⟨⟨HWF.out.o, HWF.out.f, by have := HWF.out.L; have := HTK.out; omega, by have := HWF.out.O; have := HTK.out; omega⟩⟩
              have HL8F := HL8
              clear HQ HR6 HRL HB6
              obtain ⟨fpC, fpD, psC, vN6, vO6, vL6, vP6, hA6, hB6, _, _⟩ := HTF.out
              obtain ⟨NO, hNO⟩ : ∃ q, m.O.length = q := ⟨_, rfl⟩
              obtain ⟨far, hfar⟩ : ∃ q, m.far = q := ⟨_, rfl⟩
              obtain ⟨AP, cP, hvP, _, _⟩ := Kd.R_reads hB6.rO
              rw [hNO] at hvP
              have y1 := hB6.cO
              have y2 := hB6.cF
              rw [hvP] at y1
              rw [hfar] at y2
              have hNO8 : NO ≤ 1000000 := by rw [← hNO]; exact HL8F.out.2
              have hwO : IntKind.i64.wrap ((NO : Int) - 1) = (NO : Int) - 1 := IntWalk.i64_in _ (by omega)
              have hop := open_c ba psC m vN6 vO6 wr.drew _ (hA6.below (below_drew (Below.refl _ wr))) HL8F.out.2
              have hfa := far_c ba psC m vN6 vO6 wr.drew _ (hA6.below (below_drew (Below.refl _ wr)))
              rw [hNO] at hop
              rw [hfar] at hfa
              have HOP := Aside0.mk hop
              have HFA := Aside0.mk hfa
              clear hop hfa hA6 hB6 hNO hfar hvP
              go_upto_region 27 with (fail)
              refine wp_region_noPanic ?_
              refine wp_region_held_drew (S := (fun w' => w'.cell? ⟨bb, 1, none⟩ = some (.slice AP NO cP) ∧ w'.cell? ⟨bb, 2, none⟩ = some (.int .i64 far))) (by kernel_rfl) ?_ (fun hHeld => ?_)
              · exact ⟨y1, y2⟩
              refine wpAnyH_take (i := 0) (v := ?_) rfl (by kernel_rfl) (by kernel_rfl) (by kernel_rfl) (fun _ _ _ h => h) (Or.inl ⟨by rfl, ?_⟩) (by assumption) ?_
              rotate_left
              · intro w hSw
                go_simp
                try with_reducible rfl
              simp only [Act.put, List.getElem_toArray, List.getElem_cons_zero, List.getElem_cons_succ, List.setIfInBounds_toArray, List.set_cons_zero, List.set_cons_succ]
              refine wpAnyH_take (i := 2) (v := ?_) rfl (by kernel_rfl) (by kernel_rfl) (by kernel_rfl) (fun _ _ _ h => h) (Or.inl ⟨by rfl, ?_⟩) (by assumption) ?_
              rotate_left
              · intro w hSw
                go_simp
                try with_reducible rfl
              simp only [Act.put, List.getElem_toArray, List.getElem_cons_zero, List.getElem_cons_succ, List.setIfInBounds_toArray, List.set_cons_zero, List.set_cons_succ]
              refine wpAnyH_take (i := 3) (v := ?_) rfl (by kernel_rfl) (by kernel_rfl) (by kernel_rfl) (fun _ _ _ h => h) (Or.inl ⟨by rfl, ?_⟩) (by assumption) ?_
              rotate_left
              · intro w hSw
                go_simp
                try with_reducible rfl
              simp only [Act.put, List.getElem_toArray, List.getElem_cons_zero, List.getElem_cons_succ, List.setIfInBounds_toArray, List.set_cons_zero, List.set_cons_succ]
              refine wpAnyH_take (i := 4) (v := ?_) rfl (by kernel_rfl) (by kernel_rfl) (by kernel_rfl) (fun _ _ _ h => h) (Or.inl ⟨by rfl, ?_⟩) (by assumption) ?_
              rotate_left
              · intro w hSw
                go_simp
                try with_reducible rfl
              simp only [Act.put, List.getElem_toArray, List.getElem_cons_zero, List.getElem_cons_succ, List.setIfInBounds_toArray, List.set_cons_zero, List.set_cons_succ]
              refine wpAnyH_take (i := 5) (v := ?_) rfl (by kernel_rfl) (by kernel_rfl) (by kernel_rfl) (fun _ _ _ h => h) (Or.inl ⟨by rfl, ?_⟩) (by assumption) ?_
              rotate_left
              · intro w hSw
                go_simp
                try with_reducible rfl
              simp only [Act.put, List.getElem_toArray, List.getElem_cons_zero, List.getElem_cons_succ, List.setIfInBounds_toArray, List.set_cons_zero, List.set_cons_succ]
              refine wpAnyH_take (i := 6) (v := ?_) rfl (by kernel_rfl) (by kernel_rfl) (by kernel_rfl) (fun _ _ _ h => h) (Or.inl ⟨by rfl, ?_⟩) (by assumption) ?_
              rotate_left
              · intro w hSw
                go_simp
                try with_reducible rfl
              simp only [Act.put, List.getElem_toArray, List.getElem_cons_zero, List.getElem_cons_succ, List.setIfInBounds_toArray, List.set_cons_zero, List.set_cons_succ]
              refine wpAnyH_take (i := 7) (v := ?_) rfl (by kernel_rfl) (by kernel_rfl) (by kernel_rfl) (fun _ _ _ h => h) (Or.inl ⟨by rfl, ?_⟩) (by assumption) ?_
              rotate_left
              · intro w hSw
                go_simp
                try with_reducible rfl
              simp only [Act.put, List.getElem_toArray, List.getElem_cons_zero, List.getElem_cons_succ, List.setIfInBounds_toArray, List.set_cons_zero, List.set_cons_succ]
              refine wpAnyH_ready (rs := [1]) (by kernel_rfl) (by simp) ?_
              refine AllReadyH.cons rfl (fun K hK => ?_) AllReadyH.nil
              go_simp
              refine HOP.out.mono ?_
              rintro _ w9 ⟨rfl, h9⟩
              rw [h9]
              clear h9 w9
              refine hK.out _ _ ⟨y1, y2⟩ (fun hHeld2 => ?_)
              clear hK K hHeld
              have hHeld := hHeld2
              clear hHeld2
              try simp only [Act.put, List.getElem_toArray, List.getElem_cons_zero, List.getElem_cons_succ, List.setIfInBounds_toArray, List.set_cons_zero, List.set_cons_succ]
              refine wpAnyH_take (i := 8) (v := ?_) rfl (by kernel_rfl) (by kernel_rfl) (by kernel_rfl) (fun _ _ _ h => h) (Or.inl ⟨by rfl, ?_⟩) (by assumption) ?_
              rotate_left
              · intro w hSw
                go_simp
                try with_reducible rfl
              simp only [Act.put, List.getElem_toArray, List.getElem_cons_zero, List.getElem_cons_succ, List.setIfInBounds_toArray, List.set_cons_zero, List.set_cons_succ]
              refine wpAnyH_take (i := 9) (v := ?_) rfl (by kernel_rfl) (by kernel_rfl) (by kernel_rfl) (fun _ _ _ h => h) (Or.inl ⟨by rfl, ?_⟩) (by assumption) ?_
              rotate_left
              · intro w hSw
                go_simp
                try with_reducible rfl
              simp only [Act.put, List.getElem_toArray, List.getElem_cons_zero, List.getElem_cons_succ, List.setIfInBounds_toArray, List.set_cons_zero, List.set_cons_succ]
              refine wpAnyH_take (i := 10) (v := ?_) rfl (by kernel_rfl) (by kernel_rfl) (by kernel_rfl) (fun _ _ _ h => h) (Or.inl ⟨by rfl, ?_⟩) (by assumption) ?_
              rotate_left
              · intro w hSw
                go_simp
                try with_reducible rfl
              simp only [Act.put, List.getElem_toArray, List.getElem_cons_zero, List.getElem_cons_succ, List.setIfInBounds_toArray, List.set_cons_zero, List.set_cons_succ]
              refine wpAnyH_take (i := 12) (v := ?_) rfl (by kernel_rfl) (by kernel_rfl) (by kernel_rfl) (fun _ _ _ h => h) (Or.inl ⟨by rfl, ?_⟩) (by assumption) ?_
              rotate_left
              · intro w hSw
                go_simp
                try with_reducible rfl
              simp only [Act.put, List.getElem_toArray, List.getElem_cons_zero, List.getElem_cons_succ, List.setIfInBounds_toArray, List.set_cons_zero, List.set_cons_succ]
              refine wpAnyH_take (i := 13) (v := ?_) rfl (by kernel_rfl) (by kernel_rfl) (by kernel_rfl) (fun _ _ _ h => h) (Or.inl ⟨by rfl, ?_⟩) (by assumption) ?_
              rotate_left
              · intro w hSw
                go_simp
                try with_reducible rfl
              simp only [Act.put, List.getElem_toArray, List.getElem_cons_zero, List.getElem_cons_succ, List.setIfInBounds_toArray, List.set_cons_zero, List.set_cons_succ]
              refine wpAnyH_take (i := 14) (v := ?_) rfl (by kernel_rfl) (by kernel_rfl) (by kernel_rfl) (fun _ _ _ h => h) (Or.inl ⟨by rfl, ?_⟩) (by assumption) ?_
              rotate_left
              · intro w hSw
                go_simp
                try with_reducible rfl
              simp only [Act.put, List.getElem_toArray, List.getElem_cons_zero, List.getElem_cons_succ, List.setIfInBounds_toArray, List.set_cons_zero, List.set_cons_succ]
              refine wpAnyH_take (i := 15) (v := ?_) rfl (by kernel_rfl) (by kernel_rfl) (by kernel_rfl) (fun _ _ _ h => h) (Or.inl ⟨by rfl, ?_⟩) (by assumption) ?_
              rotate_left
              · intro w hSw
                go_simp
                try with_reducible rfl
              simp only [Act.put, List.getElem_toArray, List.getElem_cons_zero, List.getElem_cons_succ, List.setIfInBounds_toArray, List.set_cons_zero, List.set_cons_succ]
              refine wpAnyH_ready (rs := [11]) (by kernel_rfl) (by simp) ?_
              refine AllReadyH.cons rfl (fun K hK => ?_) AllReadyH.nil
              go_simp
              refine HFA.out.mono ?_
              rintro _ w9 ⟨rfl, h9⟩
              rw [h9]
              clear h9 w9
              refine hK.out _ _ ⟨y1, y2⟩ (fun hHeld2 => ?_)
              clear hK K hHeld
              have hHeld := hHeld2
              clear hHeld2
              try simp only [Act.put, List.getElem_toArray, List.getElem_cons_zero, List.getElem_cons_succ, List.setIfInBounds_toArray, List.set_cons_zero, List.set_cons_succ]
              refine wpAnyH_take (i := 16) (v := ?_) rfl (by kernel_rfl) (by kernel_rfl) (by kernel_rfl) (fun _ _ _ h => h) (Or.inl ⟨by rfl, ?_⟩) (by assumption) ?_
              rotate_left
              · intro w hSw
                go_simp
                try with_reducible rfl
              simp only [Act.put, List.getElem_toArray, List.getElem_cons_zero, List.getElem_cons_succ, List.setIfInBounds_toArray, List.set_cons_zero, List.set_cons_succ]
              refine wpAnyH_take (i := 17) (v := ?_) rfl (by kernel_rfl) (by kernel_rfl) (by kernel_rfl) (fun _ _ _ h => h) (Or.inl ⟨by rfl, ?_⟩) (by assumption) ?_
              rotate_left
              · intro w hSw
                go_simp
                try with_reducible rfl
              simp only [Act.put, List.getElem_toArray, List.getElem_cons_zero, List.getElem_cons_succ, List.setIfInBounds_toArray, List.set_cons_zero, List.set_cons_succ]
              refine wpAnyH_done (by kernel_rfl) ?_ _
              refine NoPanic.normal ?_
              obtain ⟨wz, hwz⟩ : ∃ q, wr.drew = q := ⟨_, rfl⟩
              rw [hwz]
              have HTZ : Aside0 (Two (fun j => w0.heap.size ≤ j) wz ba bb m) := ⟨by rw [← hwz]; exact HTF.out.below (below_drew (Below.refl _ wr))⟩
              have HBZ : Aside0 (Below w0.heap.size w0 wz) := ⟨by rw [← hwz]; exact below_drew HBF.out⟩
              clear hwz y1 y2 hHeld HOP HFA
              go_wp2_with (fail)
              go_roundg gn
              case measure => exact Nat.lt_succ_self _
              case rel => exact ⟨k + 1, m, by simp, HTZ, HBZ, ⟨by have := HK.out; omega⟩, HSTF, HWFF⟩
        · have bd : (xd == 0) = false := beq_eq_false_iff_ne.mpr hd0
          have hln8 : ln ≤ 1000000 := by have := HBD.out; omega
          have HLX := Aside0.mk (evs_below HL.out HBX.out)
          clear hd0 hxd hxa
          go_upto_region 19 with (at_builtin; refine Kd.R_append_rows kE (Rr := REv) (w0 := wx) 0 rfl (.const (.slice none 0 0)) (.tmp 74) 29 41 (.agg #[.int .u8 0, .int .u8 0, .int .i64 0, .int .i64 0]) 24 rfl Try.underlying29 info41 rfl (by decide) (by decide) (.slice none 0 0) [] x.l A1 ln c1 (fun k => wx.heap.size ≤ k) (fun _ => False) rfl rfl (Kd.R_nil _ _ _ _ _) HLX.out (fun _ _ h => h) (fun _ h => h.elim) (fun _ h => h) (Below.refl _ _) (Nat.zero_le _) (by simp; omega) ?_; intro v2 wy hR2 _ hg2 hat2; rw [List.nil_append] at hR2; obtain ⟨A2, c2, hv2, hc2, _⟩ := Kd.R_reads hR2; rw [HLE.out] at hv2; subst hv2; have hby : Below wx.heap.size wx wy := ⟨hg2.os, hg2.tape, hg2.output, hg2.size, fun k hk => hg2.block k hk (by simp [Value.ownBlock])⟩; have HR2 := Aside0.mk hR2; have HBY := Aside0.mk hby; clear hR2 hg2 hat2 hby)
          have HIN : Aside0 (kE.R 41 wy 0 (fun j => wx.heap.size ≤ j ∧ j < wy.heap.size) (.slice A2 ln c2) x.l) := ⟨kd_mono HR2.out (fun j hj => ⟨HR2.out.1 j hj, Kd.R_lt HR2.out j hj⟩)⟩
          have HSX : Aside0 (∀ j, fpA j ∨ fpB j → j < wx.heap.size) := ⟨fun j hj => (HSS.out j hj).2⟩
          obtain ⟨wd, hwd⟩ : ∃ q, wy.drew = q := ⟨_, rfl⟩
          have hbd : Below wx.heap.size wx wd := by rw [← hwd]; exact below_drew HBY.out
          have HSD : Aside0 (wd.heap.size = wy.heap.size) := ⟨by rw [← hwd]; rfl⟩
          have HIND : Aside0 (kE.R 41 wd 0 (fun j => wx.heap.size ≤ j ∧ j < wy.heap.size) (.slice A2 ln c2) x.l) := ⟨by rw [← hwd]; exact Kd.R_drew HIN.out⟩
          obtain ⟨r, hr⟩ : ∃ q, putE m xa x.l = q := ⟨_, rfl⟩
          have hput := put_c ba ps m vN vO A2 ln c2 x.l xa wd _ (HAA.out.below hbd) (fun w' hf => evs_own (s := wx.heap.size) (kd_mono HIND.out (fun j hj => (HIND.out.1 j hj).1)) hf (fun j hj => HSX.out j (.inl hj))) _ HWF.out HBD.out
          rw [← hwd] at hput
          have HPUT := Aside0.mk hput
          have HBDD := Aside0.mk hbd
          have HRR := Aside0.mk hr
          have z1 := pw_cell_below HBY.out x1
          have z2 := pw_cell_below HBY.out x2
          have HWD := Aside0.mk hwd
          clear hput hbd hwd hr HLX x0 x1 x2 HIN HR2
          refine wp_region_noPanic ?_
          refine wp_region_held_drew (S := (fun w' => w'.cell? ⟨b8, 1, none⟩ = some (.int .i64 xa) ∧ w'.cell? ⟨b8, 2, none⟩ = some (.slice A1 ln c1))) (by kernel_rfl) ?_ (fun hHeld => ?_)
          · exact ⟨z1, z2⟩
          refine wpAnyH_take (i := 0) (v := ?_) rfl (by kernel_rfl) (by kernel_rfl) (by kernel_rfl) (fun _ _ _ h => h) (Or.inl ⟨by rfl, ?_⟩) (by assumption) ?_
          rotate_left
          · intro w hSw
            go_simp
            try with_reducible rfl
          simp only [Act.put, List.getElem_toArray, List.getElem_cons_zero, List.getElem_cons_succ, List.setIfInBounds_toArray, List.set_cons_zero, List.set_cons_succ]
          refine wpAnyH_take (i := 1) (v := ?_) rfl (by kernel_rfl) (by kernel_rfl) (by kernel_rfl) (fun _ _ _ h => h) (Or.inl ⟨by rfl, ?_⟩) (by assumption) ?_
          rotate_left
          · intro w hSw
            go_simp
            try with_reducible rfl
          simp only [Act.put, List.getElem_toArray, List.getElem_cons_zero, List.getElem_cons_succ, List.setIfInBounds_toArray, List.set_cons_zero, List.set_cons_succ]
          refine wpAnyH_take (i := 2) (v := ?_) rfl (by kernel_rfl) (by kernel_rfl) (by kernel_rfl) (fun _ _ _ h => h) (Or.inl ⟨by rfl, ?_⟩) (by assumption) ?_
          rotate_left
          · intro w hSw
            go_simp
            try with_reducible rfl
          simp only [Act.put, List.getElem_toArray, List.getElem_cons_zero, List.getElem_cons_succ, List.setIfInBounds_toArray, List.set_cons_zero, List.set_cons_succ]
          refine wpAnyH_take (i := 3) (v := ?_) rfl (by kernel_rfl) (by kernel_rfl) (by kernel_rfl) (fun _ _ _ h => h) (Or.inl ⟨by rfl, ?_⟩) (by assumption) ?_
          rotate_left
          · intro w hSw
            go_simp
            try with_reducible rfl
          simp only [Act.put, List.getElem_toArray, List.getElem_cons_zero, List.getElem_cons_succ, List.setIfInBounds_toArray, List.set_cons_zero, List.set_cons_succ]
          refine wpAnyH_take (i := 5) (v := ?_) rfl (by kernel_rfl) (by kernel_rfl) (by kernel_rfl) (fun _ _ _ h => h) (Or.inl ⟨by rfl, ?_⟩) (by assumption) ?_
          rotate_left
          · intro w hSw
            go_simp
            try with_reducible rfl
          simp only [Act.put, List.getElem_toArray, List.getElem_cons_zero, List.getElem_cons_succ, List.setIfInBounds_toArray, List.set_cons_zero, List.set_cons_succ]
          refine wpAnyH_take (i := 6) (v := ?_) rfl (by kernel_rfl) (by kernel_rfl) (by kernel_rfl) (fun _ _ _ h => h) (Or.inl ⟨by rfl, ?_⟩) (by assumption) ?_
          rotate_left
          · intro w hSw
            go_simp
            try with_reducible rfl
          simp only [Act.put, List.getElem_toArray, List.getElem_cons_zero, List.getElem_cons_succ, List.setIfInBounds_toArray, List.set_cons_zero, List.set_cons_succ]
          refine wpAnyH_take (i := 7) (v := ?_) rfl (by kernel_rfl) (by kernel_rfl) (by kernel_rfl) (fun _ _ _ h => h) (Or.inl ⟨by rfl, ?_⟩) (by assumption) ?_
          rotate_left
          · intro w hSw
            go_simp
            try with_reducible rfl
          simp only [Act.put, List.getElem_toArray, List.getElem_cons_zero, List.getElem_cons_succ, List.setIfInBounds_toArray, List.set_cons_zero, List.set_cons_succ]
          refine wpAnyH_take (i := 8) (v := ?_) rfl (by kernel_rfl) (by kernel_rfl) (by kernel_rfl) (fun _ _ _ h => h) (Or.inl ⟨by rfl, ?_⟩) (by assumption) ?_
          rotate_left
          · intro w hSw
            go_simp
            try with_reducible rfl
          simp only [Act.put, List.getElem_toArray, List.getElem_cons_zero, List.getElem_cons_succ, List.setIfInBounds_toArray, List.set_cons_zero, List.set_cons_succ]
          refine wpAnyH_take (i := 9) (v := ?_) rfl (by kernel_rfl) (by kernel_rfl) (by kernel_rfl) (fun _ _ _ h => h) (Or.inl ⟨by rfl, ?_⟩) (by assumption) ?_
          rotate_left
          · intro w hSw
            go_simp
            try with_reducible rfl
          simp only [Act.put, List.getElem_toArray, List.getElem_cons_zero, List.getElem_cons_succ, List.setIfInBounds_toArray, List.set_cons_zero, List.set_cons_succ]
          refine wpAnyH_ready (rs := [4]) (by kernel_rfl) (by simp) ?_
          refine AllReadyH.cons rfl (fun K hK => ?_) AllReadyH.nil
          go_simp
          refine HPUT.out.mono ?_
          rintro _ w5 ⟨rfl, ⟨ps5, vN5, vO5, h5⟩, f5⟩
          rw [HWD.out] at h5 f5
          have h85 : w5.heap[b8]? = _ := (f5.block b8 (by have := HSD.out; have := HBY.out.size; have := H8.out.2; omega) (fun hh => by have := (HSS.out b8 (.inl hh)).1.2; omega)).trans ((HBDD.out.block b8 (blk_lt HX8.out)).trans HX8.out)
          have hb5 : Below w0.heap.size w0 w5 := (HBX.out.trans (HBDD.out.mono HBX.out.size)).trans (f5.below (Nat.le_trans HBX.out.size HBDD.out.size) (fun j hj => (HSS.out j (.inl hj)).1.1))
          have HRP := Aside0.mk (rput_c bb m vL vP A1 ln c1 x.l xa w5 _ ((HBB.out.below HBDD.out).fr f5 (fun j h1 h2 => HDD.out j h2 h1)) HST.out (evs_below HL.out hb5) _ HWF.out HBD.out)
          have z1 : w5.cell? ⟨b8, 1, none⟩ = some (.int .i64 xa) := cell_of_row _ _ _ _ _ _ h85
          have z2 : w5.cell? ⟨b8, 2, none⟩ = some (.slice A1 ln c1) := cell_of_row _ _ _ _ _ _ h85
          have H5 := Aside0.mk h5
          have F5 := Aside0.mk f5
          have H85 := Aside0.mk h85
          have HB5 := Aside0.mk hb5
          rw [HRR.out]
          clear h5 f5 h85 hb5 HPUT
          refine hK.out _ _ ⟨z1, z2⟩ (fun hHeld2 => ?_)
          clear hK K hHeld
          have hHeld := hHeld2
          clear hHeld2
          try simp only [Act.put, List.getElem_toArray, List.getElem_cons_zero, List.getElem_cons_succ, List.setIfInBounds_toArray, List.set_cons_zero, List.set_cons_succ]
          refine wpAnyH_ready (rs := [10]) (by kernel_rfl) (by simp) ?_
          refine AllReadyH.cons rfl (fun K hK => ?_) AllReadyH.nil
          go_simp
          refine HRP.out.mono ?_
          rintro _ w6 ⟨rfl, ⟨vL6, vP6, h6⟩, f6⟩
          have h86 : w6.heap[b8]? = _ := (f6.block b8 (blk_lt H85.out) (fun hh => by have := (HSS.out b8 (.inr hh)).1.2; omega)).trans H85.out
          have z1 : w6.cell? ⟨b8, 1, none⟩ = some (.int .i64 xa) := cell_of_row _ _ _ _ _ _ h86
          have z2 : w6.cell? ⟨b8, 2, none⟩ = some (.slice A1 ln c1) := cell_of_row _ _ _ _ _ _ h86
          have H6 := Aside0.mk h6
          have F6 := Aside0.mk f6
          have H86 := Aside0.mk h86
          rw [HRR.out]
          clear h6 f6 h86 HRP
          refine hK.out _ _ ⟨z1, z2⟩ (fun hHeld2 => ?_)
          clear hK K hHeld
          have hHeld := hHeld2
          clear hHeld2
          try simp only [Act.put, List.getElem_toArray, List.getElem_cons_zero, List.getElem_cons_succ, List.setIfInBounds_toArray, List.set_cons_zero, List.set_cons_succ]
          refine wpAnyH_take (i := 11) (v := ?_) rfl (by kernel_rfl) (by kernel_rfl) (by kernel_rfl) (fun _ _ _ h => h) (Or.inl ⟨by rfl, ?_⟩) (by assumption) ?_
          rotate_left
          · intro w hSw
            go_simp
            try with_reducible rfl
          simp only [Act.put, List.getElem_toArray, List.getElem_cons_zero, List.getElem_cons_succ, List.setIfInBounds_toArray, List.set_cons_zero, List.set_cons_succ]
          refine wpAnyH_done (by kernel_rfl) ?_ _
          refine NoPanic.normal ?_
          have HWFQ := Aside0.mk (WF.putE (at_ := xa) (l := x.l) HWF.out)
          have HSTQ := Aside0.mk (Srt.putE (at_ := xa) (l := x.l) HST.out)
          obtain ⟨M, hM⟩ : ∃ q, (if putE m xa x.l = 0 then putB xa m x.l else m) = q := ⟨_, rfl⟩
          have h5M := H5.out
          have h6M := H6.out
          rw [hM] at HWFQ HSTQ h5M h6M
          have HT6 := Aside0.mk (Two.join (S := fun j => w0.heap.size ≤ j ∧ j < b8) h5M F5.out h6M F6.out HDD.out (fun j hj => ⟨(HSS.out j hj).1, Nat.lt_of_lt_of_le (HSS.out j hj).2 HBDD.out.size⟩))
          have HB6 : Aside0 (Below w0.heap.size w0 w6) := ⟨HB5.out.trans (F6.out.below HB5.out.size (fun j hj => (HSS.out j (.inr hj)).1.1))⟩
          have HIN6 : Aside0 (kE.R 41 w6 0 (fun j => wx.heap.size ≤ j ∧ j < wy.heap.size) (.slice A2 ln c2) x.l) := ⟨Kd.R_step (Kd.R_step HIND.out (fun j hj hlt => F5.out.block j hlt (fun hh => by have h1 := HSX.out j (.inl hh); have h2 := hj.1; omega))) (fun j hj hlt => F6.out.block j hlt (fun hh => by have h1 := HSX.out j (.inr hh); have h2 := hj.1; omega))⟩
          clear h5M h6M hM H5 H6 F5 F6 HIND HB5 H85 z1 z2 HRR
          go_upto_block 4 with (fail)
          go_wp2_with (fail)
          go_loopg [15] ln (fun gq v15 wq => ∃ (q : Nat) (R : List Ev), v15 = .int .i64 (q : Int) ∧ Aside0 (q + gq = ln) ∧ Aside0 (kE.R 41 wq 0 (fun j => wx.heap.size ≤ j ∧ j < wy.heap.size) (.slice A2 ln c2) R) ∧ Aside0 (R.length = ln) ∧ Aside0 (∀ j, q ≤ j → R[j]? = x.l[j]?) ∧ Aside0 (Two (fun j => (w0.heap.size ≤ j ∧ j < b8) ∨ wd.heap.size ≤ j) wq ba bb M) ∧ Aside0 (Below w0.heap.size w0 wq) ∧ Aside0 (wq.heap[b8]? = some (.cells #[.int .i64 xd, .int .i64 xa, .slice A1 ln c1] 31 (0, 0))))
          case atStart => exact ⟨0, x.l, rfl, ⟨by omega⟩, HIN6, HLE, ⟨fun _ _ => rfl⟩, HT6, HB6, H86⟩
          case round =>
            clear HIN6 HT6 HB6 H86
            obtain ⟨q, R, rfl, HQ, HRQ, HRL, HRE, HTQ, HBQ, H8Q⟩ := hrel
            by_cases hqn : q < ln
            · obtain ⟨gm, rfl⟩ : ∃ gm, gk = gm + 1 := ⟨gk - 1, by have := HQ.out; omega⟩
              obtain ⟨g, cap, hv, hcap⟩ := formE HRQ.out (by rw [HRL.out]; omega)
              injection hv with hv1 hv2 hv3
              subst hv1
              obtain ⟨y, hy⟩ : ∃ y, R[q]? = some y := ⟨_, List.getElem?_eq_getElem (by rw [HRL.out]; exact hqn)⟩
              have hyl := hy
              rw [HRE.out q (Nat.le_refl _)] at hyl
              have hry := rowE_at HRQ.out hy
              obtain ⟨ad1, hA1, _⟩ := HL.out.2.2 (by omega)
              subst hA1
              obtain ⟨l0, l1, l2, l3⟩ := ev_at (evs_below HL.out HBQ.out) hyl
              have f0 : wr.cell? ⟨g, q * 4, none⟩ = some (.int .u8 y.o) := hry 0 _ rfl
              have f1 : wr.cell? ⟨g, q * 4 + 1, none⟩ = some (.int .u8 y.k) := hry 1 _ rfl
              have f2 : wr.cell? ⟨g, q * 4 + 2, none⟩ = some (.int .i64 y.a) := hry 2 _ rfl
              have f3 : wr.cell? ⟨g, q * 4 + 3, none⟩ = some (.int .i64 y.t) := hry 3 _ rfl
              have HY := Aside0.mk hry
              have z2 : wr.cell? ⟨b8, 2, none⟩ = some (.slice (some ad1) ln c1) := cell_of_row _ _ _ _ _ _ H8Q.out
              have p2 : (0 : Int) ≤ (q : Int) := by omega
              have p3 : (q : Int) < (ln : Int) := by omega
              have hw2 : IntKind.i64.wrap ((q : Int) + 1) = (q : Int) + 1 := IntWalk.i64_in _ (by omega)
              clear hv2 hv3 hcap hy hyl hry
              go_upto_region 24 with (fail)
              go_quiet (fail)
              obtain ⟨wn, hwn⟩ : ∃ z, wr.drewN nq = z := ⟨_, rfl⟩
              rw [hwn]
              have hbn : Below wr.heap.size wr wn := by rw [← hwn]; exact pw_below_drewN (Below.refl _ wr) nq
              have HRN := Aside0.mk (Kd.R_below HRQ.out hbn)
              have HYN : Aside0 (∀ (j : Nat) (u : Value), (evc y).toList[j]? = some u → wn.cell? ⟨g, q * 4 + j, none⟩ = some u) := ⟨fun j u hu => pw_cell_below hbn (HY.out j u hu)⟩
              have HTN := Aside0.mk (HTQ.out.below hbn)
              have HBN : Aside0 (Below w0.heap.size w0 wn) := ⟨HBQ.out.trans (hbn.mono HBQ.out.size)⟩
              have H8N := Aside0.mk ((hbn.block b8 (blk_lt H8Q.out)).trans H8Q.out)
              have HGL : Aside0 (wx.heap.size ≤ g ∧ g < wy.heap.size) := ⟨HRQ.out.1 g rfl⟩
              clear hwn hbn f0 f1 f2 f3 l0 l1 l2 l3 z2 HY
              go_wp2_with ((with_reducible refine gate_ (.store 41 (.tmp 107) (.tmp 106)) rfl ?_); refine Kd.R_store kE (w0 := wn) 0 rfl rfl 41 (.tmp 107) (.tmp 106) rfl 41 (g := g) (n := ln) (cap := c2) (o' := q * 4) (q : Int) 0 R ⟨0, 0, 0, 0⟩ (.agg #[.int .u8 0, .int .u8 0, .int .i64 0, .int .i64 0]) [.int .u8 0, .int .u8 0, .int .i64 0, .int .i64 0] (evc y).toList (fun j => wx.heap.size ≤ j ∧ j < wy.heap.size) (fun _ => False) rfl (by simp [kE, flat]) rfl rfl info41s (fun q hq => by simp at hq; rcases hq with rfl | rfl | rfl | rfl <;> rfl) HRN.out (by omega) (by omega) rfl HYN.out (Nat.le_refl 4) rfl (fun _ h => h.elim) (Below.refl _ _) ?_; intro w7 hR7 _ hg7; have HR7 := Aside0.mk hR7; have HG7 := Aside0.mk hg7; clear hR7 hg7)
              go_roundg gm
              case measure => exact Nat.lt_succ_self _
              case rel =>
                refine ⟨q + 1, _, by simp, ⟨by have := HQ.out; omega⟩, HR7, ⟨by rw [List.length_set]; exact HRL.out⟩, ⟨fun j hj => ?_⟩, ⟨?_⟩, ⟨?_⟩, ⟨?_⟩⟩
                · rw [Int.toNat_natCast, List.getElem?_set_ne (by omega)]
                  exact HRE.out j (by omega)
                · refine HTN.out.move HG7.out.size (fun j hj hlt => HG7.out.block j hlt (fun e => ?_))
                  injection e with e
                  have h1 := HGL.out
                  have h2 := H8.out.2
                  have h3 := HSD.out
                  rcases hj with hj | hj
                  · omega
                  · omega
                · exact HBN.out.grown HG7.out HBN.out.size (fun k e => by cases e; have h1 := HGL.out.1; have h2 := HBX.out.size; omega)
                · refine (HG7.out.block b8 (blk_lt H8N.out) (fun e => ?_)).trans H8N.out
                  injection e with e
                  have h1 := HGL.out.1
                  have h2 := H8.out.2
                  omega
            · have hq : ¬ ((q : Int) < (ln : Int)) := by omega
              have HTF : Aside0 (Two (fun j => w0.heap.size ≤ j) wr ba bb M) := ⟨HTQ.out.narrow (fun j hj _ => hj.elim (fun h => h.1) (fun h => by have h1 := HBX.out.size; have h2 := HBDD.out.size; omega))⟩
              have HBF := HBQ
              have HSTF := HSTQ
              have HWFF : Aside0 (WF M (1 + tot (l.take (k + 1)))) := ⟨by
                have h := HWFQ.out
                rw [HLE.out] at h
                rw [HTK.out, HLE.out, ← Nat.add_assoc]
                exact h⟩
              have HL8F : Aside0 (M.L.length ≤ 1000000 ∧ M.O.length ≤ 1000000) := ⟨by
                have h := HWFQ.out
                rw [HLE.out] at h
                have h1 := h.L
                have h2 := h.O
                have h3 := HBD.out
                omega⟩
              clear HQ HRQ HRL HRE HTQ HBQ H8Q
              obtain ⟨fpC, fpD, psC, vN6, vO6, vL6, vP6, hA6, hB6, _, _⟩ := HTF.out
              obtain ⟨NO, hNO⟩ : ∃ q, M.O.length = q := ⟨_, rfl⟩
              obtain ⟨far, hfar⟩ : ∃ q, M.far = q := ⟨_, rfl⟩
              obtain ⟨AP, cP, hvP, _, _⟩ := Kd.R_reads hB6.rO
              rw [hNO] at hvP
              have y1 := hB6.cO
              have y2 := hB6.cF
              rw [hvP] at y1
              rw [hfar] at y2
              have hNO8 : NO ≤ 1000000 := by rw [← hNO]; exact HL8F.out.2
              have hwO : IntKind.i64.wrap ((NO : Int) - 1) = (NO : Int) - 1 := IntWalk.i64_in _ (by omega)
              have hop := open_c ba psC M vN6 vO6 wr.drew _ (hA6.below (below_drew (Below.refl _ wr))) HL8F.out.2
              have hfa := far_c ba psC M vN6 vO6 wr.drew _ (hA6.below (below_drew (Below.refl _ wr)))
              rw [hNO] at hop
              rw [hfar] at hfa
              have HOP := Aside0.mk hop
              have HFA := Aside0.mk hfa
              clear hop hfa hA6 hB6 hNO hfar hvP
              go_upto_region 27 with (fail)
              refine wp_region_noPanic ?_
              refine wp_region_held_drew (S := (fun w' => w'.cell? ⟨bb, 1, none⟩ = some (.slice AP NO cP) ∧ w'.cell? ⟨bb, 2, none⟩ = some (.int .i64 far))) (by kernel_rfl) ?_ (fun hHeld => ?_)
              · exact ⟨y1, y2⟩
              refine wpAnyH_take (i := 0) (v := ?_) rfl (by kernel_rfl) (by kernel_rfl) (by kernel_rfl) (fun _ _ _ h => h) (Or.inl ⟨by rfl, ?_⟩) (by assumption) ?_
              rotate_left
              · intro w hSw
                go_simp
                try with_reducible rfl
              simp only [Act.put, List.getElem_toArray, List.getElem_cons_zero, List.getElem_cons_succ, List.setIfInBounds_toArray, List.set_cons_zero, List.set_cons_succ]
              refine wpAnyH_take (i := 2) (v := ?_) rfl (by kernel_rfl) (by kernel_rfl) (by kernel_rfl) (fun _ _ _ h => h) (Or.inl ⟨by rfl, ?_⟩) (by assumption) ?_
              rotate_left
              · intro w hSw
                go_simp
                try with_reducible rfl
              simp only [Act.put, List.getElem_toArray, List.getElem_cons_zero, List.getElem_cons_succ, List.setIfInBounds_toArray, List.set_cons_zero, List.set_cons_succ]
              refine wpAnyH_take (i := 3) (v := ?_) rfl (by kernel_rfl) (by kernel_rfl) (by kernel_rfl) (fun _ _ _ h => h) (Or.inl ⟨by rfl, ?_⟩) (by assumption) ?_
              rotate_left
              · intro w hSw
                go_simp
                try with_reducible rfl
              simp only [Act.put, List.getElem_toArray, List.getElem_cons_zero, List.getElem_cons_succ, List.setIfInBounds_toArray, List.set_cons_zero, List.set_cons_succ]
              refine wpAnyH_take (i := 4) (v := ?_) rfl (by kernel_rfl) (by kernel_rfl) (by kernel_rfl) (fun _ _ _ h => h) (Or.inl ⟨by rfl, ?_⟩) (by assumption) ?_
              rotate_left
              · intro w hSw
                go_simp
                try with_reducible rfl
              simp only [Act.put, List.getElem_toArray, List.getElem_cons_zero, List.getElem_cons_succ, List.setIfInBounds_toArray, List.set_cons_zero, List.set_cons_succ]
              refine wpAnyH_take (i := 5) (v := ?_) rfl (by kernel_rfl) (by kernel_rfl) (by kernel_rfl) (fun _ _ _ h => h) (Or.inl ⟨by rfl, ?_⟩) (by assumption) ?_
              rotate_left
              · intro w hSw
                go_simp
                try with_reducible rfl
              simp only [Act.put, List.getElem_toArray, List.getElem_cons_zero, List.getElem_cons_succ, List.setIfInBounds_toArray, List.set_cons_zero, List.set_cons_succ]
              refine wpAnyH_take (i := 6) (v := ?_) rfl (by kernel_rfl) (by kernel_rfl) (by kernel_rfl) (fun _ _ _ h => h) (Or.inl ⟨by rfl, ?_⟩) (by assumption) ?_
              rotate_left
              · intro w hSw
                go_simp
                try with_reducible rfl
              simp only [Act.put, List.getElem_toArray, List.getElem_cons_zero, List.getElem_cons_succ, List.setIfInBounds_toArray, List.set_cons_zero, List.set_cons_succ]
              refine wpAnyH_take (i := 7) (v := ?_) rfl (by kernel_rfl) (by kernel_rfl) (by kernel_rfl) (fun _ _ _ h => h) (Or.inl ⟨by rfl, ?_⟩) (by assumption) ?_
              rotate_left
              · intro w hSw
                go_simp
                try with_reducible rfl
              simp only [Act.put, List.getElem_toArray, List.getElem_cons_zero, List.getElem_cons_succ, List.setIfInBounds_toArray, List.set_cons_zero, List.set_cons_succ]
              refine wpAnyH_ready (rs := [1]) (by kernel_rfl) (by simp) ?_
              refine AllReadyH.cons rfl (fun K hK => ?_) AllReadyH.nil
              go_simp
              refine HOP.out.mono ?_
              rintro _ w9 ⟨rfl, h9⟩
              rw [h9]
              clear h9 w9
              refine hK.out _ _ ⟨y1, y2⟩ (fun hHeld2 => ?_)
              clear hK K hHeld
              have hHeld := hHeld2
              clear hHeld2
              try simp only [Act.put, List.getElem_toArray, List.getElem_cons_zero, List.getElem_cons_succ, List.setIfInBounds_toArray, List.set_cons_zero, List.set_cons_succ]
              refine wpAnyH_take (i := 8) (v := ?_) rfl (by kernel_rfl) (by kernel_rfl) (by kernel_rfl) (fun _ _ _ h => h) (Or.inl ⟨by rfl, ?_⟩) (by assumption) ?_
              rotate_left
              · intro w hSw
                go_simp
                try with_reducible rfl
              simp only [Act.put, List.getElem_toArray, List.getElem_cons_zero, List.getElem_cons_succ, List.setIfInBounds_toArray, List.set_cons_zero, List.set_cons_succ]
              refine wpAnyH_take (i := 9) (v := ?_) rfl (by kernel_rfl) (by kernel_rfl) (by kernel_rfl) (fun _ _ _ h => h) (Or.inl ⟨by rfl, ?_⟩) (by assumption) ?_
              rotate_left
              · intro w hSw
                go_simp
                try with_reducible rfl
              simp only [Act.put, List.getElem_toArray, List.getElem_cons_zero, List.getElem_cons_succ, List.setIfInBounds_toArray, List.set_cons_zero, List.set_cons_succ]
              refine wpAnyH_take (i := 10) (v := ?_) rfl (by kernel_rfl) (by kernel_rfl) (by kernel_rfl) (fun _ _ _ h => h) (Or.inl ⟨by rfl, ?_⟩) (by assumption) ?_
              rotate_left
              · intro w hSw
                go_simp
                try with_reducible rfl
              simp only [Act.put, List.getElem_toArray, List.getElem_cons_zero, List.getElem_cons_succ, List.setIfInBounds_toArray, List.set_cons_zero, List.set_cons_succ]
              refine wpAnyH_take (i := 12) (v := ?_) rfl (by kernel_rfl) (by kernel_rfl) (by kernel_rfl) (fun _ _ _ h => h) (Or.inl ⟨by rfl, ?_⟩) (by assumption) ?_
              rotate_left
              · intro w hSw
                go_simp
                try with_reducible rfl
              simp only [Act.put, List.getElem_toArray, List.getElem_cons_zero, List.getElem_cons_succ, List.setIfInBounds_toArray, List.set_cons_zero, List.set_cons_succ]
              refine wpAnyH_take (i := 13) (v := ?_) rfl (by kernel_rfl) (by kernel_rfl) (by kernel_rfl) (fun _ _ _ h => h) (Or.inl ⟨by rfl, ?_⟩) (by assumption) ?_
              rotate_left
              · intro w hSw
                go_simp
                try with_reducible rfl
              simp only [Act.put, List.getElem_toArray, List.getElem_cons_zero, List.getElem_cons_succ, List.setIfInBounds_toArray, List.set_cons_zero, List.set_cons_succ]
              refine wpAnyH_take (i := 14) (v := ?_) rfl (by kernel_rfl) (by kernel_rfl) (by kernel_rfl) (fun _ _ _ h => h) (Or.inl ⟨by rfl, ?_⟩) (by assumption) ?_
              rotate_left
              · intro w hSw
                go_simp
                try with_reducible rfl
              simp only [Act.put, List.getElem_toArray, List.getElem_cons_zero, List.getElem_cons_succ, List.setIfInBounds_toArray, List.set_cons_zero, List.set_cons_succ]
              refine wpAnyH_take (i := 15) (v := ?_) rfl (by kernel_rfl) (by kernel_rfl) (by kernel_rfl) (fun _ _ _ h => h) (Or.inl ⟨by rfl, ?_⟩) (by assumption) ?_
              rotate_left
              · intro w hSw
                go_simp
                try with_reducible rfl
              simp only [Act.put, List.getElem_toArray, List.getElem_cons_zero, List.getElem_cons_succ, List.setIfInBounds_toArray, List.set_cons_zero, List.set_cons_succ]
              refine wpAnyH_ready (rs := [11]) (by kernel_rfl) (by simp) ?_
              refine AllReadyH.cons rfl (fun K hK => ?_) AllReadyH.nil
              go_simp
              refine HFA.out.mono ?_
              rintro _ w9 ⟨rfl, h9⟩
              rw [h9]
              clear h9 w9
              refine hK.out _ _ ⟨y1, y2⟩ (fun hHeld2 => ?_)
              clear hK K hHeld
              have hHeld := hHeld2
              clear hHeld2
              try simp only [Act.put, List.getElem_toArray, List.getElem_cons_zero, List.getElem_cons_succ, List.setIfInBounds_toArray, List.set_cons_zero, List.set_cons_succ]
              refine wpAnyH_take (i := 16) (v := ?_) rfl (by kernel_rfl) (by kernel_rfl) (by kernel_rfl) (fun _ _ _ h => h) (Or.inl ⟨by rfl, ?_⟩) (by assumption) ?_
              rotate_left
              · intro w hSw
                go_simp
                try with_reducible rfl
              simp only [Act.put, List.getElem_toArray, List.getElem_cons_zero, List.getElem_cons_succ, List.setIfInBounds_toArray, List.set_cons_zero, List.set_cons_succ]
              refine wpAnyH_take (i := 17) (v := ?_) rfl (by kernel_rfl) (by kernel_rfl) (by kernel_rfl) (fun _ _ _ h => h) (Or.inl ⟨by rfl, ?_⟩) (by assumption) ?_
              rotate_left
              · intro w hSw
                go_simp
                try with_reducible rfl
              simp only [Act.put, List.getElem_toArray, List.getElem_cons_zero, List.getElem_cons_succ, List.setIfInBounds_toArray, List.set_cons_zero, List.set_cons_succ]
              refine wpAnyH_done (by kernel_rfl) ?_ _
              refine NoPanic.normal ?_
              obtain ⟨wz, hwz⟩ : ∃ q, wr.drew = q := ⟨_, rfl⟩
              rw [hwz]
              have HTZ : Aside0 (Two (fun j => w0.heap.size ≤ j) wz ba bb M) := ⟨by rw [← hwz]; exact HTF.out.below (below_drew (Below.refl _ wr))⟩
              have HBZ : Aside0 (Below w0.heap.size w0 wz) := ⟨by rw [← hwz]; exact below_drew HBF.out⟩
              clear hwz y1 y2 hHeld HOP HFA
              go_wp2_with (fail)
              go_roundg gn
              case measure => exact Nat.lt_succ_self _
              case rel => exact ⟨k + 1, M, by simp, HTZ, HBZ, ⟨by have := HK.out; omega⟩, HSTF, HWFF⟩
      · have q0 : ¬ ((k : Int) < (n : Int)) := by omega
        obtain ⟨fpA, fpB, ps, vN, vO, vL, vP, hAA, hBB, _, _⟩ := HTW.out
        have hLt := tot_take l k
        have hst := HSM.out.t
        have hL8 : m.L.length ≤ 1000000 := by have h1 := HWF.out.L; omega
        have hO8 : m.O.length ≤ 1000000 := by have h2 := HWF.out.O; omega
        obtain ⟨far, hfar⟩ : ∃ q, m.far = q := ⟨_, rfl⟩
        have hfc := far_c ba ps m vN vO wr _ hAA
        rw [hfar] at hfc
        have HFC := Aside0.mk hfc
        have HDA := Aside0.mk (done_c ba ps m vN vO far wr _ hAA HST.out hL8 hO8)
        have HBB := Aside0.mk hBB
        have HFAR := Aside0.mk hfar
        have HN8 : Aside0 (m.L.length ≤ 1000000 ∧ m.O.length ≤ 1000000) := ⟨hL8, hO8⟩
        clear hfc hAA hBB hfar hst hLt hL8 hO8
        go_wp2_with (first
          | (refine HFC.out.mono ?_; rintro _ w9 ⟨rfl, h9⟩; rw [h9]; clear h9 w9)
          | (refine HDA.out.mono ?_))
        intro _ w3 hd3
        obtain ⟨b3, v3, rfl, r3⟩ := hd3.one
        have x13 := pw_cell_below b3 HBB.out.cF
        rw [HFAR.out] at x13
        have HDB := Aside0.mk (rdone_c bb m vL vP far w3 _ (HBB.out.below b3) HST.out HN8.out.1 HN8.out.2)
        have HB3 : Aside0 (Below w0.heap.size w0 w3) := ⟨HB.out.trans (b3.mono HB.out.size)⟩
        obtain ⟨DV, hDV⟩ : ∃ q, doneV m far = q := ⟨_, rfl⟩
        have hN8 : DV.length ≤ 1000000 := by rw [← hDV]; exact Nat.le_trans (len_doneV _ _) HN8.out.1
        obtain ⟨N, hN⟩ : ∃ q, DV.length = q := ⟨_, rfl⟩
        rw [hDV] at r3
        obtain ⟨A3, c3, rfl, hle3, hc3⟩ := Kd.R_reads r3
        rw [hN] at r3 hle3 hc3 hN8 ⊢
        have HC3 := Aside0.mk hc3
        have HDV := Aside0.mk hDV
        have HN := Aside0.mk hN
        obtain ⟨code, hcode⟩ : ∃ q, doneC m far = q := ⟨_, rfl⟩
        have HCODE := Aside0.mk hcode
        rw [hcode]
        clear r3 b3 hd3 hc3 hDV hN hcode HDA HFC
        go_wp2_with (refine HDB.out.mono ?_)
        intro _ w4 hd4
        obtain ⟨b4, v4, rfl, r4⟩ := hd4.one
        rw [HDV.out] at r4
        obtain ⟨A4, c4, rfl, hle4, hc4⟩ := Kd.R_reads r4
        rw [HN.out] at hc4 hle4 ⊢
        rw [HCODE.out]
        have HSA := Aside0.mk (same_c A3 A4 N c3 c4 DV w4 (Kd.C_below HC3.out b4) hc4)
        have HB4 : Aside0 (Below w0.heap.size w0 w4) := ⟨HB3.out.trans (b4.mono HB3.out.size)⟩
        clear b4 hd4 r4 hc4 HDB x13
        go_wp2_with (first
          | (refine HSA.out.mono ?_; rintro _ w5 ⟨rfl, h5⟩; have HB5 : Aside0 (Below w0.heap.size w0 w5) := ⟨HB4.out.trans (h5.mono HB4.out.size)⟩; clear h5)
          | (refine (wakes_c _).mono ?_; rintro _ w6 ⟨rfl, h6⟩; have HB6 : Aside0 (Below w0.heap.size w0 w6) := ⟨HB5.out.trans (h6.mono HB5.out.size)⟩; clear h6))
        go_ret
        exact ⟨rfl, HB6.out⟩
end Go.Proofs.Ytfaibpdoalbkpaa.Bu
