/- BuildTree walked. -/
import Derived.Test.YtfaibpdoalbkpaaTp
namespace Go.Proofs.Ytfaibpdoalbkpaa.Bu
open Go.RowKit Go.Proofs.YtfaibpdoalbkpaaW.PrintWords Go.Proofs.YtfaibpdoalbkpaaW.PrintLast Go.Proofs.YtfaibpdoalbkpaaW.PrintMore
attribute [local go_sem] max2_int min2_int max_two min_two max_three min_three max_four min_four
set_option linter.unusedVariables false
set_option linter.unusedSimpArgs false
theorem TI.putE {m : Bl} {n : Nat} {at_ : Int} {l : List Ev} (h : TI m) (hw : WF m n) : TI (if putE m at_ l = 0 then putB at_ m l else m) ∧ WF (if putE m at_ l = 0 then putB at_ m l else m) (n + l.length) := by
  by_cases hp : Bu.putE m at_ l = 0
  · rw [if_pos hp]
    unfold Bu.putE at hp
    by_cases ha : at_ < 0 ∨ 1048576 < at_
    · rw [if_pos ha] at hp; cases hp
    rw [if_neg ha] at hp
    exact TI.put (by omega) h hw hp
  · rw [if_neg hp]
    exact ⟨h, ⟨hw.o, hw.f, by have := hw.L; omega, by have := hw.O; omega⟩⟩

set_option maxRecDepth 100000 in
set_option maxHeartbeats 8000000 in
theorem tree_c (A : Option Addr) (n c : Nat) (l : List ActM) (more : Int) (w : World) (hR : ReadsRow (RAct w) 3 w A n l) (hm : 0 ≤ more ∧ more ≤ 65535) : Calls Try.prog 6 #[.slice A n c, .int .u16 more] w fun e w' => WkP w e w' := by
  have hln := hR.1
  have hn8 := hR.2.1
  have HR := Aside0.mk hR
  have HLN := Aside0.mk hln
  have HGR := Aside0.mk (great_c A n c l w hR)
  clear hR hln
  go_enter Try.func6, Try.ntmps6
  go_wp2_with (refine HGR.out.mono ?_)
  rintro _ w0 ⟨⟨b, rfl, hsm⟩, rfl⟩
  clear HGR
  cases b
  case true =>
    clear hsm
    go_wp2_with (refine (wakes_c _).mono ?_)
    rintro _ w1 ⟨rfl, hb⟩
    have HB := Aside0.mk hb
    clear hb
    go_wp2_with (fail)
    go_ret
    exact ⟨rfl, HB.out⟩
  case false =>
    have HSM := Aside0.mk (hsm rfl)
    clear hsm
    go_wp2_with (refine (new_c 1 _).mono ?_)
    rintro _ w1 ⟨b, ps0, vN0, vO0, rfl, h1, b1⟩
    have H1 := Aside0.mk h1
    have B1 := Aside0.mk b1
    clear h1 b1
    go_upto_block 0 with (fail)
    go_wp2_with (fail)
    go_loopg [6] n (fun gk v6 wr => ∃ (k : Nat) (ps : List Nat) (vN vO : Value) (m : Bl), v6 = .int .i64 (k : Int) ∧ Aside0 (BT wr (fun j => w0.heap.size ≤ j) b ps m vN vO) ∧ Aside0 (Below w0.heap.size w0 wr) ∧ Aside0 (k + gk = n) ∧ Aside0 (TI m) ∧ Aside0 (WF m (1 + tot (l.take k))))
    case atStart => exact ⟨0, ps0, vN0, vO0, newB 1, rfl, H1, B1, ⟨by omega⟩, ⟨TI.new⟩, ⟨wf1⟩⟩
    case round =>
      clear H1 B1
      obtain ⟨k, ps, vN, vO, m, rfl, HBT, HB, HK, HTI, HWF⟩ := hrel
      by_cases hkn : k < n
      · obtain ⟨gn, rfl⟩ : ∃ gn, gk = gn + 1 := ⟨gk - 1, by have := HK.out; omega⟩
        obtain ⟨x, hx⟩ : ∃ x, l[k]? = some x := ⟨_, List.getElem?_eq_getElem (by rw [HLN.out]; exact hkn)⟩
        obtain ⟨ad, hA, _⟩ := HR.out.2.2 (by omega)
        subst hA
        obtain ⟨A1, c1, hcl, hL, e0, e1, e2⟩ := act_at HR.out hx
        obtain ⟨xa, hxa⟩ : ∃ q, x.a = q := ⟨_, rfl⟩
        rw [hxa] at e1
        have E1 := Aside0.mk e1
        have E2 := Aside0.mk e2
        have d1 := pw_cell_below HB.out e1
        have d2 := pw_cell_below HB.out e2
        have htk : tot (l.take (k + 1)) = tot (l.take k) + x.l.length := by rw [take_snoc hx, tot_append]; simp [tot]
        have HTK := Aside0.mk htk
        have hbd : 1 + tot (l.take k) + x.l.length ≤ 1000000 := by
          have h1 := tot_take l (k + 1)
          have h2 := HSM.out.t
          omega
        have HPUT := Aside0.mk (put_c b ps m vN vO A1 x.l.length c1 x.l xa wr.drew _ (HBT.out.below (below_drew (Below.refl _ wr))) (fun w' hf => evs_below hL ((below_drew HB.out).trans (hf.below HB.out.size (fun j hj => hj)))) _ HWF.out hbd)
        have p0 : (0 : Int) ≤ (k : Int) := by omega
        have p1 : (k : Int) < (n : Int) := by omega
        have hw1 : IntKind.i64.wrap ((k : Int) + 1) = (k : Int) + 1 := IntWalk.i64_in _ (by omega)
        clear hx hL hcl hxa e0 e1 e2 htk hbd
        go_upto_region 7 with (fail)
        refine wp_region_noPanic ?_
        refine wp_region_held_drew (S := (fun w' => w'.cell? ⟨(ad.add (k * 3)).block, (ad.add (k * 3)).off + 1, none⟩ = some (.int .i64 xa) ∧ w'.cell? ⟨(ad.add (k * 3)).block, (ad.add (k * 3)).off + 2, none⟩ = some (.slice A1 x.l.length c1))) (by kernel_rfl) ?_ (fun hHeld => ?_)
        · exact ⟨d1, d2⟩
        refine wpAnyH_take (i := 0) (v := ?_) rfl (by kernel_rfl) (by kernel_rfl) (by kernel_rfl) (fun _ _ _ h => h) (Or.inl ⟨by rfl, ?_⟩) (by assumption) ?_
        rotate_left
        · intro w hSw
          go_simp
          try with_reducible rfl
        simp only [Act.put, List.getElem_toArray, List.getElem_cons_zero, List.getElem_cons_succ, List.setIfInBounds_toArray, List.set_cons_zero, List.set_cons_succ]
        refine wpAnyH_take (i := 1) (v := ?_) rfl (by kernel_rfl) (by kernel_rfl) (by kernel_rfl) (fun _ _ _ h => h) (Or.inl ⟨by rfl, ?_⟩) (by assumption) ?_
        rotate_left
        · intro w hSw
          go_simp
          try with_reducible rfl
        simp only [Act.put, List.getElem_toArray, List.getElem_cons_zero, List.getElem_cons_succ, List.setIfInBounds_toArray, List.set_cons_zero, List.set_cons_succ]
        refine wpAnyH_take (i := 2) (v := ?_) rfl (by kernel_rfl) (by kernel_rfl) (by kernel_rfl) (fun _ _ _ h => h) (Or.inl ⟨by rfl, ?_⟩) (by assumption) ?_
        rotate_left
        · intro w hSw
          go_simp
          try with_reducible rfl
        simp only [Act.put, List.getElem_toArray, List.getElem_cons_zero, List.getElem_cons_succ, List.setIfInBounds_toArray, List.set_cons_zero, List.set_cons_succ]
        refine wpAnyH_take (i := 3) (v := ?_) rfl (by kernel_rfl) (by kernel_rfl) (by kernel_rfl) (fun _ _ _ h => h) (Or.inl ⟨by rfl, ?_⟩) (by assumption) ?_
        rotate_left
        · intro w hSw
          go_simp
          try with_reducible rfl
        simp only [Act.put, List.getElem_toArray, List.getElem_cons_zero, List.getElem_cons_succ, List.setIfInBounds_toArray, List.set_cons_zero, List.set_cons_succ]
        refine wpAnyH_take (i := 4) (v := ?_) rfl (by kernel_rfl) (by kernel_rfl) (by kernel_rfl) (fun _ _ _ h => h) (Or.inl ⟨by rfl, ?_⟩) (by assumption) ?_
        rotate_left
        · intro w hSw
          go_simp
          try with_reducible rfl
        simp only [Act.put, List.getElem_toArray, List.getElem_cons_zero, List.getElem_cons_succ, List.setIfInBounds_toArray, List.set_cons_zero, List.set_cons_succ]
        refine wpAnyH_take (i := 5) (v := ?_) rfl (by kernel_rfl) (by kernel_rfl) (by kernel_rfl) (fun _ _ _ h => h) (Or.inl ⟨by rfl, ?_⟩) (by assumption) ?_
        rotate_left
        · intro w hSw
          go_simp
          try with_reducible rfl
        simp only [Act.put, List.getElem_toArray, List.getElem_cons_zero, List.getElem_cons_succ, List.setIfInBounds_toArray, List.set_cons_zero, List.set_cons_succ]
        refine wpAnyH_take (i := 6) (v := ?_) rfl (by kernel_rfl) (by kernel_rfl) (by kernel_rfl) (fun _ _ _ h => h) (Or.inl ⟨by rfl, ?_⟩) (by assumption) ?_
        rotate_left
        · intro w hSw
          go_simp
          try with_reducible rfl
        simp only [Act.put, List.getElem_toArray, List.getElem_cons_zero, List.getElem_cons_succ, List.setIfInBounds_toArray, List.set_cons_zero, List.set_cons_succ]
        refine wpAnyH_take (i := 7) (v := ?_) rfl (by kernel_rfl) (by kernel_rfl) (by kernel_rfl) (fun _ _ _ h => h) (Or.inl ⟨by rfl, ?_⟩) (by assumption) ?_
        rotate_left
        · intro w hSw
          go_simp
          try with_reducible rfl
        simp only [Act.put, List.getElem_toArray, List.getElem_cons_zero, List.getElem_cons_succ, List.setIfInBounds_toArray, List.set_cons_zero, List.set_cons_succ]
        refine wpAnyH_take (i := 8) (v := ?_) rfl (by kernel_rfl) (by kernel_rfl) (by kernel_rfl) (fun _ _ _ h => h) (Or.inl ⟨by rfl, ?_⟩) (by assumption) ?_
        rotate_left
        · intro w hSw
          go_simp
          try with_reducible rfl
        simp only [Act.put, List.getElem_toArray, List.getElem_cons_zero, List.getElem_cons_succ, List.setIfInBounds_toArray, List.set_cons_zero, List.set_cons_succ]
        refine wpAnyH_take (i := 9) (v := ?_) rfl (by kernel_rfl) (by kernel_rfl) (by kernel_rfl) (fun _ _ _ h => h) (Or.inl ⟨by rfl, ?_⟩) (by assumption) ?_
        rotate_left
        · intro w hSw
          go_simp
          try with_reducible rfl
        simp only [Act.put, List.getElem_toArray, List.getElem_cons_zero, List.getElem_cons_succ, List.setIfInBounds_toArray, List.set_cons_zero, List.set_cons_succ]
        refine wpAnyH_take (i := 10) (v := ?_) rfl (by kernel_rfl) (by kernel_rfl) (by kernel_rfl) (fun _ _ _ h => h) (Or.inl ⟨by rfl, ?_⟩) (by assumption) ?_
        rotate_left
        · intro w hSw
          go_simp
          try with_reducible rfl
        simp only [Act.put, List.getElem_toArray, List.getElem_cons_zero, List.getElem_cons_succ, List.setIfInBounds_toArray, List.set_cons_zero, List.set_cons_succ]
        refine wpAnyH_ready (rs := [11]) (by kernel_rfl) (by simp) ?_
        refine AllReadyH.cons rfl (fun K hK => ?_) AllReadyH.nil
        go_simp
        refine HPUT.out.mono ?_
        rintro _ w5 ⟨rfl, ⟨ps5, vN5, vO5, h5⟩, f5⟩
        have hb5 : Below w0.heap.size w0 w5 := (below_drew HB.out).trans (f5.below HB.out.size (fun j hj => hj))
        have h5' := h5.mono (fp' := fun j => w0.heap.size ≤ j) (fun j hj => hj.elim (fun h => h) (fun h => Nat.le_trans (show w0.heap.size ≤ wr.drew.heap.size from HB.out.size) h))
        have H5 := Aside0.mk h5'
        have HB5 := Aside0.mk hb5
        have HT5 := Aside0.mk (HTI.out.putE (at_ := xa) (l := x.l) HWF.out)
        clear h5 h5' f5 HPUT
        refine hK.out _ _ ⟨pw_cell_below hb5 E1.out, pw_cell_below hb5 E2.out⟩ (fun hHeld2 => ?_)
        clear hK K hHeld
        have hHeld := hHeld2
        clear hHeld2
        try simp only [Act.put, List.getElem_toArray, List.getElem_cons_zero, List.getElem_cons_succ, List.setIfInBounds_toArray, List.set_cons_zero, List.set_cons_succ]
        refine wpAnyH_done (by kernel_rfl) ?_ _
        refine NoPanic.normal ?_
        clear hb5 hHeld d1 d2
        go_wp2_with (fail)
        go_roundg gn
        case measure => exact Nat.lt_succ_self _
        case rel => exact ⟨k + 1, ps5, vN5, vO5, _, by simp, H5, HB5, ⟨by have := HK.out; omega⟩, ⟨HT5.out.1⟩, ⟨by rw [HTK.out, ← Nat.add_assoc]; exact HT5.out.2⟩⟩
      · have q : ¬ ((k : Int) < (n : Int)) := by omega
        have hwf := HWF.out
        have htt := tot_take l k
        have hst := HSM.out.t
        have hmf := hwf.f
        have hL8 := hwf.L
        have hO8 := hwf.O
        obtain ⟨far, hfar⟩ : ∃ q, m.far = q := ⟨_, rfl⟩
        have hfc := far_c b ps m vN vO wr _ HBT.out
        rw [hfar] at hfc hmf
        have HFC := Aside0.mk hfc
        have HFAR := Aside0.mk hfar
        obtain ⟨N, hN⟩ : ∃ N, (if (1048576 : Int) < far + more then (1048576 : Int) else far + more) = N := ⟨_, rfl⟩
        have hN2 : far ≤ N ∧ N ≤ 1048576 := by rw [← hN]; split <;> omega
        have hN' : (if far + more < (1048576 : Int) then far + more else (1048576 : Int)) = N := by rw [← hN]; split <;> split <;> omega
        have hw2 : IntKind.i64.wrap more = more := IntWalk.i64_in _ (by omega)
        have hw3 : IntKind.i64.wrap (far + more) = far + more := IntWalk.i64_in _ (by omega)
        have HDN := Aside0.mk (done_c b ps m vN vO N wr _ HBT.out HTI.out.srt (by omega) (by omega))
        have HCH : Aside0 (checkB (doneL m N) N = 0) := ⟨HTI.out.check hwf (by rw [hfar]; exact hN2.1) hN2.2⟩
        have HLL : Aside0 ((doneL m N).length ≤ 1000000) := ⟨by rw [len_doneL]; omega⟩
        have HNB : Aside0 (¬ (N < m.far ∨ 1048576 < N)) := ⟨by rw [hfar]; omega⟩
        clear HK hwf hfc hfar HBT HTI HWF HSM hL8 hO8 htt hst
        by_cases hmin : far + more < 1048576
        · have hNe : far + more = N := by rw [if_pos hmin] at hN'; exact hN'
          clear hN hN'
          go_wp2_with (first
            | (refine HFC.out.mono ?_; rintro _ w9 ⟨rfl, h9⟩; rw [h9]; clear h9 w9)
            | (refine HDN.out.mono ?_))
          rintro _ w2 ⟨b2, (⟨hbad, _⟩ | ⟨_, v, rfl, hr⟩)⟩
          · exact absurd hbad HNB.out
          obtain ⟨A2, c2, rfl, hle2, hc2⟩ := Kd.R_reads hr
          obtain ⟨LN, hLN⟩ : ∃ q, (doneL m N).length = q := ⟨_, rfl⟩
          rw [hLN] at hle2 hc2 ⊢
          have hck := check_c A2 LN c2 (doneL m N) N w2 hc2 hle2 (by rw [← hLN]; exact HLL.out)
          rw [HCH.out] at hck
          have HCK := Aside0.mk hck
          have HB2 : Aside0 (Below w0.heap.size w0 w2) := ⟨HB.out.trans (b2.mono HB.out.size)⟩
          clear b2 hr hle2 hc2 hLN hck HDN
          go_wp2_with (first
            | (refine HCK.out.mono ?_; rintro _ w3 ⟨rfl, h3⟩; have HB3 : Aside0 (Below w0.heap.size w0 w3) := ⟨HB2.out.trans (h3.mono HB2.out.size)⟩; clear h3)
            | (refine (wakes_c _).mono ?_; rintro _ w4 ⟨rfl, h4⟩; have HB4 : Aside0 (Below w0.heap.size w0 w4) := ⟨HB3.out.trans (h4.mono HB3.out.size)⟩; clear h4))
          go_ret
          exact ⟨rfl, HB4.out⟩
        · have hNe : N = 1048576 := by rw [if_neg hmin] at hN'; exact hN'.symm
          clear hN hN'
          subst hNe
          go_wp2_with (first
            | (refine HFC.out.mono ?_; rintro _ w9 ⟨rfl, h9⟩; rw [h9]; clear h9 w9)
            | (refine HDN.out.mono ?_))
          rintro _ w2 ⟨b2, (⟨hbad, _⟩ | ⟨_, v, rfl, hr⟩)⟩
          · exact absurd hbad HNB.out
          obtain ⟨A2, c2, rfl, hle2, hc2⟩ := Kd.R_reads hr
          obtain ⟨LN, hLN⟩ : ∃ q, (doneL m 1048576).length = q := ⟨_, rfl⟩
          rw [hLN] at hle2 hc2 ⊢
          have hck := check_c A2 LN c2 (doneL m 1048576) 1048576 w2 hc2 hle2 (by rw [← hLN]; exact HLL.out)
          rw [HCH.out] at hck
          have HCK := Aside0.mk hck
          have HB2 : Aside0 (Below w0.heap.size w0 w2) := ⟨HB.out.trans (b2.mono HB.out.size)⟩
          clear b2 hr hle2 hc2 hLN hck HDN
          go_wp2_with (first
            | (refine HCK.out.mono ?_; rintro _ w3 ⟨rfl, h3⟩; have HB3 : Aside0 (Below w0.heap.size w0 w3) := ⟨HB2.out.trans (h3.mono HB2.out.size)⟩; clear h3)
            | (refine (wakes_c _).mono ?_; rintro _ w4 ⟨rfl, h4⟩; have HB4 : Aside0 (Below w0.heap.size w0 w4) := ⟨HB3.out.trans (h4.mono HB3.out.size)⟩; clear h4))
          go_ret
          exact ⟨rfl, HB4.out⟩
end Go.Proofs.Ytfaibpdoalbkpaa.Bu
