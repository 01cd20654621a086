/- tree.Check walked. -/
import Derived.Test.YtfaibpdoalbkpaaWk
namespace Go.Proofs.Ytfaibpdoalbkpaa.Bu
open Go.RowKit Go.Proofs.YtfaibpdoalbkpaaW.PrintWords Go.Proofs.YtfaibpdoalbkpaaW.PrintLast Go.Proofs.YtfaibpdoalbkpaaW.PrintMore
attribute [local go_sem] max2_int min2_int max_two min_two max_three min_three max_four min_four
set_option linter.unusedVariables false
set_option linter.unusedSimpArgs false
def goC : List (Int × Int) → List Nd → Int
  | _, [] => 0
  | st, x :: r =>
    if x.d < 1 ∨ (st.length : Int) < x.d then 60
    else match st[x.d.toNat - 1]? with
      | none => 60
      | some p => if x.f < p.1 ∨ x.t < x.f ∨ p.2 < x.t then 60 else goC (st.take (x.d.toNat - 1) ++ [(x.t, p.2), (x.f, x.t)]) r
def checkB (l : List Nd) (n : Int) : Int :=
  match l with
  | [] => 60
  | h :: r => if n < 0 ∨ 1048576 < n ∨ h.k ≠ 1 ∨ h.f ≠ 0 ∨ h.t ≠ n ∨ h.d ≠ 0 then 60 else goC [(0, n)] r
theorem goC_cons {st : List (Int × Int)} {x : Nd} {r : List Nd} : goC st (x :: r) = (if x.d < 1 ∨ (st.length : Int) < x.d then 60
    else match st[x.d.toNat - 1]? with
      | none => 60
      | some p => if x.f < p.1 ∨ x.t < x.f ∨ p.2 < x.t then 60 else goC (st.take (x.d.toNat - 1) ++ [(x.t, p.2), (x.f, x.t)]) r) := rfl
def ft (x : Nd) : Int × Int := (x.f, x.t)
theorem row_form {w : World} {ok : Nat → Prop} {v : Value} {xs : List Nd} (h : kN.R 38 w 0 ok v xs) (h1 : 1 ≤ xs.length) : ∃ g cap, v = .slice (some ⟨g, 0, none⟩) xs.length cap ∧ xs.length ≤ cap := by
  obtain ⟨_, inner, hown, _⟩ := h
  rcases hown.2 with ⟨_, h2⟩ | ⟨g, cap, cur, h2, _, _, h3, _⟩
  · omega
  · exact ⟨g, cap, h2, h3⟩
theorem ft_step {S : List Nd} {d' : Nat} {p x : Nd} (hp : S[d']? = some p) : (((S.take (d' + 1)).set d' ⟨p.k, x.t, p.t, p.d⟩) ++ [x]).map ft = (S.map ft).take d' ++ [(x.t, p.t), (x.f, x.t)] := by
  have hd := (List.getElem?_eq_some_iff.1 hp).1
  rw [List.take_add_one, hp]
  have hl : (S.take d').length = d' := by rw [List.length_take]; omega
  rw [List.set_append_right _ _ (by omega), hl, Nat.sub_self]
  simp [ft, List.map_take]
def CkP (w : World) (r : Int) (e : Ending) (w' : World) : Prop := e = .returned (.int .i64 r) ∧ Below w.heap.size w w'
set_option maxRecDepth 100000 in
set_option maxHeartbeats 8000000 in
theorem check_c (A : Option Addr) (n c : Nat) (l : List Nd) (N : Int) (w : World) (hX : kN.C w A n l) (hc : n ≤ c) (hn : n ≤ 1000000) : Calls Try.prog 20 #[.slice A n c, .int .i64 N] w fun e w' => CkP w (checkB l N) e w' := by
  have hfin : Aside0 (∀ (r : Int) (w' : World), checkB l N = r → Below w.heap.size w w' → CkP w (checkB l N) (.returned (.int .i64 r)) w') := ⟨fun r w' h hb => ⟨by rw [h], hb⟩⟩
  cases l with
  | nil =>
    have h0 : n = 0 := hX.1.symm
    subst h0
    have HF := Aside0.mk (hfin.out 60 w rfl (Below.refl _ _))
    clear hfin hX
    go_enter Try.func20, Try.ntmps20
    go_wp2_with (fail)
    all_goals go_ret
    all_goals exact HF.out
  | cons h0 r =>
    have hln : n = r.length + 1 := by have := hX.1; simpa using this.symm
    obtain ⟨ad, hA, _⟩ := hX.2.2 (by omega)
    subst hA
    obtain ⟨a0, a1, a2, a3⟩ := c_at hX (i := 0) (y := h0) rfl
    have ea : ad.add 0 = ad := by unfold Addr.add; simp
    rw [Nat.zero_mul, ea] at a0 a1 a2 a3
    clear ea
    have HLN := Aside0.mk hln
    have hb : checkB (h0 :: r) N = (if N < 0 ∨ 1048576 < N ∨ h0.k ≠ 1 ∨ h0.f ≠ 0 ∨ h0.t ≠ N ∨ h0.d ≠ 0 then 60 else goC [(0, N)] r) := rfl
    have HBE := Aside0.mk hb
    have p0 : ¬ ((n : Int) = 0) := by omega
    have p1 : (0 : Int) < (n : Int) := by omega
    have HX := Aside0.mk hX
    clear hX hb hln
    by_cases hN0 : N < 0
    · have HF := Aside0.mk (hfin.out 60 w (by rw [HBE.out, if_pos (.inl hN0)]) (Below.refl _ _))
      clear hfin HBE
      go_enter Try.func20, Try.ntmps20
      go_wp2_with (fail)
      go_ret
      exact HF.out
    by_cases hN1 : 1048576 < N
    · have HF := Aside0.mk (hfin.out 60 w (by rw [HBE.out, if_pos (.inr (.inl hN1))]) (Below.refl _ _))
      clear hfin HBE
      go_enter Try.func20, Try.ntmps20
      go_wp2_with (fail)
      go_ret
      exact HF.out
    by_cases hk : h0.k = 1
    rotate_left
    · have HF := Aside0.mk (hfin.out 60 w (by rw [HBE.out, if_pos (by simp [hk])]) (Below.refl _ _))
      have bb : (h0.k == 1) = false := beq_eq_false_iff_ne.mpr hk
      clear hfin HBE
      go_enter Try.func20, Try.ntmps20
      go_wp2_with (fail)
      go_ret
      exact HF.out
    by_cases hf : h0.f = 0
    rotate_left
    · have HF := Aside0.mk (hfin.out 60 w (by rw [HBE.out, if_pos (by simp [hf])]) (Below.refl _ _))
      have bb : (h0.f == 0) = false := beq_eq_false_iff_ne.mpr hf
      clear hfin HBE
      go_enter Try.func20, Try.ntmps20
      go_wp2_with (fail)
      go_ret
      exact HF.out
    by_cases ht : h0.t = N
    rotate_left
    · have HF := Aside0.mk (hfin.out 60 w (by rw [HBE.out, if_pos (by simp [ht])]) (Below.refl _ _))
      have bb : (h0.t == N) = false := beq_eq_false_iff_ne.mpr ht
      clear hfin HBE
      go_enter Try.func20, Try.ntmps20
      go_wp2_with (fail)
      go_ret
      exact HF.out
    by_cases hd : h0.d = 0
    rotate_left
    · have HF := Aside0.mk (hfin.out 60 w (by rw [HBE.out, if_pos (by simp [hd])]) (Below.refl _ _))
      have bb : (h0.d == 0) = false := beq_eq_false_iff_ne.mpr hd
      clear hfin HBE
      go_enter Try.func20, Try.ntmps20
      go_wp2_with (fail)
      go_ret
      exact HF.out
    have hbe := HBE.out
    rw [if_neg (by simp [hk, hf, ht, hd]; omega)] at hbe
    have HBG := Aside0.mk hbe
    rw [hk] at a0
    rw [hf] at a1
    rw [ht] at a2
    rw [hd] at a3
    have HH : Aside0 (h0 = ⟨1, 0, N, 0⟩) := ⟨by cases h0; simp_all⟩
    clear HBE hbe hk hf ht hd
    obtain ⟨i38, hi38, hz38⟩ := Option.map_eq_some_iff.1 info38s
    obtain ⟨P1, hP1⟩ : ∃ P, (if c = 1 then some ad else (some ad).map (·.add (1 * 4))) = P := ⟨_, rfl⟩
    have hcut := cut_from (P := Try.prog) 32 38 .i64 Try.underlying32 hi38 4 hz38 (some ad) n c 1 (by omega) (by omega)
    have hc1 : (1 : Int).toNat = 1 := rfl
    rw [hc1, hP1] at hcut
    have HC1 : Aside0 (kN.C w P1 r.length r) := ⟨by
      have h := Kd.C_drop (m := 1) (c := c) (k := kN) (xs := h0 :: r) (A := some ad) (w := w) (by have := HX.out; have h2 := HLN.out; rw [h2] at this; exact this) (by simp) (by simp; have := HLN.out; omega)
      have e : (if c = 1 then some ad else (some ad).map (·.add (1 * kN.sz))) = P1 := hP1
      rw [e] at h
      exact h⟩
    have I38 := Aside0.mk hi38
    obtain ⟨w1, hw1⟩ : ∃ X, w.alloc (.cells #[.int .u8 1, .int .i64 0, .int .i64 N, .int .i64 0] 38) = X := ⟨_, rfl⟩
    have hb1 : Below w.heap.size w w1 := by rw [← hw1]; exact below_alloc (Below.refl _ w) _
    have hR1 : kN.R 38 w1 0 (fun j => w.heap.size ≤ j) (.slice (some ⟨w.heap.size, 0, none⟩) 1 1) [⟨1, 0, N, 0⟩] := by
      refine ⟨fun k hk => Nat.le_of_eq (by simpa [Value.ownBlock] using hk), (ndc ⟨1, 0, N, 0⟩).toList, ⟨rfl, .inr ⟨w.heap.size, 1, ndc ⟨1, 0, N, 0⟩, rfl, Nat.zero_le _, by rw [← hw1]; exact heap_alloc_new _ _, Nat.le_refl _, by decide, rfl, rfl⟩⟩, ⟨rfl, ?_⟩⟩
      intro j q hq
      cases j with
      | zero =>
        simp at hq
        subst hq
        rfl
      | succ j => simp at hq
    have HR1 := Aside0.mk hR1
    have HB1 := Aside0.mk hb1
    have HLR : Aside0 (r.length = n - 1) := ⟨by have := HLN.out; omega⟩
    obtain ⟨n1, hn1⟩ : ∃ q, n - 1 = q := ⟨_, rfl⟩
    rw [hn1] at hcut HLR
    obtain ⟨cc1, hcc1⟩ : ∃ q, c - 1 = q := ⟨_, rfl⟩
    rw [hcc1] at hcut
    clear hP1 hb1 hR1 hi38 hz38 hc1 hcc1
    go_enter Try.func20, Try.ntmps20
    go_upto_block 0 with (fail)
    go_wp2_with (fail)
    clear hcut a0 a1 a2 a3
    go_loopg [5, 35] n1 (fun gk v5 v35 wr => ∃ (k : Nat) (S : List Nd) (g cap : Nat), v5 = .slice (some ⟨g, 0, none⟩) S.length cap ∧ v35 = .int .i64 (k : Int) ∧ Aside0 (k + gk = n1) ∧ Aside0 (kN.R 38 wr 0 (fun j => w.heap.size ≤ j) (.slice (some ⟨g, 0, none⟩) S.length cap) S) ∧ Aside0 (Below w.heap.size w wr) ∧ Aside0 (1 ≤ S.length ∧ S.length ≤ k + 1 ∧ S.length ≤ cap) ∧ Aside0 (checkB (h0 :: r) N = goC (S.map ft) (r.drop k)))
    case atStart => exact ⟨0, [⟨1, 0, N, 0⟩], _, 1, rfl, rfl, ⟨by omega⟩, HR1, HB1, ⟨by simp⟩, ⟨by rw [List.drop_zero]; exact HBG.out⟩⟩
    case round =>
      clear HR1 HB1 HBG
      obtain ⟨k, S, g, cap, rfl, rfl, HK, HR, HB, HSL, HGO⟩ := hrel
      by_cases hkn : k < n1
      · obtain ⟨gn, rfl⟩ : ∃ gn, gk = gn + 1 := ⟨gk - 1, by have := HK.out; omega⟩
        obtain ⟨x, hx⟩ : ∃ x, r[k]? = some x := ⟨_, List.getElem?_eq_getElem (by rw [HLR.out]; exact hkn)⟩
        obtain ⟨ad', hA, _⟩ := HC1.out.2.2 (by rw [HLR.out]; omega)
        subst hA
        obtain ⟨x0, x1, x2, x3⟩ := c_at (Kd.C_below HC1.out HB.out) hx
        have hgo := HGO.out
        rw [drop_cons hx, goC_cons] at hgo
        have HGO2 := Aside0.mk hgo
        have q0 : (0 : Int) ≤ (k : Int) := by omega
        have q1 : (k : Int) < (n1 : Int) := by omega
        have hw1' : IntKind.i64.wrap ((k : Int) + 1) = (k : Int) + 1 := IntWalk.i64_in _ (by omega)
        clear hx hgo HGO
        go_upto_region 7 with (fail)
        obtain ⟨b7, hb7⟩ : ∃ p, wr.heap.size = p := ⟨_, rfl⟩
        obtain ⟨wa, hwa⟩ : ∃ X, wr.alloc (.cells #[.int .u8 x.k, .int .i64 x.f, .int .i64 x.t, .int .i64 x.d] 38) = X := ⟨_, rfl⟩
        rw [hwa, hb7]
        have hba : Below wr.heap.size wr wa := by rw [← hwa]; exact below_alloc (Below.refl _ wr) _
        have rX : wa.heap[b7]? = some (.cells (ndc x) 38 (0, 0)) := by rw [← hwa, ← hb7]; exact heap_alloc_new _ _
        have f0 : wa.cell? ⟨b7, 0, none⟩ = some (.int .u8 x.k) := cell_of_row _ _ _ _ _ _ rX
        have f1 : wa.cell? ⟨b7, 1, none⟩ = some (.int .i64 x.f) := cell_of_row _ _ _ _ _ _ rX
        have f2 : wa.cell? ⟨b7, 2, none⟩ = some (.int .i64 x.t) := cell_of_row _ _ _ _ _ _ rX
        have f3 : wa.cell? ⟨b7, 3, none⟩ = some (.int .i64 x.d) := cell_of_row _ _ _ _ _ _ rX
        have HBA : Aside0 (Below w.heap.size w wa) := ⟨HB.out.trans (hba.mono HB.out.size)⟩
        have HRA := Aside0.mk (Kd.R_below HR.out hba)
        have hgb : g < b7 := by rw [← hb7]; exact Kd.R_lt HR.out g rfl
        have hwg : w.heap.size ≤ g := HR.out.1 g rfl
        have HRX := Aside0.mk rX
        have hSl := HSL.out
        obtain ⟨SN, hSN⟩ : ∃ q, S.length = q := ⟨_, rfl⟩
        rw [hSN] at hSl HRA ⊢
        have HSN := Aside0.mk hSN
        clear hwa hba rX x0 x1 x2 x3 HR HB hSN HSL
        by_cases hd1 : x.d < 1
        · have HF := Aside0.mk (hfin.out 60 wa (by rw [HGO2.out, if_pos (.inl hd1)]) HBA.out)
          clear hfin HGO2
          go_wp2_with (fail)
          go_ret
          exact HF.out
        by_cases hd2 : (SN : Int) < x.d
        · have HF := Aside0.mk (hfin.out 60 wa (by rw [HGO2.out, if_pos (.inr (by simpa [HSN.out] using hd2))]) HBA.out)
          clear hfin HGO2
          go_wp2_with (fail)
          go_ret
          exact HF.out
        obtain ⟨d', hd'⟩ : ∃ d' : Nat, x.d = ((d' + 1 : Nat) : Int) := ⟨(x.d - 1).toNat, by omega⟩
        have hdS : d' < SN := by omega
        obtain ⟨p, hp⟩ : ∃ p, S[d']? = some p := ⟨_, List.getElem?_eq_getElem (by rw [HSN.out]; exact hdS)⟩
        have hgo := HGO2.out
        have hdt : x.d.toNat - 1 = d' := by omega
        rw [if_neg (by simp [HSN.out]; omega), hdt, List.getElem?_map, hp] at hgo
        simp only [Option.map_some] at hgo
        have HGO3 := Aside0.mk hgo
        have HP := Aside0.mk hp
        have HDD := Aside0.mk hd'
        have hcut2 := cut_to (P := Try.prog) 32 38 .i64 Try.underlying32 I38.out (some ⟨g, 0, none⟩) SN cap ((d' + 1 : Nat) : Int) (by omega) (by omega) (by omega)
        have htn : ((d' + 1 : Nat) : Int).toNat = d' + 1 := Int.toNat_natCast _
        rw [htn] at hcut2
        have hRT : kN.R 38 wa 0 (fun j => w.heap.size ≤ j) (.slice (some ⟨g, 0, none⟩) (d' + 1) cap) (S.take (d' + 1)) := Kd.R_take HRA.out (by rw [HSN.out]; omega)
        have HRT := Aside0.mk hRT
        have hpt : (S.take (d' + 1))[d']? = some p := by rw [List.getElem?_take_of_lt (by omega)]; exact hp
        have hpr := row_at hRT hpt
        have c1p : wa.cell? ⟨g, d' * 4 + 1, none⟩ = some (.int .i64 p.f) := hpr 1 _ rfl
        have c2p : wa.cell? ⟨g, d' * 4 + 2, none⟩ = some (.int .i64 p.t) := hpr 2 _ rfl
        have HPR := Aside0.mk hpr
        have hwd : IntKind.i64.wrap (((d' + 1 : Nat) : Int) - 1) = (d' : Int) := by
          rw [show ((d' + 1 : Nat) : Int) - 1 = (d' : Int) from by omega]
          exact IntWalk.i64_in _ (by omega)
        have t0 : (0 : Int) ≤ (d' : Int) := by omega
        have t1 : (d' : Int) < ((d' + 1 : Nat) : Int) := by omega
        have hd1' : ¬ ((d' + 1 : Nat) : Int) < 1 := by omega
        have hd2' : ¬ (SN : Int) < ((d' + 1 : Nat) : Int) := by omega
        rw [hd'] at f3
        clear hgo hdt hp hRT hpt hpr htn HGO2 hd1 hd2 hd'
        go_upto_region 11 with (fail)
        by_cases hc1 : x.f < p.f
        · have HF := Aside0.mk (fun nq => hfin.out 60 (wa.drewN nq) (by rw [HGO3.out, if_pos (.inl hc1)]) (pw_below_drewN HBA.out nq))
          clear hfin HGO3
          go_quiet (fail)
          go_wp2_with (fail)
          go_ret
          exact HF.out _
        by_cases hc2 : x.t < x.f
        · have HF := Aside0.mk (fun nq => hfin.out 60 (wa.drewN nq) (by rw [HGO3.out, if_pos (.inr (.inl hc2))]) (pw_below_drewN HBA.out nq))
          clear hfin HGO3
          go_quiet (fail)
          go_wp2_with (fail)
          go_ret
          exact HF.out _
        by_cases hc3 : p.t < x.t
        · have HF := Aside0.mk (fun nq => hfin.out 60 (wa.drewN nq) (by rw [HGO3.out, if_pos (.inr (.inr hc3))]) (pw_below_drewN HBA.out nq))
          clear hfin HGO3
          go_quiet (fail)
          go_wp2_with (fail)
          go_ret
          exact HF.out _
        have hgo := HGO3.out.trans (if_neg (show ¬ (x.f < (ft p).1 ∨ x.t < x.f ∨ (ft p).2 < x.t) from (by simp only [ft]; omega)))
        have HGO4 := Aside0.mk hgo
        clear hgo HGO3
        go_quiet (fail)
        obtain ⟨wq, hwq⟩ : ∃ X, wa.drewN nq = X := ⟨_, rfl⟩
        rw [hwq]
        have hbq : Below wa.heap.size wa wq := by rw [← hwq]; exact pw_below_drewN (Below.refl _ _) _
        have g2 := pw_cell_below hbq f2
        have HRQ := Aside0.mk (Kd.R_below HRT.out hbq)
        have HBQ : Aside0 (Below w.heap.size w wq) := ⟨HBA.out.trans (hbq.mono HBA.out.size)⟩
        have HXQ : Aside0 (wq.heap[b7]? = some (.cells (ndc x) 38 (0, 0))) := ⟨(hbq.block _ (blk_lt HRX.out)).trans HRX.out⟩
        have HPQ : Aside0 (∀ j u, (ndc p).toList[j]? = some u → wq.cell? ⟨g, d' * 4 + j, none⟩ = some u) := ⟨fun j u hu => pw_cell_below hbq (HPR.out j u hu)⟩
        clear hwq hbq f0 f1 f2 f3 c1p c2p hcut2 HRT HRX HPR HRA HBA
        go_upto_region 14 with ((with_reducible refine gate_ (.store 3 (.tmp 85) (.tmp 83)) rfl ?_); refine Kd.R_store kN (w0 := wq) 0 rfl rfl 3 (.tmp 85) (.tmp 83) rfl 38 (g := g) (n := d' + 1) (cap := cap) (o' := d' * 4 + 1) (d' : Int) 1 (S.take (d' + 1)) ⟨p.k, x.t, p.t, p.d⟩ (.int .i64 x.t) [.int .i64 x.t] (ndc p).toList (fun j => w.heap.size ≤ j) (fun _ => False) rfl (by simp [kN, flat]) rfl rfl info3s (fun q hq => by simp at hq; subst hq; rfl) HRQ.out (by omega) (by omega) rfl HPQ.out (by show 2 ≤ 4; omega) rfl (fun _ h => h.elim) (Below.refl _ _) ?_; intro w3 hR3 _ hg3)
        have hb3 : Below w.heap.size w w3 := HBQ.out.grown hg3 HBQ.out.size (fun k e => by cases e; exact hwg)
        have hX3 : w3.heap[b7]? = some (.cells (ndc x) 38 (0, 0)) := (hg3.block b7 (blk_lt HXQ.out) (by simp; omega)).trans HXQ.out
        have k0 : w3.cell? ⟨b7, 0, none⟩ = some (.int .u8 x.k) := cell_of_row _ _ _ _ _ _ hX3
        have k1 : w3.cell? ⟨b7, 1, none⟩ = some (.int .i64 x.f) := cell_of_row _ _ _ _ _ _ hX3
        have k2 : w3.cell? ⟨b7, 2, none⟩ = some (.int .i64 x.t) := cell_of_row _ _ _ _ _ _ hX3
        have k3 : w3.cell? ⟨b7, 3, none⟩ = some (.int .i64 x.d) := cell_of_row _ _ _ _ _ _ hX3
        obtain ⟨S3, hS3⟩ : ∃ q, (S.take (d' + 1)).set d' ⟨p.k, x.t, p.t, p.d⟩ = q := ⟨_, rfl⟩
        simp only [Int.toNat_natCast] at hR3
        rw [hS3] at hR3
        have hS3l : S3.length = d' + 1 := by rw [← hS3]; simp [HSN.out]; omega
        have hfts : (S3 ++ [x]).map ft = (S.map ft).take d' ++ [(x.t, p.t), (x.f, x.t)] := by rw [← hS3]; exact ft_step HP.out
        have HR3 := Aside0.mk hR3
        have HB3 := Aside0.mk hb3
        have HFTS := Aside0.mk hfts
        have HS3L := Aside0.mk hS3l
        clear hR3 hg3 hb3 hX3 hS3 hfts hS3l g2 HRQ HXQ HPQ HBQ
        go_wp2_with (at_builtin; refine Kd.R_append kN (w0 := w3) 0 rfl (.tmp 86) (.tmp 88) 32 38 (.agg #[.int .u8 0, .int .i64 0, .int .i64 0, .int .i64 0]) 32 rfl Try.underlying32 info38 rfl (by decide) (by decide) (.slice (some ⟨g, 0, none⟩) (d' + 1) cap) S3 x (ndc x).toList (fun j => w.heap.size ≤ j) (fun _ => False) rfl rfl rfl (fun _ h => h.elim) (fun k hk => Nat.le_trans HB3.out.size hk) HR3.out (Below.refl _ _) (Nat.zero_le _) (by rw [HS3L.out]; omega) ?_; intro v1 w4 hR4 _ hg4 hat4; obtain ⟨g4, cap4, hv4, hcap4⟩ := row_form hR4 (by simp); have hb4 : Below w.heap.size w w4 := HB3.out.grown hg4 HB3.out.size (fun k e => by have e2 : g = k := (by simpa [Value.ownBlock] using e); omega); subst hv4; have HR4 := Aside0.mk hR4; have HB4 := Aside0.mk hb4; clear hR4 hg4 hat4 hb4)
        go_roundg gn
        case measure => exact Nat.lt_succ_self _
        case rel =>
          refine ⟨k + 1, S3 ++ [x], g4, cap4, by simp, by simp, ⟨by have := HK.out; omega⟩, HR4, HB4, ⟨by simp [HS3L.out] at hcap4 ⊢; omega⟩, ⟨?_⟩⟩
          rw [HFTS.out]
          exact HGO4.out
      · have HF := Aside0.mk (hfin.out 0 wr (by rw [HGO.out, List.drop_eq_nil_of_le (by rw [HLR.out]; omega)]; rfl) HB.out)
        have b1 : ¬ ((k : Int) < (n1 : Int)) := by omega
        clear HGO hfin HR HB HK HSL
        go_wp2_with (fail)
        go_ret
        exact HF.out
end Go.Proofs.Ytfaibpdoalbkpaa.Bu
