/- Put walked. -/
import Derived.Test.YtfaibpdoalbkpaaSd
namespace Go.Proofs.Ytfaibpdoalbkpaa.Bu
open Go.RowKit Go.Proofs.YtfaibpdoalbkpaaW.PrintWords Go.Proofs.YtfaibpdoalbkpaaW.PrintLast Go.Proofs.YtfaibpdoalbkpaaW.PrintMore
attribute [local go_sem] max2_int min2_int max_two min_two max_three min_three max_four min_four
set_option linter.unusedVariables false
set_option linter.unusedSimpArgs false
/-- An event, its places counted in. -/
def shE (at_ : Int) (e : Ev) : Ev := ⟨e.o, e.k, wrap64 (e.a + at_), wrap64 (e.t + at_)⟩
def stepB (m : Bl) (e : Ev) : Bl := if e.o = 1 then beginB m e else if e.o = 2 then endB m e else leafB m e
def putB (at_ : Int) (m : Bl) (l : List Ev) : Bl := l.foldl (fun m e => stepB m (shE at_ e)) m
def putE (m : Bl) (at_ : Int) (l : List Ev) : Int := if at_ < 0 ∨ 1048576 < at_ then 1 else soundB at_ m.far ((m.O.length : Int) - 1) l
structure WF (m : Bl) (n : Nat) : Prop where
  o : 1 ≤ m.O.length
  f : 0 ≤ m.far ∧ m.far ≤ 1048576
  L : m.L.length ≤ n
  O : m.O.length ≤ n
theorem len_beginB (m : Bl) (e : Ev) : (beginB m e).O.length = m.O.length + 1 ∧ (beginB m e).L.length = m.L.length + 1 := by simp [beginB]
theorem len_leafB (m : Bl) (e : Ev) : (leafB m e).O.length = m.O.length ∧ (leafB m e).L.length = m.L.length + 1 := by simp [leafB]
theorem len_endB (m : Bl) (e : Ev) : (endB m e).O.length = m.O.length - 1 ∧ (endB m e).L.length = m.L.length := by simp [endB]
theorem sound_step {at_ : Int} {m : Bl} {e : Ev} {r : List Ev} {n : Nat} (ha : 0 ≤ at_ ∧ at_ ≤ 1048576) (hw : WF m n) (h : soundB at_ m.far ((m.O.length : Int) - 1) (e :: r) = 0) :
    (e.o = 1 ∨ (e.o = 2 ∧ 2 ≤ m.O.length) ∨ e.o = 3) ∧ WF (stepB m (shE at_ e)) (n + 1) ∧ soundB at_ (stepB m (shE at_ e)).far (((stepB m (shE at_ e)).O.length : Int) - 1) r = 0 := by
  rw [soundB_cons] at h
  by_cases h1 : e.o < 1 ∨ 3 < e.o
  · rw [if_pos h1] at h; cases h
  rw [if_neg h1] at h
  by_cases h2 : Bad at_ m.far e.a
  · rw [if_pos h2] at h; cases h
  rw [if_neg h2] at h
  have hL := hw.L
  have hO := hw.O
  have ho := hw.o
  have hb : 0 ≤ e.a ∧ at_ + e.a ≤ 1048576 := by unfold Bad at h2; omega
  have hwa : wrap64 (e.a + at_) = at_ + e.a := by rw [← i64_w, Int.add_comm]; exact IntWalk.i64_in _ (by omega)
  by_cases h3 : e.o = 3
  · rw [if_pos h3] at h
    by_cases h4 : Bad at_ (at_ + e.a) e.t
    · rw [if_pos h4] at h; cases h
    rw [if_neg h4] at h
    have hb2 : 0 ≤ e.t ∧ at_ + e.t ≤ 1048576 := by unfold Bad at h4; omega
    have hwt : wrap64 (e.t + at_) = at_ + e.t := by rw [← i64_w, Int.add_comm]; exact IntWalk.i64_in _ (by omega)
    have hs : stepB m (shE at_ e) = leafB m (shE at_ e) := by simp [stepB, shE, h3]
    obtain ⟨l1, l2⟩ := len_leafB m (shE at_ e)
    have lf : (leafB m (shE at_ e)).far = at_ + e.t := by simp [leafB, shE, hwt]
    rw [hs]
    exact ⟨.inr (.inr h3), ⟨by omega, by rw [lf]; omega, by omega, by omega⟩, by rw [lf, l1]; exact h⟩
  rw [if_neg h3] at h
  by_cases h5 : e.o = 1
  · rw [if_pos h5] at h
    have hs : stepB m (shE at_ e) = beginB m (shE at_ e) := by simp [stepB, shE, h5]
    obtain ⟨l1, l2⟩ := len_beginB m (shE at_ e)
    have lf : (beginB m (shE at_ e)).far = at_ + e.a := by simp [beginB, shE, hwa]
    rw [hs]
    exact ⟨.inl h5, ⟨by omega, by rw [lf]; omega, by omega, by omega⟩, by rw [lf, l1, show ((m.O.length + 1 : Nat) : Int) - 1 = (m.O.length : Int) - 1 + 1 from by omega]; exact h⟩
  rw [if_neg h5] at h
  by_cases h6 : (m.O.length : Int) - 1 - 1 < 0
  · rw [if_pos h6] at h; cases h
  rw [if_neg h6] at h
  have h7 : e.o = 2 := by omega
  have hs : stepB m (shE at_ e) = endB m (shE at_ e) := by simp [stepB, shE, h7]
  obtain ⟨l1, l2⟩ := len_endB m (shE at_ e)
  have lf : (endB m (shE at_ e)).far = at_ + e.a := by simp [endB, shE, hwa]
  rw [hs]
  exact ⟨.inr (.inl ⟨h7, by omega⟩), ⟨by omega, by rw [lf]; omega, by omega, by omega⟩, by rw [lf, l1, show ((m.O.length - 1 : Nat) : Int) - 1 = (m.O.length : Int) - 1 - 1 from by omega]; exact h⟩
theorem putB_snoc (at_ : Int) (m : Bl) (l : List Ev) (e : Ev) : putB at_ m (l ++ [e]) = stepB (putB at_ m l) (shE at_ e) := by simp [putB]
theorem take_snoc {α : Type} {k : Nat} {l : List α} {y : α} (h : l[k]? = some y) : l.take (k + 1) = l.take k ++ [y] := by
  rw [List.take_add_one, h]; rfl

/-- What Put tells. -/
def PutP (w : World) (fp : Nat → Prop) (b : Nat) (m : Bl) (at_ : Int) (l : List Ev) (e : Ending) (w' : World) : Prop :=
  e = .returned (.int .i64 (putE m at_ l)) ∧ (∃ ps' vN' vO', BT w' (more fp w.heap.size) b ps' (if putE m at_ l = 0 then putB at_ m l else m) vN' vO') ∧ Fr fp w w'
set_option maxRecDepth 100000 in
set_option maxHeartbeats 8000000 in
theorem put_c (b : Nat) (ps : List Nat) (m : Bl) (vN vO : Value) (A : Option Addr) (N c : Nat) (l : List Ev) (at_ : Int) (w : World) (fp : Nat → Prop) (h : BT w fp b ps m vN vO) (hR : ∀ w', Fr fp w w' → ReadsRow REv 4 w' A N l) (n0 : Nat) (hwf : WF m n0) (hN : n0 + N ≤ 1000000) :
    Calls Try.prog 15 #[pv b, .slice A N c, .int .i64 at_] w fun e w' => PutP w fp b m at_ l e w' := by
  have H := Aside0.mk h
  have HR := Aside0.mk hR
  have HWF := Aside0.mk hwf
  have hln := (hR w (Fr.refl _ _)).1
  have HLN := Aside0.mk hln
  have hfail : Aside0 (∀ (r : Int) (w' : World), putE m at_ l = r → r ≠ 0 → Below w.heap.size w w' → PutP w fp b m at_ l (.returned (.int .i64 r)) w') := ⟨fun r w' hr h0 hb => ⟨by rw [hr], ⟨ps, vN, vO, by rw [hr, if_neg h0]; exact (h.below hb).mono (fun k hk => .inl hk)⟩, Fr.of_below hb⟩⟩
  clear h hR hwf hln
  by_cases ha0 : at_ < 0
  · have HF := Aside0.mk (hfail.out 1 w (by simp [putE, ha0]) (by decide) (Below.refl _ _))
    clear hfail
    go_enter Try.func15, Try.ntmps15
    go_wp2_with (fail)
    go_ret
    exact HF.out
  by_cases ha1 : 1048576 < at_
  · have HF := Aside0.mk (hfail.out 1 w (by simp [putE, ha1]) (by decide) (Below.refl _ _))
    clear hfail
    go_enter Try.func15, Try.ntmps15
    go_wp2_with (fail)
    go_ret
    exact HF.out
  have hpe : putE m at_ l = soundB at_ m.far ((m.O.length : Int) - 1) l := by unfold putE; rw [if_neg (by omega)]
  obtain ⟨r, hr⟩ : ∃ r, soundB at_ m.far ((m.O.length : Int) - 1) l = r := ⟨_, rfl⟩
  have hso := sound_c b ps m vN vO A N c l at_ w fp H.out (HR.out w (Fr.refl _ _)) (by omega) (by omega) HWF.out.f ⟨HWF.out.o, by have := HWF.out.O; omega⟩
  rw [hr] at hso hpe
  have HSO := Aside0.mk hso
  have HPE := Aside0.mk hpe
  have HSR := Aside0.mk hr
  clear hso hpe hr
  by_cases hr0 : r = 0
  case neg =>
    have br : (r == 0) = false := beq_eq_false_iff_ne.mpr hr0
    have HF := Aside0.mk (fun w' hb => hfail.out r w' HPE.out hr0 hb)
    clear hfail
    go_enter Try.func15, Try.ntmps15
    go_wp2_with (refine HSO.out.mono ?_; rintro _ w9 ⟨rfl, h9⟩; have HB9 := Aside0.mk h9; clear h9)
    go_ret
    exact HF.out _ HB9.out
  subst hr0
  go_enter Try.func15, Try.ntmps15
  go_wp2_with (first
    | (refine HSO.out.mono ?_; rintro _ w1 ⟨rfl, h9⟩; have HB1 := Aside0.mk h9; clear h9)
    | (refine (doings_c _).mono ?_; rintro _ w2 ⟨rfl, hw2⟩))
  obtain ⟨mb, hmb⟩ : ∃ p, w1.heap.size = p := ⟨_, rfl⟩
  rw [hmb]
  have hm2 : DoMap w2 mb := by rw [hw2, ← hmb]; exact heap_alloc_new _ _
  have hb2 : Below w.heap.size w w2 := by rw [hw2]; exact below_alloc HB1.out _
  have hs2 : w2.heap.size = mb + 1 := by rw [hw2, ← hmb]; simp
  have hmbw : w.heap.size ≤ mb := by rw [← hmb]; exact HB1.out.size
  have hBT2 : BT w2 (more (fun k => fp k ∧ k < w.heap.size) (mb + 1)) b ps m vN vO := (H.out.bound.below hb2).mono (fun k hk => .inl hk)
  rw [← hw2]
  have HM2 := Aside0.mk hm2
  have HB2 := Aside0.mk hb2
  have HBT2 := Aside0.mk hBT2
  have HFR2 : Aside0 (Fr fp w w2) := ⟨Fr.of_below hb2⟩
  clear hm2 hb2 hBT2 hw2 hmb hfail HSO HB1 H
  go_loopg [31] N (fun gk v31 wr => ∃ (k : Nat) (ps' : List Nat) (vN' vO' : Value), v31 = .int .i64 (k : Int) ∧ Aside0 (k + gk = N) ∧ Aside0 (DoMap wr mb) ∧ Aside0 (Fr fp w wr) ∧ Aside0 (mb + 1 ≤ wr.heap.size) ∧ Aside0 (BT wr (more (fun k => fp k ∧ k < w.heap.size) (mb + 1)) b ps' (putB at_ m (l.take k)) vN' vO') ∧ Aside0 (WF (putB at_ m (l.take k)) (n0 + k)) ∧ Aside0 (soundB at_ (putB at_ m (l.take k)).far (((putB at_ m (l.take k)).O.length : Int) - 1) (l.drop k) = 0))
  case atStart => exact ⟨0, ps, vN, vO, rfl, ⟨by omega⟩, HM2, HFR2, ⟨by omega⟩, HBT2, HWF, HSR⟩
  case round =>
    clear HM2 HB2 HBT2 HFR2
    obtain ⟨k, ps', vN', vO', rfl, HK, HM, HFR, HSZ, HBT, HWK, HSK⟩ := hrel
    by_cases hkn : k < N
    · obtain ⟨gn, rfl⟩ : ∃ gn, gk = gn + 1 := ⟨gk - 1, by have := HK.out; omega⟩
      obtain ⟨e, he⟩ : ∃ e, l[k]? = some e := ⟨_, List.getElem?_eq_getElem (by rw [HLN.out]; exact hkn)⟩
      obtain ⟨ad, hA, _⟩ := (HR.out wr HFR.out).2.2 (by omega)
      subst hA
      obtain ⟨e0, e1, e2, e3⟩ := ev_at (HR.out wr HFR.out) he
      have hsk := HSK.out
      rw [drop_cons he] at hsk
      obtain ⟨ho, hwf', hsk'⟩ := sound_step (by omega) HWK.out hsk
      have HTK : Aside0 (putB at_ m (l.take (k + 1)) = stepB (putB at_ m (l.take k)) (shE at_ e)) := ⟨by rw [take_snoc he, putB_snoc]⟩
      have HWF' := Aside0.mk hwf'
      have HSK' := Aside0.mk hsk'
      have p0 : (0 : Int) ≤ (k : Int) := by omega
      have p1 : (k : Int) < (N : Int) := by omega
      have hw1 : IntKind.i64.wrap ((k : Int) + 1) = (k : Int) + 1 := IntWalk.i64_in _ (by omega)
      clear he hsk hwf' hsk' HSK
      go_upto_region 14 with (fail)
      obtain ⟨b10, hb10⟩ : ∃ p, wr.heap.size = p := ⟨_, rfl⟩
      obtain ⟨wc, hwc⟩ : ∃ X, wr.alloc (.cells #[.int .u8 e.o, .int .u8 e.k, .int .i64 (wrap64 (e.a + at_)), .int .i64 (wrap64 (e.t + at_))] 41) = X := ⟨_, rfl⟩
      rw [hwc, hb10]
      have hbc : Below wr.heap.size wr wc := by rw [← hwc]; exact below_alloc (Below.refl _ wr) _
      have rE : wc.heap[b10]? = some (.cells (evc (shE at_ e)) 41 (0, 0)) := by rw [← hwc, ← hb10]; exact heap_alloc_new _ _
      have f0 : wc.cell? ⟨b10, 0, none⟩ = some (.int .u8 e.o) := cell_of_row _ _ _ _ _ _ rE
      have f1 : wc.cell? ⟨b10, 1, none⟩ = some (.int .u8 e.k) := cell_of_row _ _ _ _ _ _ rE
      have f2 : wc.cell? ⟨b10, 2, none⟩ = some (.int .i64 (wrap64 (e.a + at_))) := cell_of_row _ _ _ _ _ _ rE
      have f3 : wc.cell? ⟨b10, 3, none⟩ = some (.int .i64 (wrap64 (e.t + at_))) := cell_of_row _ _ _ _ _ _ rE
      have hmc : wc.heap[mb]? = some (.map doEs 3) := (hbc.block _ (blk_lt HM.out)).trans HM.out
      have hBTc := HBT.out.below hbc
      have HSZC : Aside0 (mb + 1 ≤ wc.heap.size) := ⟨Nat.le_trans HSZ.out hbc.size⟩
      have HFRC : Aside0 (Fr fp w wc) := ⟨HFR.out.trans (Fr.of_below (fp := fp) hbc) (fun j hj => .inl hj)⟩
      have HMC := Aside0.mk hmc
      have hLk : (putB at_ m (l.take k)).L.length ≤ 1000000 := by have := HWK.out.L; omega
      have hOk : (putB at_ m (l.take k)).O.length ≤ 1000000 := by have := HWK.out.O; omega
      obtain ⟨mk, hmk⟩ : ∃ x, putB at_ m (l.take k) = x := ⟨_, rfl⟩
      rw [hmk] at hBTc hLk hOk ho
      have hopc : ∃ fn, (fn = 25 ∧ e.o = 1 ∨ fn = 26 ∧ e.o = 2 ∨ fn = 27 ∧ e.o = 3) ∧ (Instr.lookup 58 (.map (some mb)) (.int .u8 e.o) false).run Try.prog wc = .ok (.func (.func fn) #[] #[]) wc ∧
          Calls Try.prog fn #[pv b, .agg (evc (shE at_ e))] wc fun en w' => OpP wc (more (fun k => fp k ∧ k < w.heap.size) (mb + 1)) b (stepB mk (shE at_ e)) en w' := by
        rcases ho with ho | ⟨ho, ho2⟩ | ho
        · refine ⟨25, .inl ⟨rfl, ho⟩, ?_, ?_⟩
          · rw [ho]
            exact run_look 1 _ hmc rfl
          · have hs : stepB mk (shE at_ e) = beginB mk (shE at_ e) := by simp [stepB, shE, ho]
            rw [hs]
            exact begin_c b ps' mk vN' vO' _ wc _ hBTc hLk hOk
        · refine ⟨26, .inr (.inl ⟨rfl, ho⟩), ?_, ?_⟩
          · rw [ho]
            exact run_look 2 _ hmc rfl
          · have hs : stepB mk (shE at_ e) = endB mk (shE at_ e) := by simp [stepB, shE, ho]
            rw [hs]
            have hne : mk.O ≠ [] := by
              intro h
              rw [h] at ho2
              simp at ho2
            exact end_c b ps' mk vN' vO' _ wc _ hBTc mk.O.dropLast (mk.O.getLast hne) (List.dropLast_concat_getLast hne).symm hOk
        · refine ⟨27, .inr (.inr ⟨rfl, ho⟩), ?_, ?_⟩
          · rw [ho]
            exact run_look 3 _ hmc rfl
          · have hs : stepB mk (shE at_ e) = leafB mk (shE at_ e) := by simp [stepB, shE, ho]
            rw [hs]
            exact leaf_c b ps' mk vN' vO' _ wc _ hBTc hLk
      obtain ⟨fn, hfn, hlk, hopc⟩ := hopc
      have HOPC := Aside0.mk hopc
      have hev : evc (shE at_ e) = #[.int .u8 e.o, .int .u8 e.k, .int .i64 (wrap64 (e.a + at_)), .int .i64 (wrap64 (e.t + at_))] := rfl
      rw [hev] at HOPC
      have hgo : ∀ w' : World, OpP wc (more (fun k => fp k ∧ k < w.heap.size) (mb + 1)) b (stepB mk (shE at_ e)) (.returned undef) w' → True := fun _ _ => trivial
      have HMK := Aside0.mk hmk
      clear hwc hbc rE hmc hBTc hLk hOk ho e0 e1 e2 e3 hopc hgo hev hmk HFR HSZ HM HBT
      rcases hfn with ⟨rfl, ho⟩ | ⟨rfl, ho⟩ | ⟨rfl, ho⟩
      all_goals
        rw [ho] at hlk f0 HOPC
        clear ho
        go_wp2_with (first
          | (go_at_call 25; refine HOPC.out.mono ?_)
          | (go_at_call 26; refine HOPC.out.mono ?_)
          | (go_at_call 27; refine HOPC.out.mono ?_))
      all_goals
        rintro _ w4 ⟨⟨v4, rfl⟩, ⟨ps4, vN4, vO4, h4⟩, fr4⟩
        have HB4 := Aside0.mk h4
        have HF4 := Aside0.mk fr4
        clear h4 fr4 hlk HOPC f0 f1 f2 f3
        go_wp2_with (fail)
        go_roundg gn
        case measure => exact Nat.lt_succ_self _
        case rel =>
          refine ⟨k + 1, ps4, vN4, vO4, by simp, ⟨by have := HK.out; omega⟩, ⟨?_⟩, ⟨?_⟩, ⟨?_⟩, ⟨?_⟩, ⟨?_⟩, ⟨?_⟩⟩
          · refine (HF4.out.block mb (by have := HSZC.out; omega) (fun h => ?_)).trans HMC.out
            rcases h with h | h
            · have := h.2; omega
            · omega
          · exact HFRC.out.trans HF4.out (fun j hj => hj.elim (fun h => .inl h.1) (fun h => .inr (by omega)))
          · exact Nat.le_trans HSZC.out HF4.out.size
          · rw [HTK.out, HMK.out]
            exact HB4.out.mono (fun j hj => hj.elim (fun h => h) (fun h => .inr (by have := HSZC.out; omega)))
          · rw [HTK.out]
            exact HWF'.out
          · rw [HTK.out]
            exact HSK'.out
    · have hfin : PutP w fp b m at_ l (.returned (.int .i64 0)) wr := by
        refine ⟨by rw [HPE.out], ⟨ps', vN', vO', ?_⟩, HFR.out⟩
        rw [if_pos HPE.out]
        have hb := HBT.out
        rw [List.take_of_length_le (by rw [HLN.out]; omega)] at hb
        exact hb.mono (fun j hj => hj.elim (fun h => .inl h.1) (fun h => .inr (by omega)))
      have HF := Aside0.mk hfin
      have b1 : ¬ ((k : Int) < (N : Int)) := by omega
      clear hfin HBT HFR HK HM HSZ HWK HSK
      go_wp2_with (fail)
      go_ret
      exact HF.out
end Go.Proofs.Ytfaibpdoalbkpaa.Bu
