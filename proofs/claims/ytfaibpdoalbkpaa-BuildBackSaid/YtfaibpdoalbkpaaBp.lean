/- A checked tree's events, put back, give the tree: plain. -/
import Derived.Test.YtfaibpdoalbkpaaPp
import Derived.Test.YtfaibpdoalbkpaaCk
namespace Go.Proofs.Ytfaibpdoalbkpaa.Bu
open Go.RowKit Go.Proofs.YtfaibpdoalbkpaaW.PrintWords Go.Proofs.YtfaibpdoalbkpaaW.PrintLast Go.Proofs.YtfaibpdoalbkpaaW.PrintMore
set_option linter.unusedVariables false
set_option linter.unusedSimpArgs false
def endE (x : Nd) : Ev := ⟨2, 0, x.t, 0⟩
def begE (x : Nd) : Ev := ⟨1, x.k, x.f, 0⟩
def leafE (x : Nd) : Ev := ⟨3, x.k, x.f, x.t⟩
theorem sound_swap {at_ : Int} {m : Bl} {e : Ev} {r r' : List Ev} (ha : 0 ≤ at_ ∧ at_ ≤ 1048576) (h : soundB at_ m.far ((m.O.length : Int) - 1) (e :: r) = 0)
    (hm : 0 ≤ m.far) (h' : soundB at_ (stepB m (shE at_ e)).far (((stepB m (shE at_ e)).O.length : Int) - 1) r' = 0) : soundB at_ m.far ((m.O.length : Int) - 1) (e :: r') = 0 := by
  rw [soundB_cons] at h ⊢
  by_cases h1 : e.o < 1 ∨ 3 < e.o
  · rw [if_pos h1] at h; cases h
  rw [if_neg h1] at h ⊢
  by_cases h2 : Bad at_ m.far e.a
  · rw [if_pos h2] at h; cases h
  rw [if_neg h2] at h ⊢
  have hb : 0 ≤ e.a ∧ at_ + e.a ≤ 1048576 := by unfold Bad at h2; omega
  have hwa : wrap64 (e.a + at_) = at_ + e.a := by rw [← i64_w, Int.add_comm]; exact IntWalk.i64_in _ (by omega)
  by_cases h3 : e.o = 3
  · rw [if_pos h3] at h ⊢
    by_cases h4 : Bad at_ (at_ + e.a) e.t
    · rw [if_pos h4] at h; cases h
    rw [if_neg h4] at h ⊢
    have hb2 : 0 ≤ e.t ∧ at_ + e.t ≤ 1048576 := by unfold Bad at h4; omega
    have hwt : wrap64 (e.t + at_) = at_ + e.t := by rw [← i64_w, Int.add_comm]; exact IntWalk.i64_in _ (by omega)
    have hs : stepB m (shE at_ e) = leafB m (shE at_ e) := by simp [stepB, shE, h3]
    obtain ⟨l1, l2⟩ := len_leafB m (shE at_ e)
    have lf : (leafB m (shE at_ e)).far = at_ + e.t := by simp [leafB, shE, hwt]
    rw [hs, lf, l1] at h'
    exact h'
  rw [if_neg h3] at h ⊢
  by_cases h5 : e.o = 1
  · rw [if_pos h5] at h ⊢
    have hs : stepB m (shE at_ e) = beginB m (shE at_ e) := by simp [stepB, shE, h5]
    obtain ⟨l1, l2⟩ := len_beginB m (shE at_ e)
    have lf : (beginB m (shE at_ e)).far = at_ + e.a := by simp [beginB, shE, hwa]
    rw [hs, lf, l1, show ((m.O.length + 1 : Nat) : Int) - 1 = (m.O.length : Int) - 1 + 1 from by omega] at h'
    exact h'
  rw [if_neg h5] at h ⊢
  by_cases h6 : (m.O.length : Int) - 1 - 1 < 0
  · rw [if_pos h6] at h; cases h
  rw [if_neg h6] at h ⊢
  have h7 : e.o = 2 := by omega
  have hs : stepB m (shE at_ e) = endB m (shE at_ e) := by simp [stepB, shE, h7]
  obtain ⟨l1, l2⟩ := len_endB m (shE at_ e)
  have lf : (endB m (shE at_ e)).far = at_ + e.a := by simp [endB, shE, hwa]
  rw [hs, lf, l1, show ((m.O.length - 1 : Nat) : Int) - 1 = (m.O.length : Int) - 1 - 1 from by omega] at h'
  exact h'
theorem sound_app {at_ : Int} (ha : 0 ≤ at_ ∧ at_ ≤ 1048576) : ∀ {l1 l2 : List Ev} {m : Bl} {n : Nat}, WF m n → soundB at_ m.far ((m.O.length : Int) - 1) l1 = 0 →
    soundB at_ (putB at_ m l1).far (((putB at_ m l1).O.length : Int) - 1) l2 = 0 → soundB at_ m.far ((m.O.length : Int) - 1) (l1 ++ l2) = 0
  | [], _, _, _, _, _, h => h
  | e :: r, l2, m, n, hw, h, h2 => by
    obtain ⟨_, hw', hs'⟩ := sound_step ha hw h
    have ih := sound_app ha (l1 := r) (l2 := l2) hw' hs' h2
    rw [List.cons_append]
    exact sound_swap ha h hw.f.1 ih
theorem shE0 {e : Ev} (h1 : 0 ≤ e.a ∧ e.a ≤ 1048576) (h2 : 0 ≤ e.t ∧ e.t ≤ 1048576) : shE 0 e = e := by
  have w1 : wrap64 (e.a + 0) = e.a := by rw [← i64_w, Int.add_zero]; exact IntWalk.i64_in _ (by omega)
  have w2 : wrap64 (e.t + 0) = e.t := by rw [← i64_w, Int.add_zero]; exact IntWalk.i64_in _ (by omega)
  unfold shE
  rw [w1, w2]
structure BI (l : List Nd) (i : Nat) (E : List Ev) (S : List Nd) (st : List (Int × Int)) (m : Bl) : Prop where
  pe : putB 0 (newB 1) E = m
  sd : soundB 0 0 0 E = 0
  wf : WF m (1 + E.length)
  sr : Srt m
  ln : m.O.length = S.length + 1
  o0 : m.O[0]? = some 0
  q : ∀ (q j : Nat), m.O[q]? = some j → ∃ x f, l[j]? = some x ∧ x.d = (q : Int) ∧ st[q]? = some (f, x.t) ∧ ∀ q', q = q' + 1 → S[q']? = some x
  L : m.L.length = i
  Lg : ∀ (j : Nat) x, j < i → l[j]? = some x → m.L[j]? = some (if j ∈ m.O then toN 0 x else x)
  fr : ∃ t, st[S.length]? = some (m.far, t)
  ord : ∀ (q : Nat) p, st[q]? = some p → 0 ≤ p.1 ∧ p.1 ≤ p.2 ∧ p.2 ≤ 1048576 ∧ ∀ p', st[q + 1]? = some p' → p.1 = p'.2
  go : goC st (l.drop i) = 0
  nx : ∀ y, l[i]? = some y → y.d ≤ (S.length : Int) + 1
  cnt : E.length + S.length ≤ 2 * i
theorem goC_len {st : List (Int × Int)} {l : List Nd} {i : Nat} {y : Nd} (h : goC st (l.drop i) = 0) (hy : l[i]? = some y) : 1 ≤ y.d ∧ y.d ≤ (st.length : Int) := by
  rw [drop_cons hy, goC_cons] at h
  by_cases h1 : y.d < 1 ∨ (st.length : Int) < y.d
  · rw [if_pos h1] at h; cases h
  omega
theorem BI.start {r : List Nd} {N : Int} (hN : 0 ≤ N ∧ N ≤ 1048576) (hg : goC [(0, N)] r = 0) : BI (⟨1, 0, N, 0⟩ :: r) 1 [] [] [(0, N)] (newB 1) := by
  refine ⟨rfl, rfl, ⟨by decide, by decide, by decide, by decide⟩, ⟨by decide, by decide⟩, rfl, rfl, ?_, rfl, ?_, ⟨N, rfl⟩, ?_, hg, ?_, by decide⟩
  · intro q j h
    cases q with
    | zero => simp [newB] at h; subst h; exact ⟨_, 0, rfl, rfl, rfl, fun q' h => by omega⟩
    | succ q => simp [newB] at h
  · intro j x hj hx
    have : j = 0 := by omega
    subst this
    simp at hx
    subst hx
    rfl
  · intro q p h
    cases q with
    | zero => simp at h; subst h; exact ⟨Int.le_refl _, hN.1, hN.2, fun p' h => by simp at h⟩
    | succ q => simp at h
  · intro y hy
    have := (goC_len (st := [(0, N)]) (l := ⟨1, 0, N, 0⟩ :: r) (i := 1) hg hy).2
    simpa using this
theorem BI.pop {l : List Nd} {i : Nat} {E : List Ev} {S : List Nd} {x : Nd} {st : List (Int × Int)} {m : Bl} (h : BI l i E (S ++ [x]) st m) (hnx : ∀ y, l[i]? = some y → y.d ≤ (S.length : Int) + 1) :
    BI l i (E ++ [endE x]) S st (endB m (endE x)) := by
  have hl := h.ln
  rw [List.length_append, List.length_singleton] at hl
  obtain ⟨O', j, hO⟩ : ∃ O' j, m.O = O' ++ [j] := by
    have hne : m.O ≠ [] := by intro hn; rw [hn] at hl; simp at hl
    exact ⟨_, _, (List.dropLast_concat_getLast hne).symm⟩
  have hlO : O'.length = S.length + 1 := by rw [hO] at hl; simpa using hl
  have hlast : m.O.getLastD 0 = j := by rw [hO]; simp
  have hdl : m.O.dropLast = O' := by rw [hO]; simp
  have hOj : m.O[S.length + 1]? = some j := by rw [← hlO, hO]; simp
  obtain ⟨x', f, hx', hxd, hst, hSx⟩ := h.q _ _ hOj
  have hxe := hSx S.length rfl
  rw [List.getElem?_append_right (Nat.le_refl _), Nat.sub_self] at hxe
  injection hxe with hxe
  have hxe : x = x' := hxe
  subst hxe
  obtain ⟨t, hfr⟩ := h.fr
  rw [List.length_append, List.length_singleton] at hfr
  rw [hst] at hfr
  injection hfr with hfr
  injection hfr with hf1 hf2
  subst hf1
  obtain ⟨o1, o2, o3, _⟩ := h.ord _ _ hst
  dsimp only at o1 o2 o3
  have hjO' : j ∉ O' := fun hm => by
    have hs := h.sr.s
    rw [hO, List.pairwise_append] at hs
    have := hs.2.2 j hm j (by simp)
    omega
  have hji : j < i := by rw [← h.L]; exact h.sr.o j (by rw [hO]; simp)
  have hsh : shE 0 (endE x) = endE x := shE0 (by show 0 ≤ x.t ∧ x.t ≤ 1048576; omega) (by show (0 : Int) ≤ 0 ∧ (0 : Int) ≤ 1048576; omega)
  have hsp : stepB m (endE x) = endB m (endE x) := by simp [stepB, endE]
  have hone : soundB 0 m.far ((m.O.length : Int) - 1) [endE x] = 0 := by
    rw [soundB_cons, if_neg (by show ¬ ((2 : Int) < 1 ∨ (3 : Int) < 2); omega), if_neg (by show ¬ (x.t < 0 ∨ 1048576 - 0 < x.t ∨ 0 + x.t < m.far); omega), if_neg (by show ¬ (2 : Int) = 3; omega), if_neg (by show ¬ (2 : Int) = 1; omega), if_neg (by omega)]
    rfl
  have hEL : (endB m (endE x)).L = m.L.modify j (shutN (endE x)) := by simp only [endB, hlast]
  have hEO : (endB m (endE x)).O = O' := by simp only [endB, hdl]
  have hEF : (endB m (endE x)).far = x.t := rfl
  have hO0 : S.length < O'.length := by omega
  obtain ⟨x2, f2, hx2, _, hst2, _⟩ := h.q S.length _ (by rw [hO, List.getElem?_append_left hO0]; exact List.getElem?_eq_getElem hO0)
  have ho2 := (h.ord _ _ hst2).2.2.2 _ hst
  dsimp only at ho2
  have hw := h.wf
  have hsd : soundB 0 0 0 (E ++ [endE x]) = 0 := sound_app (m := newB 1) (by omega) wf1 h.sd (by rw [h.pe]; exact hone)
  refine ⟨by rw [putB_snoc, h.pe, hsh, hsp], hsd, ?_, h.sr.ends _, by rw [hEO]; exact hlO, ?_, ?_, by rw [hEL, List.length_modify]; exact h.L, ?_, ⟨x2.t, by rw [hst2, hEF, ho2]⟩, h.ord, h.go, hnx, ?_⟩
  · exact ⟨by rw [hEO]; omega, by rw [hEF]; omega, by rw [hEL, List.length_modify, List.length_append]; have := hw.L; omega, by rw [hEO, List.length_append]; have := hw.O; omega⟩
  · rw [hEO]
    have h3 := h.o0
    rw [hO, List.getElem?_append_left (by omega)] at h3
    exact h3
  · intro q p hp
    rw [hEO] at hp
    have hpl := (List.getElem?_eq_some_iff.1 hp).1
    obtain ⟨y, g, hy, hyd, hys, hyS⟩ := h.q q p (by rw [hO, List.getElem?_append_left hpl]; exact hp)
    refine ⟨y, g, hy, hyd, hys, fun q' hq' => ?_⟩
    have := hyS q' hq'
    rw [List.getElem?_append_left (by omega)] at this
    exact this
  · intro p y hp hy
    rw [hEL, hEO, List.getElem?_modify, h.Lg p y hp hy]
    by_cases hpj : j = p
    · subst hpj
      rw [hx'] at hy
      injection hy with hy
      subst hy
      have hmem : j ∈ m.O := by rw [hO]; simp
      simp [hmem, hjO', shutN, toN, endE]
    · have hmem : p ∈ m.O ↔ p ∈ O' := by rw [hO]; simp; intro e'; exact absurd e'.symm hpj
      by_cases hpo : p ∈ O'
      · simp [hmem, hpo, hpj]
      · simp [hmem, hpo, hpj]
  · have := h.cnt
    rw [List.length_append, List.length_singleton] at this ⊢
    omega
/-- What a node of the tree's next keeps to. -/
theorem BI.next {l : List Nd} {i : Nat} {E : List Ev} {S : List Nd} {y : Nd} {st : List (Int × Int)} {m : Bl} (h : BI l i E S st m) (hy : l[i]? = some y) (hd : (S.length : Int) < y.d) :
    y.d = (S.length : Int) + 1 ∧ m.far ≤ y.f ∧ y.f ≤ y.t ∧ y.t ≤ 1048576 ∧ 0 ≤ m.far ∧ ∃ st', st'.length = S.length + 2 ∧ goC st' (l.drop (i + 1)) = 0 ∧ (∀ q, q < S.length → st'[q]? = st[q]?) ∧
      st'[S.length + 1]? = some (y.f, y.t) ∧ (∃ t, st'[S.length]? = some (y.t, t) ∧ st[S.length]? = some (m.far, t)) ∧
      (∀ (q : Nat) p, st'[q]? = some p → 0 ≤ p.1 ∧ p.1 ≤ p.2 ∧ p.2 ≤ 1048576 ∧ ∀ p', st'[q + 1]? = some p' → p.1 = p'.2) := by
  have hde : y.d = (S.length : Int) + 1 := by have := h.nx y hy; omega
  obtain ⟨t, hfr⟩ := h.fr
  have hSl := (List.getElem?_eq_some_iff.1 hfr).1
  have hg := h.go
  rw [drop_cons hy, goC_cons, if_neg (by omega), show y.d.toNat - 1 = S.length from by omega, hfr] at hg
  dsimp only at hg
  by_cases hb : y.f < m.far ∨ y.t < y.f ∨ t < y.t
  · rw [if_pos hb] at hg; cases hg
  rw [if_neg hb] at hg
  obtain ⟨o1, o2, o3, _⟩ := h.ord _ _ hfr
  dsimp only at o1 o2 o3
  have htk : (st.take S.length).length = S.length := by rw [List.length_take]; omega
  have k1 : (st.take S.length ++ [(y.t, t), (y.f, y.t)])[S.length]? = some (y.t, t) := by rw [List.getElem?_append_right (by omega), htk, Nat.sub_self]; rfl
  have k2 : (st.take S.length ++ [(y.t, t), (y.f, y.t)])[S.length + 1]? = some (y.f, y.t) := by rw [List.getElem?_append_right (by omega), htk, show S.length + 1 - S.length = 1 from by omega]; rfl
  have k0 : ∀ q, q < S.length → (st.take S.length ++ [(y.t, t), (y.f, y.t)])[q]? = st[q]? := fun q hq => by rw [List.getElem?_append_left (by omega), List.getElem?_take_of_lt hq]
  have kl : (st.take S.length ++ [(y.t, t), (y.f, y.t)]).length = S.length + 2 := by rw [List.length_append, htk]; rfl
  refine ⟨hde, by omega, by omega, by omega, o1, _, kl, hg, k0, k2, ⟨t, k1, hfr⟩, ?_⟩
  intro q p hp
  have hql := (List.getElem?_eq_some_iff.1 hp).1
  rw [kl] at hql
  by_cases hq : q < S.length
  · rw [k0 q hq] at hp
    obtain ⟨a1, a2, a3, a4⟩ := h.ord q p hp
    refine ⟨a1, a2, a3, fun p' hp' => ?_⟩
    by_cases hq2 : q + 1 < S.length
    · rw [k0 _ hq2] at hp'
      exact a4 p' hp'
    · have : q + 1 = S.length := by omega
      rw [this] at hp' a4
      rw [k1] at hp'
      injection hp' with hp'
      subst hp'
      have := a4 (m.far, t) hfr
      exact this
  · by_cases hq2 : q = S.length
    · subst hq2
      rw [k1] at hp
      injection hp with hp
      subst hp
      refine ⟨by dsimp only; omega, by dsimp only; omega, o3, fun p' hp' => ?_⟩
      rw [k2] at hp'
      injection hp' with hp'
      subst hp'
      rfl
    · have : q = S.length + 1 := by omega
      subst this
      rw [k2] at hp
      injection hp with hp
      subst hp
      refine ⟨by dsimp only; omega, by dsimp only; omega, by dsimp only; omega, fun p' hp' => ?_⟩
      have := (List.getElem?_eq_some_iff.1 hp').1
      omega
theorem BI.push {l : List Nd} {i : Nat} {E : List Ev} {S : List Nd} {y : Nd} {st : List (Int × Int)} {m : Bl} (h : BI l i E S st m) (hy : l[i]? = some y) (hd : (S.length : Int) < y.d) :
    ∃ st', BI l (i + 1) (E ++ [begE y]) (S ++ [y]) st' (beginB m (begE y)) := by
  obtain ⟨hde, b1, b2, b3, b4, st', hl', hg', k0, k2, ⟨t, k1, kk⟩, ho'⟩ := h.next hy hd
  have hw := h.wf
  have hsh : shE 0 (begE y) = begE y := shE0 (by show 0 ≤ y.f ∧ y.f ≤ 1048576; omega) (by show (0 : Int) ≤ 0 ∧ (0 : Int) ≤ 1048576; omega)
  have hsp : stepB m (begE y) = beginB m (begE y) := by simp [stepB, begE]
  have hone : soundB 0 m.far ((m.O.length : Int) - 1) [begE y] = 0 := by
    rw [soundB_cons, if_neg (by show ¬ ((1 : Int) < 1 ∨ (3 : Int) < 1); omega), if_neg (by show ¬ (y.f < 0 ∨ 1048576 - 0 < y.f ∨ 0 + y.f < m.far); omega), if_neg (by show ¬ (1 : Int) = 3; omega), if_pos (by rfl)]
    rfl
  have hsd : soundB 0 0 0 (E ++ [begE y]) = 0 := sound_app (m := newB 1) (by omega) wf1 h.sd (by rw [h.pe]; exact hone)
  have hmL := h.L
  have hmO := h.ln
  have hil := (List.getElem?_eq_some_iff.1 hy).1
  refine ⟨st', by rw [putB_snoc, h.pe, hsh, hsp], hsd, ?_, h.sr.begin _, by simp [beginB, hmO], ?_, ?_, by simp [beginB, hmL], ?_, ⟨y.t, ?_⟩, ho', hg', ?_, ?_⟩
  · exact ⟨by simp [beginB], by show 0 ≤ y.f ∧ y.f ≤ 1048576; omega, by simp [beginB]; have := hw.L; omega, by simp [beginB]; have := hw.O; omega⟩
  · simp only [beginB]
    rw [List.getElem?_append_left (by omega)]
    exact h.o0
  · intro q j hqj
    simp only [beginB] at hqj
    by_cases hq : q < m.O.length
    · rw [List.getElem?_append_left hq] at hqj
      obtain ⟨x, f, hx, hxd, hxs, hxS⟩ := h.q q j hqj
      have hS2 : ∀ q', q = q' + 1 → (S ++ [y])[q']? = some x := fun q' hq' => by rw [List.getElem?_append_left (by omega)]; exact hxS q' hq'
      by_cases hqs : q < S.length
      · exact ⟨x, f, hx, hxd, by rw [k0 q hqs]; exact hxs, hS2⟩
      · have : q = S.length := by omega
        subst this
        rw [kk] at hxs
        injection hxs with hxs
        injection hxs with e1 e2
        exact ⟨x, y.t, hx, hxd, by rw [k1, e2], hS2⟩
    · have hql := (List.getElem?_eq_some_iff.1 hqj).1
      simp at hql
      have hqe : q = m.O.length := by omega
      subst hqe
      simp at hqj
      subst hqj
      refine ⟨y, y.f, by rw [hmL]; exact hy, by omega, by rw [hmO]; exact k2, fun q' hq' => ?_⟩
      have : q' = S.length := by omega
      subst this
      simp
  · intro j x hj hx
    simp only [beginB]
    by_cases hji : j < i
    · rw [List.getElem?_append_left (by omega), h.Lg j x hji hx]
      have : j ≠ i := by omega
      simp [hmL, this]
    · have : j = i := by omega
      subst this
      rw [hy] at hx
      injection hx with hx
      subst hx
      rw [← hmL]
      simp [toN, begE]
      omega
  · rw [List.length_append, List.length_singleton]
    exact k2
  · intro z hz
    have := (goC_len hg' hz).2
    rw [List.length_append, List.length_singleton]
    omega
  · have := h.cnt
    rw [List.length_append, List.length_singleton, List.length_append, List.length_singleton]
    omega
theorem BI.put {l : List Nd} {i : Nat} {E : List Ev} {S : List Nd} {y : Nd} {st : List (Int × Int)} {m : Bl} (h : BI l i E S st m) (hy : l[i]? = some y) (hd : (S.length : Int) < y.d) (hz : ∀ z, l[i + 1]? = some z → z.d ≤ y.d) :
    ∃ st', BI l (i + 1) (E ++ [leafE y]) S st' (leafB m (leafE y)) := by
  obtain ⟨hde, b1, b2, b3, b4, st', hl', hg', k0, k2, ⟨t, k1, kk⟩, ho'⟩ := h.next hy hd
  have hw := h.wf
  have hsh : shE 0 (leafE y) = leafE y := shE0 (by show 0 ≤ y.f ∧ y.f ≤ 1048576; omega) (by show 0 ≤ y.t ∧ y.t ≤ 1048576; omega)
  have hsp : stepB m (leafE y) = leafB m (leafE y) := by simp [stepB, leafE]
  have hone : soundB 0 m.far ((m.O.length : Int) - 1) [leafE y] = 0 := by
    rw [soundB_cons, if_neg (by show ¬ ((3 : Int) < 1 ∨ (3 : Int) < 3); omega), if_neg (by show ¬ (y.f < 0 ∨ 1048576 - 0 < y.f ∨ 0 + y.f < m.far); omega), if_pos (by rfl), if_neg (by show ¬ (y.t < 0 ∨ 1048576 - 0 < y.t ∨ 0 + y.t < 0 + y.f); omega)]
    rfl
  have hsd : soundB 0 0 0 (E ++ [leafE y]) = 0 := sound_app (m := newB 1) (by omega) wf1 h.sd (by rw [h.pe]; exact hone)
  have hmL := h.L
  have hmO := h.ln
  refine ⟨st', by rw [putB_snoc, h.pe, hsh, hsp], hsd, ?_, h.sr.leaf _, by simp [leafB, hmO], h.o0, ?_, by simp [leafB, hmL], ?_, ⟨t, k1⟩, ho', hg', fun z hz' => by have := hz z hz'; omega, ?_⟩
  · exact ⟨by simp [leafB, hmO], by show 0 ≤ y.t ∧ y.t ≤ 1048576; omega, by simp [leafB]; have := hw.L; omega, by simp [leafB]; have := hw.O; omega⟩
  · intro q j hqj
    have hq := (List.getElem?_eq_some_iff.1 hqj).1
    have hq : q < m.O.length := hq
    obtain ⟨x, f, hx, hxd, hxs, hxS⟩ := h.q q j hqj
    by_cases hqs : q < S.length
    · exact ⟨x, f, hx, hxd, by rw [k0 q hqs]; exact hxs, hxS⟩
    · have : q = S.length := by omega
      subst this
      rw [kk] at hxs
      injection hxs with hxs
      injection hxs with e1 e2
      exact ⟨x, y.t, hx, hxd, by rw [k1, e2], hxS⟩
  · intro j x hj hx
    show (m.L ++ [(⟨y.k, y.f, y.t, (m.O.length : Int)⟩ : Nd)])[j]? = some (if j ∈ m.O then toN 0 x else x)
    by_cases hji : j < i
    · rw [List.getElem?_append_left (by omega), h.Lg j x hji hx]
    · have : j = i := by omega
      subst this
      rw [hy] at hx
      injection hx with hx
      subst hx
      have hno : j ∉ m.O := fun hm => by have := h.sr.o j hm; omega
      rw [if_neg hno, ← hmL]
      simp
      obtain ⟨yk, yf, yt, yd⟩ := y
      simp at hde ⊢
      omega
  · have := h.cnt
    rw [List.length_append, List.length_singleton]
    omega
theorem BI.done {l : List Nd} {E : List Ev} {st : List (Int × Int)} {m : Bl} {h0 : Nd} (h : BI l l.length E [] st m) (h00 : l[0]? = some h0) : putE (newB 1) 0 E = 0 ∧ doneL m h0.t = l ∧ m.far ≤ h0.t ∧ h0.t ≤ 1048576 := by
  obtain ⟨x, f, hx, _, hst, _⟩ := h.q 0 0 h.o0
  rw [h00] at hx
  injection hx with hx
  subst hx
  obtain ⟨t, hfr⟩ := h.fr
  have hfr : st[0]? = some (m.far, t) := hfr
  rw [hst] at hfr
  injection hfr with hfr
  injection hfr with e1 e2
  subst e1
  obtain ⟨_, o2, o3, _⟩ := h.ord _ _ hst
  have hO : m.O = [0] := by
    have h1 := h.ln
    have h2 := h.o0
    cases hm : m.O with
    | nil => rw [hm] at h1; cases h1
    | cons a r =>
      rw [hm] at h1 h2
      simp at h1 h2
      subst h1
      subst h2
      rfl
  refine ⟨by rw [putE_in (by omega)]; exact h.sd, ?_, o2, o3⟩
  apply List.ext_getElem?
  intro j
  by_cases hj : j < l.length
  · have hlj := List.getElem?_eq_getElem hj
    rw [hlj, get_doneL (h.Lg j _ hj hlj), hO]
    by_cases hj0 : j = 0
    · subst hj0
      rw [h00] at hlj
      injection hlj with hlj
      rw [← hlj]
      simp [toN]
    · simp [hj0]
  · rw [List.getElem?_eq_none (by rw [len_doneL, h.L]; omega), List.getElem?_eq_none (by omega)]
end Go.Proofs.Ytfaibpdoalbkpaa.Bu
