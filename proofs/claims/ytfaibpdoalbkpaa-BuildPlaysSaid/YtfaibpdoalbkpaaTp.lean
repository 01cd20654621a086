/- Whatever is put, what comes of it is a tree: plain. -/
import Derived.Test.YtfaibpdoalbkpaaCk
import Derived.Test.YtfaibpdoalbkpaaAc
namespace Go.Proofs.Ytfaibpdoalbkpaa.Bu
set_option linter.unusedVariables false
set_option linter.unusedSimpArgs false
def ftd (x : Nd) : Int × Int × Int := (x.f, x.t, x.d)
def stepC (st : List (Int × Int)) (q : Int × Int × Int) : Option (List (Int × Int)) :=
  if q.2.2 < 1 ∨ (st.length : Int) < q.2.2 then none
  else match st[q.2.2.toNat - 1]? with
    | none => none
    | some p => if q.1 < p.1 ∨ q.2.1 < q.1 ∨ p.2 < q.2.1 then none else some (st.take (q.2.2.toNat - 1) ++ [(q.2.1, p.2), (q.1, q.2.1)])
def runC (st : List (Int × Int)) (l : List (Int × Int × Int)) : Option (List (Int × Int)) := l.foldl (fun o q => o.bind fun s => stepC s q) (some st)
theorem runC_cons (st : List (Int × Int)) (q : Int × Int × Int) (l : List (Int × Int × Int)) : runC st (q :: l) = (stepC st q).bind fun s => runC s l := by
  unfold runC
  simp only [List.foldl_cons, Option.bind_some]
  cases h : stepC st q with
  | none =>
    simp only [Option.bind_none]
    induction l with
    | nil => rfl
    | cons a l ih => simpa using ih
  | some s => rfl
theorem runC_snoc (st : List (Int × Int)) (l : List (Int × Int × Int)) (q : Int × Int × Int) : runC st (l ++ [q]) = (runC st l).bind fun s => stepC s q := by
  simp [runC, List.foldl_append]
theorem goC_run : ∀ (l : List Nd) (st S : List (Int × Int)), runC st (l.map ftd) = some S → goC st l = 0
  | [], _, _, _ => rfl
  | ⟨xk, xf, xt, xd⟩ :: l, st, S, h => by
    rw [List.map_cons, runC_cons] at h
    have h' : (stepC st (xf, xt, xd)).bind (fun s => runC s (l.map ftd)) = some S := h
    clear h
    show (if xd < 1 ∨ (st.length : Int) < xd then 60
      else match st[xd.toNat - 1]? with
        | none => 60
        | some p => if xf < p.1 ∨ xt < xf ∨ p.2 < xt then 60 else goC (st.take (xd.toNat - 1) ++ [(xt, p.2), (xf, xt)]) l) = 0
    unfold stepC at h'
    dsimp only at h'
    by_cases h1 : xd < 1 ∨ (st.length : Int) < xd
    · rw [if_pos h1] at h'; cases h'
    rw [if_neg h1] at h' ⊢
    cases h2 : st[xd.toNat - 1]? with
    | none => rw [h2] at h'; cases h'
    | some p =>
      rw [h2] at h'
      dsimp only at h' ⊢
      by_cases h3 : xf < p.1 ∨ xt < xf ∨ p.2 < xt
      · rw [if_pos h3] at h'; cases h'
      rw [if_neg h3] at h' ⊢
      exact goC_run l _ S h'
def endsL (m : Bl) (T : Nat → Int) : List Nd := m.L.mapIdx fun i x => if i ∈ m.O then toN (T x.d.toNat) x else x
theorem get_endsL (m : Bl) (T : Nat → Int) (i : Nat) : (endsL m T)[i]? = m.L[i]?.map fun x => if i ∈ m.O then toN (T x.d.toNat) x else x := by simp [endsL]
theorem doneL_ends (m : Bl) (n : Int) : doneL m n = endsL m fun _ => n := rfl
structure TI (m : Bl) : Prop where
  ne : ∃ h r, m.L = h :: r ∧ h.k = 1 ∧ h.f = 0 ∧ h.d = 0
  o0 : m.O[0]? = some 0
  dep : ∀ (j i : Nat), m.O[j]? = some i → ∃ x, m.L[i]? = some x ∧ x.d = (j : Int)
  srt : Srt m
  run : ∀ T : Nat → Int, (∀ j, j + 1 < m.O.length → T (j + 1) ≤ T j) → m.far ≤ T (m.O.length - 1) →
    ∃ S, runC [(0, T 0)] (((endsL m T).map ftd).tail) = some S ∧ m.O.length ≤ S.length ∧ ∀ j, j < m.O.length → ∃ f, S[j]? = some (f, T j) ∧ (j + 1 < m.O.length → f ≤ T (j + 1)) ∧ (j + 1 = m.O.length → f ≤ m.far)
theorem TI.len {m : Bl} (h : TI m) : 1 ≤ m.O.length := (List.getElem?_eq_some_iff.1 h.o0).1
theorem TI.new : TI (newB 1) := by
  refine ⟨⟨_, _, rfl, rfl, rfl, rfl⟩, rfl, ?_, ⟨by decide, by decide⟩, ?_⟩
  · intro j i h
    cases j with
    | zero => simp [newB] at h; subst h; exact ⟨_, rfl, rfl⟩
    | succ j => simp [newB] at h
  · intro T _ hf
    refine ⟨[(0, T 0)], rfl, by simp [newB], ?_⟩
    intro j hj
    have : j = 0 := by simp [newB] at hj; exact hj
    subst this
    exact ⟨0, rfl, fun h => by simp [newB] at h, fun _ => by simp [newB]⟩
theorem tail_snoc {α : Type} {a : List α} {b : α} (h : a ≠ []) : (a ++ [b]).tail = a.tail ++ [b] := by
  cases a with
  | nil => exact absurd rfl h
  | cons x r => rfl
/-- A node put behind all others, one deeper than what is open. -/
theorem run_add {m : Bl} {T : Nat → Int} {S : List (Int × Int)} {x : Nd} (hl : 1 ≤ m.O.length) (hx : x.d = (m.O.length : Int)) (hS : m.O.length ≤ S.length)
    (hj : ∀ j, j < m.O.length → ∃ f, S[j]? = some (f, T j) ∧ (j + 1 < m.O.length → f ≤ T (j + 1)) ∧ (j + 1 = m.O.length → f ≤ m.far)) (h1 : m.far ≤ x.f) (h2 : x.f ≤ x.t) (h3 : x.t ≤ T (m.O.length - 1)) :
    stepC S (ftd x) = some (S.take (m.O.length - 1) ++ [(x.t, T (m.O.length - 1)), (x.f, x.t)]) := by
  obtain ⟨f, hf, _, hff⟩ := hj (m.O.length - 1) (by omega)
  have hff := hff (by omega)
  obtain ⟨xk, xf, xt, xd⟩ := x
  dsimp only at hx h1 h2 h3 ⊢
  subst hx
  show stepC S (xf, xt, (m.O.length : Int)) = _
  unfold stepC
  dsimp only
  rw [if_neg (by omega), Int.toNat_natCast, hf]
  dsimp only
  rw [if_neg (by omega)]
theorem TI.begin {m : Bl} (h : TI m) {e : Ev} (he : m.far ≤ e.a) : TI (beginB m e) := by
  have hl := h.len
  obtain ⟨h0, r, hL, hk, hf, hd⟩ := h.ne
  refine ⟨⟨h0, r ++ [⟨e.k, e.a, 0, (m.O.length : Int)⟩], by simp [beginB, hL], hk, hf, hd⟩, ?_, ?_, h.srt.begin e, ?_⟩
  · simp only [beginB]
    rw [List.getElem?_append_left hl]
    exact h.o0
  · intro j i hji
    simp only [beginB] at hji ⊢
    by_cases hj : j < m.O.length
    · rw [List.getElem?_append_left hj] at hji
      obtain ⟨x, hx, hxd⟩ := h.dep j i hji
      exact ⟨x, by rw [List.getElem?_append_left (List.getElem?_eq_some_iff.1 hx).1]; exact hx, hxd⟩
    · have hjl := (List.getElem?_eq_some_iff.1 hji).1
      simp at hjl
      have hje : j = m.O.length := by omega
      subst hje
      simp at hji
      subst hji
      exact ⟨⟨e.k, e.a, 0, (m.O.length : Int)⟩, by simp, rfl⟩
  · intro T hT hfar
    simp only [beginB, List.length_append, List.length_singleton, Nat.add_sub_cancel] at hT hfar ⊢
    obtain ⟨S, hr, hSl, hS⟩ := h.run T (fun j hj => hT j (by omega)) (by have := hT (m.O.length - 1) (by omega); rw [Nat.sub_add_cancel hl] at this; omega)
    have hends : endsL (beginB m e) T = endsL m T ++ [⟨e.k, e.a, T m.O.length, (m.O.length : Int)⟩] := by
      apply List.ext_getElem?
      intro i
      rw [get_endsL]
      by_cases hi : i < m.L.length
      · rw [List.getElem?_append_left (by simpa [endsL] using hi), get_endsL]
        simp only [beginB]
        rw [List.getElem?_append_left hi]
        have : i ≠ m.L.length := by omega
        simp [this]
      · rw [List.getElem?_append_right (by simpa [endsL] using Nat.not_lt.1 hi)]
        simp only [beginB]
        rw [List.getElem?_append_right (Nat.not_lt.1 hi)]
        have hle : (endsL m T).length = m.L.length := by simp [endsL]
        rw [hle]
        by_cases hie : i = m.L.length
        · subst hie
          simp [toN]
        · have : i - m.L.length ≠ 0 := by omega
          rw [List.getElem?_eq_none (by simp; omega), List.getElem?_eq_none (by simp; omega)]
          rfl
    have hmne : (endsL m T).map ftd ≠ [] := by simp [endsL, hL]
    have hstep := run_add (x := ⟨e.k, e.a, T m.O.length, (m.O.length : Int)⟩) hl rfl hSl hS he hfar (by have := hT (m.O.length - 1) (by omega); rw [Nat.sub_add_cancel hl] at this; exact this)
    refine ⟨S.take (m.O.length - 1) ++ [(T m.O.length, T (m.O.length - 1)), (e.a, T m.O.length)], ?_, ?_, ?_⟩
    · show runC [(0, T 0)] ((endsL (beginB m e) T).map ftd).tail = _
      rw [hends, List.map_append, List.map_singleton, tail_snoc hmne, runC_snoc, hr, Option.bind_some]
      exact hstep
    · simp; omega
    · intro j hj
      have htk : (S.take (m.O.length - 1)).length = m.O.length - 1 := by rw [List.length_take]; omega
      by_cases h1 : j < m.O.length - 1
      · obtain ⟨f, hf1, hf2, _⟩ := hS j (by omega)
        exact ⟨f, by rw [List.getElem?_append_left (by rw [htk]; exact h1), List.getElem?_take_of_lt h1]; exact hf1, fun _ => hf2 (by omega), fun h => by omega⟩
      · rw [List.getElem?_append_right (by rw [htk]; omega), htk]
        by_cases h2 : j = m.O.length - 1
        · subst h2
          refine ⟨T m.O.length, by simp, fun _ => by rw [Nat.sub_add_cancel hl]; exact Int.le_refl _, fun h => by omega⟩
        · have h3 : j = m.O.length := by omega
          subst h3
          have : m.O.length - (m.O.length - 1) = 1 := by omega
          rw [this]
          exact ⟨e.a, rfl, fun h => by omega, fun _ => Int.le_refl _⟩
theorem TI.leaf {m : Bl} (h : TI m) {e : Ev} (he : m.far ≤ e.a) (het : e.a ≤ e.t) : TI (leafB m e) := by
  have hl := h.len
  obtain ⟨h0, r, hL, hk, hf, hd⟩ := h.ne
  refine ⟨⟨h0, r ++ [⟨e.k, e.a, e.t, (m.O.length : Int)⟩], by simp [leafB, hL], hk, hf, hd⟩, h.o0, ?_, h.srt.leaf e, ?_⟩
  · intro j i hji
    obtain ⟨x, hx, hxd⟩ := h.dep j i hji
    exact ⟨x, by simp only [leafB]; rw [List.getElem?_append_left (List.getElem?_eq_some_iff.1 hx).1]; exact hx, hxd⟩
  · intro T hT hfar
    simp only [leafB] at hT hfar ⊢
    obtain ⟨S, hr, hSl, hS⟩ := h.run T hT (by omega)
    have hends : endsL (leafB m e) T = endsL m T ++ [⟨e.k, e.a, e.t, (m.O.length : Int)⟩] := by
      apply List.ext_getElem?
      intro i
      rw [get_endsL]
      by_cases hi : i < m.L.length
      · rw [List.getElem?_append_left (by simpa [endsL] using hi), get_endsL]
        simp only [leafB]
        rw [List.getElem?_append_left hi]
        rfl
      · rw [List.getElem?_append_right (by simpa [endsL] using Nat.not_lt.1 hi)]
        simp only [leafB]
        rw [List.getElem?_append_right (Nat.not_lt.1 hi)]
        have hle : (endsL m T).length = m.L.length := by simp [endsL]
        rw [hle]
        have hni : i ∉ m.O := fun hm => by have := h.srt.o i hm; omega
        by_cases hie : i = m.L.length
        · subst hie
          simp [hni]
        · rw [List.getElem?_eq_none (by simp; omega)]
          rfl
    have hmne : (endsL m T).map ftd ≠ [] := by simp [endsL, hL]
    have hstep := run_add (x := ⟨e.k, e.a, e.t, (m.O.length : Int)⟩) hl rfl hSl hS he het hfar
    refine ⟨S.take (m.O.length - 1) ++ [(e.t, T (m.O.length - 1)), (e.a, e.t)], ?_, ?_, ?_⟩
    · show runC [(0, T 0)] ((endsL (leafB m e) T).map ftd).tail = _
      rw [hends, List.map_append, List.map_singleton, tail_snoc hmne, runC_snoc, hr, Option.bind_some]
      exact hstep
    · simp; omega
    · intro j hj
      have htk : (S.take (m.O.length - 1)).length = m.O.length - 1 := by rw [List.length_take]; omega
      by_cases h1 : j < m.O.length - 1
      · obtain ⟨f, hf1, hf2, _⟩ := hS j (by omega)
        exact ⟨f, by rw [List.getElem?_append_left (by rw [htk]; exact h1), List.getElem?_take_of_lt h1]; exact hf1, fun _ => hf2 (by omega), fun h => by omega⟩
      · have h2 : j = m.O.length - 1 := by omega
        subst h2
        rw [List.getElem?_append_right (by rw [htk]; omega), htk]
        exact ⟨e.t, by simp, fun h => by omega, fun _ => Int.le_refl _⟩
theorem TI.ends {m : Bl} (h : TI m) {e : Ev} (he : m.far ≤ e.a) (h2 : 2 ≤ m.O.length) : TI (endB m e) := by
  have hl := h.len
  obtain ⟨h0, r, hL, hk, hf, hd⟩ := h.ne
  obtain ⟨O', i, hO⟩ : ∃ O' i, m.O = O' ++ [i] := by
    have hne : m.O ≠ [] := by intro hn; rw [hn] at hl; simp at hl
    exact ⟨_, _, (List.dropLast_concat_getLast hne).symm⟩
  have hlO : O'.length = m.O.length - 1 := by rw [hO]; simp
  have hlast : m.O.getLastD 0 = i := by rw [hO]; simp
  have hdl : m.O.dropLast = O' := by rw [hO]; simp
  have hOi : m.O[m.O.length - 1]? = some i := by rw [← hlO, hO]; simp
  obtain ⟨y, hy, hyd⟩ := h.dep _ _ hOi
  have hi0 : i ≠ 0 := by
    intro hi
    subst hi
    obtain ⟨x, hx, hxd⟩ := h.dep _ _ h.o0
    rw [hx] at hy
    injection hy with hy
    subst hy
    omega
  have hiO' : i ∉ O' := fun hm => by
    have hs := h.srt.s
    rw [hO, List.pairwise_append] at hs
    have := hs.2.2 i hm i (by simp)
    omega
  have hEL : (endB m e).L = m.L.modify i (shutN e) := by simp only [endB, hlast]
  have hEO : (endB m e).O = O' := by simp only [endB, hdl]
  have hEF : (endB m e).far = e.a := rfl
  refine ⟨⟨h0, r.modify (i - 1) (shutN e), ?_, hk, hf, hd⟩, ?_, ?_, h.srt.ends e, ?_⟩
  · rw [hEL, hL]
    obtain ⟨i', rfl⟩ : ∃ i', i = i' + 1 := ⟨i - 1, by omega⟩
    rfl
  · rw [hEO]
    have h3 := h.o0
    rw [hO, List.getElem?_append_left (by omega)] at h3
    exact h3
  · intro j q hjq
    rw [hEO] at hjq
    have hjl := (List.getElem?_eq_some_iff.1 hjq).1
    obtain ⟨x, hx, hxd⟩ := h.dep j q (by rw [hO, List.getElem?_append_left hjl]; exact hjq)
    have hqi : i ≠ q := fun e' => hiO' (by rw [e']; exact List.mem_of_getElem? hjq)
    exact ⟨x, by rw [hEL, List.getElem?_modify]; simp [hqi, hx], hxd⟩
  · intro T hT hfar
    rw [hEO] at hT hfar ⊢
    rw [hEF] at hfar
    obtain ⟨k, hkk⟩ : ∃ k, m.O.length = k + 1 := ⟨m.O.length - 1, by omega⟩
    have hOk : O'.length = k := by omega
    rw [hOk] at hT hfar ⊢
    obtain ⟨S, hr, hSl, hS⟩ := h.run (fun j => if j = k then e.a else T j) (fun j hj => by
      by_cases h3 : j + 1 = k
      · have : k - 1 = j := by omega
        rw [this] at hfar
        simp only [h3, if_true]
        rw [if_neg (by omega)]
        exact hfar
      · simp only [h3, if_false]
        rw [if_neg (by omega)]
        exact hT j (by omega)) (by rw [hkk]; simp; exact he)
    have hends : (endsL (endB m e) T).map ftd = (endsL m (fun j => if j = k then e.a else T j)).map ftd := by
      apply List.ext_getElem?
      intro j
      rw [List.getElem?_map, List.getElem?_map, get_endsL, get_endsL, hEL, hEO, List.getElem?_modify]
      cases hx : m.L[j]? with
      | none => simp
      | some x =>
        by_cases hji : i = j
        · subst hji
          rw [hx] at hy
          injection hy with hy
          subst hy
          have hmem : i ∈ m.O := by rw [hO]; simp
          have hdk : x.d.toNat = k := by omega
          simp [hmem, hiO', shutN, toN, ftd, hdk]
        · have hmem : j ∈ m.O ↔ j ∈ O' := by rw [hO]; simp; intro e'; exact absurd e'.symm hji
          by_cases hjo : j ∈ O'
          · obtain ⟨p, hp⟩ := List.mem_iff_getElem?.1 hjo
            have hpl := (List.getElem?_eq_some_iff.1 hp).1
            obtain ⟨x', hx', hxd'⟩ := h.dep p j (by rw [hO, List.getElem?_append_left hpl]; exact hp)
            rw [hx] at hx'
            injection hx' with hx'
            subst hx'
            have : x.d.toNat ≠ k := by omega
            simp [hmem, hjo, hji, this]
          · simp [hmem, hjo, hji]
    refine ⟨S, ?_, by omega, ?_⟩
    · rw [hends]
      have h0k : ¬ (0 = k) := by omega
      simp only [h0k, if_false] at hr
      exact hr
    · intro j hj
      obtain ⟨f, hf1, hf2, _⟩ := hS j (by omega)
      have hjk : ¬ j = k := by omega
      simp only [hjk, if_false] at hf1
      refine ⟨f, hf1, fun h3 => ?_, fun h3 => ?_⟩
      · have h4 := hf2 (by omega)
        have : ¬ j + 1 = k := by omega
        simp only [this, if_false] at h4
        exact h4
      · have h4 := hf2 (by omega)
        simp only [h3, if_true] at h4
        rw [hEF]
        exact h4
theorem sound_ord {at_ : Int} {m : Bl} {e : Ev} {r : List Ev} {n : Nat} (ha : 0 ≤ at_ ∧ at_ ≤ 1048576) (hw : WF m n) (h : soundB at_ m.far ((m.O.length : Int) - 1) (e :: r) = 0) :
    m.far ≤ (shE at_ e).a ∧ (e.o = 3 → (shE at_ e).a ≤ (shE at_ e).t) := by
  rw [soundB_cons] at h
  by_cases h1 : e.o < 1 ∨ 3 < e.o
  · rw [if_pos h1] at h; cases h
  rw [if_neg h1] at h
  by_cases h2 : Bad at_ m.far e.a
  · rw [if_pos h2] at h; cases h
  rw [if_neg h2] at h
  have hb : 0 ≤ e.a ∧ at_ + e.a ≤ 1048576 ∧ m.far ≤ at_ + e.a := by unfold Bad at h2; omega
  have hwa : Go.RowKit.wrap64 (e.a + at_) = at_ + e.a := by rw [← Go.Proofs.YtfaibpdoalbkpaaW.PrintLast.i64_w, Int.add_comm]; exact IntWalk.i64_in _ (by omega)
  refine ⟨by simp [shE, hwa]; omega, fun h3 => ?_⟩
  rw [if_pos h3] at h
  by_cases h4 : Bad at_ (at_ + e.a) e.t
  · rw [if_pos h4] at h; cases h
  have hb2 : 0 ≤ e.t ∧ at_ + e.t ≤ 1048576 ∧ at_ + e.a ≤ at_ + e.t := by unfold Bad at h4; omega
  have hwt : Go.RowKit.wrap64 (e.t + at_) = at_ + e.t := by rw [← Go.Proofs.YtfaibpdoalbkpaaW.PrintLast.i64_w, Int.add_comm]; exact IntWalk.i64_in _ (by omega)
  simp [shE, hwa, hwt]
  omega
theorem TI.put {at_ : Int} (ha : 0 ≤ at_ ∧ at_ ≤ 1048576) : ∀ {l : List Ev} {m : Bl} {n : Nat}, TI m → WF m n → soundB at_ m.far ((m.O.length : Int) - 1) l = 0 → TI (putB at_ m l) ∧ WF (putB at_ m l) (n + l.length)
  | [], _, _, h, hw, _ => ⟨h, hw⟩
  | e :: r, m, n, h, hw, hs => by
    obtain ⟨ho, hw', hs'⟩ := sound_step ha hw hs
    obtain ⟨o1, o2⟩ := sound_ord ha hw hs
    have hTI : TI (stepB m (shE at_ e)) := by
      rcases ho with ho | ⟨ho, h2⟩ | ho
      · have : stepB m (shE at_ e) = beginB m (shE at_ e) := by simp [stepB, shE, ho]
        rw [this]
        exact h.begin o1
      · have : stepB m (shE at_ e) = endB m (shE at_ e) := by simp [stepB, shE, ho]
        rw [this]
        exact h.ends o1 h2
      · have : stepB m (shE at_ e) = leafB m (shE at_ e) := by simp [stepB, shE, ho]
        rw [this]
        exact h.leaf o1 (o2 ho)
    have := TI.put ha (l := r) hTI hw' hs'
    rw [show n + (e :: r).length = n + 1 + r.length from by simp; omega]
    exact this
theorem TI.check {m : Bl} {n0 : Nat} (h : TI m) (hw : WF m n0) {n : Int} (h1 : m.far ≤ n) (h2 : n ≤ 1048576) : checkB (doneL m n) n = 0 := by
  obtain ⟨h0, r, hL, hk, hf, hd⟩ := h.ne
  obtain ⟨S, hr, _⟩ := h.run (fun _ => n) (fun _ _ => Int.le_refl _) h1
  have h00 : (0 : Nat) ∈ m.O := List.mem_of_getElem? h.o0
  have hg : (endsL m fun _ => n)[0]? = some (toN n h0) := by rw [get_endsL, hL]; simp [h00]
  rw [doneL_ends]
  cases hE : endsL m fun _ => n with
  | nil => rw [hE] at hg; simp at hg
  | cons x rest =>
    rw [hE] at hg hr
    simp at hg
    subst hg
    have := hw.f
    show (if n < 0 ∨ 1048576 < n ∨ (toN n h0).k ≠ 1 ∨ (toN n h0).f ≠ 0 ∨ (toN n h0).t ≠ n ∨ (toN n h0).d ≠ 0 then (60 : Int) else goC [(0, n)] rest) = 0
    rw [if_neg (by simp [toN, hk, hf, hd]; omega)]
    exact goC_run rest _ S (by simpa using hr)
end Go.Proofs.Ytfaibpdoalbkpaa.Bu
