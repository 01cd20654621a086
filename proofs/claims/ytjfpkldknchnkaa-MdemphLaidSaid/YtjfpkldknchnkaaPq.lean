/- Pairs: the document's way and the stack, in plain words; no two pairs begin at one place. -/
import Derived.Test.YtjfpkldknchnkaaPm
namespace Go.Proofs.Ytjfpkldknchnkaa.Me
open Go.RowKit Go.Proofs.YtjfpkldknchnkaaW.PrintWords Go.Proofs.YtjfpkldknchnkaaW.PrintLast Go.Proofs.YtjfpkldknchnkaaW.PrintMore
attribute [local go_sem] max2_int min2_int max_two min_two max_three min_three max_four min_four
set_option linter.unusedVariables false
set_option linter.unusedSimpArgs false
/-- The stack that the document's rows stand for. -/
def stk (g : Nat → Option Lf) : Nat → List Lf
  | 0 => []
  | k + 1 => match g k with
    | some y => stk g k ++ [y]
    | none => stk g k
/-- The topmost candidate below k that fits. -/
def topK (g : Nat → Option Lf) (x : Rn) : Nat → Option Nat
  | 0 => none
  | k + 1 => match g k with
    | some y => if fitB y.r x = true then some k else topK g x k
    | none => topK g x k
theorem fitAt_left {L M : List Lf} {x : Rn} : ∀ {m : Nat}, m ≤ L.length → fitAt (L ++ M) x m = fitAt L x m
  | 0, _ => rfl
  | m + 1, h => by
    unfold fitAt
    rw [List.getElem?_append_left (by omega), fitAt_left (m := m) (by omega)]
theorem stk_s {g : Nat → Option Lf} {k : Nat} {y : Lf} (h : g k = some y) : stk g (k + 1) = stk g k ++ [y] := by rw [stk, h]
theorem stk_n {g : Nat → Option Lf} {k : Nat} (h : g k = none) : stk g (k + 1) = stk g k := by rw [stk, h]
theorem topK_s {g : Nat → Option Lf} {x : Rn} {k : Nat} {y : Lf} (h : g k = some y) : topK g x (k + 1) = if fitB y.r x = true then some k else topK g x k := by rw [topK, h]
theorem topK_n {g : Nat → Option Lf} {x : Rn} {k : Nat} (h : g k = none) : topK g x (k + 1) = topK g x k := by rw [topK, h]
theorem fitAt_stk (g : Nat → Option Lf) (x : Rn) : ∀ i, fitAt (stk g i) x (stk g i).length = (topK g x i).map fun k => (stk g k).length
  | 0 => rfl
  | i + 1 => by
    have ih := fitAt_stk g x i
    cases hg : g i with
    | none => rw [stk_n hg, topK_n hg]; exact ih
    | some y =>
      rw [stk_s hg, topK_s hg, List.length_append, List.length_singleton, fitAt, List.getElem?_append_right (Nat.le_refl _), Nat.sub_self]
      simp only [List.getElem?_cons_zero]
      split
      · rfl
      · rw [fitAt_left (Nat.le_refl _)]
        exact ih
theorem topK_some {g : Nat → Option Lf} {x : Rn} : ∀ {i k : Nat}, topK g x i = some k → k < i ∧ ∃ y, g k = some y ∧ fitB y.r x = true
  | 0, k, h => by cases h
  | i + 1, k, h => by
    unfold topK at h
    split at h
    · rename_i y hy
      split at h
      · rename_i hf
        injection h with h
        subst h
        exact ⟨Nat.lt_succ_self _, y, hy, hf⟩
      · obtain ⟨h1, h2⟩ := topK_some h
        exact ⟨by omega, h2⟩
    · obtain ⟨h1, h2⟩ := topK_some h
      exact ⟨by omega, h2⟩
theorem stk_grow (g : Nat → Option Lf) : ∀ {k i : Nat}, k ≤ i → ∃ M, stk g i = stk g k ++ M
  | k, 0, h => by obtain rfl : k = 0 := by omega
                  exact ⟨[], by simp⟩
  | k, i + 1, h => by
    by_cases e : k = i + 1
    · subst e
      exact ⟨[], by simp⟩
    · obtain ⟨M, hM⟩ := stk_grow g (k := k) (i := i) (by omega)
      cases hg : g i with
      | none => exact ⟨M, by rw [stk_n hg]; exact hM⟩
      | some y => exact ⟨M ++ [y], by rw [stk_s hg, hM, List.append_assoc]⟩
theorem stk_at {g : Nat → Option Lf} {k i : Nat} {y : Lf} (h : k < i) (hy : g k = some y) : (stk g i)[(stk g k).length]? = some y ∧ (stk g i).take (stk g k).length = stk g k := by
  obtain ⟨M, hM⟩ := stk_grow g (k := k + 1) (i := i) h
  have hs : stk g (k + 1) = stk g k ++ [y] := by rw [stk, hy]
  rw [hM, hs]
  refine ⟨?_, ?_⟩
  · rw [List.append_assoc, List.getElem?_append_right (Nat.le_refl _), Nat.sub_self]
    rfl
  · rw [List.append_assoc, List.take_left]
theorem stk_same {g g' : Nat → Option Lf} : ∀ {k : Nat}, (∀ j, j < k → g' j = g j) → stk g' k = stk g k
  | 0, _ => rfl
  | k + 1, h => by
    have ih := stk_same (g := g) (g' := g') (k := k) (fun j hj => h j (by omega))
    have hk := h k (Nat.lt_succ_self _)
    cases hg : g k with
    | none => rw [stk_n hg, stk_n (hk.trans hg)]; exact ih
    | some y => rw [stk_s hg, stk_s (hk.trans hg), ih]
theorem stk_none {g : Nat → Option Lf} {k : Nat} : ∀ {i : Nat}, k ≤ i → (∀ j, k ≤ j → j < i → g j = none) → stk g i = stk g k
  | 0, h, _ => by obtain rfl : k = 0 := by omega
                  rfl
  | i + 1, h, hn => by
    by_cases e : k = i + 1
    · rw [e]
    · rw [stk_n (hn i (by omega) (by omega))]
      exact stk_none (by omega) (fun j h0 h1 => hn j h0 (by omega))
/-- What the document's rows hold at a place. -/
def candB (l : List Rn) (F T : List Int) (B : List Bool) (k : Nat) : Option Lf :=
  match l[k]?, F[k]?, T[k]?, B[k]? with
  | some r, some f, some t, some b => if b = false ∧ f ≠ t ∧ r.o = true then some ⟨r, f, t⟩ else none
  | _, _, _, _ => none
theorem twoB_in' {y X : Lf} (h1 : y.f < y.t) (h2 : X.f < X.t) : y.f ≤ y.t - twoB y X ∧ X.f + twoB y X ≤ X.t := by
  unfold twoB
  split <;> omega
/-- No two pairs begin at one place; what is left of the stack is apart, and from no pair. -/
structure Dis (L : List Lf) (o : List Pr) (P : Int) : Prop where
  nd : o.Pairwise fun p q => p.a ≠ q.a
  ap : L.Pairwise fun y z => y.t ≤ z.f
  ft : ∀ y, y ∈ L → y.f ≤ y.t ∧ y.t ≤ P
  fr : ∀ p, p ∈ o → ∀ y, y ∈ L → p.a < y.f ∨ y.t ≤ p.a
  lt : ∀ p, p ∈ o → p.a < P
theorem Dis.step {L : List Lf} {o : List Pr} {P : Int} (h : Dis L o P) {k : Nat} {y X : Lf} (hy : L[k]? = some y) (hft : y.f < y.t) (hX : X.f < X.t) (q : Int) (b : Bool) : Dis (takeL L k y X) (o ++ [⟨y.t - twoB y X, q, b⟩]) P := by
  obtain ⟨h1, h2⟩ := List.getElem?_eq_some_iff.1 hy
  have htp := twoB_pos y X
  have hti := (twoB_in' hft hX)
  have hmem : y ∈ L := List.mem_of_getElem? hy
  have hyP := (h.ft y hmem).2
  have hap : ∀ z, z ∈ L.take k → z.t ≤ y.f := fun z hz => by
    obtain ⟨j, hj⟩ := List.getElem?_of_mem hz
    obtain ⟨j1, j2⟩ := List.getElem?_eq_some_iff.1 hj
    have hjk : j < k := by rw [List.length_take] at j1; omega
    have := List.pairwise_iff_getElem.1 h.ap j k (by omega) h1 hjk
    rw [h2] at this
    rw [List.getElem_take] at j2
    rw [j2] at this
    exact this
  have hnew : ∀ p, p ∈ o → p.a ≠ y.t - twoB y X := fun p hp e => by
    rcases h.fr p hp y hmem with h3 | h3 <;> omega
  have hsub : ∀ z, z ∈ takeL L k y X → (z ∈ L.take k) ∨ z = { y with t := y.t - twoB y X } := fun z hz => by
    unfold takeL at hz
    split at hz
    · exact .inl hz
    · rcases List.mem_append.1 hz with h3 | h3
      · exact .inl h3
      · simp at h3; exact .inr h3
  refine ⟨?_, ?_, fun z hz => ?_, fun p hp z hz => ?_, fun p hp => ?_⟩
  · rw [List.pairwise_append]
    refine ⟨h.nd, by simp, fun p hp q' hq => ?_⟩
    simp at hq
    rw [hq]
    exact hnew p hp
  · unfold takeL
    have h3 : (L.take k).Pairwise fun y z => y.t ≤ z.f := h.ap.sublist (List.take_sublist _ _)
    split
    · exact h3
    · rw [List.pairwise_append]
      refine ⟨h3, by simp, fun z hz z' hz' => ?_⟩
      simp at hz'
      rw [hz']
      exact hap z hz
  · rcases hsub z hz with h3 | h3
    · exact h.ft z (List.mem_of_mem_take h3)
    · rw [h3]
      exact ⟨by show y.f ≤ y.t - twoB y X; omega, by show y.t - twoB y X ≤ P; omega⟩
  · rcases List.mem_append.1 hp with h4 | h4
    · rcases hsub z hz with h3 | h3
      · exact h.fr p h4 z (List.mem_of_mem_take h3)
      · rw [h3]
        rcases h.fr p h4 y hmem with h5 | h5
        · exact .inl h5
        · exact .inr (by show y.t - twoB y X ≤ p.a; omega)
    · simp at h4
      rw [h4]
      rcases hsub z hz with h3 | h3
      · have := hap z h3
        exact .inr (by show z.t ≤ y.t - twoB y X; omega)
      · rw [h3]
        exact .inr (Int.le_refl _)
  · rcases List.mem_append.1 hp with h4 | h4
    · exact h.lt p h4
    · simp at h4
      rw [h4]
      show y.t - twoB y X < P
      omega
theorem closeX_dis : ∀ (g : Nat) {L : List Lf} {X : Lf} {o : List Pr} {P : Int}, Dis L o P → (∀ y, y ∈ L → y.f < y.t) → Dis (closeX g L X o).1 (closeX g L X o).2.2 P ∧ (∀ y, y ∈ (closeX g L X o).1 → y.f < y.t) ∧ (closeX g L X o).2.1.t = X.t ∧ X.f ≤ (closeX g L X o).2.1.f ∧ (closeX g L X o).2.1.r = X.r
  | 0, L, X, o, P, h, hs => ⟨h, hs, rfl, Int.le_refl _, rfl⟩
  | g + 1, L, X, o, P, h, hs => by
    unfold closeX
    split
    · rename_i hg
      split
      · exact ⟨h, hs, rfl, Int.le_refl _, rfl⟩
      · rename_i k hk
        split
        · exact ⟨h, hs, rfl, Int.le_refl _, rfl⟩
        · rename_i y hy
          have hys := hs y (List.mem_of_getElem? hy)
          have htp := twoB_pos y X
          have hti := twoB_in' hys hg.2
          have hd := h.step hy hys hg.2 (X.f + twoB y X) (decide (twoB y X = 2))
          have hs2 : ∀ z, z ∈ takeL L k y X → z.f < z.t := fun z hz => by
            unfold takeL at hz
            split at hz
            · exact hs z (List.mem_of_mem_take hz)
            · rcases List.mem_append.1 hz with h3 | h3
              · exact hs z (List.mem_of_mem_take h3)
              · simp at h3
                rw [h3]
                show y.f < y.t - twoB y X
                omega
          obtain ⟨a1, a2, a3, a4, a5⟩ := closeX_dis g (X := { X with f := X.f + twoB y X }) hd hs2
          exact ⟨a1, a2, a3, by have : X.f + twoB y X ≤ _ := a4; omega, a5⟩
    · exact ⟨h, hs, rfl, Int.le_refl _, rfl⟩
theorem pairs_dis {l : List Rn} (hm : mayB 0 l = true) : ∀ k, k ≤ l.length → Dis (pairsL (l.take k)).1 (pairsL (l.take k)).2 (posI l k) ∧ ∀ y, y ∈ (pairsL (l.take k)).1 → y.f < y.t
  | 0, _ => ⟨⟨List.Pairwise.nil, List.Pairwise.nil, fun y hy => by simp [pairsL] at hy, fun p hp => by simp [pairsL] at hp, fun p hp => by simp [pairsL] at hp⟩, fun y hy => by simp [pairsL] at hy⟩
  | k + 1, h => by
    obtain ⟨r, hr⟩ : ∃ r, l[k]? = some r := ⟨_, List.getElem?_eq_getElem (by omega)⟩
    obtain ⟨m1, m2, m3, m4, m5⟩ := may_at hm hr
    obtain ⟨h1, h2⟩ := pairs_dis hm k (by omega)
    have hp1 : posI l (k + 1) = r.a + r.n := by simp [posI, hr]
    rw [pairsL_step hr, hp1]
    unfold runX
    obtain ⟨a1, a2, a3, a4, a5⟩ := closeX_dis r.n.toNat (X := ⟨r, r.a, r.a + r.n⟩) h1 h2
    generalize closeX r.n.toNat (pairsL (l.take k)).1 ⟨r, r.a, r.a + r.n⟩ (pairsL (l.take k)).2 = q at a1 a2 a3 a4 a5
    obtain ⟨L, X, o⟩ := q
    have a3 : X.t = r.a + r.n := a3
    have a4 : r.a ≤ X.f := a4
    show Dis (pushX L X) o (r.a + r.n) ∧ ∀ y, y ∈ pushX L X → y.f < y.t
    have hP : posI l k ≤ r.a + r.n := by omega
    have a1' : Dis L o (posI l k) := a1
    unfold pushX
    split
    · rename_i hpx
      refine ⟨⟨a1'.nd, ?_, fun y hy => ?_, fun p hp y hy => ?_, fun p hp => by have := a1'.lt p hp; omega⟩, fun y hy => ?_⟩
      · rw [List.pairwise_append]
        refine ⟨a1'.ap, by simp, fun y hy z hz => ?_⟩
        simp at hz
        rw [hz]
        have := (a1'.ft y hy).2
        omega
      · rcases List.mem_append.1 hy with h3 | h3
        · have := a1'.ft y h3; omega
        · simp at h3; rw [h3]; omega
      · rcases List.mem_append.1 hy with h3 | h3
        · exact a1'.fr p hp y h3
        · simp at h3; rw [h3]
          have := a1'.lt p hp
          exact .inl (by omega)
      · rcases List.mem_append.1 hy with h3 | h3
        · exact a2 y h3
        · simp at h3; rw [h3]; exact hpx.2
    · exact ⟨⟨a1'.nd, a1'.ap, fun y hy => by have := a1'.ft y hy; omega, a1'.fr, fun p hp => by have := a1'.lt p hp; omega⟩, a2⟩
/-- No two pairs begin at one place. -/
theorem pairsU_nd (l : List Rn) : (pairsU l).Pairwise fun p q => p.a ≠ q.a := by
  unfold pairsU
  split
  · rename_i hm
    have := (pairs_dis hm l.length (Nat.le_refl _)).1.nd
    rwa [List.take_length] at this
  · exact List.Pairwise.nil
end Go.Proofs.Ytjfpkldknchnkaa.Me
