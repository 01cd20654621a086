/- Pairs lie within one another, or apart; no byte is taken twice: plain words. -/
import Derived.Test.YtjfpkldknchnkaaPq
import Derived.Test.YtjfpkldknchnkaaRb
namespace Go.Proofs.Ytjfpkldknchnkaa.Me
open Go.RowKit Go.Proofs.YtjfpkldknchnkaaW.PrintWords Go.Proofs.YtjfpkldknchnkaaW.PrintLast Go.Proofs.YtjfpkldknchnkaaW.PrintMore
attribute [local go_sem] max2_int min2_int max_two min_two max_three min_three max_four min_four
set_option linter.unusedVariables false
set_option linter.unusedSimpArgs false
/-- Two runs, one ahead of the other. -/
def GapR (x y : Rn) : Prop := x.a + x.n ≤ y.a ∧ (x.c = y.c → x.a + x.n < y.a)
def nn (p : Pr) : Int := if p.s = true then 2 else 1
theorem nn_pos (p : Pr) : 1 ≤ nn p ∧ nn p ≤ 2 := by unfold nn; split <;> omega
/-- The runs of a pair. -/
def PrOk (l : List Rn) (p : Pr) : Prop := ∃ x y, x ∈ l ∧ y ∈ l ∧ x.o = true ∧ y.k = true ∧ x.c = y.c ∧ x.a ≤ p.a ∧ p.a + nn p ≤ x.a + x.n ∧ y.a ≤ p.b - nn p ∧ p.b ≤ y.a + y.n ∧ x.a + x.n < y.a
/-- Apart, or the first one within the second. -/
def Aft (p q : Pr) : Prop := p.b ≤ q.a ∨ (q.a + nn q ≤ p.a ∧ p.b ≤ q.b - nn q)
structure Nst (l M : List Rn) (L : List Lf) (o : List Pr) (P : Int) : Prop where
  pw : o.Pairwise Aft
  st : ∀ y, y ∈ L → y.r ∈ M ∧ y.r.o = true ∧ y.r.a ≤ y.f ∧ y.f < y.t ∧ y.t ≤ y.r.a + y.r.n
  ap : L.Pairwise fun y z => y.t ≤ z.f
  sep : ∀ p, p ∈ o → ∀ y, y ∈ L → y.t ≤ p.a ∨ p.b ≤ y.f
  ok : ∀ p, p ∈ o → PrOk l p
  lt : ∀ p, p ∈ o → p.b ≤ P
theorem mem_takeL {L : List Lf} {k : Nat} {y X z : Lf} (hz : z ∈ takeL L k y X) : z ∈ L.take k ∨ (z = { y with t := y.t - twoB y X } ∧ y.f ≠ y.t - twoB y X) := by
  unfold takeL at hz
  split at hz
  · exact .inl hz
  · rename_i hne
    rcases List.mem_append.1 hz with h3 | h3
    · exact .inl h3
    · simp at h3; exact .inr ⟨h3, hne⟩
theorem Nst.step {l M : List Rn} {L : List Lf} {o : List Pr} {k : Nat} {y X : Lf} (h : Nst l M L o X.f) (hy : L[k]? = some y) (hf : fitB y.r X.r = true) (hk : X.r.k = true) (hX : X.f < X.t) (hXa : X.r.a ≤ X.f) (hXt : X.t = X.r.a + X.r.n) (hXm : X.r ∈ l) (hM : ∀ x, x ∈ M → x ∈ l ∧ GapR x X.r) : Nst l M (takeL L k y X) (o ++ [⟨y.t - twoB y X, X.f + twoB y X, decide (twoB y X = 2)⟩]) (X.f + twoB y X) := by
  obtain ⟨h1, h2⟩ := List.getElem?_eq_some_iff.1 hy
  have hmem : y ∈ L := List.mem_of_getElem? hy
  obtain ⟨s1, s2, s3, s4, s5⟩ := h.st y hmem
  have htp := twoB_pos y X
  have hti := twoB_in' s4 hX
  obtain ⟨m1, m2⟩ := hM y.r s1
  have hc : y.r.c = X.r.c := by
    unfold fitB at hf
    simp only [Bool.and_eq_true, decide_eq_true_eq] at hf
    exact hf.1
  have hnn : nn ⟨y.t - twoB y X, X.f + twoB y X, decide (twoB y X = 2)⟩ = twoB y X := by
    unfold nn
    by_cases e : twoB y X = 2
    · rw [if_pos (by simpa using e), e]
    · rw [if_neg (by simpa using e)]; omega
  have hap : ∀ z, z ∈ L.take k → z.t ≤ y.f := fun z hz => by
    obtain ⟨j, hj⟩ := List.getElem?_of_mem hz
    obtain ⟨j1, j2⟩ := List.getElem?_eq_some_iff.1 hj
    have hjk : j < k := by rw [List.length_take] at j1; omega
    have := List.pairwise_iff_getElem.1 h.ap j k (by omega) h1 hjk
    rw [h2] at this
    rw [List.getElem_take] at j2
    rw [j2] at this
    exact this
  refine ⟨?_, fun z hz => ?_, ?_, fun p hp z hz => ?_, fun p hp => ?_, fun p hp => ?_⟩
  · rw [List.pairwise_append]
    refine ⟨h.pw, by simp, fun p hp q hq => ?_⟩
    simp at hq
    subst hq
    unfold Aft
    rw [hnn]
    have hpl := h.lt p hp
    rcases h.sep p hp y hmem with h3 | h3
    · exact .inr ⟨by show y.t - twoB y X + twoB y X ≤ p.a; omega, by show p.b ≤ X.f + twoB y X - twoB y X; omega⟩
    · exact .inl (by show p.b ≤ y.t - twoB y X; omega)
  · rcases mem_takeL hz with h3 | ⟨h3, h4⟩
    · exact h.st z (List.mem_of_mem_take h3)
    · subst h3
      exact ⟨s1, s2, s3, by show y.f < y.t - twoB y X; omega, by show y.t - twoB y X ≤ y.r.a + y.r.n; omega⟩
  · unfold takeL
    have h3 : (L.take k).Pairwise fun y z => y.t ≤ z.f := h.ap.sublist (List.take_sublist _ _)
    split
    · exact h3
    · rw [List.pairwise_append]
      refine ⟨h3, by simp, fun z hz z' hz' => ?_⟩
      simp at hz'
      rw [hz']
      exact hap z hz
  · rcases List.mem_append.1 hp with h4 | h4
    · rcases mem_takeL hz with h3 | ⟨h3, _⟩
      · exact h.sep p h4 z (List.mem_of_mem_take h3)
      · subst h3
        rcases h.sep p h4 y hmem with h5 | h5
        · exact .inl (by show y.t - twoB y X ≤ p.a; omega)
        · exact .inr h5
    · simp at h4
      subst h4
      rcases mem_takeL hz with h3 | ⟨h3, _⟩
      · have := hap z h3
        exact .inl (by show z.t ≤ y.t - twoB y X; omega)
      · subst h3
        exact .inl (Int.le_refl _)
  · rcases List.mem_append.1 hp with h4 | h4
    · exact h.ok p h4
    · simp at h4
      subst h4
      refine ⟨y.r, X.r, m1, hXm, s2, hk, hc, ?_, ?_, ?_, ?_, m2.2 hc⟩
      · show y.r.a ≤ y.t - twoB y X; omega
      · rw [hnn]; show y.t - twoB y X + twoB y X ≤ _; omega
      · rw [hnn]; show X.r.a ≤ X.f + twoB y X - twoB y X; omega
      · show X.f + twoB y X ≤ _; omega
  · rcases List.mem_append.1 hp with h4 | h4
    · have := h.lt p h4; omega
    · simp at h4
      rw [h4]
      exact Int.le_refl _
theorem closeX_nst : ∀ (g : Nat) {l M : List Rn} {L : List Lf} {X : Lf} {o : List Pr}, Nst l M L o X.f → X.r.a ≤ X.f → X.f ≤ X.t → X.t = X.r.a + X.r.n → X.r ∈ l → (∀ x, x ∈ M → x ∈ l ∧ GapR x X.r) → Nst l M (closeX g L X o).1 (closeX g L X o).2.2 (closeX g L X o).2.1.f ∧ (closeX g L X o).2.1.t = X.t ∧ X.f ≤ (closeX g L X o).2.1.f ∧ (closeX g L X o).2.1.f ≤ X.t ∧ (closeX g L X o).2.1.r = X.r
  | 0, l, M, L, X, o, h, hXa, hXf, hXt, hXm, hM => ⟨h, rfl, Int.le_refl _, hXf, rfl⟩
  | g + 1, l, M, L, X, o, h, hXa, hXf, hXt, hXm, hM => by
    unfold closeX
    split
    · rename_i hg
      split
      · exact ⟨h, rfl, Int.le_refl _, hXf, rfl⟩
      · rename_i k hk
        split
        · exact ⟨h, rfl, Int.le_refl _, hXf, rfl⟩
        · rename_i y hy
          obtain ⟨_, y', hy', hf⟩ := fitAt_some hk
          rw [hy] at hy'
          injection hy' with hy'
          subst hy'
          have hti := twoB_in' (h.st y (List.mem_of_getElem? hy)).2.2.2.1 hg.2
          have htp := twoB_pos y X
          obtain ⟨a1, a2, a3, a4, a5⟩ := closeX_nst g (X := { X with f := X.f + twoB y X }) (h.step hy hf hg.1 hg.2 hXa hXt hXm hM) (by show X.r.a ≤ X.f + twoB y X; omega) hti.2 hXt hXm hM
          exact ⟨a1, a2, by have : X.f + twoB y X ≤ _ := a3; omega, a4, a5⟩
    · exact ⟨h, rfl, Int.le_refl _, hXf, rfl⟩
theorem pairs_nst {l : List Rn} (hm : mayB 0 l = true) (hg : l.Pairwise GapR) : ∀ k, k ≤ l.length → Nst l (l.take k) (pairsL (l.take k)).1 (pairsL (l.take k)).2 (posI l k)
  | 0, _ => ⟨List.Pairwise.nil, fun y hy => by simp [pairsL] at hy, List.Pairwise.nil, fun p hp => by simp [pairsL] at hp, fun p hp => by simp [pairsL] at hp, fun p hp => by simp [pairsL] at hp⟩
  | k + 1, h => by
    obtain ⟨r, hr⟩ : ∃ r, l[k]? = some r := ⟨_, List.getElem?_eq_getElem (by omega)⟩
    obtain ⟨m1, m2, m3, m4, m5⟩ := may_at hm hr
    have h1 := pairs_nst hm hg k (by omega)
    have hp1 : posI l (k + 1) = r.a + r.n := by simp [posI, hr]
    have hM : ∀ x, x ∈ l.take k → x ∈ l ∧ GapR x r := fun x hx => by
      refine ⟨List.mem_of_mem_take hx, ?_⟩
      obtain ⟨j, hj⟩ := List.getElem?_of_mem hx
      obtain ⟨j1, j2⟩ := List.getElem?_eq_some_iff.1 hj
      have hjk : j < k := by rw [List.length_take] at j1; omega
      obtain ⟨k1, k2⟩ := List.getElem?_eq_some_iff.1 hr
      have := List.pairwise_iff_getElem.1 hg j k (by omega) k1 hjk
      rw [k2] at this
      rw [List.getElem_take] at j2
      rw [j2] at this
      exact this
    have h0 : Nst l (l.take k) (pairsL (l.take k)).1 (pairsL (l.take k)).2 r.a := ⟨h1.pw, h1.st, h1.ap, h1.sep, h1.ok, fun p hp => by have := h1.lt p hp; omega⟩
    rw [pairsL_step hr, hp1]
    unfold runX
    obtain ⟨a1, a2, a3, a4, a5⟩ := closeX_nst r.n.toNat (X := ⟨r, r.a, r.a + r.n⟩) h0 (Int.le_refl _) (by show r.a ≤ r.a + r.n; omega) rfl (List.mem_of_getElem? hr) hM
    generalize closeX r.n.toNat (pairsL (l.take k)).1 ⟨r, r.a, r.a + r.n⟩ (pairsL (l.take k)).2 = q at a1 a2 a3 a4 a5
    obtain ⟨L, X, o⟩ := q
    have a1 : Nst l (l.take k) L o X.f := a1
    have a2 : X.t = r.a + r.n := a2
    have a3 : r.a ≤ X.f := a3
    have a4 : X.f ≤ r.a + r.n := a4
    have a5 : X.r = r := a5
    show Nst l (l.take (k + 1)) (pushX L X) o (r.a + r.n)
    have hsub : ∀ x, x ∈ l.take k → x ∈ l.take (k + 1) := fun x hx => by rw [take_snoc hr]; exact List.mem_append_left _ hx
    have hrm : r ∈ l.take (k + 1) := by rw [take_snoc hr]; simp
    unfold pushX
    split
    · rename_i hpx
      rw [a5] at hpx
      refine ⟨a1.pw, fun y hy => ?_, ?_, fun p hp y hy => ?_, a1.ok, fun p hp => by have := a1.lt p hp; omega⟩
      · rcases List.mem_append.1 hy with h3 | h3
        · have := a1.st y h3
          exact ⟨hsub _ this.1, this.2⟩
        · simp at h3; subst h3
          rw [a5]
          exact ⟨hrm, hpx.1, a3, hpx.2, by omega⟩
      · rw [List.pairwise_append]
        refine ⟨a1.ap, by simp, fun y hy z hz => ?_⟩
        simp at hz
        rw [hz]
        have h5 := a1.st y hy
        have h6 := (hM _ h5.1).2.1
        omega
      · rcases List.mem_append.1 hy with h3 | h3
        · exact a1.sep p hp y h3
        · simp at h3; rw [h3]
          exact .inr (a1.lt p hp)
    · exact ⟨a1.pw, fun y hy => ⟨hsub _ (a1.st y hy).1, (a1.st y hy).2⟩, a1.ap, a1.sep, a1.ok, fun p hp => by have := a1.lt p hp; omega⟩
/-- What is known of pairs in their order. -/
structure Laws (l : List Rn) (R : List Pr) : Prop where
  ok : ∀ p, p ∈ R → PrOk l p
  pw : R.Pairwise fun p q => p.a < q.a ∧ (p.b ≤ q.a ∨ (p.a + nn p ≤ q.a ∧ q.b ≤ p.b - nn p))
theorem PrOk.wide {l : List Rn} {p : Pr} (h : PrOk l p) : 2 * nn p + 1 ≤ p.b - p.a := by
  obtain ⟨x, y, _, _, _, _, _, h1, h2, h3, h4, h5⟩ := h
  omega
theorem laws_of {l : List Rn} {R : List Pr} (hg : l.Pairwise GapR) (hp : R.Perm (pairsU l)) (hs : Srt R) : Laws l R := by
  have hnd := hp.symm.pairwise (pairsU_nd l) (fun h => fun e => h e.symm)
  have hN : (∀ p, p ∈ pairsU l → PrOk l p) ∧ (pairsU l).Pairwise fun p q => Aft p q ∨ Aft q p := by
    unfold pairsU
    split
    · rename_i hm
      have h := pairs_nst hm hg l.length (Nat.le_refl _)
      rw [List.take_length] at h
      exact ⟨h.ok, h.pw.imp fun h => .inl h⟩
    · exact ⟨fun p hp => (by cases hp), List.Pairwise.nil⟩
  have hok : ∀ p, p ∈ R → PrOk l p := fun p h => hN.1 p (hp.mem_iff.1 h)
  have haf := hp.symm.pairwise hN.2 (fun h => h.symm)
  refine ⟨hok, ?_⟩
  rw [List.pairwise_iff_getElem]
  intro i j hi hj hij
  have h1 := List.pairwise_iff_getElem.1 hs i j hi hj hij
  have h2 := List.pairwise_iff_getElem.1 hnd i j hi hj hij
  have h3 := List.pairwise_iff_getElem.1 haf i j hi hj hij
  have wi := (hok _ (List.getElem_mem hi)).wide
  have wj := (hok _ (List.getElem_mem hj)).wide
  have ni := nn_pos R[i]
  have nj := nn_pos R[j]
  refine ⟨by omega, ?_⟩
  rcases h3 with (h | h) | (h | h)
  · exact .inl h
  · omega
  · omega
  · exact .inr h
/-- The places of a pair's signs: the first k of each. -/
def bits (p : Pr) : Nat → List Int
  | 0 => []
  | k + 1 => bits p k ++ [p.a + k, p.b - 1 - k]
def posns (p : Pr) : List Int := bits p (nn p).toNat
theorem bits_in {p : Pr} {z : Int} : ∀ {k : Nat}, z ∈ bits p k → (p.a ≤ z ∧ z < p.a + k) ∨ (p.b - k ≤ z ∧ z < p.b)
  | 0, h => by cases h
  | k + 1, h => by
    unfold bits at h
    rcases List.mem_append.1 h with h | h
    · have := bits_in h
      omega
    · simp at h
      omega
theorem posns_in {p : Pr} {z : Int} (h : z ∈ posns p) : (p.a ≤ z ∧ z < p.a + nn p) ∨ (p.b - nn p ≤ z ∧ z < p.b) := by
  have := bits_in h
  have := nn_pos p
  omega
theorem bits_nd {p : Pr} : ∀ {k : Nat}, 2 * (k : Int) + 1 ≤ p.b - p.a → (bits p k).Nodup
  | 0, _ => List.nodup_nil
  | k + 1, h => by
    unfold bits
    rw [List.nodup_append]
    refine ⟨bits_nd (by omega), by simp; omega, fun z hz y hy e => ?_⟩
    have := bits_in hz
    simp at hy
    omega
theorem posns_nd {p : Pr} (h : 2 * nn p + 1 ≤ p.b - p.a) : (posns p).Nodup := bits_nd (by have := nn_pos p; omega)
theorem bits_split (p : Pr) (k : Nat) : ∀ {m : Nat}, k < m → ∃ rest, bits p m = bits p k ++ (p.a + k) :: (p.b - 1 - k) :: rest
  | 0, h => by omega
  | m + 1, h => by
    by_cases e : k = m
    · subst e
      exact ⟨[], rfl⟩
    · obtain ⟨rest, hr⟩ := bits_split p k (m := m) (by omega)
      refine ⟨rest ++ [p.a + m, p.b - 1 - m], ?_⟩
      rw [bits, hr]
      simp
theorem flat_split {R : List Pr} {i k : Nat} {p : Pr} (h : R[i]? = some p) (hk : (k : Int) < nn p) : ∃ rest, R.flatMap posns = ((R.take i).flatMap posns ++ bits p k) ++ (p.a + k) :: (p.b - 1 - k) :: rest := by
  obtain ⟨h1, h2⟩ := List.getElem?_eq_some_iff.1 h
  obtain ⟨rest, hr⟩ := bits_split p k (m := (nn p).toNat) (by omega)
  refine ⟨rest ++ (R.drop (i + 1)).flatMap posns, ?_⟩
  have e : R = R.take i ++ p :: R.drop (i + 1) := by rw [← h2, ← List.drop_eq_getElem_cons h1, List.take_append_drop]
  rw [show R.flatMap posns = (R.take i ++ p :: R.drop (i + 1)).flatMap posns by rw [← e], List.flatMap_append, List.flatMap_cons]
  unfold posns at *
  rw [hr]
  simp
theorem flat_nd : ∀ {R : List Pr}, (∀ p, p ∈ R → (posns p).Nodup) → R.Pairwise (fun p q => ∀ z, z ∈ posns p → z ∈ posns q → False) → (R.flatMap posns).Nodup
  | [], _, _ => List.nodup_nil
  | p :: R, h1, h2 => by
    rw [List.flatMap_cons, List.nodup_append]
    rw [List.pairwise_cons] at h2
    refine ⟨h1 p List.mem_cons_self, flat_nd (fun q hq => h1 q (List.mem_cons_of_mem _ hq)) h2.2, fun z hz y hy e => ?_⟩
    obtain ⟨q, hq, hy2⟩ := List.mem_flatMap.1 hy
    exact h2.1 q hq z hz (by rw [e]; exact hy2)
theorem Laws.nodup {l : List Rn} {R : List Pr} (h : Laws l R) : (R.flatMap posns).Nodup := by
  refine flat_nd (fun p hp => posns_nd (h.ok p hp).wide) ?_
  have h2 : R.Pairwise fun p q => (p ∈ R ∧ q ∈ R) ∧ p.a < q.a ∧ (p.b ≤ q.a ∨ (p.a + nn p ≤ q.a ∧ q.b ≤ p.b - nn p)) := by
    rw [List.pairwise_iff_getElem]
    intro i j hi hj hij
    exact ⟨⟨List.getElem_mem hi, List.getElem_mem hj⟩, List.pairwise_iff_getElem.1 h.pw i j hi hj hij⟩
  refine h2.imp fun {p q} hpq z hz hz2 => ?_
  have w1 := (h.ok p hpq.1.1).wide
  have w2 := (h.ok q hpq.1.2).wide
  have n1 := nn_pos p
  have n2 := nn_pos q
  have h3 := posns_in hz
  have h4 := posns_in hz2
  omega
/-- How often each place is in a list. -/
def tal (m : Nat) (Q : List Int) : List Int := (List.range m).map fun j : Nat => (Q.count (j : Int) : Int)
theorem tal_len (m : Nat) (Q : List Int) : (tal m Q).length = m := by simp [tal]
theorem tal_at {m : Nat} {Q : List Int} {j : Nat} (h : j < m) : (tal m Q)[j]? = some (Q.count (j : Int) : Int) := by
  unfold tal
  rw [List.getElem?_map, List.getElem?_range h]
  rfl
theorem tal_set {m : Nat} {Q : List Int} {j : Nat} (h : j < m) : (tal m Q).set j ((Q.count (j : Int) : Int) + 1) = tal m (Q ++ [(j : Int)]) := by
  apply List.ext_getElem?
  intro i
  by_cases e : i < m
  · rw [tal_at e]
    by_cases e2 : j = i
    · subst e2
      rw [List.getElem?_set_self (by rw [tal_len]; exact e), List.count_append]
      simp
    · rw [List.getElem?_set_ne e2, tal_at e, List.count_append]
      have : List.count (i : Int) [(j : Int)] = 0 := by
        rw [List.count_eq_zero]
        simp
        omega
      rw [this]
      rfl
  · rw [List.getElem?_eq_none (by rw [List.length_set, tal_len]; omega), List.getElem?_eq_none (by rw [tal_len]; omega)]
/-- The runs of a line lie in their order, one sign's never side by side; their bytes are their sign's. -/
theorem runsG_gap (S : ByteArray) (fr en : Int) : ∀ (f : Nat) (i : Int), fr ≤ i → 0 ≤ i → (∀ r, r ∈ runsG S fr (minE S en) f i → i ≤ r.a ∧ fr ≤ r.a ∧ 1 ≤ r.n ∧ r.a + r.n ≤ minE S en ∧ (∀ j, r.a ≤ j → j < r.a + r.n → bt S j = r.c) ∧ (fr < r.a → bt S (r.a - 1) ≠ r.c) ∧ (r.c = 42 ∨ r.c = 95)) ∧ (runsG S fr (minE S en) f i).Pairwise GapR
  | 0, i, h0, h1 => ⟨fun r hr => (by cases hr), List.Pairwise.nil⟩
  | f + 1, i, h0, h1 => by
    by_cases hi : i < minE S en
    · cases hl : lookB S fr i (minE S en) with
      | none =>
        rw [runsG_none hi hl]
        obtain ⟨a1, a2⟩ := runsG_gap S fr en f (i + 1) (by omega) (by omega)
        exact ⟨fun r hr => by have := a1 r hr; exact ⟨by omega, this.2⟩, a2⟩
      | some r =>
        rw [runsG_some hi hl]
        have hin := lookB_in hl
        obtain ⟨a1, a2⟩ := runsG_gap S fr en f (i + r.n) (by omega) (by omega)
        have hr : r.a = i ∧ (∀ j, i ≤ j → j < i + r.n → bt S j = r.c) ∧ (fr < i → bt S (i - 1) ≠ r.c) ∧ (r.c = 42 ∨ r.c = 95) := by
          unfold lookB at hl
          split at hl
          · rename_i hg
            injection hl with hl
            have hN := cntC_is (bt S) (bt S i) (minE S en - i).toNat i
            rw [← hl]
            exact ⟨rfl, hN.2.2.1, fun h e => hg.2.2.2.2 ⟨h, e⟩, hg.2.2.2.1⟩
          · cases hl
        obtain ⟨r1, r2, r3, r4⟩ := hr
        refine ⟨fun x hx => ?_, ?_⟩
        · rcases List.mem_cons.1 hx with e | e
          · subst e
            rw [r1]
            exact ⟨Int.le_refl _, h0, hin.1, hin.2.1, r2, r3, r4⟩
          · have := a1 x e
            exact ⟨by omega, this.2⟩
        · rw [List.pairwise_cons]
          refine ⟨fun x hx => ?_, a2⟩
          obtain ⟨b1, b2, b3, b4, b5, b6, b7⟩ := a1 x hx
          refine ⟨by omega, fun e => ?_⟩
          rcases Int.lt_or_le (r.a + r.n) x.a with h5 | h5
          · exact h5
          · exfalso
            have h6 : x.a = i + r.n := by omega
            exact b6 (by omega) ((r2 (x.a - 1) (by omega) (by omega)).trans e)
    · rw [runsG_stop hi]
      exact ⟨fun r hr => (by cases hr), List.Pairwise.nil⟩
theorem runsB_gap (S : ByteArray) (fr en : Int) : (∀ r, r ∈ runsB S fr en → 0 ≤ r.a ∧ 1 ≤ r.n ∧ r.a + r.n ≤ minE S en ∧ (∀ j, r.a ≤ j → j < r.a + r.n → bt S j = r.c)) ∧ (runsB S fr en).Pairwise GapR := by
  unfold runsB
  obtain ⟨h1, h2⟩ := runsG_gap S fr en (minE S en).toNat (if fr < 0 then 0 else fr) (by split <;> omega) (by split <;> omega)
  refine ⟨fun r hr => ?_, h2⟩
  obtain ⟨a1, a2, a3, a4, a5, a6, a7⟩ := h1 r hr
  exact ⟨by split at a1 <;> omega, a3, a4, a5⟩
end Go.Proofs.Ytjfpkldknchnkaa.Me
