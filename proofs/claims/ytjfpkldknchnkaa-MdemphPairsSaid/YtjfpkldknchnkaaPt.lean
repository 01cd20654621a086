/- One step of the document's Pairs, and of the stack: plain words. -/
import Derived.Test.YtjfpkldknchnkaaPq
import Derived.Test.YtjfpkldknchnkaaPw
import Derived.Test.YtjfpkldknchnkaaRf
namespace Go.Proofs.Ytjfpkldknchnkaa.Me
open Go.RowKit Go.Proofs.YtjfpkldknchnkaaW.PrintWords Go.Proofs.YtjfpkldknchnkaaW.PrintLast Go.Proofs.YtjfpkldknchnkaaW.PrintMore
attribute [local go_sem] max2_int min2_int max_two min_two max_three min_three max_four min_four
set_option linter.unusedVariables false
set_option linter.unusedSimpArgs false
theorem candB_eq {l : List Rn} {F T : List Int} {B : List Bool} {k : Nat} {r : Rn} {f t : Int} {b : Bool} (h1 : l[k]? = some r) (h2 : F[k]? = some f) (h3 : T[k]? = some t) (h4 : B[k]? = some b) : candB l F T B k = if b = false ∧ f ≠ t ∧ r.o = true then some ⟨r, f, t⟩ else none := by
  unfold candB
  rw [h1, h2, h3, h4]
theorem candB_same {l : List Rn} {F F' T T' : List Int} {B B' : List Bool} {k : Nat} (h2 : F'[k]? = F[k]?) (h3 : T'[k]? = T[k]?) (h4 : B'[k]? = B[k]?) : candB l F' T' B' k = candB l F T B k := by
  unfold candB
  rw [h2, h3, h4]
/-- What is found below m. -/
def srch (l : List Rn) (F T : List Int) (B : List Bool) (r : Rn) (m : Nat) : Option Nat := if r.k = true then topK (candB l F T B) r m else none
theorem srch_skip {l : List Rn} {F T : List Int} {B : List Bool} {r a : Rn} {j : Nat} {f t : Int} {b : Bool} (h1 : l[j]? = some a) (h2 : F[j]? = some f) (h3 : T[j]? = some t) (h4 : B[j]? = some b) (hs : b = true ∨ f = t ∨ rfitB a r = false) : srch l F T B r (j + 1) = srch l F T B r j := by
  unfold srch
  by_cases hk : r.k = true
  · rw [if_pos hk, if_pos hk]
    have hc := candB_eq h1 h2 h3 h4
    by_cases hc2 : b = false ∧ f ≠ t ∧ a.o = true
    · rw [if_pos hc2] at hc
      rw [topK_s hc]
      have hf : fitB a r = false := by
        rcases hs with e | e | e
        · rw [e] at hc2; exact absurd hc2.1 (by decide)
        · exact absurd e hc2.2.1
        · unfold rfitB at e
          rw [hc2.2.2, hk] at e
          simpa using e
      rw [if_neg (by rw [hf]; decide)]
    · rw [if_neg hc2] at hc
      exact topK_n hc
  · rw [if_neg hk, if_neg hk]
theorem srch_hit {l : List Rn} {F T : List Int} {B : List Bool} {r a : Rn} {j : Nat} {f t : Int} (h1 : l[j]? = some a) (h2 : F[j]? = some f) (h3 : T[j]? = some t) (h4 : B[j]? = some false) (hn : f ≠ t) (hf : rfitB a r = true) : srch l F T B r (j + 1) = some j ∧ candB l F T B j = some ⟨a, f, t⟩ ∧ r.k = true := by
  unfold rfitB at hf
  simp only [Bool.and_eq_true] at hf
  have hc := candB_eq h1 h2 h3 h4
  rw [if_pos ⟨rfl, hn, hf.1.1⟩] at hc
  refine ⟨?_, hc, hf.1.2⟩
  unfold srch
  rw [if_pos hf.1.2, topK_s hc, if_pos hf.2]
/-- Nothing found: the stack's way stops too. -/
theorem close_none {l : List Rn} {F T : List Int} {B : List Bool} {r : Rn} {i g : Nat} {f t : Int} {oc : List Pr} (h : srch l F T B r i = none) : closeX g (stk (candB l F T B) i) ⟨r, f, t⟩ oc = (stk (candB l F T B) i, ⟨r, f, t⟩, oc) := by
  unfold srch at h
  by_cases hk : r.k = true
  · rw [if_pos hk] at h
    refine closeX_none ?_
    show fitAt _ r _ = none
    rw [fitAt_stk, h]
    rfl
  · exact closeX_stop (fun h2 => hk h2.1)
/-- One step of both ways. -/
theorem close_hit {l : List Rn} {F T : List Int} {B B' : List Bool} {r a : Rn} {i j g : Nat} {f t fj tj tb : Int} {oc : List Pr} (h : srch l F T B r i = some j) (hji : j < i) (hc : candB l F T B j = some ⟨a, fj, tj⟩) (hk : r.k = true) (hft : f < t)
    (htb : tb = twoB ⟨a, fj, tj⟩ ⟨r, f, t⟩) (h1 : l[j]? = some a) (h2 : F[j]? = some fj) (h3 : T[j]? = some tj) (h4 : B[j]? = some false) (ho : a.o = true) (hli : i ≤ l.length) (hlF : F.length = l.length) (hlT : T.length = l.length) (hB1 : ∀ q, q ≤ j → B'[q]? = B[q]?) (hB2 : ∀ q, j < q → q < i → B'[q]? = some true) :
    closeX (g + 1) (stk (candB l F T B) i) ⟨r, f, t⟩ oc = closeX g (stk (candB l (F.set i (f + tb)) (T.set j (tj - tb)) B') i) ⟨r, f + tb, t⟩ (oc ++ [⟨tj - tb, f + tb, decide (tb = 2)⟩]) := by
  unfold srch at h
  rw [if_pos hk] at h
  have hfa : fitAt (stk (candB l F T B) i) r (stk (candB l F T B) i).length = some (stk (candB l F T B) j).length := by rw [fitAt_stk, h]; rfl
  obtain ⟨hy, htk⟩ := stk_at hji hc
  rw [closeX_some (y := ⟨a, fj, tj⟩) ⟨hk, hft⟩ hfa hy, ← htb]
  have hst : stk (candB l (F.set i (f + tb)) (T.set j (tj - tb)) B') i = takeL (stk (candB l F T B) i) (stk (candB l F T B) j).length ⟨a, fj, tj⟩ ⟨r, f, t⟩ := by
    have e1 : stk (candB l (F.set i (f + tb)) (T.set j (tj - tb)) B') j = stk (candB l F T B) j := stk_same (fun q hq => candB_same (List.getElem?_set_ne (by omega)) (List.getElem?_set_ne (by omega)) (hB1 q (by omega)))
    have e2 : stk (candB l (F.set i (f + tb)) (T.set j (tj - tb)) B') i = stk (candB l (F.set i (f + tb)) (T.set j (tj - tb)) B') (j + 1) := stk_none (by omega) (fun q h5 h6 => by
      obtain ⟨rq, hrq⟩ : ∃ rq, l[q]? = some rq := ⟨_, List.getElem?_eq_getElem (by omega)⟩
      obtain ⟨fq, hfq⟩ : ∃ fq, (F.set i (f + tb))[q]? = some fq := ⟨_, List.getElem?_eq_getElem (by rw [List.length_set]; omega)⟩
      obtain ⟨tq, htq⟩ : ∃ tq, (T.set j (tj - tb))[q]? = some tq := ⟨_, List.getElem?_eq_getElem (by rw [List.length_set]; omega)⟩
      rw [candB_eq hrq hfq htq (hB2 q (by omega) h6), if_neg (fun h7 => absurd h7.1 (by decide))])
    have e3 : candB l (F.set i (f + tb)) (T.set j (tj - tb)) B' j = if fj ≠ tj - tb then some ⟨a, fj, tj - tb⟩ else none := by
      rw [candB_eq (r := a) (f := fj) (t := tj - tb) (b := false) h1 (by rw [List.getElem?_set_ne (by omega)]; exact h2) (List.getElem?_set_self (by omega)) (by rw [hB1 j (Nat.le_refl _)]; exact h4)]
      by_cases e : fj = tj - tb
      · rw [if_neg (fun h7 => h7.2.1 e), if_neg (fun h7 => h7 e)]
      · rw [if_pos ⟨rfl, e, ho⟩, if_pos e]
    rw [e2]
    unfold takeL
    rw [← htb, htk]
    by_cases e : fj = tj - tb
    · rw [if_neg (fun h7 => h7 e)] at e3
      rw [stk_n e3, e1, if_pos e]
    · rw [if_pos e] at e3
      rw [stk_s e3, e1, if_neg e]
  rw [hst]
/-- At the head of the outer loop. -/
structure RH (l : List Rn) (F T : List Int) (B : List Bool) (i : Nat) (o : List Pr) : Prop where
  st : stk (candB l F T B) i = (pairsL (l.take i)).1
  pe : o.Perm (pairsL (l.take i)).2
  so : Srt o
  up : ∀ (j : Nat) (r : Rn), i ≤ j → l[j]? = some r → F[j]? = some r.a ∧ T[j]? = some (r.a + r.n) ∧ B[j]? = some false
  dn : ∀ j : Nat, j < i → ∃ f t b, F[j]? = some f ∧ T[j]? = some t ∧ B[j]? = some b ∧ 0 ≤ f ∧ f ≤ t ∧ t ≤ 1048576
  lo : (o.length : Int) ≤ posI l i
theorem RH.next {l : List Rn} {F T : List Int} {B : List Bool} {i : Nat} {r : Rn} {o oc : List Pr} {f t : Int} (hr : l[i]? = some r) (hF : F[i]? = some f) (hT : T[i]? = some t) (hB : B[i]? = some false) (h0 : 0 ≤ f) (hft : f ≤ t) (ht : t ≤ 1048576) (ht2 : t = r.a + r.n)
    (hc : closeX r.n.toNat (pairsL (l.take i)).1 ⟨r, r.a, r.a + r.n⟩ (pairsL (l.take i)).2 = (stk (candB l F T B) i, ⟨r, f, t⟩, oc)) (hp : o.Perm oc) (hs : Srt o) (hlo : (o.length : Int) ≤ f)
    (up : ∀ (j : Nat) (r : Rn), i + 1 ≤ j → l[j]? = some r → F[j]? = some r.a ∧ T[j]? = some (r.a + r.n) ∧ B[j]? = some false) (dn : ∀ j : Nat, j < i → ∃ f t b, F[j]? = some f ∧ T[j]? = some t ∧ B[j]? = some b ∧ 0 ≤ f ∧ f ≤ t ∧ t ≤ 1048576) : RH l F T B (i + 1) o := by
  have hst : pairsL (l.take (i + 1)) = (pushX (stk (candB l F T B) i) ⟨r, f, t⟩, oc) := by
    rw [pairsL_step hr]
    unfold runX
    rw [hc]
  refine ⟨?_, by rw [hst]; exact hp, hs, up, fun j hj => ?_, ?_⟩
  · rw [hst]
    have hcd := candB_eq hr hF hT hB
    unfold pushX
    by_cases e : r.o = true ∧ f < t
    · rw [if_pos ⟨rfl, by omega, e.1⟩] at hcd
      rw [stk_s hcd, if_pos e]
    · rw [if_neg (fun h7 => e ⟨h7.2.2, by have := h7.2.1; omega⟩)] at hcd
      rw [stk_n hcd, if_neg e]
  · by_cases e : j = i
    · subst e
      exact ⟨f, t, false, hF, hT, hB, h0, hft, ht⟩
    · exact dn j (by omega)
  · have : posI l (i + 1) = r.a + r.n := by simp [posI, hr]
    omega
end Go.Proofs.Ytjfpkldknchnkaa.Me
