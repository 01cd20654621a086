/- Pairs: what mdemph.Pairs computes, in plain words. -/
import Derived.Test.YtjfpkldknchnkaaSo
namespace Go.Proofs.Ytjfpkldknchnkaa.Me
open Go.RowKit Go.Proofs.YtjfpkldknchnkaaW.PrintWords Go.Proofs.YtjfpkldknchnkaaW.PrintLast Go.Proofs.YtjfpkldknchnkaaW.PrintMore
attribute [local go_sem] max2_int min2_int max_two min_two max_three min_three max_four min_four
set_option linter.unusedVariables false
set_option linter.unusedSimpArgs false
/-- A run. -/
structure Rn where
  a : Int
  n : Int
  c : Int
  o : Bool
  k : Bool
deriving DecidableEq
abbrev rnc (x : Rn) : Array Value := #[.int .i64 x.a, .int .i64 x.n, .int .u8 x.c, .bool x.o, .bool x.k]
def RRn (e : Rn) (cs : List Value) : Prop := cs = (rnc e).toList
/-- What is left of a run. -/
structure Lf where
  r : Rn
  f : Int
  t : Int
deriving DecidableEq
abbrev lfc (x : Lf) : Array Value := #[.int .i64 x.r.a, .int .i64 x.r.n, .int .u8 x.r.c, .bool x.r.o, .bool x.r.k, .int .i64 x.f, .int .i64 x.t]
def badB (p : Int) (r : Rn) : Bool := decide (r.n < 1) || (decide (r.c ≠ 42) && decide (r.c ≠ 95)) || decide (r.a < p) || decide (1048576 < r.a) || decide (1048576 - r.a < r.n)
def mayB : Int → List Rn → Bool
  | _, [] => true
  | p, r :: l => !badB p r && mayB (r.a + r.n) l
def fitB (a b : Rn) : Bool := decide (a.c = b.c) && ((!a.k && !b.o) || decide ((a.n + b.n) % 3 ≠ 0) || decide (a.n % 3 = 0))
/-- The topmost one below k that fits. -/
def fitAt (L : List Lf) (x : Rn) : Nat → Option Nat
  | 0 => none
  | k + 1 => match L[k]? with
    | some y => if fitB y.r x = true then some k else fitAt L x k
    | none => none
def twoB (y X : Lf) : Int := if 2 ≤ y.t - y.f ∧ 2 ≤ X.t - X.f then 2 else 1
def takeL (L : List Lf) (k : Nat) (y X : Lf) : List Lf := if y.f = y.t - twoB y X then L.take k else L.take k ++ [{ y with t := y.t - twoB y X }]
def closeX : Nat → List Lf → Lf → List Pr → List Lf × Lf × List Pr
  | 0, L, X, o => (L, X, o)
  | g + 1, L, X, o =>
    if X.r.k = true ∧ X.f < X.t then
      match fitAt L X.r L.length with
      | none => (L, X, o)
      | some k => match L[k]? with
        | none => (L, X, o)
        | some y => closeX g (takeL L k y X) { X with f := X.f + twoB y X } (o ++ [⟨y.t - twoB y X, X.f + twoB y X, decide (twoB y X = 2)⟩])
    else (L, X, o)
def pushX (L : List Lf) (X : Lf) : List Lf := if X.r.o = true ∧ X.f < X.t then L ++ [X] else L
def runX (s : List Lf × List Pr) (r : Rn) : List Lf × List Pr :=
  let q := closeX r.n.toNat s.1 ⟨r, r.a, r.a + r.n⟩ s.2
  (pushX q.1 q.2.1, q.2.2)
def pairsL (l : List Rn) : List Lf × List Pr := l.foldl runX ([], [])
def pairsU (l : List Rn) : List Pr := if mayB 0 l = true then (pairsL l).2 else []
/-- Where the run before place k ends. -/
def posI (l : List Rn) : Nat → Int
  | 0 => 0
  | k + 1 => match l[k]? with
    | some r => r.a + r.n
    | none => 0
theorem twoB_pos (y X : Lf) : 1 ≤ twoB y X ∧ twoB y X ≤ 2 := by unfold twoB; split <;> omega
theorem fitAt_some {L : List Lf} {x : Rn} : ∀ {m k : Nat}, fitAt L x m = some k → k < m ∧ ∃ y, L[k]? = some y ∧ fitB y.r x = true
  | 0, k, h => by cases h
  | m + 1, k, h => by
    unfold fitAt at h
    split at h
    · rename_i y hy
      split at h
      · rename_i hf
        injection h with h
        subst h
        exact ⟨Nat.lt_succ_self _, y, hy, hf⟩
      · obtain ⟨h1, h2⟩ := fitAt_some h
        exact ⟨by omega, h2⟩
    · cases h
theorem mayB_at : ∀ {l : List Rn} {p : Int} {k : Nat} {r : Rn}, mayB p l = true → l[k]? = some r → badB (match k with | 0 => p | k + 1 => posI l (k + 1)) r = false
  | [], p, k, r, _, h => by simp at h
  | x :: l, p, 0, r, hm, h => by
    simp at h
    subst h
    simp [mayB] at hm
    exact hm.1
  | x :: l, p, 1, r, hm, h => by
    simp [mayB] at hm
    have := mayB_at (l := l) (k := 0) hm.2 (by simpa using h)
    simpa [posI] using this
  | x :: l, p, k + 2, r, hm, h => by
    simp [mayB] at hm
    have := mayB_at (l := l) (k := k + 1) hm.2 (by simpa using h)
    simpa [posI] using this
theorem badB_no {p : Int} {r : Rn} (h : badB p r = false) : 1 ≤ r.n ∧ (r.c = 42 ∨ r.c = 95) ∧ p ≤ r.a ∧ r.a ≤ 1048576 ∧ r.n ≤ 1048576 - r.a := by
  simp [badB] at h
  obtain ⟨⟨⟨⟨h1, h2⟩, h3⟩, h4⟩, h5⟩ := h
  refine ⟨by omega, ?_, by omega, by omega, by omega⟩
  by_cases h6 : r.c = 42
  · exact .inl h6
  · exact .inr (h2 h6)
/-- The facts of a run in its place. -/
theorem may_at {l : List Rn} (hm : mayB 0 l = true) {k : Nat} {r : Rn} (h : l[k]? = some r) : 1 ≤ r.n ∧ (r.c = 42 ∨ r.c = 95) ∧ posI l k ≤ r.a ∧ r.a ≤ 1048576 ∧ r.n ≤ 1048576 - r.a := by
  have h2 := mayB_at hm h
  cases k with
  | zero => exact badB_no h2
  | succ k => exact badB_no h2
theorem mayB_step {l : List Rn} {k : Nat} {r : Rn} {p : Int} (h : l[k]? = some r) : mayB p (l.drop k) = (!badB p r && mayB (posI l (k + 1)) (l.drop (k + 1))) := by
  obtain ⟨h1, h2⟩ := List.getElem?_eq_some_iff.1 h
  rw [List.drop_eq_getElem_cons h1, h2]
  show (!badB p r && mayB (r.a + r.n) (l.drop (k + 1))) = _
  have h3 : posI l (k + 1) = r.a + r.n := by simp [posI, h]
  rw [h3]
theorem pairsL_step {l : List Rn} {k : Nat} {r : Rn} (h : l[k]? = some r) : pairsL (l.take (k + 1)) = runX (pairsL (l.take k)) r := by
  rw [take_snoc h]
  simp [pairsL]
theorem posI_le {l : List Rn} (hm : mayB 0 l = true) : ∀ k, k ≤ l.length → (k : Int) ≤ posI l k ∧ (0 ≤ posI l k ∧ posI l k ≤ 1048576)
  | 0, _ => by simp [posI]
  | k + 1, h => by
    obtain ⟨r, hr⟩ : ∃ r, l[k]? = some r := ⟨_, List.getElem?_eq_getElem (by omega)⟩
    obtain ⟨a1, a2, a3, a4, a5⟩ := may_at hm hr
    have := posI_le hm k (by omega)
    have h3 : posI l (k + 1) = r.a + r.n := by simp [posI, hr]
    omega
end Go.Proofs.Ytjfpkldknchnkaa.Me
