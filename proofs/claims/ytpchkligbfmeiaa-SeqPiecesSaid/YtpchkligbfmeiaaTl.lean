/- The items of a tree, in order; a node that is linked. -/
import Derived.Test.YtpchkligbfmeiaaTr
namespace Go.Proofs.Ytpchkligbfmeiaa.Se
open Go.RowKit Go.Proofs.YtpchkligbfmeiaaW.PrintWords Go.Proofs.YtpchkligbfmeiaaW.PrintLast Go.Proofs.YtpchkligbfmeiaaW.PrintMore
attribute [local go_sem] max2_int min2_int max_two min_two max_three min_three max_four min_four
set_option linter.unusedVariables false
set_option linter.unusedSimpArgs false

/-- The items, in order. -/
def toL : Tr → List (ByteArray × Int)
  | .nil => []
  | .node l it z r => toL l ++ (it, z) :: toL r
def sumL : List (ByteArray × Int) → Int
  | [] => 0
  | x :: r => x.2 + sumL r
theorem sumL_append : ∀ a b : List (ByteArray × Int), sumL (a ++ b) = sumL a + sumL b
  | [], b => by simp [sumL]
  | x :: a, b => by simp only [List.cons_append, sumL, sumL_append a b]; omega
theorem sumT_toL : ∀ t : Tr, sumT t = sumL (toL t)
  | .nil => rfl
  | .node l it z r => by simp only [sumT, toL, sumL_append, sumL, sumT_toL l, sumT_toL r]; omega
theorem cntT_toL : ∀ t : Tr, cntT t = ((toL t).length : Int)
  | .nil => rfl
  | .node l it z r => by simp only [cntT, toL, List.length_append, List.length_cons, cntT_toL l, cntT_toL r]; omega
theorem pos_toL : ∀ t : Tr, Pos t ↔ ∀ x ∈ toL t, 0 ≤ x.2
  | .nil => by simp [Pos, toL]
  | .node l it z r => by
    simp only [Pos, toL, pos_toL l, pos_toL r, List.mem_append, List.mem_cons]
    constructor
    · rintro ⟨h1, h2, h3⟩ x (h | rfl | h)
      · exact h1 x h
      · exact h2
      · exact h3 x h
    · intro h
      exact ⟨fun x hx => h x (.inl hx), h (it, z) (.inr (.inl rfl)), fun x hx => h x (.inr (.inr hx))⟩
/-- A list that may be a tree's. -/
structure FitL (l : List (ByteArray × Int)) : Prop where
  p : ∀ x ∈ l, 0 ≤ x.2
  s : sumL l ≤ 4398046511104
  n : l.length ≤ 8388608
theorem sumL_pos : ∀ {l : List (ByteArray × Int)}, (∀ x ∈ l, 0 ≤ x.2) → 0 ≤ sumL l
  | [], _ => by simp [sumL]
  | x :: r, h => by
    have := sumL_pos (l := r) fun y hy => h y (List.mem_cons_of_mem _ hy)
    have := h x List.mem_cons_self
    simp only [sumL]
    omega
theorem FitL.fit {t : Tr} (h : FitL (toL t)) : Fit t := ⟨(pos_toL t).2 h.p, by rw [sumT_toL]; exact h.s, by rw [cntT_toL]; have := h.n; omega⟩
theorem FitL.part {a b c : List (ByteArray × Int)} (h : FitL (a ++ (b ++ c))) : FitL b := by
  have h1 := sumL_pos (l := a) fun x hx => h.p x (by simp [hx])
  have h2 := sumL_pos (l := c) fun x hx => h.p x (by simp [hx])
  have h3 := h.s
  have h4 := h.n
  rw [sumL_append, sumL_append] at h3
  simp only [List.length_append] at h4
  exact ⟨fun x hx => h.p x (by simp [hx]), by omega, by omega⟩
/-- What is told: a tree of these items. -/
def Row (w w' : World) (e : Ending) (l : List (ByteArray × Int)) : Prop := ∃ t v, e = .returned v ∧ At w' t v ∧ toL t = l ∧ Below w.heap.size w w'

theorem lnk (l r : Tr) (it : ByteArray) (z : Int) (vl vm vr : Value) (w : World) (hl : At w l vl) (hm : Mid w it z vm) (hr : At w r vr) {a c L : List (ByteArray × Int)} (hL : FitL L) (hf : L = a ++ ((toL l ++ (it, z) :: toL r) ++ c)) :
    Calls Try.prog 28 #[vl, vm, vr] w fun e w' => ∃ v, e = .returned v ∧ At w' (.node l it z r) v ∧ Below w.heap.size w w' :=
  link_c l r it z vl vm vr w hl hm hr (FitL.fit (t := .node l it z r) (by subst hf; exact hL.part))

end Go.Proofs.Ytpchkligbfmeiaa.Se
