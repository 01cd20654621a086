/- The document's Of: words. -/
import Derived.Test.YtcbddmmoioggaaaEd
namespace Go.Proofs.Ytcbddmmoioggaaa.Sp
open Go.RowKit Go.Proofs.YtcbddmmoioggaaaW.PrintWords Go.Proofs.YtcbddmmoioggaaaW.PrintLast Go.Proofs.YtcbddmmoioggaaaW.PrintMore
attribute [local go_sem] max2_int min2_int max_two min_two max_three min_three max_four min_four
set_option linter.unusedVariables false
set_option linter.unusedSimpArgs false
/-- What a list of the places of two lists is. -/
def OfP (w : World) (P : Bool → Bool → Bool) (a b : List Rg) (e : Ending) (w' : World) : Prop :=
  ∃ v R, e = .returned v ∧ kR.R 31 w' 0 (fun j => w.heap.size ≤ j) v R ∧ Form R ∧ (∀ x, has R x = P (has a x) (has b x)) ∧ R.length ≤ 2 * (a.length + b.length) ∧ Below w.heap.size w w'
theorem formR {w : World} {ok : Nat → Prop} {v : Value} {xs : List Rg} (h : kR.R 31 w 0 ok v xs) (h1 : 1 ≤ xs.length) : ∃ g cap, v = .slice (some ⟨g, 0, none⟩) xs.length cap ∧ xs.length ≤ cap := by
  obtain ⟨_, inner, hown, _⟩ := h
  rcases hown.2 with ⟨_, h2⟩ | ⟨g, cap, cur, h2, _, _, h3, _⟩
  · omega
  · exact ⟨g, cap, h2, h3⟩
theorem atR {w : World} {ok : Nat → Prop} {g NL cap : Nat} {xs : List Rg} (h : kR.R 31 w 0 ok (.slice (some ⟨g, 0, none⟩) NL cap) xs) {i : Nat} {y : Rg} (hy : xs[i]? = some y) : ∀ j u, (rgc y).toList[j]? = some u → w.cell? ⟨g, i * 2 + j, none⟩ = some u := by
  have hc := (Kd.R_reads' h).2.2
  have hil := (List.getElem?_eq_some_iff.1 hy).1
  obtain ⟨ad, hA, hr⟩ := hc.2.2 (by omega)
  injection hA with hA
  subst hA
  obtain ⟨c, _, hk, hcell⟩ := hr i y hy
  intro j u hu
  have h := hcell j u (by rw [show c = (rgc y).toList from hk]; exact hu)
  rw [add_plain] at h
  exact h
theorem putB_nil (p q : Int) : putB [] p q = [⟨p, q⟩] := rfl
theorem putB_hit (R : List Rg) (r : Rg) (p q : Int) (h : r.t = p) : putB (R ++ [r]) p q = R ++ [⟨r.f, q⟩] := by
  unfold putB
  rw [List.getLast?_concat]
  simp only
  rw [if_pos h, List.dropLast_concat]
theorem putB_miss (R : List Rg) (r : Rg) (p q : Int) (h : r.t ≠ p) : putB (R ++ [r]) p q = R ++ [r] ++ [⟨p, q⟩] := by
  unfold putB
  rw [List.getLast?_concat]
  simp only
  rw [if_neg h]
theorem runB_at {g : Int → Bool} {pts : List Int} {i : Nat} {p q : Int} (hp : pts[i]? = some p) (hq : pts[i + 1]? = some q) (R : List Rg) : runB g (pts.drop i) R = runB g (pts.drop (i + 1)) (if g p = true then putB R p q else R) := by
  obtain ⟨h1, h2⟩ := List.getElem?_eq_some_iff.1 hp
  obtain ⟨h3, h4⟩ := List.getElem?_eq_some_iff.1 hq
  rw [List.drop_eq_getElem_cons h1, List.drop_eq_getElem_cons h3, h2, h4]
  rfl
theorem runB_end {g : Int → Bool} {pts : List Int} {i : Nat} (h : pts.length ≤ i + 1) (R : List Rg) : runB g (pts.drop i) R = R := by
  have hl : (pts.drop i).length ≤ 1 := by rw [List.length_drop]; omega
  match hd : pts.drop i, hl with
  | [], _ => rfl
  | [p], _ => rfl
theorem set_last (R : List Rg) (r x : Rg) : (R ++ [r]).set R.length x = R ++ [x] := by
  rw [List.set_append_right _ _ (Nat.le_refl _), Nat.sub_self]
  rfl
end Go.Proofs.Ytcbddmmoioggaaa.Sp
