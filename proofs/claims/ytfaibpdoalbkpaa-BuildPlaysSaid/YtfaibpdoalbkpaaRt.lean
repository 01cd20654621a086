/- The reference's builder in memory: its list is the tree's, -1 where a node is open. -/
import Derived.Test.YtfaibpdoalbkpaaDe
namespace Go.Proofs.Ytfaibpdoalbkpaa.Bu
open Go.RowKit Go.Proofs.YtfaibpdoalbkpaaW.PrintWords Go.Proofs.YtfaibpdoalbkpaaW.PrintLast Go.Proofs.YtfaibpdoalbkpaaW.PrintMore
attribute [local go_sem] max2_int min2_int max_two min_two max_three min_three max_four min_four
set_option linter.unusedVariables false
set_option linter.unusedSimpArgs false
def kI : Kd Nat := flat 1 (fun i => [.int .i64 (i : Int)]) (fun _ => rfl) (fun x u hu => by simp at hu; subst hu; rfl)
theorem rl_begin {m : Bl} {e : Ev} (hs : Srt m) : doneL (beginB m e) (-1) = doneL m (-1) ++ [⟨e.k, e.a, -1, (m.O.length : Int)⟩] := by
  apply List.ext_getElem?
  intro j
  by_cases hj : j < m.L.length
  · rw [List.getElem?_append_left (by rw [len_doneL]; exact hj), get_doneL (List.getElem?_eq_getElem hj), get_doneL (x := m.L[j]) (by simp only [beginB]; rw [List.getElem?_append_left hj]; exact List.getElem?_eq_getElem hj)]
    have : j ≠ m.L.length := by omega
    simp [beginB, this]
  · by_cases hje : j = m.L.length
    · subst hje
      rw [get_doneL (m := beginB m e) (x := ⟨e.k, e.a, 0, (m.O.length : Int)⟩) (by simp [beginB]), List.getElem?_append_right (by rw [len_doneL]; omega), len_doneL, Nat.sub_self]
      simp [beginB, toN]
    · rw [List.getElem?_eq_none (by rw [len_doneL]; simp [beginB]; omega), List.getElem?_eq_none (by rw [List.length_append, len_doneL]; simp; omega)]
theorem rl_leaf {m : Bl} {e : Ev} (hs : Srt m) : doneL (leafB m e) (-1) = doneL m (-1) ++ [⟨e.k, e.a, e.t, (m.O.length : Int)⟩] := by
  apply List.ext_getElem?
  intro j
  by_cases hj : j < m.L.length
  · rw [List.getElem?_append_left (by rw [len_doneL]; exact hj), get_doneL (List.getElem?_eq_getElem hj), get_doneL (x := m.L[j]) (by simp only [leafB]; rw [List.getElem?_append_left hj]; exact List.getElem?_eq_getElem hj)]
    rfl
  · by_cases hje : j = m.L.length
    · subst hje
      have hno : m.L.length ∉ m.O := fun h => by have := hs.o _ h; omega
      rw [get_doneL (m := leafB m e) (x := ⟨e.k, e.a, e.t, (m.O.length : Int)⟩) (by simp [leafB]), List.getElem?_append_right (by rw [len_doneL]; omega), len_doneL, Nat.sub_self]
      simp [leafB, hno]
    · rw [List.getElem?_eq_none (by rw [len_doneL]; simp [leafB]; omega), List.getElem?_eq_none (by rw [List.length_append, len_doneL]; simp; omega)]
theorem rl_end {m : Bl} {e : Ev} (hs : Srt m) {O' : List Nat} {i : Nat} (hO : m.O = O' ++ [i]) {y : Nd} (hy : m.L[i]? = some y) : doneL (endB m e) (-1) = (doneL m (-1)).set i ⟨if e.k = 0 then y.k else e.k, y.f, e.a, y.d⟩ := by
  have hlast : m.O.getLastD 0 = i := by rw [hO]; simp
  have hdl : m.O.dropLast = O' := by rw [hO]; simp
  have hil := (List.getElem?_eq_some_iff.1 hy).1
  have hiO' : i ∉ O' := fun hm => by
    have hs2 := hs.s
    rw [hO, List.pairwise_append] at hs2
    have := hs2.2.2 i hm i (by simp)
    omega
  have hEL : (endB m e).L = m.L.modify i (shutN e) := by simp only [endB, hlast]
  have hEO : (endB m e).O = O' := by simp only [endB, hdl]
  apply List.ext_getElem?
  intro j
  by_cases hj : j < m.L.length
  · have hlj := List.getElem?_eq_getElem hj
    by_cases hij : i = j
    · subst hij
      rw [hy] at hlj
      rw [get_doneL (m := endB m e) (x := shutN e y) (by rw [hEL, List.getElem?_modify, hy]; simp), List.getElem?_set_self (by rw [len_doneL]; exact hj), hEO, if_neg hiO']
      rfl
    · rw [get_doneL (m := endB m e) (x := m.L[j]) (by rw [hEL, List.getElem?_modify, hlj]; simp [hij]), List.getElem?_set_ne hij, get_doneL hlj, hEO]
      have hmem : j ∈ m.O ↔ j ∈ O' := by rw [hO]; simp; intro e'; exact absurd e'.symm hij
      by_cases hjo : j ∈ O'
      · simp [hmem, hjo]
      · simp [hmem, hjo]
  · rw [List.getElem?_eq_none (by rw [len_doneL, hEL, List.length_modify]; omega), List.getElem?_eq_none (by rw [List.length_set, len_doneL]; omega)]
/-- The reference's builder, its blocks within fp. -/
structure RT (w : World) (fp : Nat → Prop) (b : Nat) (m : Bl) (vL vO : Value) : Prop where
  hb : w.heap[b]? = some (.cells #[vL, vO, .int .i64 m.far] 45 (0, 0))
  rL : kN.R 38 w 0 fp vL (doneL m (-1))
  rO : kI.R 3 w 0 fp vO m.O
  ne : ∀ k, vO.ownBlock = some k → vL.ownBlock ≠ some k
  fb : fp b
theorem kd_mono {α : Type} {n : Nat} {enc : α → List Value} {hl : ∀ x, (enc x).length = n} {h1 : ∀ x, ∀ u ∈ enc x, u.oneCell' = true} {e : Nat} {w : World} {ok ok' : Nat → Prop} {v : Value} {xs : List α} (h : (flat n enc hl h1).R e w 0 ok v xs) (hk : ∀ k, v.ownBlock = some k → ok' k) : (flat n enc hl h1).R e w 0 ok' v xs := by
  obtain ⟨_, inner, hown, hr⟩ := h
  exact ⟨hk, inner, hown, hr⟩
theorem kd_turn {α : Type} {n : Nat} {enc : α → List Value} {hl : ∀ x, (enc x).length = n} {h1 : ∀ x, ∀ u ∈ enc x, u.oneCell' = true} {e : Nat} {w w1 : World} {ok : Nat → Prop} {v : Value} {xs : List α} (h : (flat n enc hl h1).R e w 0 ok v xs) (hm : ∀ k, v.ownBlock = some k → k < w.heap.size → w1.heap[k]? = w.heap[k]?) : (flat n enc hl h1).R e w1 0 ok v xs :=
  kd_mono (Kd.R_step (kd_mono h (ok' := fun k => v.ownBlock = some k) (fun k hk => hk)) (fun k hk hlt => hm k hk hlt)) h.1
section
variable {w w' : World} {fp fp' : Nat → Prop} {b : Nat} {m : Bl} {vL vO : Value}
theorem RT.mono (h : RT w fp b m vL vO) (hf : ∀ k, fp k → fp' k) : RT w fp' b m vL vO :=
  ⟨h.hb, kd_mono h.rL (fun k hk => hf k (h.rL.1 k hk)), kd_mono h.rO (fun k hk => hf k (h.rO.1 k hk)), h.ne, hf b h.fb⟩
theorem RT.bound (h : RT w fp b m vL vO) : RT w (fun k => fp k ∧ k < w.heap.size) b m vL vO :=
  ⟨h.hb, kd_mono h.rL (fun k hk => ⟨h.rL.1 k hk, Kd.R_lt h.rL k hk⟩), kd_mono h.rO (fun k hk => ⟨h.rO.1 k hk, Kd.R_lt h.rO k hk⟩), h.ne, h.fb, blk_lt h.hb⟩
theorem RT.move (h : RT w fp b m vL vO) (hm : ∀ k, fp k → k < w.heap.size → w'.heap[k]? = w.heap[k]?) : RT w' fp b m vL vO :=
  ⟨(hm b h.fb (blk_lt h.hb)).trans h.hb, kd_turn h.rL (fun k hk hlt => hm k (h.rL.1 k hk) hlt), kd_turn h.rO (fun k hk hlt => hm k (h.rO.1 k hk) hlt), h.ne, h.fb⟩
theorem RT.below (h : RT w fp b m vL vO) (hb : Below w.heap.size w w') : RT w' fp b m vL vO := h.move fun k _ hk => hb.block k hk
theorem RT.fr (h : RT w fp b m vL vO) (hf : Fr fp' w w') (hd : ∀ k, fp k → ¬ fp' k) : RT w' fp b m vL vO := h.move fun k hk hlt => hf.block k hlt (hd k hk)
theorem RT.cL (h : RT w fp b m vL vO) : w.cell? ⟨b, 0, none⟩ = some vL := cell_of_row _ _ _ _ _ _ h.hb
theorem RT.cO (h : RT w fp b m vL vO) : w.cell? ⟨b, 1, none⟩ = some vO := cell_of_row _ _ _ _ _ _ h.hb
theorem RT.cF (h : RT w fp b m vL vO) : w.cell? ⟨b, 2, none⟩ = some (.int .i64 m.far) := cell_of_row _ _ _ _ _ _ h.hb
end
end Go.Proofs.Ytfaibpdoalbkpaa.Bu
