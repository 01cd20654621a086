/- The arguments: rows of what is asked, and of states, as they are handed in. -/
import Derived.Test.YtbmjeopnahmbgaaPl
import Derived.Deep.Slices
import Derived.Deep.Strs
import Derived.ChangeSame
namespace Go.Proofs.Ytbmjeopnahmbgaa.In
open Go.RowKit Go.Proofs.YtbmjeopnahmbgaaW.PrintWords Go.Proofs.YtbmjeopnahmbgaaW.PrintLast Go.Proofs.YtbmjeopnahmbgaaW.PrintMore
open Go.WideShapes Go.ChangeShapes
set_option linter.unusedVariables false
section
variable {H : Type} {enc : TypeId × Value → H} {w : World} {base : Nat} {spare : Nat → Bool} {held : Bool}
theorem list_of {α : Type} {P : Nat → α → Prop} : ∀ n, (∀ i, i < n → ∃ a, P i a) → ∃ l : List α, l.length = n ∧ ∀ i a, l[i]? = some a → P i a
  | 0, _ => ⟨[], rfl, fun i a h => by simp at h⟩
  | n + 1, h => by
    obtain ⟨l, hl, hp⟩ := list_of n (fun i hi => h i (by omega))
    obtain ⟨a, ha⟩ := h n (by omega)
    refine ⟨l ++ [a], by simp [hl], fun i b hb => ?_⟩
    by_cases hi : i < l.length
    · rw [List.getElem?_append_left hi] at hb
      exact hp i b hb
    · have hil := (List.getElem?_eq_some_iff.1 hb).1
      rw [List.length_append, List.length_singleton] at hil
      have : i = l.length := by omega
      subst this
      simp at hb
      subst hb
      rw [hl]
      exact ha
theorem state_of {fuel : Nat} {cs : List Value} {y : DataW H × List MemPlace} (hl : cs.length = 82) (h : DataW.trod enc Try.prog w base spare held fuel 37 cs = some y) : IsSt cs.toArray := by
  have := keyOf_asKey (enc := enc) (w := w) (base := base) (sp := spare) (held := held) deepS wideS (v := .agg cs.toArray) (formedS (by simpa using hl)) (d := y.1) (ps := y.2) ⟨fuel, by simpa [Value.cells] using h⟩
  exact ⟨_, this.1⟩
theorem int_of {fuel : Nat} {cs : List Value} {y : DataW H × List MemPlace} (h : DataW.trod enc Try.prog w base spare held fuel 3 cs = some y) : ∃ a, cs = [.int .i64 a] := by
  cases fuel with
  | zero => simp [DataW.trod] at h
  | succ f =>
    unfold DataW.trod at h
    rw [Try.underlying3] at h
    split at h <;> simp_all
theorem ask_of {fuel : Nat} {cs : List Value} {y : DataW H × List MemPlace} (h : DataW.trod enc Try.prog w base spare held fuel 39 cs = some y) : ∃ a : Ask, RA a cs := by
  obtain ⟨y0, y1, y2, n, hx, hl, t0, t1, t2⟩ := Deep.trod_struct3 Try.underlying39 h
  have e3 : Try.prog.cellsOf 3 = 1 := by kernel_rfl
  have e39 : Try.prog.cellsOf 39 = 84 := by kernel_rfl
  simp only [e3, cellsS] at t0 t1 t2
  rw [e39] at hl
  obtain ⟨d, hd⟩ := int_of t0
  obtain ⟨m, hm⟩ := int_of t1
  have hs := state_of (by simp [hl]) t2
  refine ⟨⟨d, m, _⟩, hs, ?_⟩
  show cs = (Value.int .i64 d :: Value.int .i64 m :: ((cs.drop 2).take 82).toArray.toList).toArray.toList
  match cs, hl with
  | c0 :: c1 :: r, hl =>
    simp at hd hm
    subst hd; subst hm
    have : r.length = 82 := by simpa using hl
    simp [List.take_of_length_le (Nat.le_of_eq this)]
theorem asks_of {fuel : Nat} {A : Option Addr} {n c : Nat} {y : DataW H × List MemPlace} (h : DataW.trod enc Try.prog w base spare held fuel 22 [.slice A n c] = some y) : ∃ l : List Ask, ReadsRow RA 84 w A n l := by
  rcases Deep.open_slice Try.underlying22 h with ⟨h0, _⟩ | ⟨a, len, cap, m, k, D, Pl, hcs, hb, hl, hm, hmm, hx, hi⟩
  · injection h0 with h0
    injection h0 with h1 h2 h3
    exact ⟨[], by rw [h2]; rfl, by omega, fun hp => by omega⟩
  · injection hcs with hcs
    injection hcs with h1 h2 h3
    subst h1; subst h2; subst h3
    have e39 : Try.prog.cellsOf 39 = 84 := by kernel_rfl
    rw [e39] at hi
    have hnm : n ≤ m := by rw [hmm]; split <;> omega
    obtain ⟨l, hll, hp⟩ := list_of (P := fun i (q : Ask) => ∃ cs, cs.length = 84 ∧ RA q cs ∧ ∀ j u, cs[j]? = some u → w.cell? (a.add (i * 84 + j)) = some u) n (fun i hin => by
      obtain ⟨cs', hc, ht⟩ := hi i (by omega)
      obtain ⟨_, hcl, hat⟩ := World.cells?_some hc
      obtain ⟨q, hq⟩ := ask_of ht
      refine ⟨q, cs', hcl, hq, fun j u hu => ?_⟩
      have hj : j < 84 := by rw [← hcl]; exact (List.getElem?_eq_some_iff.1 hu).1
      rw [← add_addA, hat j hj]
      exact hu)
    exact ⟨l, hll, by have : c ≤ maxLen := hm; unfold maxLen at this; omega, fun _ => ⟨a, rfl, fun j q hq => hp j q hq⟩⟩
theorem states_of {fuel : Nat} {A : Option Addr} {n c : Nat} {y : DataW H × List MemPlace} (h : DataW.trod enc Try.prog w base spare held fuel 27 [.slice A n c] = some y) : ∃ l : List (Array Value), ReadsRow RS 82 w A n l := by
  rcases Deep.open_slice Try.underlying27 h with ⟨h0, _⟩ | ⟨a, len, cap, m, k, D, Pl, hcs, hb, hl, hm, hmm, hx, hi⟩
  · injection h0 with h0
    injection h0 with h1 h2 h3
    exact ⟨[], by rw [h2]; rfl, by omega, fun hp => by omega⟩
  · injection hcs with hcs
    injection hcs with h1 h2 h3
    subst h1; subst h2; subst h3
    rw [cellsS] at hi
    have hnm : n ≤ m := by rw [hmm]; split <;> omega
    obtain ⟨l, hll, hp⟩ := list_of (P := fun i (q : Array Value) => ∃ cs, cs.length = 82 ∧ RS q cs ∧ ∀ j u, cs[j]? = some u → w.cell? (a.add (i * 82 + j)) = some u) n (fun i hin => by
      obtain ⟨cs', hc, ht⟩ := hi i (by omega)
      obtain ⟨_, hcl, hat⟩ := World.cells?_some hc
      refine ⟨cs'.toArray, cs', hcl, ⟨state_of hcl ht, by simp⟩, fun j u hu => ?_⟩
      have hj : j < 82 := by rw [← hcl]; exact (List.getElem?_eq_some_iff.1 hu).1
      rw [← add_addA, hat j hj]
      exact hu)
    exact ⟨l, hll, by have : c ≤ maxLen := hm; unfold maxLen at this; omega, fun _ => ⟨a, rfl, fun j q hq => hp j q hq⟩⟩
end
end Go.Proofs.Ytbmjeopnahmbgaa.In
