/- The arguments: ranges, as they are handed in. -/
import Derived.Test.YtcbddmmoioggaaaWa
import Derived.WalkKit
import Derived.SizedLaws
namespace Go.Proofs.Ytcbddmmoioggaaa.Sp
open Go.RowKit Go.WideShapes Go.ChangeShapes Go.Proofs.YtcbddmmoioggaaaW.PrintWords Go.Proofs.YtcbddmmoioggaaaW.PrintLast Go.Proofs.YtcbddmmoioggaaaW.PrintMore
set_option linter.unusedVariables false
set_option linter.unusedSimpArgs false
section
variable {H : Type} {enc : TypeId × Value → H} {w : World} {base : Nat} {spare : Nat → Bool} {held : Bool}
theorem list_of {α : Type} {P : Nat → α → Prop} : ∀ n, (∀ i, i < n → ∃ a, P i a) → ∃ l : List α, l.length = n ∧ ∀ i a, l[i]? = some a → P i a
  | 0, _ => ⟨[], rfl, fun i a h => by simp at h⟩
  | n + 1, h => by
    obtain ⟨l, hl, hp⟩ := list_of n (fun i hi => h i (by omega))
    obtain ⟨a, ha⟩ := h n (by omega)
    refine ⟨l ++ [a], by simp [hl], fun i b hb => ?_⟩
    by_cases hi : i < l.length
    · rw [List.getElem?_append_left hi] at hb
      exact hp i b hb
    · have hil := (List.getElem?_eq_some_iff.1 hb).1
      rw [List.length_append, List.length_singleton] at hil
      have : i = l.length := by omega
      subst this
      simp at hb
      subst hb
      rw [hl]
      exact ha
theorem int_of {fuel : Nat} {cs : List Value} {y : DataW H × List MemPlace} (h : DataW.trod enc Try.prog w base spare held fuel 3 cs = some y) : ∃ a, cs = [.int .i64 a] := by
  cases fuel with
  | zero => simp [DataW.trod] at h
  | succ f =>
    unfold DataW.trod at h
    rw [Try.underlying3] at h
    split at h <;> simp_all
theorem cells3 : Try.prog.cellsOf 3 = 1 := by kernel_rfl
theorem cells31 : Try.prog.cellsOf 31 = 2 := by kernel_rfl
theorem rg_of {fuel : Nat} {cs : List Value} {y : DataW H × List MemPlace} (h : DataW.trod enc Try.prog w base spare held fuel 31 cs = some y) : ∃ e : Rg, cs = (rgc e).toList := by
  obtain ⟨zs, n, _, hx, hl, hlen, hf⟩ := DataW.trod_struct Try.underlying31 h
  rw [cells31] at hl
  match zs, hlen with
  | [y0, y1], _ =>
    have t0 := hf 0 _ rfl
    have t1 := hf 1 _ rfl
    match cs, hl with
    | [b0, b1], _ =>
      simp [cells3] at t0 t1
      obtain ⟨a0, h0⟩ := int_of t0
      obtain ⟨a1, h1⟩ := int_of t1
      injection h0 with h0
      injection h1 with h1
      subst h0 h1
      exact ⟨⟨a0, a1⟩, rfl⟩
theorem rgs_of {fuel : Nat} {A : Option Addr} {n c : Nat} {y : DataW H × List MemPlace} (h : DataW.trod enc Try.prog w base spare held fuel 22 [.slice A n c] = some y) : ∃ l : List Rg, ReadsRow RRg 2 w A n l := by
  rcases Deep.open_slice Try.underlying22 h with ⟨h0, _⟩ | ⟨a, len, cap, m, k, D, Pl, hcs, hb, hl, hm, hmm, hx, hi⟩
  · injection h0 with h0
    injection h0 with h1 h2 h3
    exact ⟨[], by rw [h2]; rfl, by omega, fun hp => by omega⟩
  · injection hcs with hcs
    injection hcs with h1 h2 h3
    subst h1; subst h2; subst h3
    rw [cells31] at hi
    have hnm : n ≤ m := by rw [hmm]; split <;> omega
    obtain ⟨l, hll, hp⟩ := list_of (P := fun i (q : Rg) => ∀ j u, (rgc q).toList[j]? = some u → w.cell? (a.add (i * 2 + j)) = some u) n (fun i hin => by
      obtain ⟨cs', hc, ht⟩ := hi i (by omega)
      obtain ⟨_, hcl, hat⟩ := World.cells?_some hc
      obtain ⟨q, hq⟩ := rg_of ht
      subst hq
      refine ⟨q, fun j u hu => ?_⟩
      have hj : j < 2 := (List.getElem?_eq_some_iff.1 hu).1
      rw [← Go.Deep.add_add, hat j hj]
      exact hu)
    exact ⟨l, hll, by have : c ≤ maxLen := hm; unfold maxLen at this; omega, fun _ => ⟨a, rfl, fun j q hq => ⟨_, rfl, rfl, hp j q hq⟩⟩⟩
end
end Go.Proofs.Ytcbddmmoioggaaa.Sp
