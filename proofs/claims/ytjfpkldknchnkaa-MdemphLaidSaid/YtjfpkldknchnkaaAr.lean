/- The arguments: runs, and bytes, as they are handed in. -/
import Derived.Test.YtjfpkldknchnkaaRd
import Derived.WalkKit
import Derived.SizedLaws
import Derived.ChangeSlices
namespace Go.Proofs.Ytjfpkldknchnkaa.Me
open Go.RowKit Go.WideShapes Go.ChangeShapes Go.Proofs.YtjfpkldknchnkaaW.PrintWords Go.Proofs.YtjfpkldknchnkaaW.PrintLast Go.Proofs.YtjfpkldknchnkaaW.PrintMore
set_option linter.unusedVariables false
set_option linter.unusedSimpArgs false
section
variable {H : Type} {enc : TypeId × Value → H} {w : World} {base : Nat} {spare : Nat → Bool} {held : Bool}
theorem list_of {α : Type} {P : Nat → α → Prop} : ∀ n, (∀ i, i < n → ∃ a, P i a) → ∃ l : List α, l.length = n ∧ ∀ i a, l[i]? = some a → P i a
  | 0, _ => ⟨[], rfl, fun i a h => by simp at h⟩
  | n + 1, h => by
    obtain ⟨l, hl, hp⟩ := list_of n (fun i hi => h i (by omega))
    obtain ⟨a, ha⟩ := h n (by omega)
    refine ⟨l ++ [a], by simp [hl], fun i b hb => ?_⟩
    by_cases hi : i < l.length
    · rw [List.getElem?_append_left hi] at hb
      exact hp i b hb
    · have hil := (List.getElem?_eq_some_iff.1 hb).1
      rw [List.length_append, List.length_singleton] at hil
      have : i = l.length := by omega
      subst this
      simp at hb
      subst hb
      rw [hl]
      exact ha
theorem int_of {fuel : Nat} {cs : List Value} {y : DataW H × List MemPlace} (h : DataW.trod enc Try.prog w base spare held fuel 3 cs = some y) : ∃ a, cs = [.int .i64 a] ∧ a ≤ 9223372036854775807 := by
  obtain ⟨m, h1, _, h2⟩ := DataW.trod_int Try.underlying3 h
  exact ⟨m, h1, (by simpa [Lit.wf, IntKind.min, IntKind.max, IntKind.signed, IntKind.bits] using h2 : _ ∧ m ≤ 9223372036854775807).2⟩
theorem byte_of {fuel : Nat} {cs : List Value} {y : DataW H × List MemPlace} (h : DataW.trod enc Try.prog w base spare held fuel 5 cs = some y) : ∃ a, cs = [.int .u8 a] := by
  obtain ⟨m, h1, _, h2⟩ := DataW.trod_int Try.underlying5 h
  exact ⟨m, h1⟩
theorem bool_of {fuel : Nat} {cs : List Value} {y : DataW H × List MemPlace} (h : DataW.trod enc Try.prog w base spare held fuel 4 cs = some y) : ∃ a, cs = [.bool a] := by
  cases fuel with
  | zero => simp [DataW.trod] at h
  | succ f =>
    unfold DataW.trod at h
    rw [Try.underlying4] at h
    split at h <;> simp_all
theorem cells3 : Try.prog.cellsOf 3 = 1 := by kernel_rfl
theorem cells4 : Try.prog.cellsOf 4 = 1 := by kernel_rfl
theorem cells5 : Try.prog.cellsOf 5 = 1 := by kernel_rfl
theorem cells23 : Try.prog.cellsOf 23 = 5 := by kernel_rfl
set_option maxRecDepth 100000 in
theorem rn_of {fuel : Nat} {cs : List Value} {y : DataW H × List MemPlace} (h : DataW.trod enc Try.prog w base spare held fuel 23 cs = some y) : ∃ e : Rn, cs = (rnc e).toList ∧ e.a ≤ 9223372036854775807 := by
  obtain ⟨zs, n, _, hx, hl, hlen, hf⟩ := DataW.trod_struct Try.underlying23 h
  rw [cells23] at hl
  match zs, hlen with
  | [y0, y1, y2, y3, y4], _ =>
    have t0 := hf 0 _ rfl
    have t1 := hf 1 _ rfl
    have t2 := hf 2 _ rfl
    have t3 := hf 3 _ rfl
    have t4 := hf 4 _ rfl
    match cs, hl with
    | [b0, b1, b2, b3, b4], _ =>
      simp [cells3, cells4, cells5] at t0 t1 t2 t3 t4
      obtain ⟨a0, h0, hr⟩ := int_of t0
      obtain ⟨a1, h1, _⟩ := int_of t1
      obtain ⟨a2, h2⟩ := byte_of t2
      obtain ⟨a3, h3⟩ := bool_of t3
      obtain ⟨a4, h4⟩ := bool_of t4
      injection h0 with h0
      injection h1 with h1
      injection h2 with h2
      injection h3 with h3
      injection h4 with h4
      subst h0 h1 h2 h3 h4
      exact ⟨⟨a0, a1, a2, a3, a4⟩, rfl, hr⟩
theorem runs_of {fuel : Nat} {A : Option Addr} {n c : Nat} {y : DataW H × List MemPlace} (h : DataW.trod enc Try.prog w base spare held fuel 31 [.slice A n c] = some y) : ∃ l : List Rn, ReadsRow RRn 5 w A n l ∧ ∀ r, r ∈ l → r.a ≤ 9223372036854775807 := by
  rcases Deep.open_slice Try.underlying31 h with ⟨h0, _⟩ | ⟨a, len, cap, m, k, D, Pl, hcs, hb, hl, hm, hmm, hx, hi⟩
  · injection h0 with h0
    injection h0 with h1 h2 h3
    exact ⟨[], ⟨by rw [h2]; rfl, by omega, fun hp => by omega⟩, fun r hr => by cases hr⟩
  · injection hcs with hcs
    injection hcs with h1 h2 h3
    subst h1; subst h2; subst h3
    rw [cells23] at hi
    have hnm : n ≤ m := by rw [hmm]; split <;> omega
    obtain ⟨l, hll, hp⟩ := list_of (P := fun i (q : Rn) => (∀ j u, (rnc q).toList[j]? = some u → w.cell? (a.add (i * 5 + j)) = some u) ∧ q.a ≤ 9223372036854775807) n (fun i hin => by
      obtain ⟨cs', hc, ht⟩ := hi i (by omega)
      obtain ⟨_, hcl, hat⟩ := World.cells?_some hc
      obtain ⟨q, hq, hqa⟩ := rn_of ht
      subst hq
      refine ⟨q, fun j u hu => ?_, hqa⟩
      have hj : j < 5 := (List.getElem?_eq_some_iff.1 hu).1
      rw [← Go.Deep.add_add, hat j hj]
      exact hu)
    refine ⟨l, ⟨hll, by have : c ≤ maxLen := hm; unfold maxLen at this; omega, fun _ => ⟨a, rfl, fun j q hq => ⟨_, rfl, rfl, (hp j q hq).1⟩⟩⟩, fun r hr => ?_⟩
    obtain ⟨i, hi2⟩ := List.getElem?_of_mem hr
    exact (hp i r hi2).2
/-- A row of bytes, handed in. -/
def BytesA (w : World) (A : Option Addr) (n : Nat) (l : List Int) : Prop := l.length = n ∧ n ≤ 9223372036854775807 ∧ (∀ x, x ∈ l → 0 ≤ x ∧ x ≤ 255) ∧ (0 < n → ∃ ad, A = some ad ∧ ∀ i x, l[i]? = some x → w.cell? (ad.add i) = some (.int .u8 x))
theorem cell_one {cs : List Value} {ad : Addr} {u : Value} (h : w.cells? base ad 1 = some cs) (hu : cs = [u]) : w.cell? ad = some u := by
  have := (World.cells?_some h).2.2 0 (by omega)
  rw [hu] at this
  simpa [Addr.add] using this
theorem bytes_of {fuel : Nat} {A : Option Addr} {n c : Nat} {y : DataW H × List MemPlace} (h : DataW.trod enc Try.prog w base spare held fuel 44 [.slice A n c] = some y) : ∃ l : List Int, BytesA w A n l := by
  rcases Deep.open_slice Try.underlying44 h with ⟨h0, _⟩ | ⟨a, len, cap, m, k, D, Pl, hcs, hb, hl, hm, hmm, hx, hi⟩
  · injection h0 with h0
    injection h0 with h1 h2 h3
    exact ⟨[], ⟨by rw [h2]; rfl, by omega, fun x hx => (by cases hx), fun hp => by omega⟩⟩
  · injection hcs with hcs
    injection hcs with h1 h2 h3
    subst h1; subst h2; subst h3
    rw [cells5] at hi
    have hnm : n ≤ m := by rw [hmm]; split <;> omega
    obtain ⟨l, hll, hp⟩ := list_of (P := fun i (q : Int) => w.cell? (a.add i) = some (.int .u8 q) ∧ 0 ≤ q ∧ q ≤ 255) n (fun i hin => by
      obtain ⟨cs', hc, ht⟩ := hi i (by omega)
      obtain ⟨q, hq, _, hqa⟩ := DataW.trod_int Try.underlying5 ht
      rw [Nat.mul_one] at hc
      exact ⟨q, cell_one hc hq, by simpa [Lit.wf, IntKind.min, IntKind.max, IntKind.signed, IntKind.bits] using hqa⟩)
    refine ⟨l, ⟨hll, by have : c ≤ maxLen := hm; unfold maxLen at this; omega, fun x hx => ?_, fun _ => ⟨a, rfl, fun j q hq => (hp j q hq).1⟩⟩⟩
    obtain ⟨i, hi2⟩ := List.getElem?_of_mem hx
    exact (hp i x hi2).2
end
end Go.Proofs.Ytjfpkldknchnkaa.Me
