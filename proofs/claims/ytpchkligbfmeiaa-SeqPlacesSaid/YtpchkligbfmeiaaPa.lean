/- Places and numbers: plain. -/
import Derived.Test.YtpchkligbfmeiaaWa
namespace Go.Proofs.Ytpchkligbfmeiaa.Se
set_option linter.unusedVariables false
set_option linter.unusedSimpArgs false
theorem sumL_take_mono {l : Items} (hp : ∀ x ∈ l, 0 ≤ x.2) {a b : Nat} (h : a ≤ b) : sumL (l.take a) ≤ sumL (l.take b) := by
  have e : l.take b = l.take a ++ (l.take b).drop a := by
    have := List.take_append_drop a (l.take b)
    rw [List.take_take, Nat.min_eq_left h] at this
    exact this.symm
  rw [e, sumL_append]
  have := sumL_pos (l := (l.take b).drop a) fun x hx => hp x (List.mem_of_mem_take (List.mem_of_mem_drop hx))
  omega
theorem sumL_take_succ {l : Items} {i : Nat} {x : ByteArray × Int} (h : l[i]? = some x) : sumL (l.take (i + 1)) = sumL (l.take i) + x.2 := by
  rw [take_snoc h, sumL_append]
  simp [sumL]
theorem sumL_take_le {l : Items} (hp : ∀ x ∈ l, 0 ≤ x.2) (a : Nat) : sumL (l.take a) ≤ sumL l := by
  have h := sumL_take_mono hp (a := a) (b := max a l.length) (by omega)
  rw [List.take_of_length_le (by omega : l.length ≤ max a l.length)] at h
  exact h
theorem find_place {l : Items} (hp : ∀ x ∈ l, 0 ≤ x.2) {i : Nat} {it : ByteArray} {z o : Int} (hi : l[i]? = some (it, z)) (h0 : 0 ≤ o) (h1 : o < z) {a x er : Int} (h : FindR l (sumL (l.take i) + o) a x er) : a = (i : Int) ∧ x = o ∧ er = 0 := by
  have hs := sumL_take_succ hi
  have hle := sumL_take_le hp (i + 1)
  have hpos : 0 ≤ sumL (l.take i) := sumL_pos fun x hx => hp x (List.mem_of_mem_take hx)
  rcases h with ⟨_, _, rfl, pre, it', z', post, hl, ha, hf, h2, h3⟩ | ⟨h, _⟩
  · have hj : l[pre.length]? = some (it', z') := by rw [hl]; simp
    have hpre : l.take pre.length = pre := by rw [hl]; simp
    have hs2 := sumL_take_succ hj
    rw [hpre] at hs2
    have hji : pre.length = i := by
      rcases Nat.lt_trichotomy pre.length i with hlt | heq | hlt
      · have := sumL_take_mono hp (a := pre.length + 1) (b := i) hlt
        simp only at hs hs2
        omega
      · exact heq
      · have := sumL_take_mono hp (a := i + 1) (b := pre.length) hlt
        rw [hpre] at this
        simp only at hs hs2
        omega
    subst hji
    rw [hpre] at hf
    exact ⟨ha, by omega, rfl⟩
  · simp only at hs
    exact absurd ⟨by omega, by omega⟩ h
theorem sum_take_len {l : Items} {i s er : Int} {k : Nat} (h : SumR l i s er) (hi : i = (k : Int)) (hk : k ≤ l.length) : s = sumL (l.take k) ∧ er = 0 := by
  subst hi
  rcases h with ⟨_, _, h, he⟩ | ⟨h, _⟩
  · exact ⟨by simpa using h, he⟩
  · exact absurd ⟨by omega, by omega⟩ h
theorem at_in {l : Items} {i : Int} {it : ByteArray} {z er : Int} {k : Nat} (h : AtR l i it z er) (hi : i = (k : Int)) (hk : k < l.length) : l[k]? = some (it, z) ∧ er = 0 := by
  subst hi
  rcases h with ⟨_, _, h, he⟩ | ⟨h, _⟩
  · exact ⟨by simpa using h, he⟩
  · exact absurd ⟨by omega, by omega⟩ h
end Go.Proofs.Ytpchkligbfmeiaa.Se
