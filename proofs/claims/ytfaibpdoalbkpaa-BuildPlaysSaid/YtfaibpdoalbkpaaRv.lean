/- Two builders, apart. -/
import Derived.Test.YtfaibpdoalbkpaaRp
import Derived.Test.YtfaibpdoalbkpaaPw
namespace Go.Proofs.Ytfaibpdoalbkpaa.Bu
open Go.RowKit Go.Proofs.YtfaibpdoalbkpaaW.PrintWords Go.Proofs.YtfaibpdoalbkpaaW.PrintLast Go.Proofs.YtfaibpdoalbkpaaW.PrintMore
attribute [local go_sem] max2_int min2_int max_two min_two max_three min_three max_four min_four
set_option linter.unusedVariables false
set_option linter.unusedSimpArgs false
/-- Both builders in memory, apart from one another, their blocks within S. -/
def Two (S : Nat → Prop) (w : World) (ba bb : Nat) (m : Bl) : Prop :=
  ∃ (fpA fpB : Nat → Prop) (ps : List Nat) (vN vO vL vP : Value), BT w fpA ba ps m vN vO ∧ RT w fpB bb m vL vP ∧ (∀ j, fpA j → ¬ fpB j) ∧ ∀ j, fpA j ∨ fpB j → S j ∧ j < w.heap.size
section
variable {S S' : Nat → Prop} {w w' : World} {ba bb : Nat} {m : Bl}
theorem Two.move (h : Two S w ba bb m) (hsz : w.heap.size ≤ w'.heap.size) (hm : ∀ j, S j → j < w.heap.size → w'.heap[j]? = w.heap[j]?) : Two S w' ba bb m := by
  obtain ⟨fpA, fpB, ps, vN, vO, vL, vP, hA, hB, hd, hS⟩ := h
  exact ⟨fpA, fpB, ps, vN, vO, vL, vP, hA.move (fun k hk hlt => hm k (hS k (.inl hk)).1 hlt), hB.move (fun k hk hlt => hm k (hS k (.inr hk)).1 hlt), hd, fun j hj => ⟨(hS j hj).1, Nat.lt_of_lt_of_le (hS j hj).2 hsz⟩⟩
theorem Two.below (h : Two S w ba bb m) (hb : Below w.heap.size w w') : Two S w' ba bb m := h.move hb.size fun j _ hj => hb.block j hj
theorem Two.narrow (h : Two S w ba bb m) (hS : ∀ j, S j → j < w.heap.size → S' j) : Two S' w ba bb m := by
  obtain ⟨fpA, fpB, ps, vN, vO, vL, vP, hA, hB, hd, hs⟩ := h
  exact ⟨fpA, fpB, ps, vN, vO, vL, vP, hA, hB, hd, fun j hj => ⟨hS j (hs j hj).1 (hs j hj).2, (hs j hj).2⟩⟩
theorem Two.join {w5 w6 : World} {fpA fpB : Nat → Prop} {ps : List Nat} {vN vO vL vP : Value} (hA : BT w5 (more fpA w.heap.size) ba ps m vN vO) (f5 : Fr fpA w w5) (hB : RT w6 (more fpB w5.heap.size) bb m vL vP) (f6 : Fr fpB w5 w6) (hd : ∀ j, fpA j → ¬ fpB j) (hS : ∀ j, fpA j ∨ fpB j → S j ∧ j < w.heap.size) :
    Two (fun j => S j ∨ w.heap.size ≤ j) w6 ba bb m := by
  have s5 := f5.size
  have s6 := f6.size
  refine ⟨_, _, ps, vN, vO, vL, vP, hA.bound.fr f6 ?_, hB.bound, ?_, ?_⟩
  · rintro j ⟨hj | hj, _⟩ hb
    · exact hd j hj hb
    · have := (hS j (.inr hb)).2; omega
  · rintro j ⟨hj | hj, h1⟩ ⟨hb | hb, _⟩
    · exact hd j hj hb
    · omega
    · have := (hS j (.inr hb)).2; omega
    · omega
  · rintro j (⟨hj | hj, h1⟩ | ⟨hj | hj, h1⟩)
    · exact ⟨.inl (hS j (.inl hj)).1, by omega⟩
    · exact ⟨.inr hj, by omega⟩
    · exact ⟨.inl (hS j (.inr hj)).1, by omega⟩
    · exact ⟨.inr (by omega), by omega⟩
end
def doneV (m : Bl) (n : Int) : List Nd := if n < m.far ∨ 1048576 < n then [] else doneL m n
def doneC (m : Bl) (n : Int) : Int := if n < m.far ∨ 1048576 < n then 70 else 0
theorem DoneP.one {w w' : World} {m : Bl} {n : Int} {e : Ending} (h : DoneP w m n e w') : Below w.heap.size w w' ∧ ∃ v, e = .returned (.tuple #[v, .int .i64 (doneC m n)]) ∧ kN.R 38 w' 0 (fun k => w.heap.size ≤ k) v (doneV m n) := by
  obtain ⟨hb, (⟨h1, rfl⟩ | ⟨h1, v, rfl, hr⟩)⟩ := h
  · refine ⟨hb, .slice none 0 0, ?_, ?_⟩
    · unfold doneC
      rw [if_pos h1]
    · unfold doneV
      rw [if_pos h1]
      exact Kd.R_nil _ _ _ _ _
  · refine ⟨hb, v, ?_, ?_⟩
    · unfold doneC
      rw [if_neg h1]
    · unfold doneV
      rw [if_neg h1]
      exact hr
theorem formE {w : World} {ok : Nat → Prop} {v : Value} {xs : List Ev} (h : kE.R 41 w 0 ok v xs) (h1 : 1 ≤ xs.length) : ∃ g cap, v = .slice (some ⟨g, 0, none⟩) xs.length cap ∧ xs.length ≤ cap := by
  obtain ⟨_, inner, hown, _⟩ := h
  rcases hown.2 with ⟨_, h2⟩ | ⟨g, cap, cur, h2, _, _, h3, _⟩
  · omega
  · exact ⟨g, cap, h2, h3⟩
theorem rowE_at {w : World} {ok : Nat → Prop} {g NL cap : Nat} {xs : List Ev} (h : kE.R 41 w 0 ok (.slice (some ⟨g, 0, none⟩) NL cap) xs) {i : Nat} {y : Ev} (hy : xs[i]? = some y) : ∀ j u, (evc y).toList[j]? = some u → w.cell? ⟨g, i * 4 + j, none⟩ = some u := by
  have hc := (Kd.R_reads' h).2.2
  have hil := (List.getElem?_eq_some_iff.1 hy).1
  obtain ⟨ad, hA, hr⟩ := hc.2.2 (by omega)
  injection hA with hA
  subst hA
  obtain ⟨c, _, hk, hcell⟩ := hr i y hy
  intro j u hu
  have h := hcell j u (by rw [show c = (evc y).toList from hk]; exact hu)
  rw [add_plain] at h
  exact h
theorem info41s : (Try.prog.info? 41).map (·.size) = some 4 := by kernel_rfl
theorem WF.putE {m : Bl} {n : Nat} {at_ : Int} {l : List Ev} (hw : WF m n) : WF (if Bu.putE m at_ l = 0 then putB at_ m l else m) (n + l.length) := by
  by_cases hp : Bu.putE m at_ l = 0
  · rw [if_pos hp]
    unfold Bu.putE at hp
    by_cases ha : at_ < 0 ∨ 1048576 < at_
    · rw [if_pos ha] at hp; cases hp
    rw [if_neg ha] at hp
    exact (sound_rest (l1 := l) (l2 := []) (by omega) hw (by rw [List.append_nil]; exact hp)).1
  · rw [if_neg hp]
    exact ⟨hw.o, hw.f, by have := hw.L; omega, by have := hw.O; omega⟩
theorem Srt.putE {m : Bl} {at_ : Int} {l : List Ev} (hw : Srt m) : Srt (if Bu.putE m at_ l = 0 then putB at_ m l else m) := by
  split
  · exact hw.put
  · exact hw
theorem len_doneV (m : Bl) (n : Int) : (doneV m n).length ≤ m.L.length := by
  unfold doneV
  split
  · simp
  · rw [len_doneL]
    exact Nat.le_refl _
end Go.Proofs.Ytfaibpdoalbkpaa.Bu
