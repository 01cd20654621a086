/- The nine methods, each as the reader's one step or none. -/
import Derived.Test.YtdknppomjcpihaaBeg
import Derived.Test.YtdknppomjcpihaaOper
import Derived.Test.YtdknppomjcpihaaName
import Derived.Test.YtdknppomjcpihaaModel3
namespace Go.Proofs.Ytdknppomjcpihaa.PPy
open Go.RowKit Go.Proofs.YtdknppomjcpihaaW.PrintWords Go.Proofs.YtdknppomjcpihaaW.PrintLast Go.Proofs.YtdknppomjcpihaaW.PrintMore

/-- What a method does at a reader. -/
def Takes (B b J : Nat) (r : Rd) (w : World) : Prop :=
  Calls Try.prog (18 + J) #[.pointer (some ⟨b, 0, none⟩)] w fun en w' => en = .returned (.bool (decide (r.pick = J))) ∧ RdAt B w' b (if r.pick = J then r.step else r) ∧ Below B w w' ∧ (¬ (r.pick = J) → Below w.heap.size w w')

theorem takes_yes {B b J : Nat} {r r2 : Rd} {w : World} (h1 : r.pick = J) (h2 : r.step = r2)
    (h : Calls Try.prog (18 + J) #[.pointer (some ⟨b, 0, none⟩)] w fun en w' => en = .returned (.bool true) ∧ RdAt B w' b r2 ∧ Below B w w') : Takes B b J r w := by
  unfold Takes
  rw [if_pos h1, decide_eq_true h1, h2]
  exact h.mono fun e w' h => ⟨h.1, h.2.1, h.2.2, fun c => absurd h1 c⟩
theorem takes_no {B b J : Nat} {r : Rd} {w : World} (h1 : ¬ r.pick = J)
    (h : Calls Try.prog (18 + J) #[.pointer (some ⟨b, 0, none⟩)] w fun en w' => en = .returned (.bool false) ∧ RdAt B w' b r ∧ Bel B w w') : Takes B b J r w := by
  unfold Takes
  rw [if_neg h1, decide_eq_false h1]
  exact h.mono fun e w' h => ⟨h.1, h.2.1, h.2.2.1, fun _ => h.2.2.2⟩

section
variable {B b : Nat} {r : Rd} {w : World} (h : RdAt B w b r) (ok : r.Ok) (hp : r.pos < (r.s.size : Int))
include h ok hp

theorem take0 : Takes B b 0 r w := by
  have hl : r.ev.length ≤ 1000000 := by have := ok.el; have := ok.sz; omega
  by_cases c0 : r.mark ≠ 0
  · exact takes_yes (by unfold Rd.pick; rw [if_pos c0]) (by unfold Rd.step; rw [if_pos c0]) (open_yes B b w r h hl ok.p0 (by omega) ok.sz (by have := ok.m; omega))
  · exact takes_no (by unfold Rd.pick; rw [if_neg c0]; (repeat' split) <;> decide) (open_no B b w r h (by simpa using c0))
theorem take1 (hj : 1 ≤ r.pick) : Takes B b 1 r w := by
  have hl : r.ev.length ≤ 1000000 := by have := ok.el; have := ok.sz; omega
  have c0 : ¬ (r.mark ≠ 0) := fun c => by unfold Rd.pick at hj; rw [if_pos c] at hj; omega
  cases c1 : blankB r.c with
  | true =>
    refine takes_yes (r2 := { r with pos := r.pos + 1 }) (by unfold Rd.pick; rw [if_neg c0, if_pos c1]) (by unfold Rd.step; rw [if_neg c0, if_pos c1]) ?_
    have := blank_c B b w r h ok.p0 hp ok.sz
    rw [show blankB (bt r.s r.pos) = true from c1, if_pos rfl] at this
    exact this.mono fun e w' h => ⟨h.1, h.2.1, h.2.2.1⟩
  | false =>
    refine takes_no (by unfold Rd.pick; rw [if_neg c0, if_neg (by rw [c1]; decide)]; (repeat' split) <;> decide) ?_
    have := blank_c B b w r h ok.p0 hp ok.sz
    rw [show blankB (bt r.s r.pos) = false from c1, if_neg (by decide)] at this
    exact this.mono fun e w' h => ⟨h.1, h.2.1, h.2.2.1, h.2.2.2 (by decide)⟩
theorem take2 (hj : 2 ≤ r.pick) : Takes B b 2 r w := by
  have hl : r.ev.length ≤ 1000000 := by have := ok.el; have := ok.sz; omega
  have c0 : ¬ (r.mark ≠ 0) := fun c => by unfold Rd.pick at hj; rw [if_pos c] at hj; omega
  have c1 : ¬ (blankB r.c = true) := fun c => by unfold Rd.pick at hj; rw [if_neg c0, if_pos c] at hj; omega
  by_cases c2 : r.c = 35
  · exact takes_yes (by unfold Rd.pick; rw [if_neg c0, if_neg c1, if_pos c2]) (by unfold Rd.step; rw [if_neg c0, if_neg c1, if_pos c2]) (comment_yes B b w r h hl ok.p0 hp c2)
  · exact takes_no (by unfold Rd.pick; rw [if_neg c0, if_neg c1, if_neg c2]; (repeat' split) <;> decide) (comment_no B b w r h ok.p0 hp c2)
theorem take3 (hj : 3 ≤ r.pick) : Takes B b 3 r w := by
  have hl : r.ev.length ≤ 1000000 := by have := ok.el; have := ok.sz; omega
  have c0 : ¬ (r.mark ≠ 0) := fun c => by unfold Rd.pick at hj; rw [if_pos c] at hj; omega
  have c1 : ¬ (blankB r.c = true) := fun c => by unfold Rd.pick at hj; rw [if_neg c0, if_pos c] at hj; omega
  have c2 : ¬ (r.c = 35) := fun c => by unfold Rd.pick at hj; rw [if_neg c0, if_neg c1, if_pos c] at hj; omega
  by_cases c3 : r.c = 92
  · exact takes_yes (by unfold Rd.pick; rw [if_neg c0, if_neg c1, if_neg c2, if_pos c3]) (by unfold Rd.step; rw [if_neg c0, if_neg c1, if_neg c2, if_pos c3]) (join_yes B b w r h hl ok.p0 hp ok.sz c3)
  · exact takes_no (by unfold Rd.pick; rw [if_neg c0, if_neg c1, if_neg c2, if_neg c3]; (repeat' split) <;> decide) (join_no B b w r h ok.p0 hp c3)
theorem take4 (hj : 4 ≤ r.pick) : Takes B b 4 r w := by
  have hl : r.ev.length ≤ 1000000 := by have := ok.el; have := ok.sz; omega
  have c0 : ¬ (r.mark ≠ 0) := fun c => by unfold Rd.pick at hj; rw [if_pos c] at hj; omega
  have c1 : ¬ (blankB r.c = true) := fun c => by unfold Rd.pick at hj; rw [if_neg c0, if_pos c] at hj; omega
  have c2 : ¬ (r.c = 35) := fun c => by unfold Rd.pick at hj; rw [if_neg c0, if_neg c1, if_pos c] at hj; omega
  have c3 : ¬ (r.c = 92) := fun c => by unfold Rd.pick at hj; rw [if_neg c0, if_neg c1, if_neg c2, if_pos c] at hj; omega
  have hb := begins_c B b w r h hl ok.p0 hp ok.sz
  by_cases c4 : 0 < begM r.rest
  · rw [if_pos c4, decide_eq_true c4] at hb
    exact takes_yes (by unfold Rd.pick; rw [if_neg c0, if_neg c1, if_neg c2, if_neg c3, if_pos c4]) (by unfold Rd.step; rw [if_neg c0, if_neg c1, if_neg c2, if_neg c3, if_pos c4]) (hb.mono fun e w' h => ⟨h.1, h.2.1, h.2.2.1⟩)
  · rw [if_neg c4, decide_eq_false c4] at hb
    exact takes_no (by unfold Rd.pick; rw [if_neg c0, if_neg c1, if_neg c2, if_neg c3, if_neg c4]; (repeat' split) <;> decide) (hb.mono fun e w' h => ⟨h.1, h.2.1, h.2.2.1, h.2.2.2 c4⟩)
theorem take5 (hj : 5 ≤ r.pick) : Takes B b 5 r w := by
  have hl : r.ev.length ≤ 1000000 := by have := ok.el; have := ok.sz; omega
  have c0 : ¬ (r.mark ≠ 0) := fun c => by unfold Rd.pick at hj; rw [if_pos c] at hj; omega
  have c1 : ¬ (blankB r.c = true) := fun c => by unfold Rd.pick at hj; rw [if_neg c0, if_pos c] at hj; omega
  have c2 : ¬ (r.c = 35) := fun c => by unfold Rd.pick at hj; rw [if_neg c0, if_neg c1, if_pos c] at hj; omega
  have c3 : ¬ (r.c = 92) := fun c => by unfold Rd.pick at hj; rw [if_neg c0, if_neg c1, if_neg c2, if_pos c] at hj; omega
  have c4 : ¬ (0 < begM r.rest) := fun c => by unfold Rd.pick at hj; rw [if_neg c0, if_neg c1, if_neg c2, if_neg c3, if_pos c] at hj; omega
  by_cases c5 : letterB r.c = true
  · exact takes_yes (by unfold Rd.pick; rw [if_neg c0, if_neg c1, if_neg c2, if_neg c3, if_neg c4, if_pos c5]) (by unfold Rd.step; rw [if_neg c0, if_neg c1, if_neg c2, if_neg c3, if_neg c4, if_pos c5]) (name_yes B b w r h hl ok.p0 hp ok.sz c5)
  · exact takes_no (by unfold Rd.pick; rw [if_neg c0, if_neg c1, if_neg c2, if_neg c3, if_neg c4, if_neg c5]; (repeat' split) <;> decide) (name_no B b w r h ok.p0 hp (Bool.eq_false_iff.mpr c5))
theorem take6 (hj : 6 ≤ r.pick) : Takes B b 6 r w := by
  have hl : r.ev.length ≤ 1000000 := by have := ok.el; have := ok.sz; omega
  have c0 : ¬ (r.mark ≠ 0) := fun c => by unfold Rd.pick at hj; rw [if_pos c] at hj; omega
  have c1 : ¬ (blankB r.c = true) := fun c => by unfold Rd.pick at hj; rw [if_neg c0, if_pos c] at hj; omega
  have c2 : ¬ (r.c = 35) := fun c => by unfold Rd.pick at hj; rw [if_neg c0, if_neg c1, if_pos c] at hj; omega
  have c3 : ¬ (r.c = 92) := fun c => by unfold Rd.pick at hj; rw [if_neg c0, if_neg c1, if_neg c2, if_pos c] at hj; omega
  have c4 : ¬ (0 < begM r.rest) := fun c => by unfold Rd.pick at hj; rw [if_neg c0, if_neg c1, if_neg c2, if_neg c3, if_pos c] at hj; omega
  have c5 : ¬ (letterB r.c = true) := fun c => by unfold Rd.pick at hj; rw [if_neg c0, if_neg c1, if_neg c2, if_neg c3, if_neg c4, if_pos c] at hj; omega
  have hb := number_c B b w r h hl ok.p0 hp ok.sz
  by_cases c6 : numB r.rest = true
  · rw [if_pos c6, c6] at hb
    exact takes_yes (by unfold Rd.pick; rw [if_neg c0, if_neg c1, if_neg c2, if_neg c3, if_neg c4, if_neg c5, if_pos c6]) (by unfold Rd.step; rw [if_neg c0, if_neg c1, if_neg c2, if_neg c3, if_neg c4, if_neg c5, if_pos c6]) (hb.mono fun e w' h => ⟨h.1, h.2.1, h.2.2.1⟩)
  · rw [if_neg c6, Bool.eq_false_iff.mpr c6] at hb
    exact takes_no (by unfold Rd.pick; rw [if_neg c0, if_neg c1, if_neg c2, if_neg c3, if_neg c4, if_neg c5, if_neg c6]; (repeat' split) <;> decide) (hb.mono fun e w' h => ⟨h.1, h.2.1, h.2.2.1, h.2.2.2 (by decide)⟩)
theorem take7 (hj : 7 ≤ r.pick) : Takes B b 7 r w := by
  have hl : r.ev.length ≤ 1000000 := by have := ok.el; have := ok.sz; omega
  have c0 : ¬ (r.mark ≠ 0) := fun c => by unfold Rd.pick at hj; rw [if_pos c] at hj; omega
  have c1 : ¬ (blankB r.c = true) := fun c => by unfold Rd.pick at hj; rw [if_neg c0, if_pos c] at hj; omega
  have c2 : ¬ (r.c = 35) := fun c => by unfold Rd.pick at hj; rw [if_neg c0, if_neg c1, if_pos c] at hj; omega
  have c3 : ¬ (r.c = 92) := fun c => by unfold Rd.pick at hj; rw [if_neg c0, if_neg c1, if_neg c2, if_pos c] at hj; omega
  have c4 : ¬ (0 < begM r.rest) := fun c => by unfold Rd.pick at hj; rw [if_neg c0, if_neg c1, if_neg c2, if_neg c3, if_pos c] at hj; omega
  have c5 : ¬ (letterB r.c = true) := fun c => by unfold Rd.pick at hj; rw [if_neg c0, if_neg c1, if_neg c2, if_neg c3, if_neg c4, if_pos c] at hj; omega
  have c6 : ¬ (numB r.rest = true) := fun c => by unfold Rd.pick at hj; rw [if_neg c0, if_neg c1, if_neg c2, if_neg c3, if_neg c4, if_neg c5, if_pos c] at hj; omega
  have hb := operator_c B b w r h hl ok.p0 hp ok.sz ok.d
  by_cases c7 : opAt opL r.rest < 47
  · rw [if_pos c7, decide_eq_true c7] at hb
    exact takes_yes (by unfold Rd.pick; rw [if_neg c0, if_neg c1, if_neg c2, if_neg c3, if_neg c4, if_neg c5, if_neg c6, if_pos c7]) (by unfold Rd.step; rw [if_neg c0, if_neg c1, if_neg c2, if_neg c3, if_neg c4, if_neg c5, if_neg c6, if_pos c7]) (hb.mono fun e w' h => ⟨h.1, h.2.1, h.2.2.1⟩)
  · rw [if_neg c7, decide_eq_false c7] at hb
    exact takes_no (by unfold Rd.pick; rw [if_neg c0, if_neg c1, if_neg c2, if_neg c3, if_neg c4, if_neg c5, if_neg c6, if_neg c7]; decide) (hb.mono fun e w' h => ⟨h.1, h.2.1, h.2.2.1, h.2.2.2 c7⟩)
theorem take8 (hj : 8 ≤ r.pick) : Takes B b 8 r w := by
  have hl : r.ev.length ≤ 1000000 := by have := ok.el; have := ok.sz; omega
  have c0 : ¬ (r.mark ≠ 0) := fun c => by unfold Rd.pick at hj; rw [if_pos c] at hj; omega
  have c1 : ¬ (blankB r.c = true) := fun c => by unfold Rd.pick at hj; rw [if_neg c0, if_pos c] at hj; omega
  have c2 : ¬ (r.c = 35) := fun c => by unfold Rd.pick at hj; rw [if_neg c0, if_neg c1, if_pos c] at hj; omega
  have c3 : ¬ (r.c = 92) := fun c => by unfold Rd.pick at hj; rw [if_neg c0, if_neg c1, if_neg c2, if_pos c] at hj; omega
  have c4 : ¬ (0 < begM r.rest) := fun c => by unfold Rd.pick at hj; rw [if_neg c0, if_neg c1, if_neg c2, if_neg c3, if_pos c] at hj; omega
  have c5 : ¬ (letterB r.c = true) := fun c => by unfold Rd.pick at hj; rw [if_neg c0, if_neg c1, if_neg c2, if_neg c3, if_neg c4, if_pos c] at hj; omega
  have c6 : ¬ (numB r.rest = true) := fun c => by unfold Rd.pick at hj; rw [if_neg c0, if_neg c1, if_neg c2, if_neg c3, if_neg c4, if_neg c5, if_pos c] at hj; omega
  have c7 : ¬ (opAt opL r.rest < 47) := fun c => by unfold Rd.pick at hj; rw [if_neg c0, if_neg c1, if_neg c2, if_neg c3, if_neg c4, if_neg c5, if_neg c6, if_pos c] at hj; omega
  exact takes_yes (by unfold Rd.pick; rw [if_neg c0, if_neg c1, if_neg c2, if_neg c3, if_neg c4, if_neg c5, if_neg c6, if_neg c7]) (by unfold Rd.step; rw [if_neg c0, if_neg c1, if_neg c2, if_neg c3, if_neg c4, if_neg c5, if_neg c6, if_neg c7]) (other_c B b w r h hl ok.p0 hp ok.sz)
end
theorem pick_le (r : Rd) : r.pick ≤ 8 := by unfold Rd.pick; (repeat' split) <;> decide

end Go.Proofs.Ytdknppomjcpihaa.PPy
