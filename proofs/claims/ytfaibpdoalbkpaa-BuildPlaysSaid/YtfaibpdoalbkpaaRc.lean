/- The reference's one, whole. -/
import Derived.Test.YtfaibpdoalbkpaaRz
namespace Go.Proofs.Ytfaibpdoalbkpaa.Bu
open Go.RowKit Go.Proofs.YtfaibpdoalbkpaaW.PrintWords Go.Proofs.YtfaibpdoalbkpaaW.PrintLast Go.Proofs.YtfaibpdoalbkpaaW.PrintMore
attribute [local go_sem] max2_int min2_int max_two min_two max_three min_three max_four min_four
set_option linter.unusedVariables false
set_option linter.unusedSimpArgs false
theorem rone_c (b : Nat) (m : Bl) (vL vO : Value) (x : Ev) (at_ : Int) (w : World) (fp : Nat → Prop) (n0 : Nat) (h0 : RT w fp b m vL vO) (hs : Srt m) (hwf : WF m n0) (hn0 : n0 ≤ 1000000) (ha : 0 ≤ at_ ∧ at_ ≤ 1048576) :
    Calls Try.prog 23 #[pv b, .agg (evc x), .int .i64 at_] w fun e w' => ROneP w fp b m at_ x e w' := by
  by_cases hb : x.o < 1 ∨ 3 < x.o ∨ Bad at_ m.far x.a
  · exact rone_bad b m vL vO x at_ w fp n0 h0 hwf ha hb
  have hnb : ¬ Bad at_ m.far x.a := fun h => hb (.inr (.inr h))
  have ho : x.o = 1 ∨ x.o = 2 ∨ x.o = 3 := by
    have h1 : ¬ x.o < 1 := fun h => hb (.inl h)
    have h2 : ¬ 3 < x.o := fun h => hb (.inr (.inl h))
    omega
  rcases ho with ho | ho | ho
  · exact rone_begin b m vL vO x at_ w fp n0 h0 hs hwf hn0 ha ho hnb
  · by_cases hO : m.O.length = 1
    · exact rone_71 b m vL vO x at_ w fp n0 h0 hwf ha ho hnb hO
    · exact rone_end b m vL vO x at_ w fp n0 h0 hs hwf hn0 ha ho hnb (by have := hwf.o; omega)
  · by_cases hbt : Bad at_ (at_ + x.a) x.t
    · exact rone_leaf70 b m vL vO x at_ w fp n0 h0 hwf ha ho hnb hbt
    · exact rone_leaf b m vL vO x at_ w fp n0 h0 hs hwf hn0 ha ho hnb hbt
/-- What the reference's Put tells. -/
def RPutP (w : World) (fp : Nat → Prop) (b : Nat) (m : Bl) (at_ : Int) (l : List Ev) (e : Ending) (w' : World) : Prop :=
  e = .returned (.int .i64 (putE m at_ l)) ∧ (∃ vL vO, RT w' (more fp w.heap.size) b (if putE m at_ l = 0 then putB at_ m l else m) vL vO) ∧ Fr fp w w'
end Go.Proofs.Ytfaibpdoalbkpaa.Bu
