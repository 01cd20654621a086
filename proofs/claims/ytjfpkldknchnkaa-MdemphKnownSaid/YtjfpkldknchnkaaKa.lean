/- MdemphKnown walked. -/
import Derived.Test.YtjfpkldknchnkaaRb
import Derived.Test.YtjfpkldknchnkaaRd
namespace Go.Proofs.Ytjfpkldknchnkaa.Me
open Go.RowKit Go.Proofs.YtjfpkldknchnkaaW.PrintWords Go.Proofs.YtjfpkldknchnkaaW.PrintLast Go.Proofs.YtjfpkldknchnkaaW.PrintMore
attribute [local go_sem] max2_int min2_int max_two min_two max_three min_three max_four min_four
set_option linter.unusedVariables false
set_option linter.unusedSimpArgs false
/-- The rows. -/
def tab : List (ByteArray × List Pr) := [(⟨#[42, 97, 42]⟩, [⟨0, 3, false⟩]), (⟨#[42, 42, 97, 42, 42]⟩, [⟨0, 5, true⟩]), (⟨#[42, 42, 42, 97, 42, 42, 42]⟩, [⟨0, 7, false⟩, ⟨1, 6, true⟩]), (⟨#[97, 95, 98, 95, 99]⟩, []), (⟨#[97, 42, 98, 42, 99]⟩, [⟨1, 4, false⟩]), (⟨#[42, 97, 32, 42, 42, 98, 42, 32, 99, 42, 42]⟩, [⟨0, 11, false⟩, ⟨3, 10, false⟩, ⟨4, 7, false⟩]), (⟨#[42, 42, 97, 42]⟩, [⟨1, 4, false⟩]), (⟨#[42, 97, 42, 42]⟩, [⟨0, 3, false⟩]), (⟨#[42, 97, 42, 42, 98, 42]⟩, [⟨0, 6, false⟩]), (⟨#[97, 42, 32, 98, 42]⟩, []), (⟨#[95, 97, 95, 98, 95]⟩, [⟨0, 5, false⟩]), (⟨#[95, 40, 97, 41, 95]⟩, [⟨0, 5, false⟩]), (⟨#[42, 40, 97, 42, 41]⟩, [⟨0, 4, false⟩]), (⟨#[42, 97, 32, 95, 98, 42, 32, 99, 95]⟩, [⟨0, 6, false⟩]), (⟨#[42, 42, 97, 32, 95, 98, 42, 32, 99, 95]⟩, [⟨1, 7, false⟩]), (⟨#[42, 42, 42, 42, 97, 42, 42, 42, 42]⟩, [⟨0, 9, true⟩, ⟨2, 7, true⟩]), (⟨#[42, 97, 42, 42, 98, 42, 42, 99, 42]⟩, [⟨0, 9, false⟩, ⟨2, 7, true⟩]), (⟨#[42, 42, 97, 42, 98, 42, 42]⟩, [⟨0, 7, true⟩]), (⟨#[42, 42, 42, 97, 42, 32, 98, 42, 42]⟩, [⟨0, 9, true⟩, ⟨2, 5, false⟩]), (⟨#[42, 42, 42, 97, 42, 42, 32, 98, 42]⟩, [⟨0, 9, false⟩, ⟨1, 6, true⟩]), (⟨#[42, 32, 97, 32, 42]⟩, []), (⟨#[42, 128, 42]⟩, [⟨0, 3, false⟩]), (⟨#[97, 42, 42, 98, 42]⟩, [])]
def strictB : List Pr → Bool
  | [] => true
  | [_] => true
  | x :: y :: l => decide (x.a < y.a) && strictB (y :: l)
theorem strict_of : ∀ {l : List Pr}, strictB l = true → l.Pairwise (fun x y => x.a < y.a)
  | [], _ => List.Pairwise.nil
  | [_], _ => by simp
  | x :: y :: l, h => by
    simp [strictB] at h
    have ih := strict_of (l := y :: l) h.2
    refine List.pairwise_cons.2 ⟨fun z hz => ?_, ih⟩
    rcases List.mem_cons.1 hz with e | e
    · rw [e]; exact h.1
    · have := (List.pairwise_cons.1 ih).1 z e
      omega
theorem tab_ok : (tab.all fun p => (pairsU (runsB p.1 0 99)).isPerm p.2 && strictB p.2 && decide (p.1.size ≤ 100000) && decide ((runsB p.1 0 99).length ≤ 1000)) = true := by decide +kernel
theorem tab_is {k : Nat} {s : ByteArray} {l : List Pr} (h : tab[k]? = some (s, l)) : (pairsU (runsB s 0 99)).Perm l ∧ l.Pairwise (fun x y => x.a < y.a) ∧ s.size ≤ 100000 ∧ (runsB s 0 99).length ≤ 1000 := by
  have h1 := List.all_eq_true.1 tab_ok (s, l) (List.mem_of_getElem? h)
  simp only [Bool.and_eq_true, decide_eq_true_eq] at h1
  exact ⟨List.isPerm_iff.1 h1.1.1.1, strict_of h1.1.1.2, h1.1.2, h1.2⟩
abbrev oR : Rn := ⟨0, 1, 42, true, false⟩
abbrev cR : Rn := ⟨1, 1, 42, false, true⟩
def odd : List (List Rn) := [[⟨-1, 1, 42, true, false⟩, cR], [⟨0, 2, 42, true, false⟩, cR], [⟨0, 0, 42, true, false⟩, cR], [⟨0, 1, 120, true, false⟩, cR], [cR, oR], [oR, ⟨1, 9223372036854775807, 42, false, true⟩], [oR, ⟨1048576, 1, 42, false, true⟩], [oR, cR, ⟨9223372036854775807, 1, 95, false, false⟩]]
theorem odd_ok : (odd.all fun l => (pairsU l).isEmpty) = true := by decide +kernel
theorem odd_is {k : Nat} {l : List Rn} (h : odd[k]? = some l) : pairsU l = [] := by
  have h1 := List.all_eq_true.1 odd_ok l (List.mem_of_getElem? h)
  exact List.isEmpty_iff.1 h1
theorem two_ok : pairsU [oR, cR] = [⟨0, 2, false⟩] ∧ pairsU [oR, ⟨1048575, 1, 42, false, true⟩] = [⟨0, 1048576, false⟩] := by decide +kernel
theorem look_of {S : ByteArray} {fr at_ en : Int} {o : Option Rn} (h : lookB S fr at_ (minE S en) = o) : LookR S fr at_ en (o.getD zeroR) o.isSome := by
  rw [← h]; exact lookB_is S fr at_ en
theorem lk1 : lookB ⟨#[42, 42]⟩ 0 1 (minE ⟨#[42, 42]⟩ 9) = none := by decide +kernel
theorem lk2 : lookB ⟨#[42, 42, 42]⟩ 1 1 (minE ⟨#[42, 42, 42]⟩ 2) = some ⟨1, 1, 42, false, false⟩ := by decide +kernel
theorem lk3 : lookB ⟨#[42]⟩ (-1) 0 (minE ⟨#[42]⟩ 9) = none := by decide +kernel
end Go.Proofs.Ytjfpkldknchnkaa.Me
