/- TabWhole: the law's walk: it answers true for every line, place, column, number of columns and size. -/
import Derived.Test.YtocmjfmojmpclaaTab5
import Derived.Test.YtocmjfmojmpclaaPureTabIndents
namespace Go.Proofs.Ytocmjfmojmpclaa.PTab
open Go.RowKit Go.Proofs.YtocmjfmojmpclaaW.PrintWords Go.Proofs.YtocmjfmojmpclaaW.PrintLast Go.Proofs.YtocmjfmojmpclaaW.PrintMore
attribute [local go_sem] max2_int min2_int max_two min_two max_three min_three max_four min_four

theorem wk (w : World) : Calls Try.prog 7 #[] w fun e w' => e = .returned (.bool true) ∧ Below w.heap.size w w' :=
  indenturelaw09_wakes.calls 9 true w Pure.wakes_true

def Odd (a0 : ByteArray) (a1 a2 a3 a4 : Int) : Prop :=
  (a0.size : Int) > 65536 ∨ a1 < 0 ∨ a1 > (a0.size : Int) ∨ a2 < 0 ∨ a2 > 1099511627776 ∨ a4 < 1 ∨ a4 > 64 ∨ a3 < 0 ∨ a3 > 1073741824

set_option maxRecDepth 100000 in
set_option maxHeartbeats 4000000 in
theorem whole_odd (a0 : ByteArray) (a1 a2 a3 a4 : Int) (w : World) (h : Odd a0 a1 a2 a3 a4) :
    Calls Try.prog 6 #[.string a0, .int .i64 a1, .int .i64 a2, .int .i64 a3, .int .i64 a4] w fun e w' => e = .returned (.bool true) ∧ Below w.heap.size w w' := by
  have h' : ((a0.size : Int) > 65536) ∨ ((a0.size : Int) ≤ 65536 ∧ a1 < 0) ∨ ((a0.size : Int) ≤ 65536 ∧ 0 ≤ a1 ∧ a1 > (a0.size : Int)) ∨
    ((a0.size : Int) ≤ 65536 ∧ 0 ≤ a1 ∧ a1 ≤ (a0.size : Int) ∧ a2 < 0) ∨ ((a0.size : Int) ≤ 65536 ∧ 0 ≤ a1 ∧ a1 ≤ (a0.size : Int) ∧ 0 ≤ a2 ∧ a2 > 1099511627776) ∨
    ((a0.size : Int) ≤ 65536 ∧ 0 ≤ a1 ∧ a1 ≤ (a0.size : Int) ∧ 0 ≤ a2 ∧ a2 ≤ 1099511627776 ∧ a4 < 1) ∨
    ((a0.size : Int) ≤ 65536 ∧ 0 ≤ a1 ∧ a1 ≤ (a0.size : Int) ∧ 0 ≤ a2 ∧ a2 ≤ 1099511627776 ∧ 1 ≤ a4 ∧ a4 > 64) ∨
    ((a0.size : Int) ≤ 65536 ∧ 0 ≤ a1 ∧ a1 ≤ (a0.size : Int) ∧ 0 ≤ a2 ∧ a2 ≤ 1099511627776 ∧ 1 ≤ a4 ∧ a4 ≤ 64 ∧ a3 < 0) ∨
    ((a0.size : Int) ≤ 65536 ∧ 0 ≤ a1 ∧ a1 ≤ (a0.size : Int) ∧ 0 ≤ a2 ∧ a2 ≤ 1099511627776 ∧ 1 ≤ a4 ∧ a4 ≤ 64 ∧ 0 ≤ a3 ∧ a3 > 1073741824) := by
    unfold Odd at h; omega
  clear h
  rcases h' with h | ⟨h1, h⟩ | ⟨h1, h2, h⟩ | ⟨h1, h2, h3, h⟩ | ⟨h1, h2, h3, h4, h⟩ | ⟨h1, h2, h3, h4, h5, h⟩ | ⟨h1, h2, h3, h4, h5, h6, h⟩ | ⟨h1, h2, h3, h4, h5, h6, h7, h⟩ | ⟨h1, h2, h3, h4, h5, h6, h7, h8, h⟩
  all_goals
    go_enter Try.func6, Try.ntmps6
    go_wp2_with (go_at_call 7; refine (wk _).mono ?_; rintro e w' ⟨rfl, hb⟩)
    go_ret
    exact ⟨rfl, hb⟩


end Go.Proofs.Ytocmjfmojmpclaa.PTab
