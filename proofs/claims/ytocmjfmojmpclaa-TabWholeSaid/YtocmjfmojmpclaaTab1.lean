/- The contract of the closure that tab.over calls at each blank, and what tab.over comes to where its arguments may not be: 0, 0. No condition. -/
import Derived.Test.YtocmjfmojmpclaaPTabx0
import Derived.StillTailTactics
namespace Go.Proofs.Ytocmjfmojmpclaa.PTab
open Go.RowKit Go.Proofs.YtocmjfmojmpclaaW.PrintWords Go.Proofs.YtocmjfmojmpclaaW.PrintLast Go.Proofs.YtocmjfmojmpclaaW.PrintMore

set_option maxHeartbeats 400000 in
theorem step_no (n wt mo : Int) (pw pm pc pa : Nat) (w : World)
   (hw : w.cell? ⟨pw, 0, none⟩ = some (.int .i64 wt)) (hm : w.cell? ⟨pm, 0, none⟩ = some (.int .i64 mo))
   (h0 : 0 ≤ wt) (h1 : mo < n) :
   Calls Try.prog 18 #[.int .i64 n, .pointer (some ⟨pw, 0, none⟩), .pointer (some ⟨pm, 0, none⟩), .pointer (some ⟨pc, 0, none⟩), .pointer (some ⟨pa, 0, none⟩)] w
     fun e w' => e = .returned (.bool false) ∧ w = w' := by
  go_enter Try.func18, Try.ntmps18
  go_wp2
  go_ret
  exact ⟨rfl, rfl⟩

set_option maxHeartbeats 400000 in
theorem step_yes (n wt mo c at_ : Int) (pw pm pc pa : Nat) (w : World)
   (hw : w.cell? ⟨pw, 0, none⟩ = some (.int .i64 wt)) (hm : w.cell? ⟨pm, 0, none⟩ = some (.int .i64 mo))
   (hc : w.cell? ⟨pc, 0, none⟩ = some (.int .i64 c)) (ha : w.cell? ⟨pa, 0, none⟩ = some (.int .i64 at_))
   (fc : w.frozen? ⟨pc, 0, none⟩ = false) (fa : w.frozen? ⟨pa, 0, none⟩ = false) (hne : pc ≠ pa)
   (hA0 : 0 ≤ at_) (hA1 : at_ ≤ 9223372036854775806)
   (h0 : ¬ (0 ≤ wt ∧ mo < n)) :
   Calls Try.prog 18 #[.int .i64 n, .pointer (some ⟨pw, 0, none⟩), .pointer (some ⟨pm, 0, none⟩), .pointer (some ⟨pc, 0, none⟩), .pointer (some ⟨pa, 0, none⟩)] w
     fun e w' => e = .returned (.bool true) ∧ (w.setCell ⟨pc, 0, none⟩ (.int .i64 n)).setCell ⟨pa, 0, none⟩ (.int .i64 (at_ + 1)) = w' := by
  by_cases h : 0 ≤ wt
  · have h1 : n ≤ mo := by omega
    go_enter Try.func18, Try.ntmps18
    go_wp2
    go_ret
    exact ⟨rfl, rfl⟩
  · go_enter Try.func18, Try.ntmps18
    go_wp2
    go_ret
    exact ⟨rfl, rfl⟩

/-- Over blanks, n bytes being left. -/
def tab_over.go : Nat → ByteArray → Int → Int → Int → Int → Int → Int × Int
  | 0, _, at_, col, _, _, _ => (at_, col)
  | n + 1, s, at_, col, want, most, size =>
    if bt s at_ = 32 then (if 0 ≤ want ∧ most < col + 1 then (at_, col) else tab_over.go n s (at_ + 1) (col + 1) want most size)
    else if bt s at_ = 9 then (if 0 ≤ want ∧ most < col - col % size + size then (at_, col) else tab_over.go n s (at_ + 1) (col - col % size + size) want most size)
    else (at_, col)
def tab_over.may (a0 : ByteArray) (a1 a2 a4 : Int) : Bool := decide (0 ≤ a1) && (decide (a1 ≤ (a0.size : Int)) && (decide (0 ≤ a2) && (decide (a2 ≤ 1099511627776) && (decide (1 ≤ a4) && decide (a4 ≤ 64)))))
def tab_over.f (a0 : ByteArray) (a1 a2 a3 a4 : Int) : Option (Int × Int) :=
  if a0.size ≤ 140737488351232 then
    (if tab_over.may a0 a1 a2 a4 = true then some (tab_over.go (a0.size - a1.toNat) a0 a1 a2 a3 (wrap64 (a2 + a3)) a4) else some (0, 0))
  else none

theorem tab_over.may_no {a0 : ByteArray} {a1 a2 a4 : Int} (h : tab_over.may a0 a1 a2 a4 = false) :
    a1 < 0 ∨ (0 ≤ a1 ∧ (a0.size : Int) < a1) ∨ (0 ≤ a1 ∧ a1 ≤ (a0.size : Int) ∧ a2 < 0) ∨ (0 ≤ a1 ∧ a1 ≤ (a0.size : Int) ∧ 0 ≤ a2 ∧ 1099511627776 < a2) ∨
    (0 ≤ a1 ∧ a1 ≤ (a0.size : Int) ∧ 0 ≤ a2 ∧ a2 ≤ 1099511627776 ∧ a4 < 1) ∨ (0 ≤ a1 ∧ a1 ≤ (a0.size : Int) ∧ 0 ≤ a2 ∧ a2 ≤ 1099511627776 ∧ 1 ≤ a4 ∧ 64 < a4) := by
  simp [tab_over.may] at h
  omega

set_option maxHeartbeats 1000000 in
theorem tab_over.no (a0 : ByteArray) (a1 a2 a3 a4 : Int) (w : World) (h : tab_over.may a0 a1 a2 a4 = false) :
    Calls Try.prog 16 #[.string a0, .int .i64 a1, .int .i64 a2, .int .i64 a3, .int .i64 a4] w fun e w' => e = .returned (.tuple #[.int .i64 0, .int .i64 0]) ∧ Below w.heap.size w w' := by
  have hbox : Below w.heap.size w (((w.alloc (.cells #[.int .i64 a1] 3)).alloc (.cells #[.int .i64 a2] 3)).alloc (.cells #[.int .i64 a3] 3)) :=
    below_alloc (below_alloc (below_alloc (Below.refl _ _) _) _) _
  rcases tab_over.may_no h with h1 | ⟨h1, h2⟩ | ⟨h1, h2, h3⟩ | ⟨h1, h2, h3, h4⟩ | ⟨h1, h2, h3, h4, h5⟩ | ⟨h1, h2, h3, h4, h5, h6⟩ <;> clear h
  all_goals
    go_enter Try.func16, Try.ntmps16
    go_wp2
    go_step3
    go_wp2
    rw [Exit.noGoto_ret]
    go_ret2
    exact ⟨rfl, hbox⟩

end Go.Proofs.Ytocmjfmojmpclaa.PTab
