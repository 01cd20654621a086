/- A row gone over: the iterator, in a fence. -/
import Derived.Test.YtpchkligbfmeiaaLk
import Derived.Test.YtpchkligbfmeiaaSm
import Derived.RangeFuncNested
import Derived.RangeFuncBound
import Derived.RangeFuncCalls
import Derived.RangeFuncLeaves
import Derived.RangeFuncKeeps
import Derived.RangeFuncFrom
import Derived.RangeFuncWrites
import Derived.Shelf.Abstract
import Derived.Shelf.RegionOpen
import Derived.WalkKit
import Derived.OwnWalkIn
import Derived.TacticsInMore
import Derived.LoopNIn
import Derived.LoopIn
namespace Go.Proofs.Ytpchkligbfmeiaa.Se
open Go.RowKit Go.Shelf Go.Proofs.YtpchkligbfmeiaaW.PrintWords Go.Proofs.YtpchkligbfmeiaaW.PrintLast Go.Proofs.YtpchkligbfmeiaaW.PrintMore
attribute [local go_sem] Oper.semAt_some
set_option linter.unusedVariables false
set_option linter.unusedSimpArgs false

theorem room_of_none {F : Fence} (hd : F.depth = none) (k : Nat) : F.room k := fun d h => by rw [hd] at h; cases h
theorem RoundIn.anyDepth {F : Fence} (hd : F.depth = none) {m m' : Nat} {P : Program} {l : Nat} {f : FuncId} {tmps : Array Value} {assign body : Code} {w : World} {R : Ending → World → Prop}
    (h : RoundIn F m P l f tmps assign body w R) : RoundIn F m' P l f tmps assign body w R := ⟨h.1, fun c cs _ => h.2 c cs (room_of_none hd _)⟩
theorem YieldAt.anyDepth {F : Fence} (hd : F.depth = none) {m : Nat} (m' : Nat) {P : Program} {l : Nat} {args : Array Value} {W : World} {R : Ending → World → Prop} (h : YieldAt F m P l args W R) : YieldAt F m' P l args W R := by
  obtain ⟨fn, tmps, assign, body, hy, hR⟩ := h
  exact ⟨fn, tmps, assign, body, hy, RoundIn.anyDepth hd hR⟩

/-- An item with its number. -/
abbrev NItem := Int × ByteArray
def numb (a : Int) : Items → List NItem
  | [] => []
  | x :: r => (a, x.1) :: numb (a + 1) r
theorem numb_append : ∀ (a : Int) (l m : Items), numb a (l ++ m) = numb a l ++ numb (a + (l.length : Int)) m
  | a, [], m => by simp [numb]
  | a, x :: l, m => by
    simp only [List.cons_append, numb, numb_append (a + 1) l m, List.length_cons]
    rw [show a + 1 + (l.length : Int) = a + ((l.length + 1 : Nat) : Int) from by omega]
theorem numb_len : ∀ (a : Int) (l : Items), (numb a l).length = l.length
  | _, [] => rfl
  | a, _ :: l => by simp [numb, numb_len (a + 1) l]
def encN (x : NItem) : Array Value := #[.int .i64 x.1, .string x.2]

set_option maxRecDepth 100000 in
set_option maxHeartbeats 4000000 in
theorem over_in (l N : Nat) (J Jx : List NItem → World → Prop)
    (hY : ∀ m pre x W, J pre W → pre.length < N → YieldAt Fence.wide m Try.prog l (encN x) W fun e W' =>
      (e = .returned (.bool true) ∧ J (pre ++ [x]) W' ∧ K58 W W') ∨ (e = .returned (.bool false) ∧ Jx (pre ++ [x]) W')) (T : Tr) :
    ∀ (n : Nat) (v : Value) (a : Int) (pre : List NItem) (W : World), At W T v → 0 ≤ a → a + cntT T ≤ 8388608 → J pre W → pre.length + (numb a (toL T)).length ≤ N →
      CallsIn Fence.wide n Try.prog 24 #[v, .int .i64 a, .func (.yield l) #[] #[]] W fun e W' =>
        (e = .returned (.bool true) ∧ J (pre ++ numb a (toL T)) W' ∧ K58 W W') ∨ (e = .returned (.bool false) ∧ ∃ q, q <+: numb a (toL T) ∧ Jx (pre ++ q) W') := by
  have hd : Fence.wide.depth = none := rfl
  induction T with
  | nil =>
    intro n v a pre W ht _ _ hJ _
    obtain rfl : v = .pointer none := ht
    refine callsIn_of_wp Try.func24 rfl trivial ?_ rfl
    simp only [Try.ntmps24, List.size_toArray, List.length_cons, List.length_nil, Nat.reduceAdd, Nat.reduceSub, Array.replicate_succ, Array.replicate_zero, List.push_toArray, List.append_toArray, List.nil_append, List.cons_append]
    gi_wp2
    go_ret
    exact .inl ⟨rfl, by simpa [toL, numb] using hJ, K58.refl _⟩
  | node tl it z tr ihl ihr =>
    intro n v a pre W ht ha0 ha8 hJ hN
    obtain ⟨b, v1, v2, rfl, hb, hl, hr⟩ := ht
    have c0 : W.cell? ⟨b, 0, none⟩ = some v1 := cell_of_row _ _ _ _ _ _ hb
    obtain ⟨q1, rfl⟩ := hl.ptr
    obtain ⟨q2, rfl⟩ := hr.ptr
    have hcl := cntT_pos tl
    have hcr := cntT_pos tr
    simp only [cntT] at ha8
    have hcn := fun w' h => callsIn_wide (n := n - 1).2 (count_c tl (.pointer q1) w' h)
    have hen : numb a (toL (.node tl it z tr)) = numb a (toL tl) ++ (a + cntT tl, it) :: numb (a + cntT tl + 1) (toL tr) := by
      simp only [toL, numb_append, numb, cntT_toL]
    rw [hen] at hN ⊢
    simp only [List.length_append, List.length_cons] at hN
    obtain ⟨k, ek⟩ : ∃ k, cntT tl = k := ⟨_, rfl⟩
    rw [ek] at hcn hcl ha8 hN hen ⊢
    have hdd : ∀ j : Nat, (Fence.wide.depth.isSome = true → 1 ≤ j) := fun j h => by rw [hd] at h; cases h
    have hw1 : IntKind.i64.wrap (a + k) = a + k := IntWalk.i64_in _ (by omega)
    have hw2 : IntKind.i64.wrap (a + k + 1) = a + k + 1 := IntWalk.i64_in _ (by omega)
    have hy2 : ∀ W1, J (pre ++ numb a (toL tl)) W1 → K58 W W1 → YieldAt Fence.wide (n - 1) Try.prog l #[.int .i64 (a + k), .string it] W1 fun e W2 =>
        (e = .returned (.bool true) ∧ J (pre ++ numb a (toL tl) ++ [(a + k, it)]) W2 ∧ K58 W W2 ∧ W2.cell? ⟨b, 1, none⟩ = some (.pointer q2) ∧ At W2 tr (.pointer q2)) ∨ (e = .returned (.bool false) ∧ Jx (pre ++ numb a (toL tl) ++ [(a + k, it)]) W2) := fun W1 hJ1 hb1 =>
      YieldAt.mono (hY (n - 1) _ (a + k, it) W1 hJ1 (by rw [List.length_append]; omega)) fun e W2 h => h.elim
        (fun ⟨he, hj, hb2⟩ => .inl ⟨he, hj, hb1.trans hb2, cell_of_row _ _ _ _ _ _ (hb1.trans hb2 _ _ hb), hr.k58 (hb1.trans hb2)⟩) .inr
    have ih1 := (ihl (n - 1) (.pointer q1) a pre W hl ha0 (by omega) hJ (by omega)).mono (R' := fun e W1 =>
        (e = .returned (.bool true) ∧ W1.cell? ⟨b, 2, none⟩ = some (.string it) ∧ YieldAt Fence.wide (n - 1) Try.prog l #[.int .i64 (a + k), .string it] W1 fun e W2 =>
          (e = .returned (.bool true) ∧ J (pre ++ numb a (toL tl) ++ [(a + k, it)]) W2 ∧ K58 W W2 ∧ W2.cell? ⟨b, 1, none⟩ = some (.pointer q2) ∧ At W2 tr (.pointer q2)) ∨ (e = .returned (.bool false) ∧ Jx (pre ++ numb a (toL tl) ++ [(a + k, it)]) W2)) ∨
        (e = .returned (.bool false) ∧ ∃ q, q <+: numb a (toL tl) ∧ Jx (pre ++ q) W1))
      (fun e W1 h => h.elim (fun ⟨he, hj, hb1⟩ => .inl ⟨he, cell_of_row _ _ _ _ _ _ (hb1 _ _ hb), hy2 W1 hj hb1⟩) .inr)
    have hcn1 := hcn W hl
    clear hy2 ihl hcn
    refine callsIn_of_wp Try.func24 rfl trivial ?_ rfl
    simp only [Try.ntmps24, List.size_toArray, List.length_cons, List.length_nil, Nat.reduceAdd, Nat.reduceSub, Array.replicate_succ, Array.replicate_zero, List.push_toArray, List.append_toArray, List.nil_append, List.cons_append]
    gi_wp2_with (first
      | ((try refine ⟨trivial, ?_⟩); gi_at_call 25; refine hcn1.mono ?_; clear hcn1; rintro e W9 ⟨rfl, h9⟩; rw [h9]; clear h9 W9)
      | ((try refine ⟨trivial, ?_⟩); gi_at_call 24; refine ih1.mono ?_; clear ih1; rintro e W1 (⟨rfl, c1', fn, tmps, assign, body, hy, hR⟩ | ⟨rfl, q, hq, hx1⟩))
      | (refine hR.mono ?_; clear hR; rintro e W2 (⟨rfl, hJ2, hb2, c2', hr2⟩ | ⟨rfl, hx2⟩))
      | ((try refine ⟨trivial, ?_⟩); gi_at_call 24; refine (ihr (n - 1) (.pointer q2) (a + k + 1) _ _ hr2 (by omega) (by omega) hJ2 (by simp only [List.length_append, List.length_cons, List.length_nil]; omega)).mono ?_; rintro e W3 (⟨rfl, hJ3, hb3⟩ | ⟨rfl, q, hq, hx3⟩)))
    · go_ret
      exact .inl ⟨rfl, by simpa [List.append_assoc] using hJ3, hb2.trans hb3⟩
    · go_ret
      obtain ⟨r, hr'⟩ := hq
      exact .inr ⟨rfl, numb a (toL tl) ++ (a + k, it) :: q, ⟨r, by simp [← hr']⟩, by simpa [List.append_assoc] using hx3⟩
    · repeat ((first | refine ⟨fun _ h => (by cases h), ?_⟩ | refine ⟨trivial, ?_⟩); gi_wp2)
      go_ret
      exact .inr ⟨rfl, numb a (toL tl) ++ [(a + k, it)], ⟨numb (a + k + 1) (toL tr), by simp⟩, by simpa [List.append_assoc] using hx2⟩
    · repeat ((first | refine ⟨fun _ h => (by cases h), ?_⟩ | refine ⟨trivial, ?_⟩); gi_wp2)
      go_ret
      exact .inr ⟨rfl, q, hq.trans (by simp), hx1⟩
end Go.Proofs.Ytpchkligbfmeiaa.Se
