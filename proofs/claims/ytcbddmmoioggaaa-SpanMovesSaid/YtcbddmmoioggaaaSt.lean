/- Rows of ranges in memory; clip, Has of the document. -/
import Derived.Test.YtcbddmmoioggaaaProg
import Derived.Test.YtcbddmmoioggaaaPb
import Derived.Below
import Derived.Deep.Draws
import Derived.Deep.AppendLies
import Derived.Maps.AppendAt
import Derived.OwnWalk
import Derived.Laws.BytesArg
import Derived.Laws.MakeOwn
import Derived.Laws.OwnMore
import Derived.Deep.OwnRows
import Derived.Tactics
import Derived.Lib.ConvBytes
import Derived.Laws.Slices
import Derived.WalkKit
import Derived.KernelRfl
import Derived.RowKit3
import Derived.Deep.LoopGhost
import Derived.Deep.QuietTactic
import Derived.BigQuiet
import Derived.WideLaws
import Derived.Deep.DeepCutAuto
import Derived.Deep.CutBlock
import Derived.Deep.RegionHeld3
import Derived.Laws.Rows
import Derived.Lib.AppendStr
import Derived.ArgAppend
import Derived.Laws.IdiomCopy
import Derived.OrdersHeld
import Derived.Laws.BitsLemmas
import Derived.RowKit
import Derived.Test.YtcbddmmoioggaaaWWords
import Derived.Test.YtcbddmmoioggaaaWLast
import Derived.Test.YtcbddmmoioggaaaWTab
import Derived.Test.YtcbddmmoioggaaaWFour
import Derived.Test.YtcbddmmoioggaaaWQPut
import Derived.Test.YtcbddmmoioggaaaWApart
import Derived.Test.YtcbddmmoioggaaaWArr
import Derived.Test.YtcbddmmoioggaaaWZeros
import Derived.Test.YtcbddmmoioggaaaWFoot
import Derived.Test.YtcbddmmoioggaaaWKept
import Derived.Test.YtcbddmmoioggaaaWShare
import Derived.Test.YtcbddmmoioggaaaWN
import Derived.Test.YtcbddmmoioggaaaWFootNe
import Derived.Test.YtcbddmmoioggaaaWAt
import Derived.Test.YtcbddmmoioggaaaWEqStruct
import Derived.Test.YtcbddmmoioggaaaWRepsOne
import Derived.Test.YtcbddmmoioggaaaWInv
import Derived.Test.YtcbddmmoioggaaaWInvWords
import Derived.Test.YtcbddmmoioggaaaWGuard
import Derived.Test.YtcbddmmoioggaaaWNEv
import Derived.Test.YtcbddmmoioggaaaWMore
import Derived.ProofKit
import Derived.Deep.DrawnRows
import Derived.Deep.Slices
import Derived.Deep.Strs
import Derived.ChangeSame
import Derived.MapKept
import Derived.Carry
namespace Go.Proofs.Ytcbddmmoioggaaa.Sp
open Go.RowKit Go.Proofs.YtcbddmmoioggaaaW.PrintWords Go.Proofs.YtcbddmmoioggaaaW.PrintLast Go.Proofs.YtcbddmmoioggaaaW.PrintMore
attribute [local go_sem] max2_int min2_int max_two min_two max_three min_three max_four min_four
set_option linter.unusedVariables false
set_option linter.unusedSimpArgs false

abbrev pv (p : Nat) : Value := .pointer (some ⟨p, 0, none⟩)
abbrev rgc (x : Rg) : Array Value := #[.int .i64 x.f, .int .i64 x.t]
def flat {α : Type} (n : Nat) (enc : α → List Value) (hl : ∀ x, (enc x).length = n) (h1 : ∀ x, ∀ u ∈ enc x, u.oneCell' = true) : Kd α where
  sz := n
  E := []
  K := fun _ x cs => cs = enc x
  M := fun _ _ _ x cs => cs = enc x
  K_len := fun h => by rw [h]; exact hl _
  K_one := fun h u hu => by rw [h] at hu; exact h1 _ u hu
  K_below := fun _ h => h
  K_of_M := fun h => h
  M_mono := fun _ h => h
  M_bound := fun h => h
  M_move := fun _ h => h
  M_lower := fun _ h => h
def kR : Kd Rg := flat 2 (fun x => (rgc x).toList) (fun _ => rfl) (fun x u hu => by simp at hu; rcases hu with rfl | rfl <;> rfl)
def kI : Kd Int := flat 1 (fun i => [.int .i64 i]) (fun _ => rfl) (fun x u hu => by simp at hu; subst hu; rfl)
def RRg (e : Rg) (cs : List Value) : Prop := cs = (rgc e).toList
theorem info31 : (Try.prog.info? 31).map (fun i => (i.zero, i.size, i.bytes)) = some (some (.agg #[.int .i64 0, .int .i64 0]), 2, 16) := by kernel_rfl
theorem info31s : (Try.prog.info? 31).map (·.size) = some 2 := by kernel_rfl
theorem info3a : (Try.prog.info? 3).map (fun i => (i.zero, i.size, i.bytes)) = some (some (.int .i64 0), 1, 8) := by kernel_rfl
theorem info3s : (Try.prog.info? 3).map (·.size) = some 1 := by kernel_rfl
theorem rg_at {w : World} {ad : Addr} {n : Nat} {l : List Rg} {k : Nat} {e : Rg} (h : ReadsRow RRg 2 w (some ad) n l) (ha : l[k]? = some e) :
    w.cell? (ad.add (k * 2)) = some (.int .i64 e.f) ∧ w.cell? ⟨(ad.add (k * 2)).block, (ad.add (k * 2)).off + 1, none⟩ = some (.int .i64 e.t) := by
  have hl := (List.getElem?_eq_some_iff.1 ha).1
  obtain ⟨ad', hA, hr⟩ := h.2.2 (by have := h.1; omega)
  injection hA with hA
  subst hA
  obtain ⟨c, hc5, hc, hcell⟩ := hr k e ha
  have hc' : c = (rgc e).toList := hc
  subst hc'
  have e' : ∀ j u, ((rgc e).toList)[j]? = some u → w.cell? ((ad.add (k * 2)).add j) = some u := fun j u h => by
    rw [Go.Deep.add_add]
    exact hcell j u h
  exact ⟨e' 0 _ rfl, e' 1 _ rfl⟩
theorem rgs_below {w w' : World} {A : Option Addr} {n : Nat} {l : List Rg} (h : ReadsRow RRg 2 w A n l) (hb : Below w.heap.size w w') : ReadsRow RRg 2 w' A n l :=
  ⟨h.1, h.2.1, fun hp => by
    obtain ⟨ad, hA, hr⟩ := h.2.2 hp
    refine ⟨ad, hA, fun k a ha => ?_⟩
    obtain ⟨cs, hc5, hc, hcell⟩ := hr k a ha
    exact ⟨cs, hc5, hc, fun j u hu => pw_cell_below hb (hcell j u hu)⟩⟩
theorem take_snoc {α : Type} {l : List α} {k : Nat} {x : α} (h : l[k]? = some x) : l.take (k + 1) = l.take k ++ [x] := by
  obtain ⟨hk, hx⟩ := List.getElem?_eq_some_iff.1 h
  rw [List.take_succ_eq_append_getElem hk, hx]
theorem clip_ge {x : Int} (h : ¬ x < 0) (h2 : ¬ top < x) : clip x = x := by unfold clip; rw [if_neg h, if_neg h2]
set_option maxRecDepth 100000 in
set_option maxHeartbeats 4000000 in
theorem rclip_c (x : Int) (w : World) : Calls Try.prog 28 #[.int .i64 x] w fun e w' => e = .returned (.int .i64 (clip x)) ∧ w' = w := by
  by_cases h0 : x < 0
  · have hc : clip x = 0 := by unfold clip; rw [if_pos h0]
    rw [hc]
    clear hc
    go_enter Try.func28, Try.ntmps28
    go_wp2_with (fail)
    go_ret
    exact ⟨rfl, rfl⟩
  by_cases h1 : (1099511627776 : Int) < x
  · have hc : clip x = 1099511627776 := by unfold clip top; rw [if_neg h0, if_pos h1]
    rw [hc]
    clear hc
    go_enter Try.func28, Try.ntmps28
    go_wp2_with (fail)
    go_ret
    exact ⟨rfl, rfl⟩
  · rw [clip_ge h0 h1]
    go_enter Try.func28, Try.ntmps28
    go_wp2_with (fail)
    go_ret
    exact ⟨rfl, rfl⟩
set_option maxRecDepth 100000 in
set_option maxHeartbeats 4000000 in
theorem clip_c (x : Int) (w : World) : Calls Try.prog 27 #[.int .i64 x] w fun e w' => e = .returned (.int .i64 (clip x)) ∧ w' = w := by
  by_cases h0 : x < 0
  · have hc : clip x = 0 := by unfold clip; rw [if_pos h0]
    rw [hc]
    have p1 : x < 1099511627776 := by omega
    have p2 : x ≤ 0 := by omega
    clear hc
    go_enter Try.func27, Try.ntmps27
    go_wp2_with (fail)
    all_goals
      go_ret
      exact ⟨rfl, rfl⟩
  by_cases h1 : (1099511627776 : Int) ≤ x
  · have hc : clip x = 1099511627776 := by
      unfold clip top
      rw [if_neg h0]
      split
      · rfl
      · omega
    rw [hc]
    have p2 : ¬ x < 1099511627776 := by omega
    clear hc
    go_enter Try.func27, Try.ntmps27
    go_wp2_with (fail)
    all_goals
      go_ret
      exact ⟨rfl, rfl⟩
  · rw [clip_ge h0 (by unfold top; omega)]
    by_cases hz : x = 0
    · subst hz
      go_enter Try.func27, Try.ntmps27
      go_wp2_with (fail)
      all_goals
        go_ret
        exact ⟨rfl, rfl⟩
    · have p1 : x < 1099511627776 := by omega
      have p2 : 0 < x := by omega
      have p3 : ¬ x ≤ 0 := by omega
      clear h0 h1 hz
      go_enter Try.func27, Try.ntmps27
      go_wp2_with (fail)
      all_goals
        go_ret
        exact ⟨rfl, rfl⟩
end Go.Proofs.Ytcbddmmoioggaaa.Sp
