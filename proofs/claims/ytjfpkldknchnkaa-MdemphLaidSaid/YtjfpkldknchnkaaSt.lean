/- Rows in memory; the words that are used throughout. -/
import Derived.Test.YtjfpkldknchnkaaProg
import Derived.Below
import Derived.Deep.Draws
import Derived.Deep.AppendLies
import Derived.Maps.AppendAt
import Derived.OwnWalk
import Derived.Laws.BytesArg
import Derived.Laws.MakeOwn
import Derived.Laws.OwnMore
import Derived.Deep.OwnRows
import Derived.Tactics
import Derived.Lib.ConvBytes
import Derived.Laws.Slices
import Derived.WalkKit
import Derived.KernelRfl
import Derived.RowKit3
import Derived.Deep.LoopGhost
import Derived.Deep.QuietTactic
import Derived.BigQuiet
import Derived.WideLaws
import Derived.Deep.DeepCutAuto
import Derived.Deep.CutBlock
import Derived.Deep.RegionHeld3
import Derived.Laws.Rows
import Derived.Lib.AppendStr
import Derived.ArgAppend
import Derived.Laws.IdiomCopy
import Derived.OrdersHeld
import Derived.Laws.BitsLemmas
import Derived.RowKit
import Derived.Test.YtjfpkldknchnkaaWWords
import Derived.Test.YtjfpkldknchnkaaWLast
import Derived.Test.YtjfpkldknchnkaaWTab
import Derived.Test.YtjfpkldknchnkaaWFour
import Derived.Test.YtjfpkldknchnkaaWQPut
import Derived.Test.YtjfpkldknchnkaaWApart
import Derived.Test.YtjfpkldknchnkaaWArr
import Derived.Test.YtjfpkldknchnkaaWZeros
import Derived.Test.YtjfpkldknchnkaaWFoot
import Derived.Test.YtjfpkldknchnkaaWKept
import Derived.Test.YtjfpkldknchnkaaWShare
import Derived.Test.YtjfpkldknchnkaaWN
import Derived.Test.YtjfpkldknchnkaaWFootNe
import Derived.Test.YtjfpkldknchnkaaWAt
import Derived.Test.YtjfpkldknchnkaaWEqStruct
import Derived.Test.YtjfpkldknchnkaaWRepsOne
import Derived.Test.YtjfpkldknchnkaaWInv
import Derived.Test.YtjfpkldknchnkaaWInvWords
import Derived.Test.YtjfpkldknchnkaaWGuard
import Derived.Test.YtjfpkldknchnkaaWNEv
import Derived.Test.YtjfpkldknchnkaaWMore
import Derived.ProofKit
import Derived.Deep.DrawnRows
import Derived.Deep.Slices
import Derived.Deep.Strs
import Derived.ChangeSame
import Derived.MapKept
import Derived.Carry
namespace Go.Proofs.Ytjfpkldknchnkaa.Me
open Go.RowKit Go.Proofs.YtjfpkldknchnkaaW.PrintWords Go.Proofs.YtjfpkldknchnkaaW.PrintLast Go.Proofs.YtjfpkldknchnkaaW.PrintMore
attribute [local go_sem] max2_int min2_int max_two min_two max_three min_three max_four min_four
set_option linter.unusedVariables false
set_option linter.unusedSimpArgs false
abbrev pv (p : Nat) : Value := .pointer (some ⟨p, 0, none⟩)
def flat {α : Type} (n : Nat) (enc : α → List Value) (hl : ∀ x, (enc x).length = n) (h1 : ∀ x, ∀ u ∈ enc x, u.oneCell' = true) : Kd α where
  sz := n
  E := []
  K := fun _ x cs => cs = enc x
  M := fun _ _ _ x cs => cs = enc x
  K_len := fun h => by rw [h]; exact hl _
  K_one := fun h u hu => by rw [h] at hu; exact h1 _ u hu
  K_below := fun _ h => h
  K_of_M := fun h => h
  M_mono := fun _ h => h
  M_bound := fun h => h
  M_move := fun _ h => h
  M_lower := fun _ h => h
theorem rows_below {α : Type} {R : α → List Value → Prop} {z : Nat} {w w' : World} {A : Option Addr} {n : Nat} {l : List α} (h : ReadsRow R z w A n l) (hb : Below w.heap.size w w') : ReadsRow R z w' A n l :=
  ⟨h.1, h.2.1, fun hp => by
    obtain ⟨ad, hA, hr⟩ := h.2.2 hp
    refine ⟨ad, hA, fun k a ha => ?_⟩
    obtain ⟨cs, hc5, hc, hcell⟩ := hr k a ha
    exact ⟨cs, hc5, hc, fun j u hu => pw_cell_below hb (hcell j u hu)⟩⟩
theorem take_snoc {α : Type} {l : List α} {k : Nat} {x : α} (h : l[k]? = some x) : l.take (k + 1) = l.take k ++ [x] := by
  obtain ⟨hk, hx⟩ := List.getElem?_eq_some_iff.1 h
  rw [List.take_succ_eq_append_getElem hk, hx]
theorem kd_mono {α : Type} {n : Nat} {enc : α → List Value} {hl : ∀ x, (enc x).length = n} {h1 : ∀ x, ∀ u ∈ enc x, u.oneCell' = true} {e : Nat} {w : World} {ok ok' : Nat → Prop} {v : Value} {xs : List α} (h : (flat n enc hl h1).R e w 0 ok v xs) (hk : ∀ k, v.ownBlock = some k → ok' k) : (flat n enc hl h1).R e w 0 ok' v xs := by
  obtain ⟨_, inner, hown, hr⟩ := h
  exact ⟨hk, inner, hown, hr⟩
theorem kd_turn {α : Type} {n : Nat} {enc : α → List Value} {hl : ∀ x, (enc x).length = n} {h1 : ∀ x, ∀ u ∈ enc x, u.oneCell' = true} {e : Nat} {w w1 : World} {ok : Nat → Prop} {v : Value} {xs : List α} (h : (flat n enc hl h1).R e w 0 ok v xs) (hm : ∀ k, v.ownBlock = some k → k < w.heap.size → w1.heap[k]? = w.heap[k]?) : (flat n enc hl h1).R e w1 0 ok v xs :=
  kd_mono (Kd.R_step (kd_mono h (ok' := fun k => v.ownBlock = some k) (fun k hk => hk)) (fun k hk hlt => hm k hk hlt)) h.1
/-- A pair. -/
structure Pr where
  a : Int
  b : Int
  s : Bool
deriving DecidableEq
abbrev prc (x : Pr) : Array Value := #[.int .i64 x.a, .int .i64 x.b, .bool x.s]
def kP : Kd Pr := flat 3 (fun x => (prc x).toList) (fun _ => rfl) (fun x u hu => by simp at hu; rcases hu with rfl | rfl | rfl <;> rfl)
theorem info39 : (Try.prog.info? 39).map (fun i => (i.zero, i.size, i.bytes)) = some (some (.agg #[.int .i64 0, .int .i64 0, .bool false]), 3, 24) := by kernel_rfl
def BoolP (w : World) (b : Bool) (e : Ending) (w' : World) : Prop := e = .returned (.bool b) ∧ Below w.heap.size w w'
end Go.Proofs.Ytjfpkldknchnkaa.Me
