/- A region that draws its order, in a round of a range over a function: by a condition on the world. -/
import Derived.Test.YtpchkligbfmeiaaOv
namespace Go.Proofs.Ytpchkligbfmeiaa.Se
open Go.RowKit
set_option linter.unusedVariables false
set_option linter.unusedSimpArgs false
/-- Q at a plain end alone. -/
def Only (Q : Exit → Act → World → Prop) : Exit → Act → World → Prop
  | .normal, a, w => Q .normal a w
  | _, _, _ => False
theorem Only.normal {Q : Exit → Act → World → Prop} {a : Act} {w : World} (h : Q .normal a w) : Only Q .normal a w := h
theorem Only.imp {Q : Exit → Act → World → Prop} : ∀ (e : Exit) (a : Act) (w : World), Only Q e a w → Q e a w := fun e a w h => by
  cases e <;> first | exact h | exact (h : False).elim
theorem Only.in {Q : Exit → Act → World → Prop} : ¬ LetsOut (Only Q) := fun ⟨_, _, h⟩ => h

theorem wpOpsIn_round {P : Program} {ops : Array Oper} {Q : Exit → Act → World → Prop} (l₀ n : Nat) (hQ : ¬ LetsOut Q)
    (hd : ∀ (i : Nat) (o : Oper), ops[i]? = some o → (∀ c, o.op ≠ .defer c)) :
    ∀ (L : List Nat) (a : Act) (w : World), wpOps P ops Q L a w → wpOpsIn (Fence.wide.inRound l₀) n P ops Q L a w
  | [], _, _, h => h
  | i :: rest, a, w, h => by
    simp only [wpOps] at h
    simp only [wpOpsIn]
    cases ho : ops[i]? with
    | none =>
      simp only [ho] at h
      exact wpOpsIn_round l₀ n hQ hd rest a w h
    | some o =>
      simp only [ho] at h
      simp only
      by_cases hw : Region.wanted o (yielded ops a.tmps) = true
      · rw [if_pos hw] at h ⊢
        replace h := h.resolve_right fun h' => hQ h'.2
        refine ⟨fun _ _ => trivial, ?_⟩
        rw [Oper.semAt_eq _ _ _ (hd i o ho)]
        unfold Oper.wp at h
        generalize (execOp a.eval o).run P w = r at h ⊢
        match r, h with
        | .ok (.value v) w', h => exact wpOpsIn_round l₀ n hQ hd rest _ _ h
        | .ok .skip w', h => exact wpOpsIn_round l₀ n hQ hd rest _ _ h
        | .ok (.defer d) w', h => exact wpOpsIn_round l₀ n hQ hd rest _ _ h
        | .ok (.enter f args) w', h =>
          refine ⟨fun h => by simp [Fence.wide] at h, CallsIn.inRound l₀ ((callsIn_wide.2 h).mono ?_)⟩
          intro e w1 h1
          cases e with
          | returned v => exact wpOpsIn_round l₀ n hQ hd rest _ _ h1
          | panicked c => exact h1
          | outgrown => exact h1
        | .ok (.row r bs) w', h =>
          refine ⟨fun h => by simp [Fence.wide] at h, RowsIn.mono (fun c cs _ => ?_) (fun v w1 h1 => wpOpsIn_round l₀ n hQ hd rest _ _ h1)⟩
          obtain ⟨v, w1, h1, h2⟩ := h c cs
          exact ⟨v, w1, h1, stepsIn_wide.2 h2⟩
        | .halt (.panic v) w', h => exact h
      · rw [if_neg hw] at h ⊢
        exact ⟨fun _ _ => trivial, wpOpsIn_round l₀ n hQ hd rest _ _ h⟩
theorem wpIn_region_held_round {P : Program} {ops : Array Oper} {Q : Exit → Act → World → Prop} {l₀ n id : Nat} {a : Act} {w : World} (S : World → Prop) (hm : P.follows .mixedOrders = true)
    (hd : ∀ (i : Nat) (o : Oper), ops[i]? = some o → (∀ c, o.op ≠ .defer c)) (hS : S w.drew)
    (h : S w.drew → wpAnyH P .any ops (Only Q) S ops.size (Array.replicate ops.size false) a w.drew) : (Code.region id ops true).wpIn (Fence.wide.inRound l₀) n P Q a w :=
  Code.wpIn_mono Only.imp (wpIn_region_draw fun t => wpOpsIn_round l₀ n Only.in hd _ _ _ (by
    simp only [Region.schedule, hm, Bool.true_or, if_true]
    exact wpAny_sound ops.size t _ a _ (wpAny_of_held _ _ _ _ (h hS))))
end Go.Proofs.Ytpchkligbfmeiaa.Se
