/- Regions that draw their order, in the wide fence: by a condition on the world; a call of yield among the operations. -/
import Derived.Test.YtcbddmmoioggaaaRl
import Derived.OrdersIn
namespace Go.Proofs.Ytcbddmmoioggaaa.Sp
open Go Go.RowKit Go.Proofs.YtcbddmmoioggaaaW.PrintWords Go.Proofs.YtcbddmmoioggaaaW.PrintLast Go.Proofs.YtcbddmmoioggaaaW.PrintMore
set_option linter.unusedVariables false
set_option linter.unusedSimpArgs false
/-- Q at a plain end alone. -/
def Only (Q : Exit → Act → World → Prop) : Exit → Act → World → Prop
  | .normal, a, w => Q .normal a w
  | _, _, _ => False
theorem Only.normal {Q : Exit → Act → World → Prop} {a : Act} {w : World} (h : Q .normal a w) : Only Q .normal a w := h
theorem Only.imp {Q : Exit → Act → World → Prop} : ∀ (e : Exit) (a : Act) (w : World), Only Q e a w → Q e a w := fun e a w h => by
  cases e <;> first | exact h | exact (h : False).elim
theorem Only.in {Q : Exit → Act → World → Prop} : ¬ LetsOut (Only Q) := fun ⟨_, _, h⟩ => h
theorem wide_about {P : Program} {o : Oper} {a : Act} {w : World} : ∀ f, o.about P w a.eval = some f → Fence.wide.fn f := fun _ _ => trivial

theorem ops_wide {P : Program} {ops : Array Oper} {Q : Exit → Act → World → Prop} (n : Nat) (hQ : ¬ LetsOut Q) :
    ∀ (L : List Nat) (a : Act) (w : World), wpOps P ops Q L a w → wpOpsIn Fence.wide n P ops Q L a w
  | [], _, _, h => h
  | i :: rest, a, w, h => by
    simp only [wpOps] at h
    simp only [wpOpsIn]
    cases ho : ops[i]? with
    | none =>
      simp only [ho] at h
      exact ops_wide n hQ rest a w h
    | some o =>
      simp only [ho] at h
      simp only
      by_cases hw : Region.wanted o (yielded ops a.tmps) = true
      · rw [if_pos hw] at h ⊢
        replace h := h.resolve_right fun h' => hQ h'.2
        refine ⟨wide_about, ?_⟩
        have hr : Fence.wide.round = none := rfl
        rw [hr, Oper.semAt_none]
        unfold Oper.wp at h
        generalize (execOp a.eval o).run P w = r at h ⊢
        match r, h with
        | .ok (.value v) w', h => exact ops_wide n hQ rest _ _ h
        | .ok .skip w', h => exact ops_wide n hQ rest _ _ h
        | .ok (.defer d) w', h => exact ops_wide n hQ rest _ _ h
        | .ok (.enter f args) w', h =>
          refine ⟨fun h => by simp [Fence.wide] at h, (callsIn_wide.2 h).mono ?_⟩
          intro e w1 h1
          cases e with
          | returned v => exact ops_wide n hQ rest _ _ h1
          | panicked c => exact h1
          | outgrown => exact h1
        | .ok (.row r bs) w', h =>
          refine ⟨fun h => by simp [Fence.wide] at h, RowsIn.mono (fun c cs _ => ?_) (fun v w1 h1 => ops_wide n hQ rest _ _ h1)⟩
          obtain ⟨v, w1, h1, h2⟩ := h c cs
          exact ⟨v, w1, h1, stepsIn_wide.2 h2⟩
        | .halt (.panic v) w', h => exact h
      · rw [if_neg hw] at h ⊢
        exact ⟨wide_about, ops_wide n hQ rest _ _ h⟩
/-- A region whose last store writes what its own loads read. -/
theorem region_last_wide {P : Program} {ops : Array Oper} {Q : Exit → Act → World → Prop} {n id : Nat} {ds : List Nat} {a : Act} {w : World} (S : World → Prop) (hm : P.follows .mixedOrders = true) (hS : S w.drew)
    (h : S w.drew → wpAnyLast P .any ops (Only Q) S ds ops.size (Array.replicate ops.size false) a w.drew) : (Code.region id ops true).wpIn Fence.wide n P Q a w :=
  wpIn_mono (wpIn_region_draw fun t => ops_wide n Only.in _ _ _ (by
    simp only [Region.schedule, hm, Bool.true_or, if_true]
    exact wpAny_sound ops.size t _ a _ (wpAny_of_last _ _ _ _ (h hS)))) Only.imp
theorem ops_round {P : Program} {ops : Array Oper} {Q : Exit → Act → World → Prop} (l₀ n : Nat) (hQ : ¬ LetsOut Q) (hd : ∀ (i : Nat) (o : Oper), ops[i]? = some o → (∀ c, o.op ≠ .defer c)) :
    ∀ (L : List Nat) (a : Act) (w : World), wpOps P ops Q L a w → wpOpsIn (Fence.wide.inRound l₀) n P ops Q L a w
  | [], _, _, h => h
  | i :: rest, a, w, h => by
    simp only [wpOps] at h
    simp only [wpOpsIn]
    cases ho : ops[i]? with
    | none =>
      simp only [ho] at h
      exact ops_round l₀ n hQ hd rest a w h
    | some o =>
      simp only [ho] at h
      simp only
      by_cases hw : Region.wanted o (yielded ops a.tmps) = true
      · rw [if_pos hw] at h ⊢
        replace h := h.resolve_right fun h' => hQ h'.2
        refine ⟨fun _ _ => trivial, ?_⟩
        rw [Oper.semAt_eq _ _ _ (hd i o ho)]
        unfold Oper.wp at h
        generalize (execOp a.eval o).run P w = r at h ⊢
        match r, h with
        | .ok (.value v) w', h => exact ops_round l₀ n hQ hd rest _ _ h
        | .ok .skip w', h => exact ops_round l₀ n hQ hd rest _ _ h
        | .ok (.defer d) w', h => exact ops_round l₀ n hQ hd rest _ _ h
        | .ok (.enter f args) w', h =>
          refine ⟨fun h => by simp [Fence.wide] at h, CallsIn.inRound l₀ ((callsIn_wide.2 h).mono ?_)⟩
          intro e w1 h1
          cases e with
          | returned v => exact ops_round l₀ n hQ hd rest _ _ h1
          | panicked c => exact h1
          | outgrown => exact h1
        | .ok (.row r bs) w', h =>
          refine ⟨fun h => by simp [Fence.wide] at h, RowsIn.mono (fun c cs _ => ?_) (fun v w1 h1 => ops_round l₀ n hQ hd rest _ _ h1)⟩
          obtain ⟨v, w1, h1, h2⟩ := h c cs
          exact ⟨v, w1, h1, stepsIn_wide.2 h2⟩
        | .halt (.panic v) w', h => exact h
      · rw [if_neg hw] at h ⊢
        exact ⟨fun _ _ => trivial, ops_round l₀ n hQ hd rest _ _ h⟩
/-- A region that does not draw, in a round. -/
theorem region_round {P : Program} {ops : Array Oper} {Q : Exit → Act → World → Prop} {l₀ n id : Nat} {a : Act} {w : World} (hd : ∀ (i : Nat) (o : Oper), ops[i]? = some o → (∀ c, o.op ≠ .defer c))
    (h : wpOps P ops (Only Q) (List.range ops.size) a w) : (Code.region id ops false).wpIn (Fence.wide.inRound l₀) n P Q a w :=
  wpIn_mono (wpIn_region (ops_round l₀ n Only.in hd _ _ _ h)) Only.imp
section
variable {n : Nat} {P : Program} {ops : Array Oper} {Q : Exit → Act → World → Prop} {S : World → Prop}
/-- Whatever comes up next; S is kept; a round may be among it. -/
def anyF (n : Nat) (P : Program) (ops : Array Oper) (Q : Exit → Act → World → Prop) (S : World → Prop) : Nat → Array Bool → Act → World → Prop
  | 0, listed, a, w => Region.ready .any ops listed = [] ∧ Q .normal a w
  | fuel + 1, listed, a, w =>
    (Region.ready .any ops listed = [] → Q .normal a w) ∧
    ∀ i ∈ Region.ready .any ops listed, wpOpIn Fence.wide n P ops Q i (fun a' w' => S w' ∧ anyF n P ops Q S fuel (listed.setIfInBounds i true) a' w') a w
theorem any_of_F : ∀ (fuel : Nat) (listed : Array Bool) (a : Act) (w : World), anyF n P ops Q S fuel listed a w → wpAnyIn Fence.wide n P .any ops Q fuel listed a w
  | 0, _, _, _, h => h
  | fuel + 1, _, _, _, h => ⟨h.1, fun i hi => wpOpIn_mono (fun a' w' h' => any_of_F fuel _ a' w' h'.2) (h.2 i hi)⟩
theorem opF_yields {i : Nat} {o : Oper} {v : Value} {a : Act} (hi : ops[i]? = some o) (hy : YieldsIf P ops S o v a) {K : Act → World → Prop} {w : World} (hS : S w) (h : K (a.put o.dst v) w) : wpOpIn Fence.wide n P ops Q i K a w := by
  unfold wpOpIn
  simp only [hi]
  rcases hy with ⟨hw, hv⟩ | ⟨hw, rfl⟩
  · rw [if_pos hw]
    refine ⟨wide_about, ?_⟩
    have hr : Fence.wide.round = none := rfl
    rw [hr, Oper.semAt_none, hv w hS]
    exact h
  · rw [if_neg (by rw [hw]; decide)]
    exact ⟨wide_about, h⟩
theorem opF_put {j : Nat} {oi oj : Oper} {v : Value} (hj : ops[j]? = some oj) (hap : oi.apart ops oj = true) (hsi : ∀ cs b, oi.op ≠ .select cs b) (hsj : ∀ cs b, oj.op ≠ .select cs b)
    (hQ : ∀ c a w, Q (.panic c) (a.put oi.dst v) w → Q (.panic c) a w) {K : Act → World → Prop} {a : Act} {w : World} (hy : YieldsIf P ops S oi v a) (h : wpOpIn Fence.wide n P ops Q j K (a.put oi.dst v) w) :
    wpOpIn Fence.wide n P ops Q j (fun a' w' => YieldsIf P ops S oi v a' ∧ K (a'.put oi.dst v) w') a w := by
  obtain ⟨h1, h2, h3⟩ := Oper.apart_spec hap
  have keep : ∀ (a : Act), YieldsIf P ops S oi v a → ∀ u, YieldsIf P ops S oi v (a.put oj.dst u) := fun a hy u =>
    hy.of_same (execOp_put oi hsi a oj.dst u h3) (wanted_put oi a oj.dst u h3)
  have turn : ∀ u (w' : World), K ((a.put oi.dst v).put oj.dst u) w' → YieldsIf P ops S oi v (a.put oj.dst u) ∧ K ((a.put oj.dst u).put oi.dst v) w' := fun u w' hk => ⟨keep a hy u, by rw [← Act.put_comm a v u h2]; exact hk⟩
  have hr : Fence.wide.round = none := rfl
  unfold wpOpIn at h ⊢
  simp only [hj] at h ⊢
  rw [wanted_put oj a oi.dst v h1] at h
  by_cases hw : Region.wanted oj (yielded ops a.tmps) = true
  · rw [if_pos hw] at h ⊢
    refine ⟨wide_about, ?_⟩
    replace h := h.2
    rw [hr, Oper.semAt_none, execOp_put oj hsj a oi.dst v h1] at h
    rw [hr, Oper.semAt_none]
    generalize (execOp a.eval oj).run P w = r at h ⊢
    match r, h with
    | .ok (.value u) w', h => exact turn u w' h
    | .ok .skip w', h => exact turn undef w' h
    | .ok (.defer d) w', h =>
      have hk : YieldsIf P ops S oi v { a with defers := d :: a.defers } := hy.of_same rfl rfl
      refine ⟨keep _ hk _, ?_⟩
      rw [← Act.put_comm _ v undef h2, ← Act.put_defers]
      exact h
    | .ok (.enter f args) w', h =>
      refine ⟨h.1, h.2.mono fun e w1 he => ?_⟩
      cases e with
      | returned u => exact turn u w1 he
      | panicked c => exact hQ _ _ _ he
      | outgrown => exact he
    | .ok (.row rw_ bs) w', h => exact ⟨h.1, RowsIn.mono h.2 fun u w1 he => turn u w1 he⟩
    | .ok (.round l f tmps assign body) w', h =>
      refine ⟨h.1, RoundIn.mono h.2 fun e w1 he => ?_⟩
      cases e with
      | returned u => exact turn u w1 he
      | panicked c => exact hQ _ _ _ he
      | outgrown => exact he
    | .halt (.panic u) w', h => exact hQ _ _ _ h
  · rw [if_neg hw] at h ⊢
    exact ⟨wide_about, turn undef w h.2⟩
theorem anyF_first {i : Nat} {oi : Oper} {v : Value} (hi : ops[i]? = some oi) (hsel : ∀ (j : Nat) (o : Oper) cs b, ops[j]? = some o → o.op ≠ .select cs b) (hQ : ∀ c a w, Q (.panic c) (a.put oi.dst v) w → Q (.panic c) a w) :
    ∀ (fuel : Nat) (listed : Array Bool) (a : Act) (w : World),
      (∀ j oj, ops[j]? = some oj → j ≠ i → listed.getD j true = false → (∀ e ∈ oj.after, Region.binds .any e = true → e.on ≠ i) → oi.apart ops oj = true) →
      i ∈ Region.ready .any ops listed → YieldsIf P ops S oi v a → S w → anyF n P ops Q S fuel (listed.setIfInBounds i true) (a.put oi.dst v) w → anyF n P ops Q S (fuel + 1) listed a w
  | fuel, listed, a, w, hfree, hr, hy, hS, H => by
    refine ⟨fun h => (by rw [h] at hr; cases hr), fun j hj => ?_⟩
    by_cases hji : j = i
    · subst hji
      exact opF_yields hi hy hS ⟨hS, H⟩
    · have hjr := ready_mono hj hji
      match fuel, H with
      | 0, H =>
        rw [H.1] at hjr
        cases hjr
      | fuel + 1, H =>
        obtain ⟨hjun, oj, hoj, hall⟩ := mem_ready.1 hj
        have hnot : ∀ e ∈ oj.after, Region.binds .any e = true → e.on ≠ i := fun e he hb heq => by
          have h1 := hall e he hb
          have h0 := (mem_ready.1 hr).1
          rw [heq] at h1
          rcases Nat.lt_or_ge i listed.size with h' | h'
          · simp [h'] at h0 h1
            rw [h0] at h1
            cases h1
          · simp [Array.getElem?_eq_none h'] at h1
        have h2 := opF_put hoj (hfree j oj hoj hji hjun hnot) (fun cs b => hsel i oi cs b hi) (fun cs b => hsel j oj cs b hoj) hQ hy (H.2 j hjr)
        refine wpOpIn_mono (fun a' w' h3 => ⟨h3.2.1, anyF_first hi hsel hQ fuel (listed.setIfInBounds j true) a' w' (fun k ok hk hki hun hno => ?_) (ready_mono hr (Ne.symm hji)) h3.1 h3.2.1 ?_⟩) h2
        · refine hfree k ok hk hki ?_ hno
          by_cases hjk : j = k
          · subst hjk
            exact hjun
          · rw [getD_set_ne true hjk] at hun
            exact hun
        · rw [Array.setIfInBounds_comm _ _ hji]
          exact h3.2.2
theorem anyF_take {i : Nat} {oi : Oper} {v : Value} {fuel : Nat} {listed : Array Bool} {a : Act} {w : World} (hi : ops[i]? = some oi)
    (hs : Region.noSelect ops = true) (hf : Region.free .any ops listed i = true) (hr : (Region.ready .any ops listed).contains i = true)
    (hQ : ∀ c a w, Q (.panic c) (a.put oi.dst v) w → Q (.panic c) a w) (hy : YieldsIf P ops S oi v a) (hS : S w)
    (h : anyF n P ops Q S fuel (listed.setIfInBounds i true) (a.put oi.dst v) w) : anyF n P ops Q S (fuel + 1) listed a w :=
  anyF_first hi (Region.noSelect_spec hs) hQ fuel listed a w (Region.free_spec hi hf) (by simpa using hr) hy hS h
/-- One alone may come up. -/
theorem anyF_one {i : Nat} {o : Oper} {fuel : Nat} {listed : Array Bool} {a : Act} {w : World} (hr : Region.ready .any ops listed = [i]) (ho : ops[i]? = some o)
    (h : ∀ K' : Act → World → Prop, (∀ a w, S w → anyF n P ops Q S fuel (listed.setIfInBounds i true) a w → K' a w) → if Region.wanted o (yielded ops a.tmps) = true then Oper.wpIn Fence.wide n P o a w K' Q else K' (a.put o.dst undef) w) : anyF n P ops Q S (fuel + 1) listed a w := by
  refine ⟨fun h0 => (by rw [hr] at h0; cases h0), fun j hj => ?_⟩
  rw [hr] at hj
  simp at hj
  subst hj
  unfold wpOpIn
  rw [ho]
  have h1 := h (fun a' w' => S w' ∧ anyF n P ops Q S fuel (listed.setIfInBounds j true) a' w') (fun a w hS hw => ⟨hS, hw⟩)
  simp only
  by_cases hw : Region.wanted o (yielded ops a.tmps) = true
  · rw [if_pos hw] at h1 ⊢
    exact h1
  · rw [if_neg hw] at h1 ⊢
    exact ⟨wide_about, h1⟩
theorem anyF_done {listed : Array Bool} {a : Act} {w : World} (hr : Region.ready .any ops listed = []) (h : Q .normal a w) : ∀ fuel, anyF n P ops Q S fuel listed a w
  | 0 => ⟨hr, h⟩
  | _ + 1 => ⟨fun _ => h, by rw [hr]; simp⟩
theorem region_F {id : Nat} {a : Act} {w : World} (S : World → Prop) (hm : P.follows .mixedOrders = true) (hS : S w.drew) (h : S w.drew → anyF n P ops (Only Q) S ops.size (Array.replicate ops.size false) a w.drew) : (Code.region id ops true).wpIn Fence.wide n P Q a w :=
  wpIn_mono (wpIn_region_any hm (any_of_F _ _ _ _ (h hS))) Only.imp
end
end Go.Proofs.Ytcbddmmoioggaaa.Sp
