/- A range over an iterator that writes into blocks of its own between two rounds; the body never leaves early. -/
import Derived.Test.YtcbddmmoioggaaaTu
import Derived.RangeFuncNested
import Derived.RangeFuncBound
import Derived.RangeFuncCalls
import Derived.RangeFuncLeaves
import Derived.RangeFuncKeeps
import Derived.RangeFuncFrom
import Derived.RangeFuncWrites
import Derived.RangeFuncBox
import Derived.Shelf.Abstract
import Derived.Shelf.RegionOpen
import Derived.WalkKit
import Derived.OwnWalkIn
import Derived.TacticsInMore
import Derived.LoopNIn
import Derived.LoopIn
import Derived.Sort.LoopGhostIn
import Derived.Sort.CutIn
namespace Go.Proofs.Ytcbddmmoioggaaa.Sp
open Go Go.RowKit Go.Shelf
set_option linter.unusedVariables false
set_option linter.unusedSimpArgs false
/-- An iterator gives xs, one after the other, where no round says no; its own blocks are of type t. -/
def GoesOver {α : Type} (F : Fence) (n : Nat) (P : Program) (gf : Nat) (lb : Array Value) (encs : α → Array Value) (t : TypeId) (Kp : World → World → Prop) (xs : List α) (w0 : World) : Prop :=
  ∀ (l : Nat) (J : List α → World → Prop) (W : World), Below w0.heap.size w0 W →
    (∀ s W1 W2 row, J s W1 → W1.grownBy W2 row → (∀ r, row = some r → W.heap.size ≤ r ∧ ∃ cs, W1.heap[r]? = some (.cells cs t (0, 0))) → J s W2) →
    (∀ pre x W1, J pre W1 → (pre ++ [x]) <+: xs → YieldAt F (n - 1) P l (encs x) W1 fun e W2 => e = .returned (.bool true) ∧ J (pre ++ [x]) W2 ∧ Kp W1 W2) →
    J [] W → CallsIn F n P gf (#[.func (.yield l) #[] #[]] ++ lb) W fun e W2 => (∃ v, e = .returned v) ∧ J xs W2
/-- What outlives a turn of a block that lies at or beyond B and is no cells, or is of type t. -/
def Lasts {β : Type} (B : Nat) (t : TypeId) (I : β → World → Prop) : Prop :=
  ∀ s W W' row, I s W → W.grownBy W' row → (∀ r, row = some r → B ≤ r ∧ ∃ o : Obj, W.heap[r]? = some o ∧ (o.isCells = false ∨ ∃ cs, o = .cells cs t (0, 0))) → I s W'
theorem Lasts.put {β : Type} {B : Nat} {t : TypeId} {I : β → World → Prop} (h : Lasts B t I) {s : β} {W : World} {l : Nat} {o : Obj} (o' : Obj) (hs : I s W) (hB : B ≤ l) (hl : W.heap[l]? = some o) (ho : o.isCells = false) : I s (W.putObj l o') :=
  h s W _ (some l) hs (grownBy_putObj' W l o') (fun r e => by cases e; exact ⟨hB, o, hl, .inl ho⟩)
theorem Lasts.new {β : Type} {B : Nat} {t : TypeId} {I : β → World → Prop} (h : Lasts B t I) {s : β} {W : World} (o : Obj) (hs : I s W) : I s (W.alloc o) :=
  h s W _ none hs (World.grownBy_alloc W o none) (fun r e => by cases e)
section
variable {F : Fence} {n : Nat} {P : Program}
theorem range_all {α : Type} {g : Operand} {ps : Array Tmp} {assign body : Code} {Q : Exit → Act → World → Prop} {a : Act} {w : World}
    (hro : F.round = none) (h1 : 1 ≤ n) {gf : Nat} {lb : Array Value} (hg : a.eval g = .func (.func gf) #[] lb) (hFg : F.fn gf) (eg : ∀ args w, (callFunc gf args).run P w = .ok (.enter gf args) w)
    {encs : α → Array Value} {t : TypeId} {Kp : World → World → Prop} {xs : List α} {w0 : World} (hseq : GoesOver F (n - 1) P gf lb encs t Kp xs w0)
    (hKt : ∀ {A B C : World}, Kp A B → Kp B C → Kp A C) (hKb : ∀ (W : World) (l : Nat) (o o' : Obj), W.heap[l]? = some o → o.isCells = false → Kp W (W.putObj l o')) (hb0 : Below w0.heap.size w0 w) (hps : ∀ x, (encs x).size = ps.size)
    (I : List α → World → Prop) (hI : Lasts w.heap.size t I) (h0 : I [] w) (Ax : List α × α × Act → World → Prop) (hAx : OwnFrom w.heap.size Ax)
    (hassign : ∀ (l : Nat) (pre : List α) (x : α) (W : World), I pre W → (pre ++ [x]) <+: xs →
      assign.wpIn (F.inRound l) (n - 1 - 1) P (Exit.then (fun a₁ W1 => KeepsOthers W W1 ∧ Kp W W1 ∧ Ax (pre, x, a₁) W1) (fun _ _ _ => False)) { tmps := (ps.zip (encs x)).foldl (fun t (p, v) => t.setIfInBounds p v) a.tmps, defers := [] } W)
    (hbody : ∀ (l : Nat) (pre : List α) (x : α) (a₁ : Act) (W : World), Ax (pre, x, a₁) W → (pre ++ [x]) <+: xs →
      body.wpIn (F.inRound l) (n - 1 - 1) P (fun e _ W' => e = .normal ∧ KeepsOthers W W' ∧ Kp W W' ∧ I (pre ++ [x]) W') a₁ W)
    (hdone : ∀ (D : Nat) (W : World), w.heap.size ≤ D → I xs W → W.heap[D]? = some (.deferred (some [])) → Q .normal { a with defers := { target := .collected D, args := #[] } :: a.defers } W) :
    (Code.rangeFunc g ps assign body).wpIn F n P Q a w := by
  refine wpIn_rangeFunc fun fn hfn => ?_
  rw [hro]
  obtain ⟨rc, hrc⟩ : ∃ rc : LoopState → Option Code → Loop, rc = fun st pe => { state := st, pending := pe, fn, tmps := a.tmps, params := ps, assign, body, defers := w.heap.size } := ⟨_, rfl⟩
  obtain ⟨V, hV⟩ : ∃ V, (w.alloc (.deferred (some []))).alloc (.loop (rc .ready none)) = V := ⟨_, rfl⟩
  have vl : V.heap[w.heap.size + 1]? = some (.loop (rc .ready none)) := by
    rw [← hV]
    have h := World.alloc_heap_new (w.alloc (.deferred (some []))) (.loop (rc .ready none))
    rwa [World.size_alloc] at h
  have vd : V.heap[w.heap.size]? = some (.deferred (some [])) := by
    rw [← hV]
    exact (Below.heap_alloc _ _ _ (by simp)).trans (World.alloc_heap_new w _)
  have vs : V.heap.size = w.heap.size + 2 := by rw [← hV]; simp
  have vi : I [] V := by rw [← hV]; exact hI.new _ (hI.new _ h0)
  have vb : Below w0.heap.size w0 V := by
    rw [← hV]
    exact hb0.trans ((((Below.refl _ w).alloc (Nat.le_refl _) _).alloc (by simp) _).mono hb0.size)
  refine ⟨w.heap.size + 1, [{ target := .collected w.heap.size, args := #[] }], V, { target := .fn (.func gf) lb, args := #[.func (.yield (w.heap.size + 1)) #[] #[]] }, V, gf,
    #[.func (.yield (w.heap.size + 1)) #[] #[]] ++ lb, V, ?_, ?_, ?_, ?_, fun _ => h1, ?_⟩
  · rw [← hV, hrc]
    exact run_enterLoop_outer _ _ _ _ _
  · simp only [resolve, hg]
    simp [go_sem]
  · intro f' hf'
    simp [Target.leads] at hf'
    subst hf'
    exact hFg
  · simp [invoke, go_sem, eg]
  · refine (hseq (w.heap.size + 1) (fun pre W => I pre W ∧ W.heap[w.heap.size + 1]? = some (.loop (rc .ready none)) ∧ W.heap[w.heap.size]? = some (.deferred (some []))) V vb ?_ ?_ ⟨vi, vl, vd⟩).mono ?_
    · rintro s A B row ⟨s1, s2, s3⟩ hgr hr
      have hlow : ∀ k, k < w.heap.size + 2 → k < A.heap.size → B.heap[k]? = A.heap[k]? := fun k hk hka => hgr.block k hka (fun e => by
        obtain ⟨h2, _⟩ := hr k e.symm
        omega)
      refine ⟨hI s A B row s1 hgr (fun r e => ?_), (hlow _ (by omega) (Array.getElem?_eq_some_iff.1 s2).1).trans s2, (hlow _ (by omega) (Array.getElem?_eq_some_iff.1 s3).1).trans s3⟩
      obtain ⟨h2, cs, hcs⟩ := hr r e
      exact ⟨by omega, _, hcs, .inr ⟨cs, rfl⟩⟩
    · rintro pre x W ⟨hi, hl, hk⟩ hpre
      have hlt : w.heap.size + 1 < W.heap.size := (Array.getElem?_eq_some_iff.1 hl).1
      have hy := run_yield (P := P) (args := encs x) hl (by rw [hrc]; exact hps x)
      rw [hrc] at hy
      refine ⟨fn, _, assign, body, hy, roundIn_of_wpIn hfn (wpIn_mono (hassign _ pre x W hi hpre) ?_)⟩
      rintro e a1 W1 he
      cases e with
      | normal =>
        obtain ⟨ko1, kp1, ax1⟩ := (he : KeepsOthers W W1 ∧ Kp W W1 ∧ Ax (pre, x, a1) W1)
        have hl1 := ko1.same _ _ hl rfl
        have hk1 := ko1.same _ _ hk rfl
        have hlt1 : w.heap.size + 1 < W1.heap.size := (Array.getElem?_eq_some_iff.1 hl1).1
        refine ⟨_, run_beginRound hl1 (by rw [hrc]), ?_⟩
        have hl2 : (W1.putObj (w.heap.size + 1) (.loop { rc .ready none with state := .busy })).heap[w.heap.size + 1]? = some (.loop { rc .ready none with state := .busy }) := World.putObj_heap_same hlt1
        have hk2 : (W1.putObj (w.heap.size + 1) (.loop { rc .ready none with state := .busy })).heap[w.heap.size]? = some (.deferred (some [])) := (World.putObj_heap_other (by omega)).trans hk1
        have kp2 : Kp W1 (W1.putObj (w.heap.size + 1) (.loop { rc .ready none with state := .busy })) := hKb _ _ _ _ hl1 rfl
        refine wpIn_mono (hbody _ pre x a1 _ (hAx.putObj _ ax1 (by omega) hl1 rfl) hpre) ?_
        rintro e a3 W3 ⟨rfl, ko3, kp3, hi3⟩
        have hl3 := ko3.same _ _ hl2 rfl
        have hk3 := ko3.same _ _ hk2 rfl
        have hr := run_endRound (P := P) none hl3
        refine ⟨_, _, hr, rfl, ⟨?_, ?_, ?_⟩, hKt kp1 (hKt kp2 (hKt kp3 (hKb _ _ _ _ hl3 rfl)))⟩
        · exact hI.put _ hi3 (by omega) hl3 rfl
        · rw [World.putObj_heap_same (Array.getElem?_eq_some_iff.1 hl3).1]
          rw [hrc]
          rfl
        · exact (World.putObj_heap_other (by omega)).trans hk3
      | ret => exact (he : False).elim
      | exit id => exact (he : False).elim
      | goto t => exact (he : False).elim
      | panic ch => exact (he : False).elim
      | outgrown => exact (he : False).elim
    · rintro e W2 ⟨⟨v, rfl⟩, hi, hl, hk⟩
      have he := run_endLoop (P := P) hl (by rw [hrc]; simp)
      have hpn : (rc .ready none).pending = none := by rw [hrc]
      rw [hpn] at he
      exact ⟨none, _, he, hdone _ _ (Nat.le_refl _) (hI.put _ hi (by omega) hl rfl) ((World.putObj_heap_other (by omega)).trans hk)⟩
end
end Go.Proofs.Ytcbddmmoioggaaa.Sp
