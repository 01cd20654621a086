/- Trees of items with sizes: what they are, how they lie in memory, and the three numbers of a node. -/
import Derived.Test.YtpchkligbfmeiaaProg
import Derived.Below
import Derived.Deep.Draws
import Derived.Deep.AppendLies
import Derived.Maps.AppendAt
import Derived.OwnWalk
import Derived.Laws.BytesArg
import Derived.Laws.MakeOwn
import Derived.Laws.OwnMore
import Derived.Deep.OwnRows
import Derived.Tactics
import Derived.Lib.ConvBytes
import Derived.Laws.Slices
import Derived.WalkKit
import Derived.KernelRfl
import Derived.RowKit3
import Derived.Deep.LoopGhost
import Derived.Deep.QuietTactic
import Derived.BigQuiet
import Derived.WideLaws
import Derived.Deep.DeepCutAuto
import Derived.Deep.CutBlock
import Derived.Deep.RegionHeld3
import Derived.Laws.Rows
import Derived.Lib.AppendStr
import Derived.ArgAppend
import Derived.Laws.IdiomCopy
import Derived.OrdersHeld
import Derived.Laws.BitsLemmas
import Derived.RowKit
import Derived.Test.YtpchkligbfmeiaaWWords
import Derived.Test.YtpchkligbfmeiaaWLast
import Derived.Test.YtpchkligbfmeiaaWTab
import Derived.Test.YtpchkligbfmeiaaWFour
import Derived.Test.YtpchkligbfmeiaaWQPut
import Derived.Test.YtpchkligbfmeiaaWApart
import Derived.Test.YtpchkligbfmeiaaWArr
import Derived.Test.YtpchkligbfmeiaaWZeros
import Derived.Test.YtpchkligbfmeiaaWFoot
import Derived.Test.YtpchkligbfmeiaaWKept
import Derived.Test.YtpchkligbfmeiaaWShare
import Derived.Test.YtpchkligbfmeiaaWN
import Derived.Test.YtpchkligbfmeiaaWFootNe
import Derived.Test.YtpchkligbfmeiaaWAt
import Derived.Test.YtpchkligbfmeiaaWEqStruct
import Derived.Test.YtpchkligbfmeiaaWRepsOne
import Derived.Test.YtpchkligbfmeiaaWInv
import Derived.Test.YtpchkligbfmeiaaWInvWords
import Derived.Test.YtpchkligbfmeiaaWGuard
import Derived.Test.YtpchkligbfmeiaaWNEv
import Derived.Test.YtpchkligbfmeiaaWMore
import Derived.ProofKit
import Derived.Deep.DrawnRows
namespace Go.Proofs.Ytpchkligbfmeiaa.Se
open Go.RowKit Go.Proofs.YtpchkligbfmeiaaW.PrintWords Go.Proofs.YtpchkligbfmeiaaW.PrintLast Go.Proofs.YtpchkligbfmeiaaW.PrintMore
attribute [local go_sem] max2_int min2_int max_two min_two max_three min_three max_four min_four
set_option linter.unusedVariables false
set_option linter.unusedSimpArgs false

inductive Tr where
  | nil : Tr
  | node : Tr → ByteArray → Int → Tr → Tr
def sumT : Tr → Int
  | .nil => 0
  | .node l _ z r => sumT l + z + sumT r
def cntT : Tr → Int
  | .nil => 0
  | .node l _ _ r => cntT l + 1 + cntT r
def depT : Tr → Int
  | .nil => 0
  | .node l _ _ r => (if depT l < depT r then depT r else depT l) + 1
/-- All sizes are at least 0. -/
def Pos : Tr → Prop
  | .nil => True
  | .node l _ z r => Pos l ∧ 0 ≤ z ∧ Pos r
theorem sumT_pos : ∀ {t : Tr}, Pos t → 0 ≤ sumT t
  | .nil, _ => by simp [sumT]
  | .node l _ z r, h => by
    have := sumT_pos h.1
    have := sumT_pos h.2.2
    have := h.2.1
    simp only [sumT]
    omega
theorem cntT_pos : ∀ t : Tr, 0 ≤ cntT t
  | .nil => by simp [cntT]
  | .node l _ _ r => by
    have := cntT_pos l
    have := cntT_pos r
    simp only [cntT]
    omega
theorem depT_bd : ∀ t : Tr, 0 ≤ depT t ∧ depT t ≤ cntT t
  | .nil => by simp [depT, cntT]
  | .node l _ _ r => by
    have := depT_bd l
    have := depT_bd r
    have := cntT_pos l
    have := cntT_pos r
    simp only [depT, cntT]
    split <;> omega
/-- Sizes, their sum and the number of items are none too great. -/
structure Fit (t : Tr) : Prop where
  p : Pos t
  s : sumT t ≤ 4398046511104
  n : cntT t ≤ 8388608

/-- A tree behind a pointer. -/
def At (w : World) : Tr → Value → Prop
  | .nil, v => v = .pointer none
  | .node l it z r, v => ∃ b vl vr, v = .pointer (some ⟨b, 0, none⟩) ∧ w.heap[b]? = some (.cells #[vl, vr, .string it, .int .i64 z, .int .i64 (sumT (.node l it z r)), .int .i64 (cntT (.node l it z r)), .int .i64 (depT (.node l it z r))] 58 (0, 0)) ∧ At w l vl ∧ At w r vr
theorem At.move {w w' : World} : ∀ {t : Tr} {v : Value}, At w t v → (∀ k, k < w.heap.size → w'.heap[k]? = w.heap[k]?) → At w' t v
  | .nil, _, h, _ => h
  | .node l it z r, v, ⟨b, vl, vr, h1, h2, h3, h4⟩, hm => ⟨b, vl, vr, h1, (hm b (blk_lt h2)).trans h2, h3.move hm, h4.move hm⟩
theorem At.below {w w' : World} {t : Tr} {v : Value} (h : At w t v) (hb : Below w.heap.size w w') : At w' t v := h.move fun k hk => hb.block k hk
theorem At.ptr {w : World} : ∀ {t : Tr} {v : Value}, At w t v → ∃ a, v = .pointer a
  | .nil, _, h => ⟨_, h⟩
  | .node _ _ _ _, _, ⟨b, _, _, h, _⟩ => ⟨_, h⟩

theorem count_c (t : Tr) (v : Value) (w : World) (h : At w t v) : Calls Try.prog 25 #[v] w fun e w' => e = .returned (.int .i64 (cntT t)) ∧ w' = w := by
  cases t with
  | nil =>
    subst h
    go_enter Try.func25, Try.ntmps25
    go_wp2_with (fail)
    go_ret
    exact ⟨rfl, rfl⟩
  | node l it z r =>
    obtain ⟨b, vl, vr, rfl, hb, _, _⟩ := h
    have c5 : w.cell? ⟨b, 5, none⟩ = some (.int .i64 (cntT (.node l it z r))) := cell_of_row _ _ _ _ _ _ hb
    obtain ⟨q, hq⟩ : ∃ q, cntT (.node l it z r) = q := ⟨_, rfl⟩
    rw [hq] at c5 ⊢
    clear hb hq
    go_enter Try.func25, Try.ntmps25
    go_wp2_with (fail)
    go_ret
    exact ⟨rfl, rfl⟩
theorem sum_c (t : Tr) (v : Value) (w : World) (h : At w t v) : Calls Try.prog 19 #[v] w fun e w' => e = .returned (.int .i64 (sumT t)) ∧ w' = w := by
  cases t with
  | nil =>
    subst h
    go_enter Try.func19, Try.ntmps19
    go_wp2_with (fail)
    go_ret
    exact ⟨rfl, rfl⟩
  | node l it z r =>
    obtain ⟨b, vl, vr, rfl, hb, _, _⟩ := h
    have c5 : w.cell? ⟨b, 4, none⟩ = some (.int .i64 (sumT (.node l it z r))) := cell_of_row _ _ _ _ _ _ hb
    obtain ⟨q, hq⟩ : ∃ q, sumT (.node l it z r) = q := ⟨_, rfl⟩
    rw [hq] at c5 ⊢
    clear hb hq
    go_enter Try.func19, Try.ntmps19
    go_wp2_with (fail)
    go_ret
    exact ⟨rfl, rfl⟩
theorem depth_c (t : Tr) (v : Value) (w : World) (h : At w t v) : Calls Try.prog 26 #[v] w fun e w' => e = .returned (.int .i64 (depT t)) ∧ w' = w := by
  cases t with
  | nil =>
    subst h
    go_enter Try.func26, Try.ntmps26
    go_wp2_with (fail)
    go_ret
    exact ⟨rfl, rfl⟩
  | node l it z r =>
    obtain ⟨b, vl, vr, rfl, hb, _, _⟩ := h
    have c5 : w.cell? ⟨b, 6, none⟩ = some (.int .i64 (depT (.node l it z r))) := cell_of_row _ _ _ _ _ _ hb
    obtain ⟨q, hq⟩ : ∃ q, depT (.node l it z r) = q := ⟨_, rfl⟩
    rw [hq] at c5 ⊢
    clear hb hq
    go_enter Try.func26, Try.ntmps26
    go_wp2_with (fail)
    go_ret
    exact ⟨rfl, rfl⟩

/-- A node's item and size, wherever it is from. -/
def Mid (w : World) (it : ByteArray) (z : Int) (v : Value) : Prop := ∃ b, v = .pointer (some ⟨b, 0, none⟩) ∧ b < w.heap.size ∧ w.cell? ⟨b, 2, none⟩ = some (.string it) ∧ w.cell? ⟨b, 3, none⟩ = some (.int .i64 z)
theorem At.mid {w : World} {l r : Tr} {it : ByteArray} {z : Int} {v : Value} (h : At w (.node l it z r) v) : Mid w it z v := by
  obtain ⟨b, vl, vr, rfl, hb, _, _⟩ := h
  exact ⟨b, rfl, blk_lt hb, cell_of_row _ _ _ _ _ _ hb, cell_of_row _ _ _ _ _ _ hb⟩
theorem Mid.below {w w' : World} {it : ByteArray} {z : Int} {v : Value} (h : Mid w it z v) (hb : Below w.heap.size w w') : Mid w' it z v := by
  obtain ⟨b, rfl, h1, h2, h3⟩ := h
  exact ⟨b, rfl, Nat.lt_of_lt_of_le h1 hb.size, pw_cell_below hb h2, pw_cell_below hb h3⟩

set_option maxRecDepth 100000 in
set_option maxHeartbeats 1000000 in
theorem link_c (l r : Tr) (it : ByteArray) (z : Int) (vl vm vr : Value) (w : World) (hl : At w l vl) (hm : Mid w it z vm) (hr : At w r vr) (hf : Fit (.node l it z r)) :
    Calls Try.prog 28 #[vl, vm, vr] w fun e w' => ∃ v, e = .returned v ∧ At w' (.node l it z r) v ∧ Below w.heap.size w w' := by
  obtain ⟨a1, rfl⟩ := hl.ptr
  obtain ⟨a2, rfl⟩ := hr.ptr
  obtain ⟨b, rfl, hbs, c2, c3⟩ := hm
  have HL := Aside0.mk hl
  have HR := Aside0.mk hr
  have hsl := sumT_pos hf.p.1
  have hsr := sumT_pos hf.p.2.2
  have hz := hf.p.2.1
  have hs := hf.s
  have hn := hf.n
  have hcl := cntT_pos l
  have hcr := cntT_pos r
  have hdl := depT_bd l
  have hdr := depT_bd r
  simp only [sumT, cntT] at hs hn
  have hsum := fun w' h => sum_c l (.pointer a1) w' h
  have hsum2 := fun w' h => sum_c r (.pointer a2) w' h
  have hcnt := fun w' h => count_c l (.pointer a1) w' h
  have hcnt2 := fun w' h => count_c r (.pointer a2) w' h
  have hdep := fun w' h => depth_c l (.pointer a1) w' h
  have hdep2 := fun w' h => depth_c r (.pointer a2) w' h
  have HN : Aside0 (∀ (sl cl dl sr cr dr : Int), True) := ⟨fun _ _ _ _ _ _ => trivial⟩
  obtain ⟨sl, esl⟩ : ∃ x, sumT l = x := ⟨_, rfl⟩
  obtain ⟨sr, esr⟩ : ∃ x, sumT r = x := ⟨_, rfl⟩
  obtain ⟨cl, ecl⟩ : ∃ x, cntT l = x := ⟨_, rfl⟩
  obtain ⟨cr, ecr⟩ : ∃ x, cntT r = x := ⟨_, rfl⟩
  obtain ⟨dl, edl⟩ : ∃ x, depT l = x := ⟨_, rfl⟩
  obtain ⟨dr, edr⟩ : ∃ x, depT r = x := ⟨_, rfl⟩
  rw [esl] at hsum hsl hs
  rw [esr] at hsum2 hsr hs
  rw [ecl] at hcnt hcl hn hdl
  rw [ecr] at hcnt2 hcr hn hdr
  rw [edl] at hdep hdl
  rw [edr] at hdep2 hdr
  have S1 := Aside0.mk hsum
  have S2 := Aside0.mk hsum2
  have C1 := Aside0.mk hcnt
  have C2 := Aside0.mk hcnt2
  have D1 := Aside0.mk hdep
  have D2 := Aside0.mk hdep2
  have HF := Aside0.mk hf
  have hw1 : IntKind.i64.wrap (sl + z) = sl + z := IntWalk.i64_in _ (by omega)
  have hw2 : IntKind.i64.wrap (sl + z + sr) = sl + z + sr := IntWalk.i64_in _ (by omega)
  have hw3 : IntKind.i64.wrap (cl + 1) = cl + 1 := IntWalk.i64_in _ (by omega)
  have hw4 : IntKind.i64.wrap (cl + 1 + cr) = cl + 1 + cr := IntWalk.i64_in _ (by omega)
  obtain ⟨dm, edm⟩ : ∃ x, (if dl < dr then dr else dl) = x := ⟨_, rfl⟩
  have hdm : 0 ≤ dm ∧ dm ≤ 8388608 := by rw [← edm]; split <;> omega
  have hw5 : IntKind.i64.wrap (dm + 1) = dm + 1 := IntWalk.i64_in _ (by omega)
  have HE : Aside0 (sumT (.node l it z r) = sl + z + sr ∧ cntT (.node l it z r) = cl + 1 + cr ∧ depT (.node l it z r) = dm + 1) := ⟨by simp only [sumT, cntT, depT, esl, esr, ecl, ecr, edl, edr, edm, and_self]⟩
  clear hl hr hsum hsum2 hcnt hcnt2 hdep hdep2 hf esl esr ecl ecr edl edr hs hn hsl hsr hz hcl hcr hdl hdr hdm HN
  go_enter Try.func28, Try.ntmps28
  go_upto_region 1 with (fail)
  refine wp_region_noPanic ?_
  refine wp_region_held_drew (S := (fun w' => w'.cell? ⟨b, 2, none⟩ = some (.string it) ∧ w'.cell? ⟨b, 3, none⟩ = some (.int .i64 z))) (by kernel_rfl) ?_ (fun hHeld => ?_)
  · exact ⟨c2, c3⟩
  refine wpAnyH_take (i := 0) (v := ?_) rfl (by kernel_rfl) (by kernel_rfl) (by kernel_rfl) (fun _ _ _ h => h) (Or.inl ⟨by rfl, ?_⟩) (by assumption) ?_
  rotate_left
  · intro w hSw
    go_simp
    try with_reducible rfl
  simp only [Act.put, List.getElem_toArray, List.getElem_cons_zero, List.getElem_cons_succ, List.setIfInBounds_toArray, List.set_cons_zero, List.set_cons_succ]
  refine wpAnyH_take (i := 1) (v := ?_) rfl (by kernel_rfl) (by kernel_rfl) (by kernel_rfl) (fun _ _ _ h => h) (Or.inl ⟨by rfl, ?_⟩) (by assumption) ?_
  rotate_left
  · intro w hSw
    go_simp
    try with_reducible rfl
  simp only [Act.put, List.getElem_toArray, List.getElem_cons_zero, List.getElem_cons_succ, List.setIfInBounds_toArray, List.set_cons_zero, List.set_cons_succ]
  refine wpAnyH_take (i := 2) (v := ?_) rfl (by kernel_rfl) (by kernel_rfl) (by kernel_rfl) (fun _ _ _ h => h) (Or.inl ⟨by rfl, ?_⟩) (by assumption) ?_
  rotate_left
  · intro w hSw
    go_simp
    try with_reducible rfl
  simp only [Act.put, List.getElem_toArray, List.getElem_cons_zero, List.getElem_cons_succ, List.setIfInBounds_toArray, List.set_cons_zero, List.set_cons_succ]
  refine wpAnyH_take (i := 3) (v := ?_) rfl (by kernel_rfl) (by kernel_rfl) (by kernel_rfl) (fun _ _ _ h => h) (Or.inl ⟨by rfl, ?_⟩) (by assumption) ?_
  rotate_left
  · intro w hSw
    go_simp
    try with_reducible rfl
  simp only [Act.put, List.getElem_toArray, List.getElem_cons_zero, List.getElem_cons_succ, List.setIfInBounds_toArray, List.set_cons_zero, List.set_cons_succ]
  refine wpAnyH_take (i := 4) (v := ?_) rfl (by kernel_rfl) (by kernel_rfl) (by kernel_rfl) (fun _ _ _ h => h) (Or.inl ⟨by rfl, ?_⟩) (by assumption) ?_
  rotate_left
  · intro w hSw
    go_simp
    try with_reducible rfl
  simp only [Act.put, List.getElem_toArray, List.getElem_cons_zero, List.getElem_cons_succ, List.setIfInBounds_toArray, List.set_cons_zero, List.set_cons_succ]
  refine wpAnyH_take (i := 5) (v := ?_) rfl (by kernel_rfl) (by kernel_rfl) (by kernel_rfl) (fun _ _ _ h => h) (Or.inl ⟨by rfl, ?_⟩) (by assumption) ?_
  rotate_left
  · intro w hSw
    go_simp
    try with_reducible rfl
  simp only [Act.put, List.getElem_toArray, List.getElem_cons_zero, List.getElem_cons_succ, List.setIfInBounds_toArray, List.set_cons_zero, List.set_cons_succ]
  refine wpAnyH_take (i := 6) (v := ?_) rfl (by kernel_rfl) (by kernel_rfl) (by kernel_rfl) (fun _ _ _ h => h) (Or.inl ⟨by rfl, ?_⟩) (by assumption) ?_
  rotate_left
  · intro w hSw
    go_simp
    try with_reducible rfl
  simp only [Act.put, List.getElem_toArray, List.getElem_cons_zero, List.getElem_cons_succ, List.setIfInBounds_toArray, List.set_cons_zero, List.set_cons_succ]
  refine wpAnyH_take (i := 7) (v := ?_) rfl (by kernel_rfl) (by kernel_rfl) (by kernel_rfl) (fun _ _ _ h => h) (Or.inl ⟨by rfl, ?_⟩) (by assumption) ?_
  rotate_left
  · intro w hSw
    go_simp
    try with_reducible rfl
  simp only [Act.put, List.getElem_toArray, List.getElem_cons_zero, List.getElem_cons_succ, List.setIfInBounds_toArray, List.set_cons_zero, List.set_cons_succ]
  refine wpAnyH_take (i := 8) (v := ?_) rfl (by kernel_rfl) (by kernel_rfl) (by kernel_rfl) (fun _ _ _ h => h) (Or.inl ⟨by rfl, ?_⟩) (by assumption) ?_
  rotate_left
  · intro w hSw
    go_simp
    try with_reducible rfl
  simp only [Act.put, List.getElem_toArray, List.getElem_cons_zero, List.getElem_cons_succ, List.setIfInBounds_toArray, List.set_cons_zero, List.set_cons_succ]
  refine wpAnyH_take (i := 9) (v := ?_) rfl (by kernel_rfl) (by kernel_rfl) (by kernel_rfl) (fun _ _ _ h => h) (Or.inl ⟨by rfl, ?_⟩) (by assumption) ?_
  rotate_left
  · intro w hSw
    go_simp
    try with_reducible rfl
  simp only [Act.put, List.getElem_toArray, List.getElem_cons_zero, List.getElem_cons_succ, List.setIfInBounds_toArray, List.set_cons_zero, List.set_cons_succ]
  refine wpAnyH_take (i := 10) (v := ?_) rfl (by kernel_rfl) (by kernel_rfl) (by kernel_rfl) (fun _ _ _ h => h) (Or.inl ⟨by rfl, ?_⟩) (by assumption) ?_
  rotate_left
  · intro w hSw
    go_simp
    try with_reducible rfl
  simp only [Act.put, List.getElem_toArray, List.getElem_cons_zero, List.getElem_cons_succ, List.setIfInBounds_toArray, List.set_cons_zero, List.set_cons_succ]
  refine wpAnyH_take (i := 12) (v := ?_) rfl (by kernel_rfl) (by kernel_rfl) (by kernel_rfl) (fun _ _ _ h => h) (Or.inl ⟨by rfl, ?_⟩) (by assumption) ?_
  rotate_left
  · intro w hSw
    go_simp
    try with_reducible rfl
  simp only [Act.put, List.getElem_toArray, List.getElem_cons_zero, List.getElem_cons_succ, List.setIfInBounds_toArray, List.set_cons_zero, List.set_cons_succ]
  refine wpAnyH_take (i := 13) (v := ?_) rfl (by kernel_rfl) (by kernel_rfl) (by kernel_rfl) (fun _ _ _ h => h) (Or.inl ⟨by rfl, ?_⟩) (by assumption) ?_
  rotate_left
  · intro w hSw
    go_simp
    try with_reducible rfl
  simp only [Act.put, List.getElem_toArray, List.getElem_cons_zero, List.getElem_cons_succ, List.setIfInBounds_toArray, List.set_cons_zero, List.set_cons_succ]
  refine wpAnyH_take (i := 14) (v := ?_) rfl (by kernel_rfl) (by kernel_rfl) (by kernel_rfl) (fun _ _ _ h => h) (Or.inl ⟨by rfl, ?_⟩) (by assumption) ?_
  rotate_left
  · intro w hSw
    go_simp
    try with_reducible rfl
  simp only [Act.put, List.getElem_toArray, List.getElem_cons_zero, List.getElem_cons_succ, List.setIfInBounds_toArray, List.set_cons_zero, List.set_cons_succ]
  refine wpAnyH_take (i := 15) (v := ?_) rfl (by kernel_rfl) (by kernel_rfl) (by kernel_rfl) (fun _ _ _ h => h) (Or.inl ⟨by rfl, ?_⟩) (by assumption) ?_
  rotate_left
  · intro w hSw
    go_simp
    try with_reducible rfl
  simp only [Act.put, List.getElem_toArray, List.getElem_cons_zero, List.getElem_cons_succ, List.setIfInBounds_toArray, List.set_cons_zero, List.set_cons_succ]
  refine wpAnyH_take (i := 17) (v := ?_) rfl (by kernel_rfl) (by kernel_rfl) (by kernel_rfl) (fun _ _ _ h => h) (Or.inl ⟨by rfl, ?_⟩) (by assumption) ?_
  rotate_left
  · intro w hSw
    go_simp
    try with_reducible rfl
  simp only [Act.put, List.getElem_toArray, List.getElem_cons_zero, List.getElem_cons_succ, List.setIfInBounds_toArray, List.set_cons_zero, List.set_cons_succ]
  refine wpAnyH_take (i := 20) (v := ?_) rfl (by kernel_rfl) (by kernel_rfl) (by kernel_rfl) (fun _ _ _ h => h) (Or.inl ⟨by rfl, ?_⟩) (by assumption) ?_
  rotate_left
  · intro w hSw
    go_simp
    try with_reducible rfl
  simp only [Act.put, List.getElem_toArray, List.getElem_cons_zero, List.getElem_cons_succ, List.setIfInBounds_toArray, List.set_cons_zero, List.set_cons_succ]
  refine wpAnyH_take (i := 23) (v := ?_) rfl (by kernel_rfl) (by kernel_rfl) (by kernel_rfl) (fun _ _ _ h => h) (Or.inl ⟨by rfl, ?_⟩) (by assumption) ?_
  rotate_left
  · intro w hSw
    go_simp
    try with_reducible rfl
  simp only [Act.put, List.getElem_toArray, List.getElem_cons_zero, List.getElem_cons_succ, List.setIfInBounds_toArray, List.set_cons_zero, List.set_cons_succ]
  refine wpAnyH_take (i := 26) (v := ?_) rfl (by kernel_rfl) (by kernel_rfl) (by kernel_rfl) (fun _ _ _ h => h) (Or.inl ⟨by rfl, ?_⟩) (by assumption) ?_
  rotate_left
  · intro w hSw
    go_simp
    try with_reducible rfl
  simp only [Act.put, List.getElem_toArray, List.getElem_cons_zero, List.getElem_cons_succ, List.setIfInBounds_toArray, List.set_cons_zero, List.set_cons_succ]
  refine wpAnyH_take (i := 28) (v := ?_) rfl (by kernel_rfl) (by kernel_rfl) (by kernel_rfl) (fun _ _ _ h => h) (Or.inl ⟨by rfl, ?_⟩) (by assumption) ?_
  rotate_left
  · intro w hSw
    go_simp
    try with_reducible rfl
  simp only [Act.put, List.getElem_toArray, List.getElem_cons_zero, List.getElem_cons_succ, List.setIfInBounds_toArray, List.set_cons_zero, List.set_cons_succ]
  refine wpAnyH_ready (rs := [11]) (by kernel_rfl) (by simp) ?_
  refine AllReadyH.cons rfl (fun K hK => ?_) AllReadyH.nil
  go_simp
  refine (S1.out w.drew (HL.out.move (fun _ _ => rfl))).mono ?_
  rintro _ w9 ⟨rfl, h9⟩
  rw [h9]
  clear h9 w9
  refine hK.out _ _ ⟨c2, c3⟩ (fun hHeld2 => ?_)
  clear hK K hHeld
  have hHeld := hHeld2
  clear hHeld2
  try simp only [Act.put, List.getElem_toArray, List.getElem_cons_zero, List.getElem_cons_succ, List.setIfInBounds_toArray, List.set_cons_zero, List.set_cons_succ]
  refine wpAnyH_take (i := 16) (v := ?_) rfl (by kernel_rfl) (by kernel_rfl) (by kernel_rfl) (fun _ _ _ h => h) (Or.inl ⟨by rfl, ?_⟩) (by assumption) ?_
  rotate_left
  · intro w hSw
    go_simp
    try with_reducible rfl
  simp only [Act.put, List.getElem_toArray, List.getElem_cons_zero, List.getElem_cons_succ, List.setIfInBounds_toArray, List.set_cons_zero, List.set_cons_succ]
  refine wpAnyH_ready (rs := [18]) (by kernel_rfl) (by simp) ?_
  refine AllReadyH.cons rfl (fun K hK => ?_) AllReadyH.nil
  go_simp
  refine (S2.out w.drew (HR.out.move (fun _ _ => rfl))).mono ?_
  rintro _ w9 ⟨rfl, h9⟩
  rw [h9]
  clear h9 w9
  refine hK.out _ _ ⟨c2, c3⟩ (fun hHeld2 => ?_)
  clear hK K hHeld
  have hHeld := hHeld2
  clear hHeld2
  try simp only [Act.put, List.getElem_toArray, List.getElem_cons_zero, List.getElem_cons_succ, List.setIfInBounds_toArray, List.set_cons_zero, List.set_cons_succ]
  refine wpAnyH_take (i := 19) (v := ?_) rfl (by kernel_rfl) (by kernel_rfl) (by kernel_rfl) (fun _ _ _ h => h) (Or.inl ⟨by rfl, ?_⟩) (by assumption) ?_
  rotate_left
  · intro w hSw
    go_simp
    try with_reducible rfl
  simp only [Act.put, List.getElem_toArray, List.getElem_cons_zero, List.getElem_cons_succ, List.setIfInBounds_toArray, List.set_cons_zero, List.set_cons_succ]
  refine wpAnyH_ready (rs := [21]) (by kernel_rfl) (by simp) ?_
  refine AllReadyH.cons rfl (fun K hK => ?_) AllReadyH.nil
  go_simp
  refine (C1.out w.drew (HL.out.move (fun _ _ => rfl))).mono ?_
  rintro _ w9 ⟨rfl, h9⟩
  rw [h9]
  clear h9 w9
  refine hK.out _ _ ⟨c2, c3⟩ (fun hHeld2 => ?_)
  clear hK K hHeld
  have hHeld := hHeld2
  clear hHeld2
  try simp only [Act.put, List.getElem_toArray, List.getElem_cons_zero, List.getElem_cons_succ, List.setIfInBounds_toArray, List.set_cons_zero, List.set_cons_succ]
  refine wpAnyH_take (i := 22) (v := ?_) rfl (by kernel_rfl) (by kernel_rfl) (by kernel_rfl) (fun _ _ _ h => h) (Or.inl ⟨by rfl, ?_⟩) (by assumption) ?_
  rotate_left
  · intro w hSw
    go_simp
    try with_reducible rfl
  simp only [Act.put, List.getElem_toArray, List.getElem_cons_zero, List.getElem_cons_succ, List.setIfInBounds_toArray, List.set_cons_zero, List.set_cons_succ]
  refine wpAnyH_ready (rs := [24]) (by kernel_rfl) (by simp) ?_
  refine AllReadyH.cons rfl (fun K hK => ?_) AllReadyH.nil
  go_simp
  refine (C2.out w.drew (HR.out.move (fun _ _ => rfl))).mono ?_
  rintro _ w9 ⟨rfl, h9⟩
  rw [h9]
  clear h9 w9
  refine hK.out _ _ ⟨c2, c3⟩ (fun hHeld2 => ?_)
  clear hK K hHeld
  have hHeld := hHeld2
  clear hHeld2
  try simp only [Act.put, List.getElem_toArray, List.getElem_cons_zero, List.getElem_cons_succ, List.setIfInBounds_toArray, List.set_cons_zero, List.set_cons_succ]
  refine wpAnyH_take (i := 25) (v := ?_) rfl (by kernel_rfl) (by kernel_rfl) (by kernel_rfl) (fun _ _ _ h => h) (Or.inl ⟨by rfl, ?_⟩) (by assumption) ?_
  rotate_left
  · intro w hSw
    go_simp
    try with_reducible rfl
  simp only [Act.put, List.getElem_toArray, List.getElem_cons_zero, List.getElem_cons_succ, List.setIfInBounds_toArray, List.set_cons_zero, List.set_cons_succ]
  refine wpAnyH_ready (rs := [27]) (by kernel_rfl) (by simp) ?_
  refine AllReadyH.cons rfl (fun K hK => ?_) AllReadyH.nil
  go_simp
  refine (D1.out w.drew (HL.out.move (fun _ _ => rfl))).mono ?_
  rintro _ w9 ⟨rfl, h9⟩
  rw [h9]
  clear h9 w9
  refine hK.out _ _ ⟨c2, c3⟩ (fun hHeld2 => ?_)
  clear hK K hHeld
  have hHeld := hHeld2
  clear hHeld2
  try simp only [Act.put, List.getElem_toArray, List.getElem_cons_zero, List.getElem_cons_succ, List.setIfInBounds_toArray, List.set_cons_zero, List.set_cons_succ]
  refine wpAnyH_ready (rs := [29]) (by kernel_rfl) (by simp) ?_
  refine AllReadyH.cons rfl (fun K hK => ?_) AllReadyH.nil
  go_simp
  refine (D2.out w.drew (HR.out.move (fun _ _ => rfl))).mono ?_
  rintro _ w9 ⟨rfl, h9⟩
  rw [h9]
  clear h9 w9
  refine hK.out _ _ ⟨c2, c3⟩ (fun hHeld2 => ?_)
  clear hK K hHeld
  have hHeld := hHeld2
  clear hHeld2
  try simp only [Act.put, List.getElem_toArray, List.getElem_cons_zero, List.getElem_cons_succ, List.setIfInBounds_toArray, List.set_cons_zero, List.set_cons_succ]
  refine wpAnyH_take (i := 30) (v := ?_) rfl (by kernel_rfl) (by kernel_rfl) (by kernel_rfl) (fun _ _ _ h => h) (Or.inl ⟨by rfl, ?_⟩) (by assumption) ?_
  rotate_left
  · intro w hSw
    go_simp
    try with_reducible rfl
  simp only [Act.put, List.getElem_toArray, List.getElem_cons_zero, List.getElem_cons_succ, List.setIfInBounds_toArray, List.set_cons_zero, List.set_cons_succ]
  refine wpAnyH_take (i := 31) (v := ?_) rfl (by kernel_rfl) (by kernel_rfl) (by kernel_rfl) (fun _ _ _ h => h) (Or.inl ⟨by rfl, ?_⟩) (by assumption) ?_
  rotate_left
  · intro w hSw
    go_simp
    try with_reducible rfl
  simp only [Act.put, List.getElem_toArray, List.getElem_cons_zero, List.getElem_cons_succ, List.setIfInBounds_toArray, List.set_cons_zero, List.set_cons_succ]
  refine wpAnyH_take (i := 32) (v := ?_) rfl (by kernel_rfl) (by kernel_rfl) (by kernel_rfl) (fun _ _ _ h => h) (Or.inl ⟨by rfl, ?_⟩) (by assumption) ?_
  rotate_left
  · intro w hSw
    go_simp
    try with_reducible rfl
  simp only [Act.put, List.getElem_toArray, List.getElem_cons_zero, List.getElem_cons_succ, List.setIfInBounds_toArray, List.set_cons_zero, List.set_cons_succ]
  refine wpAnyH_ready (rs := [33]) (by kernel_rfl) (by simp) ?_
  refine AllReadyH.cons rfl (fun K hK => ?_) AllReadyH.nil
  go_simp
  refine hK.out _ _ ⟨pw_cell_below (below_alloc (Below.refl _ w) _) c2, pw_cell_below (below_alloc (Below.refl _ w) _) c3⟩ (fun hHeld2 => ?_)
  clear hK K hHeld
  try simp only [Act.put, List.getElem_toArray, List.getElem_cons_zero, List.getElem_cons_succ, List.setIfInBounds_toArray, List.set_cons_zero, List.set_cons_succ]
  refine wpAnyH_take (i := 34) (v := ?_) rfl (by kernel_rfl) (by kernel_rfl) (by kernel_rfl) (fun _ _ _ h => h) (Or.inl ⟨by rfl, ?_⟩) (by assumption) ?_
  rotate_left
  · intro w hSw
    go_simp
    try with_reducible rfl
  simp only [Act.put, List.getElem_toArray, List.getElem_cons_zero, List.getElem_cons_succ, List.setIfInBounds_toArray, List.set_cons_zero, List.set_cons_succ]
  refine wpAnyH_done (by kernel_rfl) ?_ _
  refine NoPanic.normal ?_
  go_wp2_with (fail)
  go_ret
  refine ⟨_, rfl, ⟨w.heap.size, _, _, rfl, ?_, HL.out.below ?_, HR.out.below ?_⟩, ?_⟩
  · rw [HE.out.1, HE.out.2.1, HE.out.2.2]
    exact heap_alloc_new w.drew _
  · exact below_drew (below_alloc (Below.refl _ w) _)
  · exact below_drew (below_alloc (Below.refl _ w) _)
  · exact below_drew (below_alloc (Below.refl _ w) _)
end Go.Proofs.Ytpchkligbfmeiaa.Se
