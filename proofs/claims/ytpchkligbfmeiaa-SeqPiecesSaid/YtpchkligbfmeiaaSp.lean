/- split: the first items of a tree, and the others; both: two trees put together. -/
import Derived.Test.YtpchkligbfmeiaaJo
namespace Go.Proofs.Ytpchkligbfmeiaa.Se
open Go.RowKit Go.Proofs.YtpchkligbfmeiaaW.PrintWords Go.Proofs.YtpchkligbfmeiaaW.PrintLast Go.Proofs.YtpchkligbfmeiaaW.PrintMore
attribute [local go_sem] max2_int min2_int max_two min_two max_three min_three max_four min_four
set_option linter.unusedVariables false
set_option linter.unusedSimpArgs false

/-- What is told: two trees of these items. -/
def Pair (w w' : World) (e : Ending) (a b : List (ByteArray × Int)) : Prop := ∃ t1 t2 v1 v2, e = .returned (.tuple #[v1, v2]) ∧ At w' t1 v1 ∧ At w' t2 v2 ∧ toL t1 = a ∧ toL t2 = b ∧ Below w.heap.size w w'

set_option maxRecDepth 100000 in
set_option maxHeartbeats 4000000 in
theorem split_node (l r : Tr) (it : ByteArray) (z : Int) (v : Value) (i : Int) (w : World)
    (ihl : ∀ (v : Value) (i : Int) (w : World), At w l v → 0 ≤ i → i ≤ 8388608 → FitL (toL l) → Calls Try.prog 18 #[v, .int .i64 i] w fun e w' => Pair w w' e ((toL l).take i.toNat) ((toL l).drop i.toNat))
    (ihr : ∀ (v : Value) (i : Int) (w : World), At w r v → 0 ≤ i → i ≤ 8388608 → FitL (toL r) → Calls Try.prog 18 #[v, .int .i64 i] w fun e w' => Pair w w' e ((toL r).take i.toNat) ((toL r).drop i.toNat))
    (h : At w (.node l it z r) v) (h0 : 0 ≤ i) (h8 : i ≤ 8388608) (hf : FitL (toL (.node l it z r))) :
    Calls Try.prog 18 #[v, .int .i64 i] w fun e w' => Pair w w' e ((toL (.node l it z r)).take i.toNat) ((toL (.node l it z r)).drop i.toNat) := by
  have HT := Aside0.mk h
  have HF := Aside0.mk hf
  obtain ⟨b, v1, v2, rfl, hb, hx1, hx2⟩ := h
  have d0 : w.cell? ⟨b, 0, none⟩ = some v1 := cell_of_row _ _ _ _ _ _ hb
  have d1 : w.cell? ⟨b, 1, none⟩ = some v2 := cell_of_row _ _ _ _ _ _ hb
  obtain ⟨q1, rfl⟩ := hx1.ptr
  obtain ⟨q2, rfl⟩ := hx2.ptr
  have H1 := Aside0.mk hx1
  have H2 := Aside0.mk hx2
  have hcl := cntT_pos l
  have hcl8 : cntT l ≤ 8388608 := by rw [cntT_toL]; have := hf.n; simp only [toL, List.length_append] at this; omega
  have hc := fun w' h => count_c l (.pointer q1) w' h
  obtain ⟨k, ek⟩ : ∃ x, cntT l = x := ⟨_, rfl⟩
  rw [ek] at hc hcl hcl8
  have C1 := Aside0.mk hc
  have EK : Aside0 (k = ((toL l).length : Int)) := ⟨by rw [← ek, cntT_toL]⟩
  have FL : Aside0 (FitL (toL l)) := ⟨by have h := hf; simp only [toL] at h; exact FitL.part (a := []) (c := (it, z) :: toL r) (by simpa using h)⟩
  have FR : Aside0 (FitL (toL r)) := ⟨by have h := hf; simp only [toL] at h; exact FitL.part (a := toL l ++ [(it, z)]) (c := []) (by simpa using h)⟩
  have IL := Aside0.mk ihl
  have IR := Aside0.mk ihr
  clear hb hx1 hx2 hc ek hf ihl ihr
  go_enter Try.func18, Try.ntmps18
  by_cases hik : i ≤ k
  · go_upto_region 5 with (refine (C1.out w H1.out).mono ?_; rintro _ w9 ⟨rfl, h9⟩; rw [h9]; clear h9 w9)
    go_wp2_with (refine (IL.out (.pointer q1) i w H1.out h0 h8 FL.out).mono ?_)
    rintro _ w5 ⟨t1, t2, u1, u2, rfl, g1, g2, e1, e2, hb5⟩
    have c1 := pw_cell_below hb5 d1
    have G1 := Aside0.mk g1
    have HJ := fun (hf : FitL (toL t2 ++ (it, z) :: toL r)) => join_c t2 r it z u2 (.pointer (some ⟨b, 0, none⟩)) (.pointer q2) w5 g2 (HT.out.mid.below hb5) (H2.out.below hb5) hf
    have hfit : FitL (toL t2 ++ (it, z) :: toL r) := by
      have h := HF.out
      simp only [toL] at h
      rw [e2]
      refine FitL.part (a := (toL l).take i.toNat) (c := []) ?_
      rw [List.append_nil, ← List.append_assoc, List.take_append_drop]
      exact h
    have HJ2 := Aside0.mk (HJ hfit)
    have HB5 := Aside0.mk hb5
    have E1 := Aside0.mk e1
    have E2 := Aside0.mk e2
    clear g1 g2 e1 e2 hb5 HJ hfit d0 d1
    go_wp2_with (refine HJ2.out.mono ?_)
    rintro _ w6 ⟨t6, u6, rfl, g6, e6, hb6⟩
    have hfin : Aside0 (Pair w w6 (.returned (.tuple #[u1, u6])) ((toL (.node l it z r)).take i.toNat) ((toL (.node l it z r)).drop i.toNat)) := ⟨⟨t1, t6, u1, u6, rfl, G1.out.below hb6, g6, by
      rw [E1.out]
      simp only [toL]
      rw [List.take_append_of_le_length (by have := EK.out; omega)], by
      rw [e6, E2.out]
      simp only [toL]
      rw [List.drop_append_of_le_length (by have := EK.out; omega)], HB5.out.trans (hb6.mono HB5.out.size)⟩⟩
    clear g6 e6 hb6
    go_wp2_with (fail)
    go_ret2
    exact hfin.out
  · have hw1 : IntKind.i64.wrap (i - k) = i - k := IntWalk.i64_in _ (by omega)
    have hw2 : IntKind.i64.wrap (i - k - 1) = i - k - 1 := IntWalk.i64_in _ (by omega)
    have i0 : 0 ≤ i - k - 1 := by omega
    have i8 : i - k - 1 ≤ 8388608 := by omega
    go_upto_region 7 with (refine (C1.out w H1.out).mono ?_; rintro _ w9 ⟨rfl, h9⟩; rw [h9]; clear h9 w9)
    go_wp2_with (refine (IR.out (.pointer q2) (i - k - 1) w H2.out i0 i8 FR.out).mono ?_)
    rintro _ w5 ⟨t1, t2, u1, u2, rfl, g1, g2, e1, e2, hb5⟩
    have c0 := pw_cell_below hb5 d0
    have G2 := Aside0.mk g2
    have hfit : FitL (toL l ++ (it, z) :: toL t1) := by
      have h := HF.out
      simp only [toL] at h
      rw [e1]
      refine FitL.part (a := []) (c := (toL r).drop (i - k - 1).toNat) ?_
      rw [List.nil_append, List.append_assoc, List.cons_append, List.take_append_drop]
      exact h
    have HJ2 := Aside0.mk (join_c l t1 it z (.pointer q1) (.pointer (some ⟨b, 0, none⟩)) u1 w5 (H1.out.below hb5) (HT.out.mid.below hb5) g1 hfit)
    have HB5 := Aside0.mk hb5
    have E1 := Aside0.mk e1
    have E2 := Aside0.mk e2
    clear g1 g2 e1 e2 hb5 hfit d0 d1
    go_wp2_with (refine HJ2.out.mono ?_)
    rintro _ w6 ⟨t6, u6, rfl, g6, e6, hb6⟩
    have hn : i.toNat = (toL l).length + ((i - k - 1).toNat + 1) := by have := EK.out; omega
    have hfin : Aside0 (Pair w w6 (.returned (.tuple #[u6, u2])) ((toL (.node l it z r)).take i.toNat) ((toL (.node l it z r)).drop i.toNat)) := ⟨⟨t6, t2, u6, u2, rfl, g6, G2.out.below hb6, by
      rw [e6, E1.out, hn]
      simp only [toL]
      rw [List.take_length_add_append, List.take_succ_cons], by
      rw [E2.out, hn]
      simp only [toL]
      rw [List.drop_length_add_append, List.drop_succ_cons], HB5.out.trans (hb6.mono HB5.out.size)⟩⟩
    clear g6 e6 hb6 hn
    go_wp2_with (fail)
    go_ret2
    exact hfin.out

theorem split_c : ∀ (t : Tr) (v : Value) (i : Int) (w : World), At w t v → 0 ≤ i → i ≤ 8388608 → FitL (toL t) → Calls Try.prog 18 #[v, .int .i64 i] w fun e w' => Pair w w' e ((toL t).take i.toNat) ((toL t).drop i.toNat)
  | .nil, v, i, w, h, h0, h8, hf => by
    subst h
    have hfin : Aside0 (Pair w w (.returned (.tuple #[.pointer none, .pointer none])) ((toL .nil).take i.toNat) ((toL .nil).drop i.toNat)) := ⟨⟨.nil, .nil, _, _, rfl, rfl, rfl, by simp [toL], by simp [toL], Below.refl _ _⟩⟩
    go_enter Try.func18, Try.ntmps18
    go_wp2_with (fail)
    go_ret2
    exact hfin.out
  | .node l it z r, v, i, w, h, h0, h8, hf => split_node l r it z v i w (fun v i w => split_c l v i w) (fun v i w => split_c r v i w) h h0 h8 hf

set_option maxRecDepth 100000 in
set_option maxHeartbeats 4000000 in
theorem both_c (l r : Tr) (vl vr : Value) (w : World) (hl : At w l vl) (hr : At w r vr) (hf : FitL (toL l ++ toL r)) : Calls Try.prog 20 #[vl, vr] w fun e w' => Row w w' e (toL l ++ toL r) := by
  obtain ⟨a1, rfl⟩ := hl.ptr
  cases r with
  | nil =>
    subst hr
    have hfin : Aside0 (Row w w (.returned (.pointer a1)) (toL l ++ toL .nil)) := ⟨⟨l, _, rfl, hl, by simp [toL], Below.refl _ _⟩⟩
    clear hl
    go_enter Try.func20, Try.ntmps20
    go_wp2_with (fail)
    go_ret
    exact hfin.out
  | node rl ri rz rr =>
    have HL := Aside0.mk hl
    have HR := Aside0.mk hr
    have HF := Aside0.mk hf
    have FR : Aside0 (FitL (toL (.node rl ri rz rr))) := ⟨FitL.part (a := toL l) (c := []) (by simpa using hf)⟩
    obtain ⟨a2, rfl⟩ : ∃ b, vr = .pointer (some ⟨b, 0, none⟩) := by obtain ⟨b, _, _, h, _⟩ := hr; exact ⟨b, h⟩
    clear hl hr hf
    go_enter Try.func20, Try.ntmps20
    go_wp2_with (refine (split_c (.node rl ri rz rr) (.pointer (some ⟨a2, 0, none⟩)) 1 w HR.out (by omega) (by omega) FR.out).mono ?_)
    rintro _ w5 ⟨t1, t2, u1, u2, rfl, g1, g2, e1, e2, hb5⟩
    obtain ⟨x, rest, hx⟩ : ∃ x rest, toL (.node rl ri rz rr) = x :: rest := by
      cases hq : toL (.node rl ri rz rr) with
      | nil => simp [toL] at hq
      | cons x rest => exact ⟨x, rest, rfl⟩
    rw [hx] at e1 e2
    have e1' : toL t1 = [x] := by rw [e1]; rfl
    have e2' : toL t2 = rest := by rw [e2]; rfl
    have hmid : Mid w5 x.1 x.2 u1 := by
      cases t1 with
      | nil => simp [toL] at e1'
      | node p q s o =>
        have h3 : toL p = [] ∧ (q, s) = x := by
          simp only [toL] at e1'
          cases hp : toL p with
          | nil => rw [hp] at e1'; simp at e1'; exact ⟨rfl, e1'.1⟩
          | cons y ys => rw [hp] at e1'; simp at e1'
        rw [← h3.2]
        exact g1.mid
    have HJ2 := Aside0.mk (join_c l t2 x.1 x.2 (.pointer a1) u1 u2 w5 (HL.out.below hb5) hmid g2 (by have h := HF.out; rw [hx] at h; rw [e2']; exact h))
    have HB5 := Aside0.mk hb5
    have E := Aside0.mk hx
    have E2 := Aside0.mk e2'
    clear g1 g2 e1 e2 e1' e2' hmid hx hb5
    go_wp2_with (refine HJ2.out.mono ?_)
    rintro _ w6 ⟨t6, u6, rfl, g6, e6, hb6⟩
    have hfin : Aside0 (Row w w6 (.returned u6) (toL l ++ toL (.node rl ri rz rr))) := ⟨⟨t6, u6, rfl, g6, by rw [e6, E.out, E2.out], HB5.out.trans (hb6.mono HB5.out.size)⟩⟩
    clear g6 e6 hb6
    go_wp2_with (fail)
    go_ret
    exact hfin.out
end Go.Proofs.Ytpchkligbfmeiaa.Se
