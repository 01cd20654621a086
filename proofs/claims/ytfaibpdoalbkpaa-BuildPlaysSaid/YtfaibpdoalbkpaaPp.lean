/- Events in pieces: plain; place. -/
import Derived.Test.YtfaibpdoalbkpaaAc
namespace Go.Proofs.Ytfaibpdoalbkpaa.Bu
open Go.RowKit Go.Proofs.YtfaibpdoalbkpaaW.PrintWords Go.Proofs.YtfaibpdoalbkpaaW.PrintLast Go.Proofs.YtfaibpdoalbkpaaW.PrintMore
attribute [local go_sem] max2_int min2_int max_two min_two max_three min_three max_four min_four
set_option linter.unusedVariables false
set_option linter.unusedSimpArgs false
/-- An event, its places counted from elsewhere. -/
def shD (d : Int) (e : Ev) : Ev := ⟨e.o, e.k, wrap64 (e.a + d), if e.o = 3 then wrap64 (e.t + d) else e.t⟩
theorem sound_pre {at_ : Int} : ∀ {l1 l2 : List Ev} {far op : Int}, soundB at_ far op (l1 ++ l2) = 0 → soundB at_ far op l1 = 0
  | [], _, _, _, _ => rfl
  | e :: r, l2, far, op, h => by
    rw [List.cons_append, soundB_cons] at h
    rw [soundB_cons]
    by_cases h1 : e.o < 1 ∨ 3 < e.o
    · rw [if_pos h1] at h; cases h
    rw [if_neg h1] at h ⊢
    by_cases h2 : Bad at_ far e.a
    · rw [if_pos h2] at h; cases h
    rw [if_neg h2] at h ⊢
    by_cases h3 : e.o = 3
    · rw [if_pos h3] at h ⊢
      by_cases h4 : Bad at_ (at_ + e.a) e.t
      · rw [if_pos h4] at h; cases h
      rw [if_neg h4] at h ⊢
      exact sound_pre h
    rw [if_neg h3] at h ⊢
    by_cases h5 : e.o = 1
    · rw [if_pos h5] at h ⊢
      exact sound_pre h
    rw [if_neg h5] at h ⊢
    by_cases h6 : op - 1 < 0
    · rw [if_pos h6] at h; cases h
    rw [if_neg h6] at h ⊢
    exact sound_pre h
theorem putB_cons (at_ : Int) (m : Bl) (e : Ev) (l : List Ev) : putB at_ m (e :: l) = putB at_ (stepB m (shE at_ e)) l := rfl
theorem putB_append (at_ : Int) (m : Bl) (a b : List Ev) : putB at_ m (a ++ b) = putB at_ (putB at_ m a) b := by simp [putB, List.foldl_append]
theorem sound_rest {at_ : Int} (ha : 0 ≤ at_ ∧ at_ ≤ 1048576) : ∀ {l1 l2 : List Ev} {m : Bl} {n : Nat}, WF m n → soundB at_ m.far ((m.O.length : Int) - 1) (l1 ++ l2) = 0 →
    WF (putB at_ m l1) (n + l1.length) ∧ soundB at_ (putB at_ m l1).far (((putB at_ m l1).O.length : Int) - 1) l2 = 0
  | [], _, _, _, hw, h => ⟨hw, h⟩
  | e :: r, l2, m, n, hw, h => by
    obtain ⟨_, hw', hs'⟩ := sound_step ha hw h
    have := sound_rest ha (l1 := r) (l2 := l2) hw' hs'
    rw [putB_cons, show n + (e :: r).length = n + 1 + r.length from by simp; omega]
    exact this
theorem stepB_eq {m : Bl} {e e' : Ev} (h1 : e'.o = e.o) (h2 : e'.k = e.k) (h3 : e'.a = e.a) (h4 : e.o ≠ 1 → e.o ≠ 2 → e'.t = e.t) : stepB m e' = stepB m e := by
  unfold stepB
  rw [h1]
  by_cases ho : e.o = 1
  · rw [if_pos ho, if_pos ho]
    simp [beginB, h2, h3]
  rw [if_neg ho, if_neg ho]
  by_cases ho2 : e.o = 2
  · rw [if_pos ho2, if_pos ho2]
    have hs : ∀ y, shutN e' y = shutN e y := fun y => by simp [shutN, h2, h3]
    have : shutN e' = shutN e := funext hs
    simp [endB, this, h3]
  rw [if_neg ho2, if_neg ho2]
  simp [leafB, h2, h3, h4 ho ho2]
theorem shift_step {at_ d : Int} {m : Bl} {e : Ev} (ha : 0 ≤ at_ ∧ at_ ≤ 1048576) (hd : 0 ≤ d ∧ d ≤ at_) (h2 : ¬ Bad at_ m.far e.a) (hf : 0 ≤ m.far) (ho : e.o = 1 ∨ e.o = 2 ∨ (e.o = 3 ∧ ¬ Bad at_ (at_ + e.a) e.t)) :
    stepB m (shE (at_ - d) (shD d e)) = stepB m (shE at_ e) := by
  have hb : 0 ≤ e.a ∧ at_ + e.a ≤ 1048576 ∧ m.far ≤ at_ + e.a := by unfold Bad at h2; omega
  have hw : wrap64 (e.a + d) = e.a + d := by rw [← i64_w]; exact IntWalk.i64_in _ (by omega)
  refine stepB_eq rfl rfl ?_ ?_
  · simp only [shE, shD, hw]
    congr 1
    omega
  · intro n1 n2
    rcases ho with ho | ho | ⟨ho, h4⟩
    · exact absurd ho n1
    · exact absurd ho n2
    · have hb2 : 0 ≤ e.t ∧ at_ + e.t ≤ 1048576 ∧ at_ + e.a ≤ at_ + e.t := by unfold Bad at h4; omega
      have hwt : wrap64 (e.t + d) = e.t + d := by rw [← i64_w]; exact IntWalk.i64_in _ (by omega)
      simp only [shE, shD, ho, if_true, hwt]
      congr 1
      omega
theorem shift_put {at_ d : Int} (ha : 0 ≤ at_ ∧ at_ ≤ 1048576) (hd : 0 ≤ d ∧ d ≤ at_) : ∀ {r : List Ev} {m : Bl} {n : Nat}, WF m n → soundB at_ m.far ((m.O.length : Int) - 1) r = 0 →
    soundB (at_ - d) m.far ((m.O.length : Int) - 1) (r.map (shD d)) = 0 ∧ putB (at_ - d) m (r.map (shD d)) = putB at_ m r
  | [], _, _, _, _ => ⟨rfl, rfl⟩
  | e :: r, m, n, hw, h => by
    have hmf := hw.f
    obtain ⟨_, hw', hs'⟩ := sound_step ha hw h
    have h0 := h
    rw [soundB_cons] at h
    by_cases h1 : e.o < 1 ∨ 3 < e.o
    · rw [if_pos h1] at h; cases h
    rw [if_neg h1] at h
    by_cases h2 : Bad at_ m.far e.a
    · rw [if_pos h2] at h; cases h
    rw [if_neg h2] at h
    have hb : 0 ≤ e.a ∧ at_ + e.a ≤ 1048576 ∧ m.far ≤ at_ + e.a := by unfold Bad at h2; omega
    have hwa : wrap64 (e.a + d) = e.a + d := by rw [← i64_w]; exact IntWalk.i64_in _ (by omega)
    have hwa2 : wrap64 (e.a + at_) = at_ + e.a := by rw [← i64_w, Int.add_comm]; exact IntWalk.i64_in _ (by omega)
    have hbad : ¬ Bad (at_ - d) m.far (wrap64 (e.a + d)) := by rw [hwa]; unfold Bad; omega
    have hst : at_ - d + wrap64 (e.a + d) = at_ + e.a := by rw [hwa]; omega
    rw [List.map_cons, soundB_cons, putB_cons, putB_cons]
    have ho' : (shD d e).o = e.o := rfl
    have ha' : (shD d e).a = wrap64 (e.a + d) := rfl
    rw [ho', ha', if_neg h1, if_neg hbad, hst]
    by_cases h3 : e.o = 3
    · rw [if_pos h3] at h ⊢
      by_cases h4 : Bad at_ (at_ + e.a) e.t
      · rw [if_pos h4] at h; cases h
      rw [if_neg h4] at h
      have hb2 : 0 ≤ e.t ∧ at_ + e.t ≤ 1048576 ∧ at_ + e.a ≤ at_ + e.t := by unfold Bad at h4; omega
      have hwt : wrap64 (e.t + d) = e.t + d := by rw [← i64_w]; exact IntWalk.i64_in _ (by omega)
      have hwt2 : wrap64 (e.t + at_) = at_ + e.t := by rw [← i64_w, Int.add_comm]; exact IntWalk.i64_in _ (by omega)
      have ht' : (shD d e).t = wrap64 (e.t + d) := by simp [shD, h3]
      have hbad2 : ¬ Bad (at_ - d) (at_ + e.a) (wrap64 (e.t + d)) := by rw [hwt]; unfold Bad; omega
      have hst2 : at_ - d + wrap64 (e.t + d) = at_ + e.t := by rw [hwt]; omega
      rw [ht', if_neg hbad2, hst2]
      have hstep := shift_step (m := m) (e := e) ha hd h2 hmf.1 (.inr (.inr ⟨h3, h4⟩))
      rw [hstep]
      have ih := shift_put ha hd (r := r) hw' hs'
      have hs : stepB m (shE at_ e) = leafB m (shE at_ e) := by simp [stepB, shE, h3]
      refine ⟨?_, ih.2⟩
      have h5 := ih.1
      rw [hs] at h5
      have lf : (leafB m (shE at_ e)).far = at_ + e.t := by simp [leafB, shE, hwt2]
      rw [lf, (len_leafB m (shE at_ e)).1] at h5
      exact h5
    · rw [if_neg h3] at h ⊢
      have hstep := shift_step (m := m) (e := e) ha hd h2 hmf.1 (by omega)
      rw [hstep]
      have ih := shift_put ha hd (r := r) hw' hs'
      refine ⟨?_, ih.2⟩
      have h5 := ih.1
      by_cases h6 : e.o = 1
      · rw [if_pos h6] at h ⊢
        have hs : stepB m (shE at_ e) = beginB m (shE at_ e) := by simp [stepB, shE, h6]
        rw [hs] at h5
        have lf : (beginB m (shE at_ e)).far = at_ + e.a := by simp [beginB, shE, hwa2]
        rw [lf, (len_beginB m (shE at_ e)).1, show ((m.O.length + 1 : Nat) : Int) - 1 = (m.O.length : Int) - 1 + 1 from by omega] at h5
        exact h5
      · rw [if_neg h6] at h ⊢
        by_cases h7 : (m.O.length : Int) - 1 - 1 < 0
        · rw [if_pos h7] at h; cases h
        rw [if_neg h7] at h ⊢
        have h8 : e.o = 2 := by omega
        have hs : stepB m (shE at_ e) = endB m (shE at_ e) := by simp [stepB, shE, h8]
        rw [hs] at h5
        have lf : (endB m (shE at_ e)).far = at_ + e.a := by simp [endB, shE, hwa2]
        rw [lf, (len_endB m (shE at_ e)).1, show ((m.O.length - 1 : Nat) : Int) - 1 = (m.O.length : Int) - 1 - 1 from by omega] at h5
        exact h5
theorem putE_in {m : Bl} {at_ : Int} {l : List Ev} (ha : 0 ≤ at_ ∧ at_ ≤ 1048576) : putE m at_ l = soundB at_ m.far ((m.O.length : Int) - 1) l := by unfold putE; rw [if_neg (by omega)]
/-- The law, plain. -/
theorem pieces {at_ d : Int} {l : List Ev} {m : Bl} {n k : Nat} (ha : 0 ≤ at_ ∧ at_ ≤ 1048576) (hd : 0 ≤ d ∧ d ≤ at_) (hw : WF m n) (h : putE m at_ l = 0) :
    putE m at_ (l.take k) = 0 ∧ WF (putB at_ m (l.take k)) (n + (l.take k).length) ∧ putE (putB at_ m (l.take k)) (at_ - d) ((l.drop k).map (shD d)) = 0 ∧ putB (at_ - d) (putB at_ m (l.take k)) ((l.drop k).map (shD d)) = putB at_ m l := by
  rw [putE_in ha] at h
  have h' := h
  rw [← List.take_append_drop k l] at h
  obtain ⟨hw', hs⟩ := sound_rest ha hw h
  obtain ⟨s1, s2⟩ := shift_put ha hd hw' hs
  refine ⟨by rw [putE_in ha]; exact sound_pre h, hw', by rw [putE_in (by omega)]; exact s1, ?_⟩
  rw [s2, ← putB_append, List.take_append_drop]
def PlP (n : Int) (e : Ending) : Prop := ∃ k : Nat, e = .returned (.int .i64 (k : Int)) ∧ (k : Int) < n
set_option maxRecDepth 100000 in
set_option maxHeartbeats 4000000 in
theorem place_c (a n : Int) (w : World) (hn : 0 < n ∧ n ≤ 1000000) : Calls Try.prog 19 #[.int .i64 a, .int .i64 n] w fun e w' => PlP n e ∧ w' = w := by
  have hn0 : ¬ (n = 0) := by omega
  have t1 : Int.tmod a n < n := Int.tmod_lt_of_pos a hn.1
  have t2 : - n < Int.tmod a n := by
    have := Int.tmod_lt_of_pos (-a) hn.1
    rw [Int.neg_tmod] at this
    omega
  obtain ⟨q, hq⟩ : ∃ q, Int.tmod a n = q := ⟨_, rfl⟩
  rw [hq] at t1 t2
  have hwq : IntKind.i64.wrap q = q := IntWalk.i64_in _ (by omega)
  have hwn : IntKind.i64.wrap (q + n) = q + n := IntWalk.i64_in _ (by omega)
  by_cases hneg : q < 0
  · have HF : Aside0 (PlP n (.returned (.int .i64 (q + n)))) := ⟨⟨(q + n).toNat, by rw [Int.toNat_of_nonneg (by omega)], by omega⟩⟩
    go_enter Try.func19, Try.ntmps19
    go_wp2_with (fail)
    go_ret
    exact ⟨HF.out, rfl⟩
  · have HF : Aside0 (PlP n (.returned (.int .i64 q))) := ⟨⟨q.toNat, by rw [Int.toNat_of_nonneg (by omega)], by omega⟩⟩
    go_enter Try.func19, Try.ntmps19
    go_wp2_with (fail)
    go_ret
    exact ⟨HF.out, rfl⟩
end Go.Proofs.Ytfaibpdoalbkpaa.Bu
