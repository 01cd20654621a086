/- The reference's one. -/
import Derived.Test.YtfaibpdoalbkpaaRo
namespace Go.Proofs.Ytfaibpdoalbkpaa.Bu
open Go.RowKit Go.Proofs.YtfaibpdoalbkpaaW.PrintWords Go.Proofs.YtfaibpdoalbkpaaW.PrintLast Go.Proofs.YtfaibpdoalbkpaaW.PrintMore
attribute [local go_sem] max2_int min2_int max_two min_two max_three min_three max_four min_four
set_option linter.unusedVariables false
set_option linter.unusedSimpArgs false
/-- What one tells. -/
def ROneP (w : World) (fp : Nat → Prop) (b : Nat) (m : Bl) (at_ : Int) (x : Ev) (e : Ending) (w' : World) : Prop :=
  e = .returned (.int .i64 (oneE at_ m.far ((m.O.length : Int) - 1) x)) ∧ (oneE at_ m.far ((m.O.length : Int) - 1) x = 0 → ∃ vL vO, RT w' (more fp w.heap.size) b (stepB m (shE at_ x)) vL vO) ∧ Fr fp w w'
theorem ROneP.bad {w w' : World} {fp : Nat → Prop} {b : Nat} {m : Bl} {at_ : Int} {x : Ev} {r : Int} (h : oneE at_ m.far ((m.O.length : Int) - 1) x = r) (hr : r ≠ 0) (hb : Below w.heap.size w w') : ROneP w fp b m at_ x (.returned (.int .i64 r)) w' :=
  ⟨by rw [h], fun h0 => absurd (h.symm.trans h0) hr, Fr.of_below hb⟩
theorem oneE_cons {at_ far op : Int} {e : Ev} : oneE at_ far op e = (if e.o < 1 ∨ 3 < e.o then 1
    else if Bad at_ far e.a then 70
    else if e.o = 3 then (if Bad at_ (at_ + e.a) e.t then 70 else 0)
    else if e.o = 1 then 0
    else if op - 1 < 0 then 71 else 0) := rfl
set_option maxRecDepth 100000 in
set_option maxHeartbeats 8000000 in
theorem rone_bad (b : Nat) (m : Bl) (vL vO : Value) (x : Ev) (at_ : Int) (w : World) (fp : Nat → Prop) (n0 : Nat) (h0 : RT w fp b m vL vO) (hwf : WF m n0) (ha : 0 ≤ at_ ∧ at_ ≤ 1048576) (hbad : x.o < 1 ∨ 3 < x.o ∨ Bad at_ m.far x.a) :
    Calls Try.prog 23 #[pv b, .agg (evc x), .int .i64 at_] w fun e w' => ROneP w fp b m at_ x e w' := by
  have h1 := h0.bound
  obtain ⟨W, hW⟩ : ∃ W, w.alloc (.cells (evc x) 41) = W := ⟨_, rfl⟩
  have hbw : Below w.heap.size w W := by rw [← hW]; exact below_alloc (Below.refl _ w) _
  have hsz : W.heap.size = w.heap.size + 1 := by rw [← hW]; simp
  have rE : W.heap[w.heap.size]? = some (.cells (evc x) 41 (0, 0)) := by rw [← hW]; exact heap_alloc_new _ _
  have e0 : W.cell? ⟨w.heap.size, 0, none⟩ = some (.int .u8 x.o) := cell_of_row _ _ _ _ _ _ rE
  have e1 : W.cell? ⟨w.heap.size, 1, none⟩ = some (.int .u8 x.k) := cell_of_row _ _ _ _ _ _ rE
  have e2 : W.cell? ⟨w.heap.size, 2, none⟩ = some (.int .i64 x.a) := cell_of_row _ _ _ _ _ _ rE
  have e3 : W.cell? ⟨w.heap.size, 3, none⟩ = some (.int .i64 x.t) := cell_of_row _ _ _ _ _ _ rE
  have hT := h1.below hbw
  have gF := hT.cF
  have HT := Aside0.mk hT
  have HBW := Aside0.mk hbw
  have HRE := Aside0.mk rE
  have HWF := Aside0.mk hwf
  have hfar := hwf.f
  clear h0 h1 hT rE hbw hwf
  by_cases ho : x.o < 1 ∨ 3 < x.o
  · have HF := Aside0.mk (ROneP.bad (w := w) (w' := W) (fp := fp) (b := b) (m := m) (at_ := at_) (x := x) (r := 1) (by rw [oneE_cons, if_pos ho]) (by decide) HBW.out)
    have n1 : ¬ x.o = 1 := by omega
    have n2 : ¬ x.o = 2 := by omega
    have n3 : ¬ x.o = 3 := by omega
    have b1 : (x.o == 1) = false := beq_eq_false_iff_ne.mpr (by omega)
    have b2 : (x.o == 2) = false := beq_eq_false_iff_ne.mpr (by omega)
    have b3 : (x.o == 3) = false := beq_eq_false_iff_ne.mpr (by omega)
    have m1 : (x.o != 1) = true := by simp [bne, b1]
    have m2 : (x.o != 2) = true := by simp [bne, b2]
    have m3 : (x.o != 3) = true := by simp [bne, b3]
    clear hbad ho e1 e2 e3 gF b1 b2 b3 n1 n2 n3
    go_enter Try.func23, Try.ntmps23
    go_wp2_with (fail)
    go_ret
    exact HF.out
  · have hba : Bad at_ m.far x.a := by rcases hbad with h | h | h; exact absurd (.inl h) ho; exact absurd (.inr h) ho; exact h
    have HBA := Aside0.mk hba
    have HF := Aside0.mk (ROneP.bad (w := w) (w' := W) (fp := fp) (b := b) (m := m) (at_ := at_) (x := x) (r := 70) (by rw [oneE_cons, if_neg ho, if_pos hba]) (by decide) HBW.out)
    have HPL := Aside0.mk (rplace_c b x.a at_ m.far W gF ha hfar)
    have hoo : x.o = 1 ∨ x.o = 2 ∨ x.o = 3 := by omega
    clear hbad ho hba e1 e3
    obtain ⟨xo, hxo⟩ : ∃ q, x.o = q := ⟨_, rfl⟩
    rw [hxo] at e0 hoo
    go_enter Try.func23, Try.ntmps23
    rcases hoo with rfl | rfl | rfl
    all_goals
      go_wp2_with (refine HPL.out.mono ?_)
    all_goals
      rintro _ w1 ⟨(⟨_, rfl⟩ | ⟨hn, _⟩), rfl⟩
      rotate_left
      · exact absurd HBA.out hn
      go_wp2_with (fail)
      go_ret
      exact HF.out
set_option maxRecDepth 100000 in
set_option maxHeartbeats 8000000 in
theorem rone_71 (b : Nat) (m : Bl) (vL vO : Value) (x : Ev) (at_ : Int) (w : World) (fp : Nat → Prop) (n0 : Nat) (h0 : RT w fp b m vL vO) (hwf : WF m n0) (ha : 0 ≤ at_ ∧ at_ ≤ 1048576) (ho : x.o = 2) (hnb : ¬ Bad at_ m.far x.a) (hO : m.O.length = 1) :
    Calls Try.prog 23 #[pv b, .agg (evc x), .int .i64 at_] w fun e w' => ROneP w fp b m at_ x e w' := by
  have h1 := h0.bound
  obtain ⟨W, hW⟩ : ∃ W, w.alloc (.cells (evc x) 41) = W := ⟨_, rfl⟩
  have hbw : Below w.heap.size w W := by rw [← hW]; exact below_alloc (Below.refl _ w) _
  have hsz : W.heap.size = w.heap.size + 1 := by rw [← hW]; simp
  have rE : W.heap[w.heap.size]? = some (.cells (evc x) 41 (0, 0)) := by rw [← hW]; exact heap_alloc_new _ _
  have e0 : W.cell? ⟨w.heap.size, 0, none⟩ = some (.int .u8 x.o) := cell_of_row _ _ _ _ _ _ rE
  have e1 : W.cell? ⟨w.heap.size, 1, none⟩ = some (.int .u8 x.k) := cell_of_row _ _ _ _ _ _ rE
  have e2 : W.cell? ⟨w.heap.size, 2, none⟩ = some (.int .i64 x.a) := cell_of_row _ _ _ _ _ _ rE
  have e3 : W.cell? ⟨w.heap.size, 3, none⟩ = some (.int .i64 x.t) := cell_of_row _ _ _ _ _ _ rE
  have hT := h1.below hbw
  have gF := hT.cF
  have HT := Aside0.mk hT
  have HBW := Aside0.mk hbw
  have HRE := Aside0.mk rE
  have HWF := Aside0.mk hwf
  have hfar := hwf.f
  clear h0 h1 hT rE hbw hwf
  have HF := Aside0.mk (ROneP.bad (w := w) (w' := W) (fp := fp) (b := b) (m := m) (at_ := at_) (x := x) (r := 71) (by rw [oneE_cons, if_neg (by omega), if_neg hnb, if_neg (by omega), if_neg (by omega), if_pos (by omega)]) (by decide) HBW.out)
  have HPL := Aside0.mk (rplace_c b x.a at_ m.far W gF ha hfar)
  have HNB := Aside0.mk hnb
  have gO := HT.out.cO
  obtain ⟨AO, cO, hvO, _, _⟩ := Kd.R_reads HT.out.rO
  rw [hO] at hvO
  rw [hvO] at gO
  rw [ho] at e0
  clear hnb e1 e3 hvO ho
  go_enter Try.func23, Try.ntmps23
  go_wp2_with (refine HPL.out.mono ?_)
  rintro _ w1 ⟨(⟨hb, _⟩ | ⟨hn, rfl⟩), rfl⟩
  · exact absurd hb HNB.out
  go_wp2_with (fail)
  go_ret
  exact HF.out
set_option maxRecDepth 100000 in
set_option maxHeartbeats 8000000 in
theorem rone_leaf70 (b : Nat) (m : Bl) (vL vO : Value) (x : Ev) (at_ : Int) (w : World) (fp : Nat → Prop) (n0 : Nat) (h0 : RT w fp b m vL vO) (hwf : WF m n0) (ha : 0 ≤ at_ ∧ at_ ≤ 1048576) (ho : x.o = 3) (hnb : ¬ Bad at_ m.far x.a) (hbt : Bad at_ (at_ + x.a) x.t) :
    Calls Try.prog 23 #[pv b, .agg (evc x), .int .i64 at_] w fun e w' => ROneP w fp b m at_ x e w' := by
  have h1 := h0.bound
  obtain ⟨W, hW⟩ : ∃ W, w.alloc (.cells (evc x) 41) = W := ⟨_, rfl⟩
  have hbw : Below w.heap.size w W := by rw [← hW]; exact below_alloc (Below.refl _ w) _
  have hsz : W.heap.size = w.heap.size + 1 := by rw [← hW]; simp
  have rE : W.heap[w.heap.size]? = some (.cells (evc x) 41 (0, 0)) := by rw [← hW]; exact heap_alloc_new _ _
  have e0 : W.cell? ⟨w.heap.size, 0, none⟩ = some (.int .u8 x.o) := cell_of_row _ _ _ _ _ _ rE
  have e1 : W.cell? ⟨w.heap.size, 1, none⟩ = some (.int .u8 x.k) := cell_of_row _ _ _ _ _ _ rE
  have e2 : W.cell? ⟨w.heap.size, 2, none⟩ = some (.int .i64 x.a) := cell_of_row _ _ _ _ _ _ rE
  have e3 : W.cell? ⟨w.heap.size, 3, none⟩ = some (.int .i64 x.t) := cell_of_row _ _ _ _ _ _ rE
  have hT := h1.below hbw
  have gF := hT.cF
  have HT := Aside0.mk hT
  have HBW := Aside0.mk hbw
  have HRE := Aside0.mk rE
  have HWF := Aside0.mk hwf
  have hfar := hwf.f
  clear h0 h1 hT rE hbw hwf
  have HF := Aside0.mk (ROneP.bad (w := w) (w' := W) (fp := fp) (b := b) (m := m) (at_ := at_) (x := x) (r := 70) (by rw [oneE_cons, if_neg (by omega), if_neg hnb, if_pos (by omega), if_pos hbt]) (by decide) HBW.out)
  have HPL := Aside0.mk (rplace_c b x.a at_ m.far W gF ha hfar)
  have HPT := Aside0.mk (rplace_c b x.t at_ m.far W gF ha hfar)
  have HNB := Aside0.mk hnb
  have HBT := Aside0.mk hbt
  rw [ho] at e0
  clear hnb e1 ho hbt
  go_enter Try.func23, Try.ntmps23
  go_wp2_with (first | (refine HPL.out.mono ?_) | (refine HPT.out.mono ?_))
  rintro _ w1 ⟨(⟨hb, _⟩ | ⟨hn, rfl⟩), rfl⟩
  · exact absurd hb HNB.out
  go_wp2_with (first | (refine HPT.out.mono ?_))
  rintro _ w2 ⟨(⟨hb, rfl⟩ | ⟨hn2, rfl⟩), rfl⟩
  · go_wp2_with (fail)
    go_ret
    exact HF.out
  · have hlt : at_ + x.t < at_ + x.a := by have h := HBT.out; unfold Bad at h hn2; omega
    go_wp2_with (fail)
    go_ret
    exact HF.out
end Go.Proofs.Ytfaibpdoalbkpaa.Bu
