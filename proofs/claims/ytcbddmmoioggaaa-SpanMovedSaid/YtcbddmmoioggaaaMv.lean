/- Where a place goes: edit.Move and the document's. -/
import Derived.Test.YtcbddmmoioggaaaPm
import Derived.Test.YtcbddmmoioggaaaAr
namespace Go.Proofs.Ytcbddmmoioggaaa.Sp
open Go.RowKit Go.Shelf Go.Proofs.YtcbddmmoioggaaaW.PrintWords Go.Proofs.YtcbddmmoioggaaaW.PrintLast Go.Proofs.YtcbddmmoioggaaaW.PrintMore
attribute [local go_sem] max2_int min2_int max_two min_two max_three min_three max_four min_four
set_option linter.unusedVariables false
set_option linter.unusedSimpArgs false
abbrev edc (e : Ed) : Array Value := #[.int .i64 e.p, .int .i64 e.d, .string e.s]
def odd (x : Int) : Bool := decide (x < 0) || decide (1048576 < x)
theorem odd_ok {x : Int} (h : 0 ≤ x ∧ x ≤ 1048576) : odd x = false := by unfold odd; simp; omega
set_option maxRecDepth 100000 in
set_option maxHeartbeats 4000000 in
theorem odd34_c (x : Int) (w : World) : Calls Try.prog 34 #[.int .i64 x] w fun e w' => e = .returned (.bool (odd x)) ∧ w' = w := by
  by_cases h0 : x < 0
  · have hc : odd x = true := by unfold odd; simp [h0]
    rw [hc]
    clear hc
    go_enter Try.func34, Try.ntmps34
    go_wp2_with (fail)
    go_ret
    exact ⟨rfl, rfl⟩
  by_cases h1 : (1048576 : Int) < x
  · have hc : odd x = true := by unfold odd; simp [h1]
    rw [hc]
    clear hc
    go_enter Try.func34, Try.ntmps34
    go_wp2_with (fail)
    go_ret
    exact ⟨rfl, rfl⟩
  · rw [odd_ok (by omega)]
    go_enter Try.func34, Try.ntmps34
    go_wp2_with (fail)
    go_ret
    exact ⟨rfl, rfl⟩
set_option maxRecDepth 100000 in
set_option maxHeartbeats 4000000 in
theorem odd36_c (x : Int) (w : World) : Calls Try.prog 36 #[.int .i64 x] w fun e w' => e = .returned (.bool (odd x)) ∧ w' = w := by
  by_cases h0 : x < 0
  · have hc : odd x = true := by unfold odd; simp [h0]
    rw [hc]
    clear hc
    go_enter Try.func36, Try.ntmps36
    go_wp2_with (fail)
    go_ret
    exact ⟨rfl, rfl⟩
  by_cases h1 : (1048576 : Int) < x
  · have hc : odd x = true := by unfold odd; simp [h1]
    rw [hc]
    clear hc
    go_enter Try.func36, Try.ntmps36
    go_wp2_with (fail)
    go_ret
    exact ⟨rfl, rfl⟩
  · rw [odd_ok (by omega)]
    go_enter Try.func36, Try.ntmps36
    go_wp2_with (fail)
    go_ret
    exact ⟨rfl, rfl⟩
/-- A box with an edit in it. -/
structure Bx (w : World) (b : Nat) (e : Ed) : Prop where
  p : w.cell? ⟨b, 0, none⟩ = some (.int .i64 e.p)
  d : w.cell? ⟨b, 1, none⟩ = some (.int .i64 e.d)
  s : w.cell? ⟨b, 2, none⟩ = some (.string e.s)
theorem Bx.of {w : World} {e : Ed} : Bx (w.alloc (.cells (edc e) 35)) w.heap.size e := by
  have hx : (w.alloc (.cells (edc e) 35)).heap[w.heap.size]? = some (.cells (edc e) 35 (0, 0)) := heap_alloc_new _ _
  exact ⟨cell_of_row _ _ _ _ _ _ hx, cell_of_row _ _ _ _ _ _ hx, cell_of_row _ _ _ _ _ _ hx⟩
theorem Bx.keep {w w' : World} {b : Nat} {e : Ed} {n : Nat} (h : Bx w b e) (hb : Below n w w') (hl : b < n) : Bx w' b e := by
  have k : ∀ i v, w.cell? ⟨b, i, none⟩ = some v → w'.cell? ⟨b, i, none⟩ = some v := fun i v hv => by
    unfold World.cell? at hv ⊢
    rw [show w'.heap[b]? = w.heap[b]? from hb.block b hl]
    exact hv
  exact ⟨k _ _ h.p, k _ _ h.d, k _ _ h.s⟩
def IntP (w : World) (x : Int) (e : Ending) (w' : World) : Prop := e = .returned (.int .i64 x) ∧ Below w.heap.size w w'
set_option maxRecDepth 100000 in
set_option maxHeartbeats 4000000 in
theorem mv24_c (e : Ed) (x : Int) (w : World) (ok : Ok e) (h0 : 0 ≤ x) (h1 : x ≤ 1099511627776) : Calls Try.prog 24 #[.agg (edc e), .int .i64 x] w fun en w' => IntP w (mv e x) en w' := by
  obtain ⟨wx, hwx⟩ : ∃ q, w.alloc (.cells (edc e) 35) = q := ⟨_, rfl⟩
  obtain ⟨b, hb⟩ : ∃ q, w.heap.size = q := ⟨_, rfl⟩
  have hx : Bx wx b e := by rw [← hwx, ← hb]; exact Bx.of
  have hbx : Below w.heap.size w wx := by rw [← hwx]; exact below_alloc (Below.refl _ w) _
  obtain ⟨e0, e1, e2⟩ := hx
  have HBX := Aside0.mk hbx
  have okp := ok.p
  have okd := ok.d
  have oki := ok.i
  have hi : ((e.s.size : Nat) : Int) = e.i := rfl
  have HI := Aside0.mk hi
  have HO1 := Aside0.mk (odd_ok okp)
  have HO2 := Aside0.mk (odd_ok okd)
  have HO3 : Aside0 (odd ((e.s.size : Nat) : Int) = false) := ⟨odd_ok (by rw [hi]; exact oki)⟩
  have HM : Aside0 (mv e x = if x < e.p then x else if x < e.p + e.d then e.p + e.i else x - e.d + e.i) := ⟨rfl⟩
  have q0 : ¬ e.p < 0 := by omega
  have q1 : ¬ (1048576 : Int) < e.p := by omega
  have q2 : ¬ e.d < 0 := by omega
  have q3 : ¬ (1048576 : Int) < e.d := by omega
  have q4 : ¬ (1048576 : Int) < ((e.s.size : Nat) : Int) := by rw [hi]; omega
  have q5 : ¬ x < 0 := by omega
  have q6 : ¬ (1099511627776 : Int) < x := by omega
  have w1 : IntKind.i64.wrap (e.p + e.d) = e.p + e.d := IntWalk.i64_in _ (by omega)
  have w2 : IntKind.i64.wrap (e.p + ((e.s.size : Nat) : Int)) = e.p + ((e.s.size : Nat) : Int) := IntWalk.i64_in _ (by rw [hi]; omega)
  have w3 : IntKind.i64.wrap (x - e.d) = x - e.d := IntWalk.i64_in _ (by omega)
  have w4 : IntKind.i64.wrap (x - e.d + ((e.s.size : Nat) : Int)) = x - e.d + ((e.s.size : Nat) : Int) := IntWalk.i64_in _ (by rw [hi]; omega)
  clear ok hbx okp okd oki hi h0 h1
  by_cases c1 : x < e.p
  · have hm : mv e x = x := by rw [HM.out, if_pos c1]
    rw [hm]
    clear hm
    go_enter Try.func24, Try.ntmps24
    go_wp2_with (refine (odd36_c _ _).mono ?_; rintro _ _ ⟨rfl, rfl⟩; first | rw [HO1.out] | rw [HO2.out] | rw [HO3.out])
    go_ret
    exact ⟨rfl, HBX.out⟩
  by_cases c2 : x < e.p + e.d
  · have hm : mv e x = e.p + ((e.s.size : Nat) : Int) := by rw [HM.out, if_neg c1, if_pos c2, ← HI.out]
    rw [hm]
    clear hm
    go_enter Try.func24, Try.ntmps24
    go_wp2_with (refine (odd36_c _ _).mono ?_; rintro _ _ ⟨rfl, rfl⟩; first | rw [HO1.out] | rw [HO2.out] | rw [HO3.out])
    go_ret
    exact ⟨rfl, HBX.out⟩
  · have hm : mv e x = x - e.d + ((e.s.size : Nat) : Int) := by rw [HM.out, if_neg c1, if_neg c2, ← HI.out]
    rw [hm]
    clear hm
    go_enter Try.func24, Try.ntmps24
    go_wp2_with (refine (odd36_c _ _).mono ?_; rintro _ _ ⟨rfl, rfl⟩; first | rw [HO1.out] | rw [HO2.out] | rw [HO3.out])
    go_ret
    exact ⟨rfl, HBX.out⟩
set_option maxRecDepth 100000 in
set_option maxHeartbeats 4000000 in
theorem mv35_c (e : Ed) (x : Int) (w : World) (ok : Ok e) (h0 : 0 ≤ x) (h1 : x ≤ 1099511627776) : Calls Try.prog 35 #[.agg (edc e), .int .i64 x] w fun en w' => IntP w (mv e x) en w' := by
  obtain ⟨wx, hwx⟩ : ∃ q, w.alloc (.cells (edc e) 35) = q := ⟨_, rfl⟩
  obtain ⟨b, hb⟩ : ∃ q, w.heap.size = q := ⟨_, rfl⟩
  have hx : Bx wx b e := by rw [← hwx, ← hb]; exact Bx.of
  have hbx : Below w.heap.size w wx := by rw [← hwx]; exact below_alloc (Below.refl _ w) _
  obtain ⟨e0, e1, e2⟩ := hx
  have HBX := Aside0.mk hbx
  have okp := ok.p
  have okd := ok.d
  have oki := ok.i
  have hi : ((e.s.size : Nat) : Int) = e.i := rfl
  have HI := Aside0.mk hi
  have HM : Aside0 (mv e x = if x < e.p then x else if x < e.p + e.d then e.p + e.i else x - e.d + e.i) := ⟨rfl⟩
  have q0 : ¬ e.p < 0 := by omega
  have q1 : ¬ (1048576 : Int) < e.p := by omega
  have q2 : ¬ e.d < 0 := by omega
  have q3 : ¬ (1048576 : Int) < e.d := by omega
  have q4 : ¬ (1048576 : Int) < ((e.s.size : Nat) : Int) := by rw [hi]; omega
  have q5 : ¬ x < 0 := by omega
  have q6 : ¬ (1099511627776 : Int) < x := by omega
  have w1 : IntKind.i64.wrap (e.p + e.d) = e.p + e.d := IntWalk.i64_in _ (by omega)
  have w2 : IntKind.i64.wrap (e.p + ((e.s.size : Nat) : Int)) = e.p + ((e.s.size : Nat) : Int) := IntWalk.i64_in _ (by rw [hi]; omega)
  have w3 : IntKind.i64.wrap (x - e.d) = x - e.d := IntWalk.i64_in _ (by omega)
  have w4 : IntKind.i64.wrap (x - e.d + ((e.s.size : Nat) : Int)) = x - e.d + ((e.s.size : Nat) : Int) := IntWalk.i64_in _ (by rw [hi]; omega)
  clear ok hbx okp okd oki hi h0 h1
  by_cases c1 : x < e.p
  · have hm : mv e x = x := by rw [HM.out, if_pos c1]
    rw [hm]
    clear hm
    go_enter Try.func35, Try.ntmps35
    go_wp2_with (fail)
    go_ret
    exact ⟨rfl, HBX.out⟩
  by_cases c2 : x < e.p + e.d
  · have hm : mv e x = e.p + ((e.s.size : Nat) : Int) := by rw [HM.out, if_neg c1, if_pos c2, ← HI.out]
    rw [hm]
    clear hm
    go_enter Try.func35, Try.ntmps35
    go_wp2_with (fail)
    go_ret
    exact ⟨rfl, HBX.out⟩
  · have hm : mv e x = x - e.d + ((e.s.size : Nat) : Int) := by rw [HM.out, if_neg c1, if_neg c2, ← HI.out]
    rw [hm]
    clear hm
    go_enter Try.func35, Try.ntmps35
    go_wp2_with (fail)
    go_ret
    exact ⟨rfl, HBX.out⟩
end Go.Proofs.Ytcbddmmoioggaaa.Sp
