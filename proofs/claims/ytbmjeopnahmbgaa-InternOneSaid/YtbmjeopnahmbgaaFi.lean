/- Find of a table of states. -/
import Derived.Test.YtbmjeopnahmbgaaTb
namespace Go.Proofs.Ytbmjeopnahmbgaa.In
open Go.RowKit Go.Proofs.YtbmjeopnahmbgaaW.PrintWords Go.Proofs.YtbmjeopnahmbgaaW.PrintLast Go.Proofs.YtbmjeopnahmbgaaW.PrintMore
open Go.WideShapes
set_option linter.unusedVariables false

theorem nil_or_snoc {α : Type} (L : List α) : L = [] ∨ ∃ L0 y, L = L0 ++ [y] := by
  rcases List.eq_nil_or_concat L with h | ⟨L0, y, h⟩
  · exact .inl h
  · exact .inr ⟨L0, y, by rw [h, List.concat_eq_append]⟩
/-- What Find tells. -/
def FindR (L : List (Array Value)) (x : Array Value) (i : Int) (b : Bool) : Prop :=
  (b = true ∧ ∃ k : Nat, i = (k : Int) ∧ L[k]? = some x) ∨ (b = false ∧ i = 0 ∧ x ∉ L)

def Found (L : List (Array Value)) (x : Array Value) (e : Ending) : Prop := ∃ i b, e = .returned (.tuple #[.int .i64 i, .bool b]) ∧ FindR L x i b

theorem FindR.fits {L : List (Array Value)} {x : Array Value} {i : Int} {b : Bool} (h : FindR L x i b) (hn : L.Nodup) : (b = true ∧ ∃ k : Nat, i = (k : Int) ∧ L[k]? = some x) ∨ (b = false ∧ i = 0 ∧ x ∉ L) := h

/-- The lookup. -/
theorem look_c {mb n : Nat} {D : DataW Unit} {L : List (Array Value)} {x : Array Value} (htd : Tied D L) (hx : IsSt x) :
    ∃ i b, FindR L x i b ∧ ∀ w' : World, w'.ownsMap Try.prog 37 (plainElem Try.prog 3) mb n D → (Instr.lookup 51 (.map (some mb)) (.agg x) true).run Try.prog w' = .ok (.tuple #[.int .i64 i, .bool b]) w' := by
  obtain ⟨l, hl⟩ := hx
  obtain ⟨h1, h2⟩ := htd x l hl
  have hz : ∀ w' : World, (zeroValue 3).run Try.prog w' = .ok (.int .i64 0) w' := fun w' => by kernel_rfl
  have hw0 : (Lit.int .i64 0).wf = true := by decide
  have key : ∀ (i : Int) (w' : World), w'.ownsMap Try.prog 37 (plainElem Try.prog 3) mb n D → D.atKey l (.lit (.int .i64 0)) = .lit (.int .i64 i) → (Instr.lookup 51 (.map (some mb)) (.agg x) true).run Try.prog w' = .ok (.tuple #[.int .i64 i, .bool (Maps.has D l)]) w' := by
    intro i w' hm hat
    obtain ⟨v, ps, hrun, hv⟩ := hm.look_ok keyedS Try.underlying51 (hz w') (plainElem_int Try.underlying3 hw0) hl
    rw [hat] at hv
    obtain ⟨a, rfl, he, _⟩ := plainElem_int_inv Try.underlying3 hv
    simp only [Prod.mk.injEq, DataW.lit.injEq, Lit.int.injEq, true_and] at he
    rw [hrun, he.1]
  by_cases hm : x ∈ L
  · obtain ⟨k, hk⟩ := List.mem_iff_getElem?.1 hm
    refine ⟨k, true, .inl ⟨rfl, k, rfl, hk⟩, fun w' hw => ?_⟩
    rw [key _ w' hw (h2 k hk), h1.2 hm]
  · have hf : Maps.has D l = false := by
      cases hh : Maps.has D l with
      | false => rfl
      | true => exact absurd (h1.1 hh) hm
    refine ⟨0, false, .inr ⟨rfl, rfl, hm⟩, fun w' hw => ?_⟩
    rw [key 0 w' hw (Maps.atKey_of_not_has hf _), hf]

theorem exec_look {w' : World} {mb : Nat} {x : Array Value} {v : Value} (ρ : Operand → Value) (o : Oper) (X Y : Operand) (ho : o.op = .lookup 51 X Y true) (hX : ρ X = .map (some mb)) (hY : ρ Y = .agg x)
    (h : (Instr.lookup 51 (.map (some mb)) (.agg x) true).run Try.prog w' = .ok v w') : (execOp ρ o).run Try.prog w' = .ok (.value v) w' := by
  unfold execOp
  simp only [ho, hX, hY]
  simp [h, Result.andThen]

set_option maxRecDepth 100000 in
set_option maxHeartbeats 1000000 in
theorem find_c (p : Nat) (L : List (Array Value)) (x : Array Value) (hx : IsSt x) (hl : L.length ≤ 1000) (w : World) (B : Nat) (ok : Nat → Prop) (h : IT w B ok p L) : Calls Try.prog 10 #[.pointer (some ⟨p, 0, none⟩), .agg x] w fun e w' => Found L x e ∧ Below w.heap.size w w' := by
  obtain ⟨mb, A, c, D, h1, c0, c1, hf, hc, hm, hR, hnd, htd, _⟩ := h.open
  have HX := Aside0.mk hx
  have H := Aside0.mk h
  have hp := blk_lt h1
  have HM := Aside0.mk hm
  have HRR := Aside0.mk hR
  obtain ⟨i, b, hib, hlook⟩ := look_c (mb := mb) (n := L.length) htd hx
  have hm2 := hm.alloc (.cells x 37)
  have HM2 := Aside0.mk hm2
  have hlk : Aside0 (∀ j k, (Instr.lookup 51 (.map (some mb)) (.agg x) true).run Try.prog (((w.alloc (.cells x 37)).drewN j).drewN k) = .ok (.tuple #[.int .i64 i, .bool b]) (((w.alloc (.cells x 37)).drewN j).drewN k)) := ⟨fun j k => hlook _ hm2⟩
  have hrx : Aside0 ((w.alloc (.cells x 37)).rangeAt w.heap.size 0 x.toList) := ⟨fun j v hj => by
      rw [Nat.zero_add, cell_of_row _ _ _ _ _ _ (heap_alloc_new w _)]
      simpa using hj⟩
  have hfin : Aside0 (Found L x (.returned (.tuple #[.int .i64 i, .bool b]))) := ⟨⟨i, b, rfl, hib⟩⟩
  have hbel : Aside0 (∀ k, Below w.heap.size w ((w.alloc (.cells x 37)).drewN k)) := ⟨fun k => pw_below_drewN (below_alloc (Below.refl _ w) _) k⟩
  clear hlook hm2 hib
  clear h1 hx h hm hR htd hnd
  go_enter Try.func10, Try.ntmps10
  go_upto_region 4 with (fail)
  rcases nil_or_snoc L with rfl | ⟨L0, y, rfl⟩
  · go_quiet (fail)
    go_upto_region 6 with (fail)
    refine wp_region_quiet_lit (by kernel_rfl) (by kernel_rfl) ?_
    iterate 4 (quiet_step (fail))
    refine wpQuiet_step (fun K hK => ?_)
    refine quiet_load 37 _ (by rfl) w.heap.size 0 (by rfl) x _ (by rintro w' ⟨k, rfl⟩; exact hrx.out) Try.underlying37 rfl (infoSL HX.out) (by go_simp) ?_
    refine hK _ ?_
    clear hK K
    refine wpQuiet_step (fun K hK => ?_)
    refine quiet_run _ (fun w' hC => exec_look _ _ _ _ (by rfl) (by rfl) (by rfl) (by obtain ⟨k, rfl⟩ := hC; exact hlk.out _ _)) (by go_simp) ?_
    refine hK _ ?_
    clear hK K
    repeat (quiet_step (fail))
    refine wpQuiet_nil ?_
    intro _ hw'
    obtain ⟨nq3, hw''⟩ := hw'
    subst hw''
    go_wp2_with (fail)
    go_ret2
    exact ⟨hfin.out, by first | exact hbel.out _ | (rw [World.drewN_drewN]; exact hbel.out _)⟩
  · have hn : (L0 ++ [y]).length = L0.length + 1 := by simp
    rw [hn] at c1
    obtain ⟨g, cap, hv, hg0, hg1, _⟩ := Kd.R_form HRR.out (by rw [hn]; omega)
    have hy : IsSt y := H.out.st y (by simp)
    rw [hn] at hv
    injection hv with hv1 hv2 hv3
    subst hv1
    rw [hn]
    obtain ⟨q, hq1, hq2, hq3, hq4⟩ := Kd.R_elem HRR.out #[] (L0.length : Int) (by omega) (by rw [hn]; omega)
    have hq5 : q = y.toList := by
      have := hq2.2
      simpa using this
    subst hq5
    have hry : w.rangeAt g (L0.length * 82) y.toList := fun j v hj => by simpa [kS] using hq3 j v hj
    clear hq1 hq2 hq3 hq4
    have hu := Try.underlying37
    have hiy := infoSL hy
    have hix := infoSL HX.out
    have hsy : y.toList.length = 82 := by rw [Array.length_toList, hy.size]
    have hsx : x.toList.length = 82 := by rw [Array.length_toList, HX.out.size]
    have hoy := hy.one
    have hox := HX.out.one
    have hry' := World.rangeAt_alloc hry (.cells x 37)
    have c1' := pw_cell_below (below_alloc (Below.refl _ w) (.cells x 37)) c1
    have hn0 : L0.length ≤ 999 := by omega
    obtain ⟨n, hnn⟩ : ∃ n, L0.length = n := ⟨_, rfl⟩
    rw [hnn] at hry hry' c1 c1' hn0 ⊢
    clear hl hc hn hg0 hg1
    have hwn : IntKind.i64.wrap (n : Int) = (n : Int) := IntWalk.i64_in _ (by omega)
    have b0 : (0 : Int) ≤ (n : Int) := by omega
    have b1 : (n : Int) < (n : Int) + 1 := by omega
    refine wp_region_quiet_lit (by kernel_rfl) (by kernel_rfl) ?_
    iterate 10 (quiet_step (fail))
    refine wpQuiet_step (fun K hK => ?_)
    refine quiet_load 37 _ (by rfl) g (n * 82) (by rfl) y _ (by rintro w' ⟨k, rfl⟩; exact hry') Try.underlying37 rfl hiy (by go_simp) ?_
    refine hK _ ?_
    clear hK K
    refine wpQuiet_step (fun K hK => ?_)
    refine quiet_load 37 _ (by rfl) w.heap.size 0 (by rfl) x _ (by rintro w' ⟨k, rfl⟩; exact hrx.out) Try.underlying37 rfl hix (by go_simp) ?_
    refine hK _ ?_
    clear hK K
    refine wpQuiet_step (fun K hK => ?_)
    refine quiet_eqS hy HX.out _ _ _ (by rfl) (by rfl) (by rfl) (by go_simp) (fun r hiff => ?_)
    refine hK _ ?_
    clear hK K
    repeat (quiet_step (fail))
    refine wpQuiet_nil ?_
    intro _ hw'
    obtain ⟨nq, hw''⟩ := hw'
    subst hw''
    clear hwn b0 b1 hry hry' c1' hiy hix hsy hsx hoy hox hu
    cases r with
    | true =>
      have e := hiff.1 rfl
      have hfd : Aside0 (Found (L0 ++ [y]) x (.returned (.tuple #[.int .i64 (n : Int), .bool true]))) := ⟨⟨_, _, rfl, .inl ⟨rfl, n, rfl, by rw [← e, ← hnn]; simp⟩⟩⟩
      clear e hiff
      go_wp2_with (fail)
      go_ret2
      exact ⟨hfd.out, hbel.out _⟩
    | false =>
      clear hiff
      go_upto_region 6 with (fail)
      refine wp_region_quiet_lit (by kernel_rfl) (by kernel_rfl) ?_
      iterate 4 (quiet_step (fail))
      refine wpQuiet_step (fun K hK => ?_)
      refine quiet_load 37 _ (by rfl) w.heap.size 0 (by rfl) x _ (by rintro w' ⟨k, rfl⟩; exact hrx.out) Try.underlying37 rfl (infoSL HX.out) (by go_simp) ?_
      refine hK _ ?_
      clear hK K
      refine wpQuiet_step (fun K hK => ?_)
      refine quiet_run _ (fun w' hC => exec_look _ _ _ _ (by rfl) (by rfl) (by rfl) (by obtain ⟨k, rfl⟩ := hC; exact hlk.out _ _)) (by go_simp) ?_
      refine hK _ ?_
      clear hK K
      repeat (quiet_step (fail))
      refine wpQuiet_nil ?_
      intro _ hw'
      obtain ⟨nq2, hw''⟩ := hw'
      subst hw''
      go_wp2_with (fail)
      go_ret2
      exact ⟨hfin.out, by first | exact hbel.out _ | (rw [World.drewN_drewN]; exact hbel.out _)⟩
end Go.Proofs.Ytbmjeopnahmbgaa.In
