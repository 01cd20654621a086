/- The known case of the laws on tables of states answers true. -/
import Derived.Test.YtbmjeopnahmbgaaRi
namespace Go.Proofs.Ytbmjeopnahmbgaa.In
open Go.RowKit Go.Proofs.YtbmjeopnahmbgaaW.PrintWords Go.Proofs.YtbmjeopnahmbgaaW.PrintLast Go.Proofs.YtbmjeopnahmbgaaW.PrintMore
open Go.WideShapes
set_option linter.unusedVariables false

theorem exec_loadS {g off : Nat} {y : Array Value} (hy : IsSt y) (ρ : Operand → Value) (o : Oper) (X : Operand) (ho : o.op = .load 37 X) (hX : ρ X = .pointer (some ⟨g, off, none⟩)) (w : World) (h : w.rangeAt g off y.toList) :
    (execOp ρ o).run Try.prog w = .ok (.value (.agg y)) w := by
  have := run_loadAt_mid (P := Try.prog) w g off 37 y.toList _ h Try.underlying37 rfl (infoSL hy)
  unfold execOp
  simp only [ho, hX, Sem.run_bind, this, Result.andThen_ok, Sem.run_pure]
theorem exec_eq_self {x : Array Value} (hx : IsSt x) (ρ : Operand → Value) (o : Oper) (X Y : Operand) (t' : TypeId) (ho : o.op = .binOp .eql 37 X Y t') (hX : ρ X = .agg x) (hY : ρ Y = .agg x) (w : World) :
    (execOp ρ o).run Try.prog w = .ok (.value (.bool true)) w := by
  obtain ⟨r, hr, hiff⟩ := exec_eqS hx hx ρ o X Y t' ho hX hY
  rw [hr w, hiff.2 rfl]
theorem exec_ne_self {x : Array Value} (hx : IsSt x) (ρ : Operand → Value) (o : Oper) (X Y : Operand) (t' : TypeId) (ho : o.op = .binOp .neq 37 X Y t') (hX : ρ X = .agg x) (hY : ρ Y = .agg x) (w : World) :
    (execOp ρ o).run Try.prog w = .ok (.value (.bool false)) w := by
  obtain ⟨r, hr, hiff⟩ := exec_neS hx hx ρ o X Y t' ho hX hY
  rw [hr w, hiff.2 rfl]
  rfl

set_option maxRecDepth 100000 in
set_option maxHeartbeats 2000000 in
theorem wakes_c (w : World) : Calls Try.prog 6 #[] w fun e w' => e = .returned (.bool true) ∧ Below w.heap.size w w' := by
  go_enter Try.func6, Try.ntmps6
  go_wp2_with (refine (new_c _).mono ?_)
  rintro _ w1 ⟨p, rfl, h1, b1⟩
  have hB := b1.size
  go_wp2_with (first
    | (refine wpList_runV (by rfl) _ (exec_build0 _ _ (by rfl) _) ?_)
    | (refine (id_c p [] zS isSt_z (by simp) _ _ _ h1 hB).mono ?_))
  rintro _ w2 ⟨i1, L1, rfl, hi1, h2, b2, _⟩
  obtain ⟨rfl, rfl⟩ : i1 = 0 ∧ L1 = [zS] := by
    rcases hi1 with ⟨k, _, hk, _⟩ | ⟨_, rfl, rfl⟩
    · simp at hk
    · exact ⟨rfl, rfl⟩
  have b2' := b1.trans b2
  have hB2 := b2'.size
  clear hi1 b1 b2 hB h1
  go_wp2_with (first
    | (refine wpList_runV (by rfl) _ (exec_build1 _ _ _ (by rfl) (by rfl) _) ?_)
    | (refine (id_c p [zS] (modeS 1) isSt_1 (by simp) _ _ _ h2 hB2).mono ?_))
  rintro _ w3 ⟨i2, L2, rfl, hi2, h3, b3, _⟩
  obtain ⟨rfl, rfl⟩ : i2 = 1 ∧ L2 = [zS, modeS 1] := by
    rcases hi2 with ⟨k, _, hk, _⟩ | ⟨_, rfl, rfl⟩
    · have := List.mem_of_getElem? hk
      exact absurd (List.mem_singleton.1 this).symm z_ne_1
    · exact ⟨rfl, rfl⟩
  have b3' := b2'.trans b3
  have hB3 := b3'.size
  clear hi2 b2' b3 hB2 h2
  go_wp2_with (first
    | (refine wpList_runV (by rfl) _ (exec_build0 _ _ (by rfl) _) ?_)
    | (refine (id_c p [zS, modeS 1] zS isSt_z (by simp) _ _ _ h3 hB3).mono ?_))
  rintro _ w4 ⟨i3, L3, rfl, hi3, h4, b4, _⟩
  obtain ⟨rfl, rfl⟩ : i3 = 0 ∧ L3 = [zS, modeS 1] := by
    rcases hi3 with ⟨k, rfl, hk, rfl⟩ | ⟨hn, _, _⟩
    · refine ⟨?_, rfl⟩
      match k, hk with
      | 0, _ => rfl
      | 1, hk => exact absurd (Option.some.inj hk).symm z_ne_1
      | k + 2, hk => simp at hk
    · simp at hn
  have b4' := b3'.trans b4
  have hB4 := b4'.size
  clear hi3 b3' b4 hB3 h3
  go_wp2_with (first
    | (refine (state_c p [zS, modeS 1] 1 (by simp) _ _ _ h4).mono ?_))
  rintro _ w5 ⟨⟨y, n, rfl, hyn⟩, b5⟩
  obtain ⟨rfl, rfl⟩ : y = modeS 1 ∧ n = 0 := by
    rcases hyn with ⟨_, _, hy, rfl⟩ | ⟨hn, _⟩
    · exact ⟨(Option.some.inj hy).symm, rfl⟩
    · exact absurd ⟨by decide, by simp⟩ hn
  have h5 := h4.below b5
  have b5' := b4'.trans (b5.mono hB4)
  have hB5 := b5'.size
  clear hyn b4' b5 hB4 h4
  have hz5 := heap_alloc_new w5 (.cells zS 37)
  obtain ⟨w6, hw6⟩ : ∃ w6, (w5.alloc (.cells zS 37)).setRow w5.heap.size (modeS 1) = w6 := ⟨_, rfl⟩
  have b6 : Below w5.heap.size w5 w6 := by rw [← hw6]; exact below_setRowS (below_alloc (Below.refl _ w5) _) (Nat.le_refl _) _
  have h6 := h5.below b6
  have hr6 : w6.rangeAt w5.heap.size 0 (modeS 1).toList := fun j v hj => by
    rw [Nat.zero_add, cell_of_row _ _ _ _ _ _ (by rw [← hw6]; exact setRow_heap _ _ _ _ _ _ hz5)]
    simpa using hj
  have hfin : Below w.heap.size w w6 := b5'.trans (b6.mono hB5)
  have HR6 := Aside0.mk hr6
  have H6 := Aside0.mk h6
  have HF := Aside0.mk hfin
  have HZ5 := Aside0.mk hz5
  clear hr6 h6 hfin hz5 b6 b5' h5
  go_upto_region 6 with (first
      | (refine wpList_runV (by rfl) _ (exec_allocS _ _ (by rfl) _) ?_)
      | (refine wpList_store_row (by rfl) 37 _ _ (by rfl) w5.heap.size (modeS 1) (by rfl) (by rfl) 37 zS HZ5.out (by rw [infoS, isSt_1.size]) (by rw [sizeZ, isSt_1.size]) (oneAll isSt_1) ?_))
  clear hw6
  go_wp2_with (first
      | (refine wpList_runV (by rfl) _ (exec_loadS isSt_1 _ _ _ (by rfl) (by rfl) _ HR6.out) ?_)
      | (refine wpList_runV (by rfl) _ (exec_build1 _ _ _ (by rfl) (by rfl) _) ?_)
      | (refine wpList_runV (by rfl) _ (exec_eq_self isSt_1 _ _ _ _ _ (by rfl) (by rfl) (by rfl) _) ?_)
      | (refine (len_c p _ _ _ _ H6.out).mono ?_; rintro _ _ ⟨rfl, rfl⟩))
  go_ret
  exact ⟨rfl, HF.out⟩
end Go.Proofs.Ytbmjeopnahmbgaa.In
