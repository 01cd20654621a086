/- State of a table of states: the state of a number. -/
import Derived.Test.YtbmjeopnahmbgaaId
namespace Go.Proofs.Ytbmjeopnahmbgaa.In
open Go.RowKit Go.Proofs.YtbmjeopnahmbgaaW.PrintWords Go.Proofs.YtbmjeopnahmbgaaW.PrintLast Go.Proofs.YtbmjeopnahmbgaaW.PrintMore
open Go.WideShapes
set_option linter.unusedVariables false

section
variable {P : Program} {ops : Array Oper} {rest : List Oper} {o : Oper} {a : Act} {w w' : World} {Q : Exit → Act → World → Prop}
theorem wpList_runV (hw : Region.wanted o (yielded ops a.tmps) = true) (v : Value) (h : (execOp a.eval o).run P w = .ok (.value v) w') (k : wpList P ops Q rest (a.put o.dst v) w') : wpList P ops Q (o :: rest) a w := by
  refine wpList_step fun K hK => ?_
  rw [if_pos hw]
  unfold Oper.wp
  rw [h]
  exact hK _ _ k
end
theorem exec_allocS (ρ : Operand → Value) (o : Oper) (ho : o.op = .alloc 37) (w : World) : (execOp ρ o).run Try.prog w = .ok (.value (.pointer (some ⟨w.heap.size, 0, none⟩))) (w.alloc (.cells zS 37)) := by
  unfold execOp
  simp only [ho]
  kernel_rfl
theorem exec_build0 (ρ : Operand → Value) (o : Oper) (ho : o.op = .build 37 #[]) (w : World) : (execOp ρ o).run Try.prog w = .ok (.value (.agg zS)) w := by
  unfold execOp
  simp only [ho]
  kernel_rfl
theorem exec_build1 (ρ : Operand → Value) (o : Oper) (X : Operand) (ho : o.op = .build 37 #[(2, X)]) (hX : ρ X = .int .u8 1) (w : World) : (execOp ρ o).run Try.prog w = .ok (.value (.agg (modeS 1))) w := by
  have h : (Instr.build 37 #[(2, .int .u8 1)]).run Try.prog w = .ok (.agg (modeS 1)) w := by kernel_rfl
  unfold execOp
  simp only [ho]
  simp [hX, h, Result.andThen]
theorem results_cell_tmp {fn : Func} {p q : Tmp} {ty : TypeId} (h : fn.results = #[.cell p ty, .tmp q]) (tmps : Array Value) (P : Program) (w : World) (g : Nat) (t : TypeId) (cs : Array Value) (d : TypeDesc) (hd : d.isRow = true)
    (hp : tmps.getD p undef = .pointer (some ⟨g, 0, none⟩)) (hg : w.heap[g]? = some (.cells cs t (0, 0))) (hu : P.underlying ty = some d) (hi : (P.info? ty).map (·.size) = some cs.size) :
    (results fn tmps).run P w = .ok (.tuple #[.agg cs, tmps.getD q undef]) w := by
  have hp' : tmps[p]?.getD undef = .pointer (some ⟨g, 0, none⟩) := by simpa using hp
  have hl := run_loadVar_mid (P := P) w g 0 ty cs.toList d (fun j v hj => by rw [Nat.zero_add, cell_of_row _ _ _ _ _ _ hg]; simpa using hj) hu hd (by rw [hi, Array.length_toList])
  rw [Array.toArray_toList] at hl
  simp [results, h, hp', asAddr, hl]

theorem below_setRowS {B g : Nat} {w0 w : World} (hb : Below B w0 w) (hBg : B ≤ g) (cs : Array Value) : Below B w0 (w.setRow g cs) :=
  ⟨hb.os, hb.tape, hb.output, by rw [size_setRow]; exact hb.size, fun k hk => by rw [setRow_other w g k cs (by omega)]; exact hb.block k hk⟩
/-- What State tells. -/
def StateR (L : List (Array Value)) (id : Int) (y : Array Value) (n : Int) : Prop :=
  (0 ≤ id ∧ id < (L.length : Int) ∧ L[id.toNat]? = some y ∧ n = 0) ∨ (¬ (0 ≤ id ∧ id < (L.length : Int)) ∧ y = zS ∧ n = 5)
def StatePost (L : List (Array Value)) (id : Int) (e : Ending) : Prop := ∃ y n, e = .returned (.tuple #[.agg y, .int .i64 n]) ∧ StateR L id y n

theorem oneAll {y : Array Value} (hy : IsSt y) : y.all (·.oneCell') = true := Array.all_eq_true_iff_forall_mem.2 (fun u hu => hy.one u (by simpa using hu))
theorem sizeZ : zS.size = 82 := isSt_z.size

set_option maxRecDepth 100000 in
set_option maxHeartbeats 1000000 in
theorem state_c (p : Nat) (L : List (Array Value)) (id : Int) (hl : L.length ≤ 1000) (w : World) (B : Nat) (ok : Nat → Prop) (h : IT w B ok p L) : Calls Try.prog 12 #[.pointer (some ⟨p, 0, none⟩), .int .i64 id] w fun e w' => StatePost L id e ∧ Below w.heap.size w w' := by
  obtain ⟨mb, A, c, D, h1, c0, c1, hf, hc, hm, hR, hnd, htd, _⟩ := h.open
  have hp := blk_lt h1
  have H := Aside0.mk h
  have HR := Aside0.mk hR
  have HZ : Aside0 ((w.alloc (.cells zS 37)).heap[w.heap.size]? = some (.cells zS 37 (0, 0))) := ⟨heap_alloc_new _ _⟩
  have hbel : Aside0 (Below w.heap.size w (w.alloc (.cells zS 37))) := ⟨below_alloc (Below.refl _ w) _⟩
  clear h1 h hm hR htd hnd
  go_enter Try.func12, Try.ntmps12
  by_cases h0 : id < 0
  · have b0 : decide (id < 0) = true := decide_eq_true h0
    have hfin : Aside0 (StatePost L id (.returned (.tuple #[.agg zS, .int .i64 5]))) := ⟨⟨zS, 5, rfl, .inr ⟨by omega, rfl, rfl⟩⟩⟩
    clear h0
    go_wp2_with (first
      | (refine wpList_runV (by rfl) _ (exec_allocS _ _ (by rfl) _) ?_)
      | (refine wpList_runV (by rfl) _ (exec_build0 _ _ (by rfl) _) ?_)
      | (refine wpList_store_row (by rfl) 37 _ _ (by rfl) w.heap.size zS (by rfl) (by rfl) 37 zS HZ.out (by rw [infoS, sizeZ]) rfl (oneAll isSt_z) ?_))
    refine bodyPost_ret (results_cell_tmp rfl _ _ _ w.heap.size 37 zS _ rfl rfl (setRow_heap _ _ _ _ _ _ HZ.out) Try.underlying37 (by rw [infoS, sizeZ])) rfl ?_
    exact ⟨hfin.out, below_setRowS hbel.out (Nat.le_refl _) _⟩
  · by_cases h1 : (L.length : Int) ≤ id
    · have b0 : decide (id < 0) = false := decide_eq_false h0
      have b1 : decide ((L.length : Int) ≤ id) = true := decide_eq_true h1
      have hfin : Aside0 (StatePost L id (.returned (.tuple #[.agg zS, .int .i64 5]))) := ⟨⟨zS, 5, rfl, .inr ⟨by omega, rfl, rfl⟩⟩⟩
      clear h0 h1
      go_wp2_with (first
        | (refine wpList_runV (by rfl) _ (exec_allocS _ _ (by rfl) _) ?_)
        | (refine wpList_runV (by rfl) _ (exec_build0 _ _ (by rfl) _) ?_)
        | (refine wpList_store_row (by rfl) 37 _ _ (by rfl) w.heap.size zS (by rfl) (by rfl) 37 zS HZ.out (by rw [infoS, sizeZ]) rfl (oneAll isSt_z) ?_))
      refine bodyPost_ret (results_cell_tmp rfl _ _ _ w.heap.size 37 zS _ rfl rfl (setRow_heap _ _ _ _ _ _ HZ.out) Try.underlying37 (by rw [infoS, sizeZ])) rfl ?_
      exact ⟨hfin.out, below_setRowS hbel.out (Nat.le_refl _) _⟩
    · obtain ⟨y, hy⟩ : ∃ y, L[id.toNat]? = some y := ⟨_, List.getElem?_eq_getElem (by omega)⟩
      have hsy : IsSt y := H.out.st y (List.mem_of_getElem? hy)
      obtain ⟨g, cap, hv, hg0, hg1, _⟩ := Kd.R_form HR.out (by omega)
      injection hv with hv1 hv2 hv3
      subst hv1
      obtain ⟨q, hq1, hq2, hq3, hq4⟩ := Kd.R_elem HR.out #[] id (by omega) (by omega)
      have hq5 : q = y.toList := by
        rw [hq2.2, List.getD_eq_getElem?_getD, hy]
        rfl
      subst hq5
      have hry : Aside0 ((w.alloc (.cells zS 37)).rangeAt g (id.toNat * 82) y.toList) := ⟨World.rangeAt_alloc (fun j v hj => by simpa [kS] using hq3 j v hj) _⟩
      have hfin : Aside0 (StatePost L id (.returned (.tuple #[.agg y, .int .i64 0]))) := ⟨⟨y, 0, rfl, .inl ⟨by omega, by omega, hy, rfl⟩⟩⟩
      have HY := Aside0.mk hsy
      have b0 : decide (id < 0) = false := decide_eq_false h0
      have b1 : decide ((L.length : Int) ≤ id) = false := decide_eq_false h1
      have p0 : 0 ≤ id := by omega
      have p1 : id < (L.length : Int) := by omega
      replace p0 := eq_true p0
      replace p1 := eq_true p1
      clear h0 h1 hy hsy hq1 hq2 hq3 hq4
      go_wp2_with (first
        | (refine wpList_runV (by rfl) _ (exec_allocS _ _ (by rfl) _) ?_)
        | (refine wpList_load_mid (by rfl) 37 _ (by rfl) g (id.toNat * 82) (by rfl) y.toList _ hry.out Try.underlying37 rfl (infoSL HY.out) ?_; rw [Array.toArray_toList])
        | (refine wpList_store_row (by rfl) 37 _ _ (by rfl) w.heap.size y (by rfl) (by rfl) 37 zS HZ.out (by rw [infoS, HY.out.size]) (by rw [sizeZ, HY.out.size]) (oneAll HY.out) ?_))
      refine bodyPost_ret (results_cell_tmp rfl _ _ _ w.heap.size 37 y _ rfl rfl (setRow_heap _ _ _ _ _ _ HZ.out) Try.underlying37 (by rw [infoS, HY.out.size])) rfl ?_
      exact ⟨hfin.out, below_setRowS hbel.out (Nat.le_refl _) _⟩
end Go.Proofs.Ytbmjeopnahmbgaa.In
