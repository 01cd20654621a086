/- The states that a table has: a row of 82 cells that reads as a key; two are equal as values just if their cells are. -/
import Derived.Test.YtbmjeopnahmbgaaProg
import Derived.Below
import Derived.Deep.Draws
import Derived.Deep.AppendLies
import Derived.Maps.AppendAt
import Derived.OwnWalk
import Derived.Laws.BytesArg
import Derived.Laws.MakeOwn
import Derived.Laws.OwnMore
import Derived.Deep.OwnRows
import Derived.Tactics
import Derived.Lib.ConvBytes
import Derived.Laws.Slices
import Derived.WalkKit
import Derived.KernelRfl
import Derived.RowKit3
import Derived.Deep.LoopGhost
import Derived.Deep.QuietTactic
import Derived.BigQuiet
import Derived.WideLaws
import Derived.Deep.DeepCutAuto
import Derived.Deep.CutBlock
import Derived.Deep.RegionHeld3
import Derived.Laws.Rows
import Derived.Lib.AppendStr
import Derived.ArgAppend
import Derived.Laws.IdiomCopy
import Derived.OrdersHeld
import Derived.Laws.BitsLemmas
import Derived.RowKit
import Derived.Test.YtbmjeopnahmbgaaWWords
import Derived.Test.YtbmjeopnahmbgaaWLast
import Derived.Test.YtbmjeopnahmbgaaWTab
import Derived.Test.YtbmjeopnahmbgaaWFour
import Derived.Test.YtbmjeopnahmbgaaWQPut
import Derived.Test.YtbmjeopnahmbgaaWApart
import Derived.Test.YtbmjeopnahmbgaaWArr
import Derived.Test.YtbmjeopnahmbgaaWZeros
import Derived.Test.YtbmjeopnahmbgaaWFoot
import Derived.Test.YtbmjeopnahmbgaaWKept
import Derived.Test.YtbmjeopnahmbgaaWShare
import Derived.Test.YtbmjeopnahmbgaaWN
import Derived.Test.YtbmjeopnahmbgaaWFootNe
import Derived.Test.YtbmjeopnahmbgaaWAt
import Derived.Test.YtbmjeopnahmbgaaWEqStruct
import Derived.Test.YtbmjeopnahmbgaaWRepsOne
import Derived.Test.YtbmjeopnahmbgaaWInv
import Derived.Test.YtbmjeopnahmbgaaWInvWords
import Derived.Test.YtbmjeopnahmbgaaWGuard
import Derived.Test.YtbmjeopnahmbgaaWNEv
import Derived.Test.YtbmjeopnahmbgaaWMore
import Derived.Maps.OwnSet
import Derived.Maps.Own
import Derived.DeepKeys4
import Derived.MapViews
import Derived.ProofKit
import Derived.Great.BuildSlice
namespace Go.Proofs.Ytbmjeopnahmbgaa.In
open Go.RowKit Go.Proofs.YtbmjeopnahmbgaaW.PrintWords Go.Proofs.YtbmjeopnahmbgaaW.PrintLast Go.Proofs.YtbmjeopnahmbgaaW.PrintMore
open Go.WideShapes

theorem laidOut : laidOutB Try.prog = true := by kernel_rfl
theorem rowS : (37 : TypeId) < Try.prog.types.size := of_decide_eq_true (by kernel_rfl)
theorem recS : Try.prog.readableRec 37 = true := by kernel_rfl
theorem deepS : Try.prog.keyTypeAt (Try.prog.types.size + 1) 37 = true := by kernel_rfl
theorem deep6 : Try.prog.keyTypeAt 6 37 = true := by kernel_rfl
theorem wideS : (match Try.prog.underlying 37 with | some (.array _ _) | some (.struct _) => true | _ => false) = true := by kernel_rfl
theorem lawS : WideMaps.KeyLaw Try.prog 37 := deep_law_laid laidOut (m := 6) (by omega) rowS deep6 wideS
theorem keyedS : Maps.Keyed Try.prog 37 := Maps.Keyed.of_law lawS
theorem cellsS : Try.prog.cellsOf 37 = 82 := by kernel_rfl
theorem infoS : (Try.prog.info? 37).map (·.size) = some 82 := by kernel_rfl
theorem isStructS : ∃ fs, Try.prog.underlying 37 = some (.struct fs) := ⟨_, Try.underlying37⟩

/-- A state. -/
def IsSt (x : Array Value) : Prop := ∃ l, keyOf Try.prog 37 (.agg x) = some l
theorem formedS {xs : Array Value} (h : xs.size = 82) : (Value.agg xs).formed Try.prog 37 = true := by
  obtain ⟨fs, hu⟩ := isStructS
  simp [Value.formed, hu, cellsS, h]
theorem IsSt.size {x : Array Value} (h : IsSt x) : x.size = 82 := by
  obtain ⟨l, hl⟩ := h
  have hf : (Value.agg x).formed Try.prog 37 = true := by
    unfold keyOf at hl
    split at hl
    · split at hl
      · rename_i hf'; exact (Bool.and_eq_true_iff.1 hf').2
      · cases hl
    · split at hl
      · rename_i hf'; exact (Bool.and_eq_true_iff.1 hf').2
      · cases hl
    · have := wideS
      split at this <;> simp_all
  obtain ⟨fs, hu⟩ := isStructS
  simpa [Value.formed, hu, cellsS] using hf
theorem key_inj {x y : Array Value} {l : Lit} (hx : keyOf Try.prog 37 (.agg x) = some l) (hy : keyOf Try.prog 37 (.agg y) = some l) : x = y := by
  have := lawS.inj hx hy
  injection this
theorem IsSt.one {x : Array Value} (h : IsSt x) : ∀ u ∈ x.toList, u.oneCell' = true := by
  obtain ⟨l, hl⟩ := h
  obtain ⟨xs, L, e, h1, _⟩ := keyOf_top wideS hl
  injection e with e
  subst e
  have ht : Try.prog.tiled 6 37 = true := by kernel_rfl
  have c1 := cells_of_lits 6 37 ht _ _ _ h1
  intro u hu
  rw [c1] at hu
  obtain ⟨q, _, rfl⟩ := List.mem_map.1 hu
  cases q <;> rfl
/-- '=='. -/
theorem eqS {x y : Array Value} (hx : IsSt x) (hy : IsSt y) (w : World) : ∃ r : Bool, (Op.equal 37 (.agg x) (.agg y)).run Try.prog w = .ok r w ∧ (r = true ↔ x = y) := by
  obtain ⟨lx, hx⟩ := hx
  obtain ⟨ly, hy⟩ := hy
  obtain ⟨r, hr, hiff⟩ := run_equal_deep w (m := 6) (by omega) deep6 wideS hx hy
  exact ⟨r, hr, hiff.trans ⟨fun e => key_inj hx (by rw [e]; exact hy), fun e => by subst e; exact Option.some.inj (hx.symm.trans hy)⟩⟩

theorem eqA {x y : Array Value} (hx : IsSt x) (hy : IsSt y) : ∃ r : Bool, (∀ w, (Op.equal 37 (.agg x) (.agg y)).run Try.prog w = .ok r w) ∧ (r = true ↔ x = y) := by
  by_cases e : x = y
  · refine ⟨true, fun w => ?_, by simp [e]⟩
    obtain ⟨r, hr, hiff⟩ := eqS hx hy w
    rw [hr, hiff.2 e]
  · refine ⟨false, fun w => ?_, by simp [e]⟩
    obtain ⟨r, hr, hiff⟩ := eqS hx hy w
    rw [hr]
    cases r
    · rfl
    · exact absurd (hiff.1 rfl) e
theorem infoSL {x : Array Value} (h : IsSt x) : (Try.prog.info? 37).map (·.size) = some x.toList.length := by rw [infoS, Array.length_toList, h.size]

/-! ### '==' and '!=' of states as operations -/
theorem guard37 : Try.prog.eqGuardType Try.prog.depth 37 = false := by kernel_rfl
/-- What '==' (neg: '!=') of two states yields, in every world. -/
theorem exec_eqS {x y : Array Value} (hx : IsSt x) (hy : IsSt y) (ρ : Operand → Value) (o : Oper) (X Y : Operand) (t' : TypeId) (ho : o.op = .binOp .eql 37 X Y t') (hX : ρ X = .agg x) (hY : ρ Y = .agg y) :
    ∃ r : Bool, (∀ w, (execOp ρ o).run Try.prog w = .ok (.value (.bool r)) w) ∧ (r = true ↔ x = y) := by
  obtain ⟨r, hr, hiff⟩ := eqA hx hy
  refine ⟨r, fun w => ?_, hiff⟩
  unfold execOp
  simp only [ho, hX, hY]
  simp [eqGuard, binOp, hr, guard37, Result.andThen]
theorem exec_neS {x y : Array Value} (hx : IsSt x) (hy : IsSt y) (ρ : Operand → Value) (o : Oper) (X Y : Operand) (t' : TypeId) (ho : o.op = .binOp .neq 37 X Y t') (hX : ρ X = .agg x) (hY : ρ Y = .agg y) :
    ∃ r : Bool, (∀ w, (execOp ρ o).run Try.prog w = .ok (.value (.bool (!r))) w) ∧ (r = true ↔ x = y) := by
  obtain ⟨r, hr, hiff⟩ := eqA hx hy
  refine ⟨r, fun w => ?_, hiff⟩
  unfold execOp
  simp only [ho, hX, hY]
  simp [eqGuard, binOp, hr, guard37, Result.andThen]
section
variable {P : Program} {ops : Array Oper} {C : World → Prop} {o : Oper} {a : Act} {K : Act → Prop}
/-- A struct is loaded, in a region whose operations only read. -/
theorem quiet_load (ty : TypeId) (x : Operand) (ho : o.op = .load ty x) (b off : Nat) (hx : a.eval x = .pointer (some ⟨b, off, none⟩)) (xs : Array Value) (d : TypeDesc) (hS : ∀ w, C w → w.rangeAt b off xs.toList)
    (hu : P.underlying ty = some d) (hd : d.isRow = true) (hi : (P.info? ty).map (·.size) = some xs.toList.length) (hw : Region.wanted o (yielded ops a.tmps) = true) (h : K (a.put o.dst (.agg xs))) :
    if Region.wanted o (yielded ops a.tmps) then o.quiet P a C K else K (a.put o.dst undef) := by
  rw [if_pos hw]
  refine ⟨.agg xs, fun w hC => ?_, h⟩
  have := run_loadAt_mid (P := P) w b off ty xs.toList d (hS w hC) hu hd hi
  unfold Oper.quietAt execOp
  simp only [ho, hx, Sem.run_bind, this, Result.andThen_ok, Sem.run_pure]
  exact ⟨rfl, rfl⟩
/-- '==' of two states there. -/
theorem quiet_eqS {x y : Array Value} (hx : IsSt x) (hy : IsSt y) (X Y : Operand) (t' : TypeId) (ho : o.op = .binOp .eql 37 X Y t') (hX : a.eval X = .agg x) (hY : a.eval Y = .agg y) (hw : Region.wanted o (yielded ops a.tmps) = true) (h : ∀ r : Bool, (r = true ↔ x = y) → K (a.put o.dst (.bool r))) :
    if Region.wanted o (yielded ops a.tmps) then o.quiet Try.prog a C K else K (a.put o.dst undef) := by
  rw [if_pos hw]
  obtain ⟨r, hr, hiff⟩ := exec_eqS hx hy a.eval o X Y t' ho hX hY
  refine ⟨.bool r, fun w hC => ?_, h r hiff⟩
  unfold Oper.quietAt
  rw [hr w]
  exact ⟨rfl, rfl⟩
/-- A lookup there. -/
theorem quiet_run (v : Value) (hr : ∀ w, C w → (execOp a.eval o).run P w = .ok (.value v) w) (hw : Region.wanted o (yielded ops a.tmps) = true) (h : K (a.put o.dst v)) :
    if Region.wanted o (yielded ops a.tmps) then o.quiet P a C K else K (a.put o.dst undef) := by
  rw [if_pos hw]
  refine ⟨v, fun w hC => ?_, h⟩
  unfold Oper.quietAt
  rw [hr w hC]
  exact ⟨rfl, rfl⟩
end

/-- States as a kind of rows. -/
def kS : Kd (Array Value) where
  sz := 82
  E := []
  K := fun _ x cs => IsSt x ∧ cs = x.toList
  M := fun _ _ _ x cs => IsSt x ∧ cs = x.toList
  K_len := fun h => by rw [h.2, Array.length_toList]; exact h.1.size
  K_one := fun h u hu => h.1.one u (by rw [← h.2]; exact hu)
  K_below := fun _ h => h
  K_of_M := fun h => h
  M_mono := fun _ h => h
  M_bound := fun h => h
  M_move := fun _ h => h
  M_lower := fun _ h => h

/-- The zero State with this Mode. -/
def modeS (m : Int) : Array Value := ((List.replicate 16 [Value.int .u8 0, Value.int .u8 0, Value.int .u8 0, Value.int .i64 0]).flatten ++ [Value.int .i64 0, Value.int .u8 m, Value.int .u8 0, Value.int .u8 0, Value.int .i64 0] ++ (List.replicate 4 [Value.string ByteArray.empty, Value.bool false, Value.bool false]).flatten ++ [Value.int .i64 0]).toArray
def zS : Array Value := modeS 0
theorem info37 : (Try.prog.info? 37).map (fun i => (i.zero, i.size, i.bytes)) = some (some (.agg zS), 82, 384) := by kernel_rfl
theorem isSt_z : IsSt zS := Option.isSome_iff_exists.1 (by kernel_rfl)
theorem isSt_1 : IsSt (modeS 1) := Option.isSome_iff_exists.1 (by kernel_rfl)
theorem z_ne_1 : zS ≠ modeS 1 := by
  intro h
  have := congrArg (fun x => x[65]?) h
  simp [zS, modeS] at this
/-! ### A state laid as a row of one -/
theorem run_bsS {x : Array Value} (hx : IsSt x) (w : World) : (Instr.buildSlice 27 1 #[(0, .agg x)]).run Try.prog w = .ok (.slice (some ⟨w.heap.size, 0, none⟩) 1 1) (w.alloc (.cells x 37)) := by
  obtain ⟨ie, hie, hzz⟩ := Option.map_eq_some_iff.1 info37
  simp only [Prod.mk.injEq] at hzz
  obtain ⟨hz0, hz1, hz2⟩ := hzz
  refine run_buildSlice w 27 37 1 _ x ie (.agg zS) Try.underlying27 hie hz0 (by rw [hz1]; omega) (by rw [hz1]; omega) ?_
  rw [hz1]
  have := Go.Great.fill_whole (s := 82) (by omega) [.agg x] ((Array.range (1 * 82)).map ((Value.agg zS).cells[· % (Value.agg zS).cells.size]!)) (fun v hv => by rw [List.mem_singleton.1 hv]; exact hx.size) (by simp)
  simpa [Value.cells] using this
theorem step_bsS {ops : Array Oper} {o : Oper} {a : Act} {W : World} {K : Act → World → Prop} {Q : Exit → Act → World → Prop} {x : Array Value} (hx : IsSt x) (X : Operand) (hw : Region.wanted o (yielded ops a.tmps) = true) (ho : o.op = .buildSlice 27 1 #[(0, X)]) (hX : a.eval X = .agg x)
    (h : K (a.put o.dst (.slice (some ⟨W.heap.size, 0, none⟩) 1 1)) (W.alloc (.cells x 37))) : if Region.wanted o (yielded ops a.tmps) = true then Oper.wp Try.prog o a W K Q else K (a.put o.dst undef) W := by
  rw [if_pos hw]
  unfold Oper.wp execOp
  have e : (#[((0 : Nat), X)].map fun (i, y) => (i, a.eval y)) = #[(0, .agg x)] := by simp [hX]
  simp only [ho, e, Sem.run_bind, run_bsS hx W, Result.andThen_ok, Sem.run_pure]
  exact h
end Go.Proofs.Ytbmjeopnahmbgaa.In
