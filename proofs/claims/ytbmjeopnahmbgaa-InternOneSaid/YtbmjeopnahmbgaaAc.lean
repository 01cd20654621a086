/- What is asked of a table: rows of a doing, a number and a state. -/
import Derived.Test.YtbmjeopnahmbgaaNi
namespace Go.Proofs.Ytbmjeopnahmbgaa.In
open Go.RowKit Go.Proofs.YtbmjeopnahmbgaaW.PrintWords Go.Proofs.YtbmjeopnahmbgaaW.PrintLast Go.Proofs.YtbmjeopnahmbgaaW.PrintMore
open Go.WideShapes
set_option linter.unusedVariables false

structure Ask where
  d : Int
  n : Int
  x : Array Value
def Ask.cells (a : Ask) : Array Value := (Value.int .i64 a.d :: Value.int .i64 a.n :: a.x.toList).toArray
def RA (a : Ask) (c : List Value) : Prop := IsSt a.x ∧ c = a.cells.toList
def RS (x : Array Value) (c : List Value) : Prop := IsSt x ∧ c = x.toList
theorem Ask.size {a : Ask} (h : IsSt a.x) : a.cells.size = 84 := by simp [Ask.cells, h.size]
theorem Ask.one {a : Ask} (h : IsSt a.x) : a.cells.all (·.oneCell') = true := by
  refine Array.all_eq_true_iff_forall_mem.2 (fun u hu => ?_)
  have : u ∈ a.cells.toList := by simpa using hu
  simp only [Ask.cells, List.mem_cons] at this
  rcases this with rfl | rfl | h1
  · rfl
  · rfl
  · exact h.one u h1
def zA : Ask := ⟨0, 0, zS⟩
theorem infoA : (Try.prog.info? 39).map (·.size) = some 84 := by kernel_rfl

section
variable {P : Program}
/-- A struct is loaded, wherever it lies. -/
theorem run_loadAt_any (w : World) (ad : Addr) (ty : TypeId) (xs : Array Value) (d : TypeDesc) (hd : d.isRow = true) (hc : ∀ j v, xs.toList[j]? = some v → w.cell? (ad.add j) = some v)
    (hu : P.underlying ty = some d) (hi : (P.info? ty).map (·.size) = some xs.toList.length) : (Instr.loadAt ty (.pointer (some ad))).run P w = .ok (.agg xs) w := by
  have hl : (loadCells ad xs.toList.length).run P w = .ok xs.toList.toArray w := run_loadCells_list (P := P) w ad xs.toList hc
  rw [Array.toArray_toList] at hl
  cases hq : P.info? ty with
  | none => simp [hq] at hi
  | some i =>
    have hs : i.size = xs.toList.length := by simpa [hq] using hi
    have hagg : (isAgg ty).run P w = .ok true w := by
      unfold isAgg
      rw [Sem.run_bind, run_underlying hu w]
      cases d <;> simp_all
    simp only [Instr.loadAt, Instr.sureAddr, Sem.run_bind, Sem.run_pure, Result.andThen_ok]
    simp only [Array.length_toList] at hs hl
    simp [loadVar, Sem.run_bind, hagg, sizeOf, typeInfo, hq, hs, hl]
end
theorem exec_load_any {ad : Addr} {y : Array Value} {ty : TypeId} {d : TypeDesc} (hd : d.isRow = true) (hu : Try.prog.underlying ty = some d) (hi : (Try.prog.info? ty).map (·.size) = some y.toList.length) (ρ : Operand → Value) (o : Oper) (X : Operand) (ho : o.op = .load ty X) (hX : ρ X = .pointer (some ad)) (w : World)
    (hc : ∀ j v, y.toList[j]? = some v → w.cell? (ad.add j) = some v) : (execOp ρ o).run Try.prog w = .ok (.value (.agg y)) w := by
  have := run_loadAt_any (P := Try.prog) w ad ty y d hd hc hu hi
  unfold execOp
  simp only [ho, hX, Sem.run_bind, this, Result.andThen_ok, Sem.run_pure]
theorem exec_allocA (ρ : Operand → Value) (o : Oper) (ho : o.op = .alloc 39) (w : World) : (execOp ρ o).run Try.prog w = .ok (.value (.pointer (some ⟨w.heap.size, 0, none⟩))) (w.alloc (.cells zA.cells 39)) := by
  unfold execOp
  simp only [ho]
  kernel_rfl
theorem infoAL {a : Ask} (h : IsSt a.x) : (Try.prog.info? 39).map (·.size) = some a.cells.toList.length := by rw [infoA, Array.length_toList, Ask.size h]
theorem sizeZA : zA.cells.size = 84 := Ask.size isSt_z
/-- The state within, where the whole lies. -/
theorem ask_state {w : World} {b : Nat} {a : Ask} (h : w.heap[b]? = some (.cells a.cells 39 (0, 0))) : w.rangeAt b 2 a.x.toList := fun j v hj => by
  rw [cell_of_row _ _ _ _ _ _ h]
  show (Value.int .i64 a.d :: Value.int .i64 a.n :: a.x.toList).toArray[2 + j]? = some v
  rw [List.getElem?_toArray, show 2 + j = j + 1 + 1 by omega, List.getElem?_cons_succ, List.getElem?_cons_succ]
  exact hj
theorem ask_d {w : World} {b : Nat} {a : Ask} (h : w.heap[b]? = some (.cells a.cells 39 (0, 0))) : w.cell? ⟨b, 0, none⟩ = some (.int .i64 a.d) := by rw [cell_of_row _ _ _ _ _ _ h]; rfl
theorem ask_n {w : World} {b : Nat} {a : Ask} (h : w.heap[b]? = some (.cells a.cells 39 (0, 0))) : w.cell? ⟨b, 1, none⟩ = some (.int .i64 a.n) := by rw [cell_of_row _ _ _ _ _ _ h]; rfl
theorem add_addA (a : Addr) (i j : Nat) : (a.add i).add j = a.add (i + j) := by
  unfold Addr.add
  by_cases h1 : i = 0 <;> by_cases h2 : j = 0 <;> simp [h1, h2]
  omega
/-- Element k of a row of such. -/
theorem ask_at {w : World} {ad : Addr} {n : Nat} {l : List Ask} {k : Nat} {a : Ask} (h : ReadsRow RA 84 w (some ad) n l) (ha : l[k]? = some a) : IsSt a.x ∧ ∀ j v, a.cells.toList[j]? = some v → w.cell? ((ad.add (k * 84)).add j) = some v := by
  have hk := (List.getElem?_eq_some_iff.1 ha).1
  obtain ⟨ad', e, hc⟩ := h.2.2 (by have := h.1; omega)
  injection e with e
  subst e
  obtain ⟨c, _, ⟨hs, rfl⟩, hcell⟩ := hc k a ha
  exact ⟨hs, fun j v hj => by rw [add_addA]; exact hcell j v hj⟩
end Go.Proofs.Ytbmjeopnahmbgaa.In
