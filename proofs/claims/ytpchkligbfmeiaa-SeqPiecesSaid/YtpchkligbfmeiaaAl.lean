/- All: the iterator's value, and what it gives. No row at all: every function's answer. -/
import Derived.Test.YtpchkligbfmeiaaOv
namespace Go.Proofs.Ytpchkligbfmeiaa.Se
open Go.RowKit Go.Shelf Go.Proofs.YtpchkligbfmeiaaW.PrintWords Go.Proofs.YtpchkligbfmeiaaW.PrintLast Go.Proofs.YtpchkligbfmeiaaW.PrintMore
set_option linter.unusedVariables false
set_option linter.unusedSimpArgs false
section
attribute [local go_sem] Oper.semAt_some
set_option maxHeartbeats 1000000 in
theorem all1_in (n l Bt : Nat) (v : Value) (T : Tr) (J Jx : List NItem → World → Prop)
    (hY : ∀ pre x W, J pre W → pre.length < (toL T).length → YieldAt Fence.wide (n - 1) Try.prog l (encN x) W fun e W' =>
      (e = .returned (.bool true) ∧ J (pre ++ [x]) W' ∧ K58 W W') ∨ (e = .returned (.bool false) ∧ Jx (pre ++ [x]) W'))
    (W : World) (hBt : W.cell? ⟨Bt, 0, none⟩ = some v) (hT : At W T v) (h8 : cntT T ≤ 8388608) (h0 : J [] W) :
    CallsIn Fence.wide n Try.prog 23 #[.func (.yield l) #[] #[], .pointer (some ⟨Bt, 0, none⟩)] W fun e W' => (∃ v, e = .returned v) ∧
      ((∃ ys, ys = numb 0 (toL T) ∧ J ys W') ∨ (∃ pre, pre <+: numb 0 (toL T) ∧ Jx pre W')) := by
  have hp := over_in l (toL T).length J Jx (fun m pre x W hj hl => YieldAt.anyDepth rfl m (hY pre x W hj hl)) T (n - 1) v 0 [] W hT (by omega) (by omega) h0 (by simp [numb_len])
  obtain ⟨q, rfl⟩ := hT.ptr
  refine callsIn_of_wp Try.func23 rfl trivial ?_ rfl
  simp only [Try.ntmps23, List.size_toArray, List.length_cons, List.length_nil, Nat.reduceAdd, Nat.reduceSub, Array.replicate_succ, Array.replicate_zero, List.push_toArray, List.append_toArray, List.nil_append, List.cons_append]
  gi_wp2_with ((refine ⟨trivial, fun h => (by simp [Fence.wide] at h), ?_⟩); gi_at_call 24; refine hp.mono ?_; clear hp; rintro e W1 (⟨rfl, hJ1, _⟩ | ⟨rfl, q, hq, hx⟩))
  · go_end0
    exact ⟨⟨_, rfl⟩, .inl ⟨_, rfl, by simpa using hJ1⟩⟩
  · go_end0
    exact ⟨⟨_, rfl⟩, .inr ⟨q, hq, by simpa using hx⟩⟩
theorem all_stops (n Bt : Nat) (v : Value) (T : Tr) (w : World) (hBt : Bt < w.heap.size) (hc : w.cell? ⟨Bt, 0, none⟩ = some v) (hT : At w T v) (h8 : cntT T ≤ 8388608) :
    SeqStopsK Fence.wide n Try.prog 23 #[.pointer (some ⟨Bt, 0, none⟩)] encN K58 (fun ys => ys = numb 0 (toL T)) (fun pre => pre <+: numb 0 (toL T)) (toL T).length w := fun l J Jx W hW _ _ hY h0 =>
  all1_in n l Bt v T J Jx hY W ((hW.cell (p := ⟨Bt, 0, none⟩) hBt).trans hc) (hT.below hW) h8 h0
end
/-- What All hands back. -/
def AllP (w : World) (v : Value) (e : Ending) (w' : World) : Prop :=
  e = .returned (.func (.func 23) #[] #[.pointer (some ⟨w.heap.size, 0, none⟩)]) ∧ w'.cell? ⟨w.heap.size, 0, none⟩ = some v ∧ w'.heap.size = w.heap.size + 1 ∧ Below w.heap.size w w'
theorem allP_mk (w : World) (v : Value) : AllP w v (.returned (.func (.func 23) #[] #[.pointer (some ⟨w.heap.size, 0, none⟩)])) (w.alloc (.cells #[v] 46)) :=
  ⟨rfl, cell_of_row _ _ _ _ _ _ (heap_alloc_new w (.cells #[v] 46)), Array.size_push _, below_alloc (Below.refl _ w) _⟩
theorem top_nil (w : World) : Calls Try.prog 22 #[.pointer none] w fun e w' => e = .returned (.pointer none) ∧ w' = w := by
  go_enter Try.func22, Try.ntmps22
  go_wp2_with (fail)
  go_ret
  exact ⟨rfl, rfl⟩
theorem all_nil (w : World) : Calls Try.prog 11 #[.pointer none] w fun e w' => AllP w (.pointer none) e w' := by
  have hfin := Aside0.mk (allP_mk w (.pointer none))
  go_enter Try.func11, Try.ntmps11
  go_wp2_with (refine (top_nil w).mono ?_; rintro _ w9 ⟨rfl, h9⟩; rw [h9]; clear h9 w9)
  go_ret
  exact hfin.out
theorem all_c (p : Nat) (a : Option Addr) (w : World) (h : w.heap[p]? = some (.cells #[.pointer a] 48 (0, 0))) : Calls Try.prog 11 #[.pointer (some ⟨p, 0, none⟩)] w fun e w' => AllP w (.pointer a) e w' := by
  have H := Aside0.mk h
  have hfin := Aside0.mk (allP_mk w (.pointer a))
  clear h
  go_enter Try.func11, Try.ntmps11
  go_wp2_with (refine (top_c p a w H.out).mono ?_; rintro _ w9 ⟨rfl, h9⟩; rw [h9]; clear h9 w9)
  go_ret
  exact hfin.out
theorem len_nil (w : World) : Calls Try.prog 12 #[.pointer none] w fun e w' => e = .returned (.int .i64 0) ∧ w' = w := by
  go_enter Try.func12, Try.ntmps12
  go_wp2_with (first
    | (refine (top_nil w).mono ?_; rintro _ w9 ⟨rfl, h9⟩; rw [h9]; clear h9 w9)
    | (refine (count_c .nil (.pointer none) w rfl).mono ?_; rintro _ w9 ⟨rfl, h9⟩; rw [h9]; clear h9 w9))
  go_ret
  exact ⟨rfl, rfl⟩
theorem size_nil (w : World) : Calls Try.prog 13 #[.pointer none] w fun e w' => e = .returned (.int .i64 0) ∧ w' = w := by
  go_enter Try.func13, Try.ntmps13
  go_wp2_with (first
    | (refine (top_nil w).mono ?_; rintro _ w9 ⟨rfl, h9⟩; rw [h9]; clear h9 w9)
    | (refine (sum_c .nil (.pointer none) w rfl).mono ?_; rintro _ w9 ⟨rfl, h9⟩; rw [h9]; clear h9 w9))
  go_ret
  exact ⟨rfl, rfl⟩
theorem deep_nil (w : World) : Calls Try.prog 17 #[.pointer none] w fun e w' => e = .returned (.int .i64 0) ∧ w' = w := by
  go_enter Try.func17, Try.ntmps17
  go_wp2_with (first
    | (refine (top_nil w).mono ?_; rintro _ w9 ⟨rfl, h9⟩; rw [h9]; clear h9 w9)
    | (refine (depth_c .nil (.pointer none) w rfl).mono ?_; rintro _ w9 ⟨rfl, h9⟩; rw [h9]; clear h9 w9))
  go_ret
  exact ⟨rfl, rfl⟩
theorem at_nil (i : Int) (w : World) : Calls Try.prog 14 #[.pointer none, .int .i64 i] w fun e w' => e = .returned (.tuple #[.string ByteArray.empty, .int .i64 0, .int .i64 8]) ∧ w' = w := by
  go_enter Try.func14, Try.ntmps14
  go_wp2_with (fail)
  go_ret3
  exact ⟨rfl, rfl⟩
theorem sums_nil (i : Int) (w : World) : Calls Try.prog 15 #[.pointer none, .int .i64 i] w fun e w' => e = .returned (.tuple #[.int .i64 0, .int .i64 8]) ∧ w' = w := by
  go_enter Try.func15, Try.ntmps15
  go_wp2_with (fail)
  go_ret2
  exact ⟨rfl, rfl⟩
theorem find_nil (i : Int) (w : World) : Calls Try.prog 16 #[.pointer none, .int .i64 i] w fun e w' => e = .returned (.tuple #[.int .i64 0, .int .i64 0, .int .i64 8]) ∧ w' = w := by
  go_enter Try.func16, Try.ntmps16
  go_wp2_with (fail)
  go_ret3
  exact ⟨rfl, rfl⟩
theorem splice_nil (i n : Int) (A1 A2 : Option Addr) (n1 c1 n2 c2 : Nat) (w : World) : Calls Try.prog 10 #[.pointer none, .int .i64 i, .int .i64 n, .slice A1 n1 c1, .slice A2 n2 c2] w fun e w' => e = .returned (.int .i64 8) ∧ w' = w := by
  go_enter Try.func10, Try.ntmps10
  go_wp2_with (fail)
  go_ret
  exact ⟨rfl, rfl⟩
end Go.Proofs.Ytpchkligbfmeiaa.Se
