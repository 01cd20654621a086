/- No table has no states: the law's walk. -/
import Derived.Test.YtbmjeopnahmbgaaWk
namespace Go.Proofs.Ytbmjeopnahmbgaa.In
open Go.RowKit Go.Proofs.YtbmjeopnahmbgaaW.PrintWords Go.Proofs.YtbmjeopnahmbgaaW.PrintLast Go.Proofs.YtbmjeopnahmbgaaW.PrintMore
open Go.WideShapes
set_option linter.unusedVariables false

theorem find_nil (x : Array Value) (w : World) : Calls Try.prog 10 #[.pointer none, .agg x] w fun e w' => e = .returned (.tuple #[.int .i64 0, .bool false]) ∧ Below w.heap.size w w' := by
  have hbel := Aside0.mk (below_alloc (Below.refl _ w) (.cells x 37))
  go_enter Try.func10, Try.ntmps10
  go_wp2_with (fail)
  go_ret2
  exact ⟨rfl, hbel.out⟩
theorem id_nil (x : Array Value) (w : World) : Calls Try.prog 8 #[.pointer none, .agg x] w fun e w' => e = .returned (.int .i64 0) ∧ Below w.heap.size w w' := by
  have hbel := Aside0.mk (below_alloc (Below.refl _ w) (.cells x 37))
  go_enter Try.func8, Try.ntmps8
  go_wp2_with (fail)
  go_ret
  exact ⟨rfl, hbel.out⟩
theorem len_nil (w : World) : Calls Try.prog 14 #[.pointer none] w fun e w' => e = .returned (.int .i64 0) ∧ w' = w := by
  go_enter Try.func14, Try.ntmps14
  go_wp2_with (fail)
  go_ret
  exact ⟨rfl, rfl⟩
set_option maxRecDepth 100000 in
theorem state_nil (n : Int) (w : World) : Calls Try.prog 12 #[.pointer none, .int .i64 n] w fun e w' => e = .returned (.tuple #[.agg zS, .int .i64 8]) ∧ Below w.heap.size w w' := by
  have HZ : Aside0 ((w.alloc (.cells zS 37)).heap[w.heap.size]? = some (.cells zS 37 (0, 0))) := ⟨heap_alloc_new _ _⟩
  have hbel : Aside0 (Below w.heap.size w (w.alloc (.cells zS 37))) := ⟨below_alloc (Below.refl _ w) _⟩
  go_enter Try.func12, Try.ntmps12
  go_wp2_with (first
    | (refine wpList_runV (by rfl) _ (exec_allocS _ _ (by rfl) _) ?_)
    | (refine wpList_runV (by rfl) _ (exec_build0 _ _ (by rfl) _) ?_)
    | (refine wpList_store_row (by rfl) 37 _ _ (by rfl) w.heap.size zS (by rfl) (by rfl) 37 zS HZ.out (by rw [infoS, sizeZ]) rfl (oneAll isSt_z) ?_))
  refine bodyPost_ret (results_cell_tmp rfl _ _ _ w.heap.size 37 zS _ rfl rfl (setRow_heap _ _ _ _ _ _ HZ.out) Try.underlying37 (by rw [infoS, sizeZ])) rfl ?_
  exact ⟨rfl, below_setRowS hbel.out (Nat.le_refl _) _⟩

set_option maxRecDepth 100000 in
set_option maxHeartbeats 2000000 in
theorem nil_c (x : Array Value) (hx : IsSt x) (n : Int) (w : World) : Calls Try.prog 4 #[.agg x, .int .i64 n] w fun e w' => e = .returned (.bool true) ∧ Below w.heap.size w w' := by
  have HX := Aside0.mk hx
  obtain ⟨w1, hw1⟩ : ∃ w1, w.alloc (.cells x 37) = w1 := ⟨_, rfl⟩
  have hr1 : Aside0 (w1.heap[w.heap.size]? = some (.cells x 37 (0, 0))) := ⟨by rw [← hw1]; exact heap_alloc_new _ _⟩
  have hb1 : Aside0 (Below w.heap.size w w1) := ⟨by rw [← hw1]; exact below_alloc (Below.refl _ w) _⟩
  have hs1 : w.heap.size < w1.heap.size := by rw [← hw1, World.size_alloc]; omega
  have hix : Aside0 ((Try.prog.info? 37).map (·.size) = some x.size) := ⟨by rw [infoS, hx.size]⟩
  clear hx
  go_enter Try.func4, Try.ntmps4
  go_upto_region 2 with (fail)
  try rw [hw1]
  clear hw1
  go_wp2_with (first
    | (refine wpList_load_row (by rfl) 37 _ (by rfl) w.heap.size (by rfl) 37 x (0, 0) _ hr1.out Try.underlying37 rfl hix.out ?_)
    | (refine (find_nil x _).mono ?_))
  rintro _ w2 ⟨rfl, hb⟩
  have hr2 : Aside0 (w2.heap[w.heap.size]? = some (.cells x 37 (0, 0))) := ⟨(hb.block _ hs1).trans hr1.out⟩
  have hs2 : w.heap.size < w2.heap.size := Nat.lt_of_lt_of_le hs1 hb.size
  have hb2 : Aside0 (Below w.heap.size w w2) := ⟨hb1.out.trans (hb.mono (by omega))⟩
  clear hb hb1 hr1 hs1
  go_wp2_with (refine (state_nil n _).mono ?_)
  rintro _ w3 ⟨rfl, hb⟩
  have hz3 := heap_alloc_new w3 (.cells zS 37)
  obtain ⟨w4, hw4⟩ : ∃ w4, (w3.alloc (.cells zS 37)).setRow w3.heap.size zS = w4 := ⟨_, rfl⟩
  have b4 : Below w3.heap.size w3 w4 := by rw [← hw4]; exact below_setRowS (below_alloc (Below.refl _ w3) _) (Nat.le_refl _) _
  have hr4 : Aside0 (w4.heap[w.heap.size]? = some (.cells x 37 (0, 0))) := ⟨(b4.block _ (Nat.lt_of_lt_of_le hs2 hb.size)).trans ((hb.block _ hs2).trans hr2.out)⟩
  have hz4 : Aside0 (w4.heap[w3.heap.size]? = some (.cells zS 37 (0, 0))) := ⟨by rw [← hw4]; exact setRow_heap _ _ _ _ _ _ hz3⟩
  have hs3 : w.heap.size < w3.heap.size := Nat.lt_of_lt_of_le hs2 hb.size
  have hz3s : w3.heap.size < w4.heap.size := blk_lt hz4.out
  have hb4 : Aside0 (Below w.heap.size w w4) := ⟨hb2.out.trans ((hb.mono (by omega)).trans (b4.mono (by omega)))⟩
  have HZ3 := Aside0.mk hz3
  clear hb b4 hz3 hr2 hb2 hs2
  go_upto_region 4 with (first
      | (refine wpList_runV (by rfl) _ (exec_allocS _ _ (by rfl) _) ?_)
      | (refine wpList_store_row (by rfl) 37 _ _ (by rfl) w3.heap.size zS (by rfl) (by rfl) 37 zS HZ3.out (by rw [infoS, sizeZ]) rfl (oneAll isSt_z) ?_))
  clear hw4 HZ3
  go_wp2_with (first
    | (refine wpList_load_row (by rfl) 37 _ (by rfl) w.heap.size (by rfl) 37 x (0, 0) _ hr4.out Try.underlying37 rfl hix.out ?_)
    | (refine (id_nil x _).mono ?_))
  rintro _ w5 ⟨rfl, hb⟩
  have hz5 : Aside0 (w5.rangeAt w3.heap.size 0 zS.toList) := ⟨fun j v hj => by
    rw [Nat.zero_add, cell_of_row _ _ _ _ _ _ ((hb.block _ hz3s).trans hz4.out)]
    simpa using hj⟩
  have hb5 : Aside0 (Below w.heap.size w w5) := ⟨hb4.out.trans (hb.mono (by omega))⟩
  clear hb hr4 hz4 hb4 hz3s
  go_wp2_with (first
    | (refine wpList_runV (by rfl) _ (exec_loadS isSt_z _ _ _ (by rfl) (by rfl) _ hz5.out) ?_)
    | (refine wpList_runV (by rfl) _ (exec_build0 _ _ (by rfl) _) ?_)
    | (refine wpList_runV (by rfl) _ (exec_eq_self isSt_z _ _ _ _ _ (by rfl) (by rfl) (by rfl) _) ?_)
    | (refine (len_nil _).mono ?_; rintro _ _ ⟨rfl, rfl⟩)
    | (refine (wakes_c _).mono ?_))
  rintro _ w6 ⟨rfl, hb⟩
  have hb6 : Aside0 (Below w.heap.size w w6) := ⟨hb5.out.trans (hb.mono hb5.out.size)⟩
  clear hb
  go_wp2_with (fail)
  go_ret
  exact ⟨rfl, hb6.out⟩
end Go.Proofs.Ytbmjeopnahmbgaa.In
