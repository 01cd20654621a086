/- MdemphLooks walked. -/
import Derived.Test.YtjfpkldknchnkaaRd
namespace Go.Proofs.Ytjfpkldknchnkaa.Me
open Go.RowKit Go.Proofs.YtjfpkldknchnkaaW.PrintWords Go.Proofs.YtjfpkldknchnkaaW.PrintLast Go.Proofs.YtjfpkldknchnkaaW.PrintMore
attribute [local go_sem] max2_int min2_int max_two min_two max_three min_three max_four min_four
set_option linter.unusedVariables false
set_option linter.unusedSimpArgs false
set_option maxRecDepth 100000 in
set_option maxHeartbeats 8000000 in
theorem looks_c (S : ByteArray) (fr at_ en : Int) (w : World) : Calls Try.prog 3 #[.string S, .int .i64 fr, .int .i64 at_, .int .i64 en] w fun e w' => BoolP w true e w' := by
  by_cases hS : (3000 : Int) < (S.size : Int)
  · go_enter Try.func3, Try.ntmps3
    go_wp2_with (fail)
    go_ret
    exact ⟨rfl, Below.refl _ w⟩
  · have hS2 : S.size ≤ 100000 := by omega
    go_enter Try.func3, Try.ntmps3
    go_upto_region 4 with (fail)
    refine (lookq_c S fr at_ en w hS2).mono ?_
    rintro _ w1 ⟨r, is, ⟨rfl, hb1⟩, hr⟩
    have HB1 := Aside0.mk hb1
    have HR := Aside0.mk hr
    clear hb1 hr
    obtain ⟨b, hb⟩ : ∃ q, w1.heap.size = q := ⟨_, rfl⟩
    obtain ⟨w2, hw2⟩ : ∃ q, w1.alloc (.cells zrun 23) = q := ⟨_, rfl⟩
    have hsw2 : w2.heap.size = b + 1 := by rw [← hw2]; simp [hb]
    have hzb : w2.heap[b]? = some (.cells zrun 23 (0, 0)) := by rw [← hw2, ← hb]; exact heap_alloc_new _ _
    have hbb : Below w1.heap.size w1 w2 := by rw [← hw2]; exact below_alloc (Below.refl _ w1) _
    have fzb := fun j => blk_frozen hzb j
    have z0b : w2.cell? ⟨b, 0, none⟩ = some (.int .i64 0) := cell_of_row _ _ _ _ _ _ hzb
    have z1b : w2.cell? ⟨b, 1, none⟩ = some (.int .i64 0) := cell_of_row _ _ _ _ _ _ hzb
    have z2b : w2.cell? ⟨b, 2, none⟩ = some (.int .u8 0) := cell_of_row _ _ _ _ _ _ hzb
    have z3b : w2.cell? ⟨b, 3, none⟩ = some (.bool false) := cell_of_row _ _ _ _ _ _ hzb
    have z4b : w2.cell? ⟨b, 4, none⟩ = some (.bool false) := cell_of_row _ _ _ _ _ _ hzb
    have HZb := Aside0.mk hzb
    have HBb := Aside0.mk hbb
    clear hzb hbb
    go_upto_region 4 with (fail)
    obtain ⟨V, hV⟩ : ∃ q, ((((w2.setCell ⟨b, 0, none⟩ (.int .i64 r.a)).setCell ⟨b, 1, none⟩ (.int .i64 r.n)).setCell ⟨b, 2, none⟩ (.int .u8 r.c)).setCell ⟨b, 3, none⟩ (.bool r.o)).setCell ⟨b, 4, none⟩ (.bool r.k) = q := ⟨_, rfl⟩
    rw [hV]
    have HV : Aside0 (V.heap[b]? = some (.cells (rnc r) 23 (0, 0))) := ⟨by rw [← hV]; exact five_row HZb.out _ _ _ _ _⟩
    have HBV : Aside0 (Below w1.heap.size w1 V) := ⟨by rw [← hV]; exact five_below HBb.out (by omega) _ _ _ _ _⟩
    clear hV hw2 fzb z0b z1b z2b z3b z4b hsw2
    go_upto_region 5 with (fail)
    refine (rlookq_c S fr at_ en V hS2).mono ?_
    rintro _ w3 ⟨r', is', ⟨rfl, hb3⟩, hr'⟩
    obtain ⟨rfl, rfl⟩ := HR.out.uniq hr'
    have HB3 := Aside0.mk hb3
    clear hb3 hr'
    obtain ⟨d, hd⟩ : ∃ q, w3.heap.size = q := ⟨_, rfl⟩
    obtain ⟨w4, hw4⟩ : ∃ q, w3.alloc (.cells zrun 26) = q := ⟨_, rfl⟩
    have hsw4 : w4.heap.size = d + 1 := by rw [← hw4]; simp [hd]
    have hzd : w4.heap[d]? = some (.cells zrun 26 (0, 0)) := by rw [← hw4, ← hd]; exact heap_alloc_new _ _
    have hbd : Below w3.heap.size w3 w4 := by rw [← hw4]; exact below_alloc (Below.refl _ w3) _
    have fzd := fun j => blk_frozen hzd j
    have z0d : w4.cell? ⟨d, 0, none⟩ = some (.int .i64 0) := cell_of_row _ _ _ _ _ _ hzd
    have z1d : w4.cell? ⟨d, 1, none⟩ = some (.int .i64 0) := cell_of_row _ _ _ _ _ _ hzd
    have z2d : w4.cell? ⟨d, 2, none⟩ = some (.int .u8 0) := cell_of_row _ _ _ _ _ _ hzd
    have z3d : w4.cell? ⟨d, 3, none⟩ = some (.bool false) := cell_of_row _ _ _ _ _ _ hzd
    have z4d : w4.cell? ⟨d, 4, none⟩ = some (.bool false) := cell_of_row _ _ _ _ _ _ hzd
    have HZd := Aside0.mk hzd
    have HBd := Aside0.mk hbd
    clear hzd hbd
    go_upto_region 5 with (fail)
    obtain ⟨X, hX⟩ : ∃ q, ((((w4.setCell ⟨d, 0, none⟩ (.int .i64 r.a)).setCell ⟨d, 1, none⟩ (.int .i64 r.n)).setCell ⟨d, 2, none⟩ (.int .u8 r.c)).setCell ⟨d, 3, none⟩ (.bool r.o)).setCell ⟨d, 4, none⟩ (.bool r.k) = q := ⟨_, rfl⟩
    rw [hX]
    have HX : Aside0 (X.heap[d]? = some (.cells (rnc r) 26 (0, 0))) := ⟨by rw [← hX]; exact five_row HZd.out _ _ _ _ _⟩
    have HBX : Aside0 (Below w3.heap.size w3 X) := ⟨by rw [← hX]; exact five_below HBd.out (by omega) _ _ _ _ _⟩
    clear hX hw4 fzd z0d z1d z2d z3d z4d hsw4
    have hV : X.heap[b]? = some (.cells (rnc r) 23 (0, 0)) := (HBX.out.block b (Nat.lt_of_lt_of_le (blk_lt HV.out) HB3.out.size)).trans ((HB3.out.block b (blk_lt HV.out)).trans HV.out)
    have a0 : X.cell? ⟨b, 0, none⟩ = some (.int .i64 r.a) := cell_of_row _ _ _ _ _ _ hV
    have a1 : X.cell? ⟨b, 1, none⟩ = some (.int .i64 r.n) := cell_of_row _ _ _ _ _ _ hV
    have a2 : X.cell? ⟨b, 2, none⟩ = some (.int .u8 r.c) := cell_of_row _ _ _ _ _ _ hV
    have a3 : X.cell? ⟨b, 3, none⟩ = some (.bool r.o) := cell_of_row _ _ _ _ _ _ hV
    have a4 : X.cell? ⟨b, 4, none⟩ = some (.bool r.k) := cell_of_row _ _ _ _ _ _ hV
    have c0 : X.cell? ⟨d, 0, none⟩ = some (.int .i64 r.a) := cell_of_row _ _ _ _ _ _ HX.out
    have c1 : X.cell? ⟨d, 1, none⟩ = some (.int .i64 r.n) := cell_of_row _ _ _ _ _ _ HX.out
    have c2 : X.cell? ⟨d, 2, none⟩ = some (.int .u8 r.c) := cell_of_row _ _ _ _ _ _ HX.out
    have c3 : X.cell? ⟨d, 3, none⟩ = some (.bool r.o) := cell_of_row _ _ _ _ _ _ HX.out
    have c4 : X.cell? ⟨d, 4, none⟩ = some (.bool r.k) := cell_of_row _ _ _ _ _ _ HX.out
    have HBF : Aside0 (Below w.heap.size w X) := ⟨(HB1.out.trans (HBV.out.mono HB1.out.size)).trans ((HB3.out.trans (HBX.out.mono HB3.out.size)).mono (Nat.le_trans HB1.out.size HBV.out.size))⟩
    have HRD := Aside0.mk (reads_c X)
    clear hV
    go_wp2_with (go_at_call 11; refine HRD.out.mono ?_; rintro _ w9 ⟨rfl, h9⟩; have HB9 := Aside0.mk h9; clear h9)
    go_ret
    exact ⟨rfl, HBF.out.trans (HB9.out.mono HBF.out.size)⟩
end Go.Proofs.Ytjfpkldknchnkaa.Me
