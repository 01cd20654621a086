/- SpanSets walked. -/
import Derived.Test.YtcbddmmoioggaaaWa
namespace Go.Proofs.Ytcbddmmoioggaaa.Sp
open Go.RowKit Go.Shelf Go.Proofs.YtcbddmmoioggaaaW.PrintWords Go.Proofs.YtcbddmmoioggaaaW.PrintLast Go.Proofs.YtcbddmmoioggaaaW.PrintMore
attribute [local go_sem] max2_int min2_int max_two min_two max_three min_three max_four min_four
set_option linter.unusedVariables false
set_option linter.unusedSimpArgs false
set_option maxRecDepth 100000 in
set_option maxHeartbeats 16000000 in
theorem sets_c (A : Option Addr) (n c : Nat) (a : List Rg) (B : Option Addr) (m d : Nat) (b : List Rg) (w : World) (hA : ReadsRow RRg 2 w A n a) (hB : ReadsRow RRg 2 w B m b) : Calls Try.prog 4 #[.slice A n c, .slice B m d] w fun e w' => BoolP w true e w' := by
  have HR_a := Aside0.mk hA
  have HR_b := Aside0.mk hB
  have HL_a := Aside0.mk hA.1
  have HL_b := Aside0.mk hB.1
  have HB_w : Aside0 (Below w.heap.size w w) := ⟨Below.refl _ _⟩
  have HRAW := HR_a
  have HRBW := HR_b
  clear hA hB
  by_cases h200 : (200 : Int) < (n : Int)
  · go_enter Try.func4, Try.ntmps4
    go_wp2_with (refine (wakes_c _).mono ?_; rintro _ w1 ⟨rfl, hb⟩; have HB := Aside0.mk hb; clear hb)
    go_ret
    exact ⟨rfl, HB.out⟩
  by_cases h201 : (200 : Int) < (m : Int)
  · go_enter Try.func4, Try.ntmps4
    go_wp2_with (refine (wakes_c _).mono ?_; rintro _ w1 ⟨rfl, hb⟩; have HB := Aside0.mk hb; clear hb)
    go_ret
    exact ⟨rfl, HB.out⟩
  have hna : n ≤ 200 := by omega
  have hnb : m ≤ 200 := by omega
  go_enter Try.func4, Try.ntmps4
  have HC_ := Aside0.mk (own_c A n c a w HR_a.out (by omega))
  go_wp2_with (refine HC_.out.mono ?_)
  rintro _ w_1 ⟨v_, rfl, hr_, hb_⟩
  obtain ⟨A_1, c_1, rfl, _, hC_⟩ := Kd.R_reads hr_
  rw [HL_a.out] at hC_ ⊢
  have HR_a := Aside0.mk (rgs_below HR_a.out hb_)
  have HR_b := Aside0.mk (rgs_below HR_b.out hb_)
  have HB_w : Aside0 (Below w.heap.size w w_1) := ⟨HB_w.out.trans (hb_.mono HB_w.out.size)⟩
  have HR_x : Aside0 (ReadsRow RRg 2 w_1 A_1 n a) := ⟨hC_⟩
  have HL_x := HL_a
  clear hr_ hb_ hC_ HC_
  have HC_ := Aside0.mk (own_c B m d b w_1 HR_b.out (by omega))
  go_wp2_with (refine HC_.out.mono ?_)
  rintro _ w_2 ⟨v_, rfl, hr_, hb_⟩
  obtain ⟨A_2, c_2, rfl, _, hC_⟩ := Kd.R_reads hr_
  rw [HL_b.out] at hC_ ⊢
  have HR_a := Aside0.mk (rgs_below HR_a.out hb_)
  have HR_b := Aside0.mk (rgs_below HR_b.out hb_)
  have HR_x := Aside0.mk (rgs_below HR_x.out hb_)
  have HB_w : Aside0 (Below w.heap.size w w_2) := ⟨HB_w.out.trans (hb_.mono HB_w.out.size)⟩
  have HR_y : Aside0 (ReadsRow RRg 2 w_2 A_2 m b) := ⟨hC_⟩
  have HL_y := HL_b
  clear hr_ hb_ hC_ HC_
  have HB_w_2 : Aside0 (Below w_2.heap.size w_2 w_2) := ⟨Below.refl _ _⟩
  have HRX_ := HR_x
  have HBWX := HB_w
  have HRY_ := HR_y
  have HC_ := Aside0.mk (norm_c A_1 n c_1 a w_2 HR_x.out (by omega))
  go_wp2_with (refine HC_.out.mono ?_)
  rintro _ w_3 ⟨v_, R_3, rfl, hr_, hf_, hh_, hl_, hb_⟩
  obtain ⟨A_3, c_3, rfl, _, hC_⟩ := Kd.R_reads hr_
  have hl_ : R_3.length ≤ 400 := by rw [HL_x.out, List.length_nil] at hl_; omega
  obtain ⟨n_3, hn_3⟩ : ∃ q, R_3.length = q := ⟨_, rfl⟩
  rw [hn_3] at hC_ hl_ ⊢
  have HR_a := Aside0.mk (rgs_below HR_a.out hb_)
  have HR_b := Aside0.mk (rgs_below HR_b.out hb_)
  have HR_x := Aside0.mk (rgs_below HR_x.out hb_)
  have HR_y := Aside0.mk (rgs_below HR_y.out hb_)
  have HB_w : Aside0 (Below w.heap.size w w_3) := ⟨HB_w.out.trans (hb_.mono HB_w.out.size)⟩
  have HB_w_2 : Aside0 (Below w_2.heap.size w_2 w_3) := ⟨HB_w_2.out.trans (hb_.mono HB_w_2.out.size)⟩
  have HR_n : Aside0 (ReadsRow RRg 2 w_3 A_3 n_3 R_3) := ⟨hC_⟩
  have HL_n := Aside0.mk hn_3
  have HF_n := Aside0.mk hf_
  have HH_n := Aside0.mk hh_
  have hn8_3 : n_3 ≤ 400 := hl_
  rw [hn_3] at hr_
  have HO_n := Aside0.mk hr_
  clear hr_ hf_ hh_ hl_ hb_ hC_ HC_ hn_3
  have HC_ := Aside0.mk (union_c A_1 n c_1 a A_2 m c_2 b w_3 HR_x.out HR_y.out (by omega))
  go_wp2_with (refine HC_.out.mono ?_)
  rintro _ w_4 ⟨v_, R_4, rfl, hr_, hf_, hh_, hl_, hb_⟩
  obtain ⟨A_4, c_4, rfl, _, hC_⟩ := Kd.R_reads hr_
  have hl_ : R_4.length ≤ 800 := by rw [HL_x.out, HL_y.out] at hl_; omega
  obtain ⟨n_4, hn_4⟩ : ∃ q, R_4.length = q := ⟨_, rfl⟩
  rw [hn_4] at hC_ hl_ ⊢
  have HR_a := Aside0.mk (rgs_below HR_a.out hb_)
  have HR_b := Aside0.mk (rgs_below HR_b.out hb_)
  have HR_x := Aside0.mk (rgs_below HR_x.out hb_)
  have HR_y := Aside0.mk (rgs_below HR_y.out hb_)
  have HR_n := Aside0.mk (rgs_below HR_n.out hb_)
  have HO_n := Aside0.mk (Kd.R_below HO_n.out hb_)
  have HB_w : Aside0 (Below w.heap.size w w_4) := ⟨HB_w.out.trans (hb_.mono HB_w.out.size)⟩
  have HB_w_2 : Aside0 (Below w_2.heap.size w_2 w_4) := ⟨HB_w_2.out.trans (hb_.mono HB_w_2.out.size)⟩
  have HR_u : Aside0 (ReadsRow RRg 2 w_4 A_4 n_4 R_4) := ⟨hC_⟩
  have HL_u := Aside0.mk hn_4
  have HF_u := Aside0.mk hf_
  have HH_u := Aside0.mk hh_
  have hn8_4 : n_4 ≤ 800 := hl_
  clear hr_ hf_ hh_ hl_ hb_ hC_ HC_ hn_4
  have HC_ := Aside0.mk (minus_c A_1 n c_1 a A_2 m c_2 b w_4 HR_x.out HR_y.out (by omega))
  go_wp2_with (refine HC_.out.mono ?_)
  rintro _ w_5 ⟨v_, R_5, rfl, hr_, hf_, hh_, hl_, hb_⟩
  obtain ⟨A_5, c_5, rfl, _, hC_⟩ := Kd.R_reads hr_
  have hl_ : R_5.length ≤ 800 := by rw [HL_x.out, HL_y.out] at hl_; omega
  obtain ⟨n_5, hn_5⟩ : ∃ q, R_5.length = q := ⟨_, rfl⟩
  rw [hn_5] at hC_ hl_ ⊢
  have HR_a := Aside0.mk (rgs_below HR_a.out hb_)
  have HR_b := Aside0.mk (rgs_below HR_b.out hb_)
  have HR_x := Aside0.mk (rgs_below HR_x.out hb_)
  have HR_y := Aside0.mk (rgs_below HR_y.out hb_)
  have HR_n := Aside0.mk (rgs_below HR_n.out hb_)
  have HR_u := Aside0.mk (rgs_below HR_u.out hb_)
  have HO_n := Aside0.mk (Kd.R_below HO_n.out hb_)
  have HB_w : Aside0 (Below w.heap.size w w_5) := ⟨HB_w.out.trans (hb_.mono HB_w.out.size)⟩
  have HB_w_2 : Aside0 (Below w_2.heap.size w_2 w_5) := ⟨HB_w_2.out.trans (hb_.mono HB_w_2.out.size)⟩
  have HR_m : Aside0 (ReadsRow RRg 2 w_5 A_5 n_5 R_5) := ⟨hC_⟩
  have HL_m := Aside0.mk hn_5
  have HF_m := Aside0.mk hf_
  have HH_m := Aside0.mk hh_
  have hn8_5 : n_5 ≤ 800 := hl_
  clear hr_ hf_ hh_ hl_ hb_ hC_ HC_ hn_5
  have HC_ := Aside0.mk (both_c A_1 n c_1 a A_2 m c_2 b w_5 HR_x.out HR_y.out (by omega))
  go_wp2_with (refine HC_.out.mono ?_)
  rintro _ w_6 ⟨v_, R_6, rfl, hr_, hf_, hh_, hl_, hb_⟩
  obtain ⟨A_6, c_6, rfl, _, hC_⟩ := Kd.R_reads hr_
  have hl_ : R_6.length ≤ 800 := by rw [HL_x.out, HL_y.out] at hl_; omega
  obtain ⟨n_6, hn_6⟩ : ∃ q, R_6.length = q := ⟨_, rfl⟩
  rw [hn_6] at hC_ hl_ ⊢
  have HR_a := Aside0.mk (rgs_below HR_a.out hb_)
  have HR_b := Aside0.mk (rgs_below HR_b.out hb_)
  have HR_x := Aside0.mk (rgs_below HR_x.out hb_)
  have HR_y := Aside0.mk (rgs_below HR_y.out hb_)
  have HR_n := Aside0.mk (rgs_below HR_n.out hb_)
  have HR_u := Aside0.mk (rgs_below HR_u.out hb_)
  have HR_m := Aside0.mk (rgs_below HR_m.out hb_)
  have HO_n := Aside0.mk (Kd.R_below HO_n.out hb_)
  have HB_w : Aside0 (Below w.heap.size w w_6) := ⟨HB_w.out.trans (hb_.mono HB_w.out.size)⟩
  have HB_w_2 : Aside0 (Below w_2.heap.size w_2 w_6) := ⟨HB_w_2.out.trans (hb_.mono HB_w_2.out.size)⟩
  have HR_o : Aside0 (ReadsRow RRg 2 w_6 A_6 n_6 R_6) := ⟨hC_⟩
  have HL_o := Aside0.mk hn_6
  have HF_o := Aside0.mk hf_
  have HH_o := Aside0.mk hh_
  have hn8_6 : n_6 ≤ 800 := hl_
  clear hr_ hf_ hh_ hl_ hb_ hC_ HC_ hn_6
  have HC_ := Aside0.mk (rof0_c A n c a none 0 0 [] w_6 HR_a.out (no_rows w_6) (by omega))
  go_wp2_with (refine HC_.out.mono ?_)
  rintro _ w_7 ⟨v_, R_7, rfl, hr_, hf_, hh_, hl_, hb_⟩
  obtain ⟨A_7, c_7, rfl, _, hC_⟩ := Kd.R_reads hr_
  have hl_ : R_7.length ≤ 400 := by rw [HL_a.out, List.length_nil] at hl_; omega
  have hq_ : R_7 = R_3 := Form.uniq hf_ HF_n.out (fun x => by rw [hh_ x, HH_n.out x])
  rw [hq_] at hC_ ⊢
  rw [HL_n.out] at hC_ ⊢
  have HR_a := Aside0.mk (rgs_below HR_a.out hb_)
  have HR_b := Aside0.mk (rgs_below HR_b.out hb_)
  have HR_x := Aside0.mk (rgs_below HR_x.out hb_)
  have HR_y := Aside0.mk (rgs_below HR_y.out hb_)
  have HR_n := Aside0.mk (rgs_below HR_n.out hb_)
  have HR_u := Aside0.mk (rgs_below HR_u.out hb_)
  have HR_m := Aside0.mk (rgs_below HR_m.out hb_)
  have HR_o := Aside0.mk (rgs_below HR_o.out hb_)
  have HO_n := Aside0.mk (Kd.R_below HO_n.out hb_)
  have HB_w : Aside0 (Below w.heap.size w w_7) := ⟨HB_w.out.trans (hb_.mono HB_w.out.size)⟩
  have HB_w_2 : Aside0 (Below w_2.heap.size w_2 w_7) := ⟨HB_w_2.out.trans (hb_.mono HB_w_2.out.size)⟩
  have HR_n1 : Aside0 (ReadsRow RRg 2 w_7 A_7 n_3 R_3) := ⟨hC_⟩
  have HL_n1 := HL_n
  clear hr_ hf_ hh_ hl_ hb_ hC_ HC_ hq_
  have HC_ := Aside0.mk (same_c A_3 A_7 n_3 c_3 c_7 R_3 w_7 HR_n.out HR_n1.out)
  go_wp2_with (refine HC_.out.mono ?_)
  rintro _ w_8 ⟨rfl, hb_⟩
  have HR_a := Aside0.mk (rgs_below HR_a.out hb_)
  have HR_b := Aside0.mk (rgs_below HR_b.out hb_)
  have HR_x := Aside0.mk (rgs_below HR_x.out hb_)
  have HR_y := Aside0.mk (rgs_below HR_y.out hb_)
  have HR_n := Aside0.mk (rgs_below HR_n.out hb_)
  have HR_u := Aside0.mk (rgs_below HR_u.out hb_)
  have HR_m := Aside0.mk (rgs_below HR_m.out hb_)
  have HR_o := Aside0.mk (rgs_below HR_o.out hb_)
  have HR_n1 := Aside0.mk (rgs_below HR_n1.out hb_)
  have HO_n := Aside0.mk (Kd.R_below HO_n.out hb_)
  have HB_w : Aside0 (Below w.heap.size w w_8) := ⟨HB_w.out.trans (hb_.mono HB_w.out.size)⟩
  have HB_w_2 : Aside0 (Below w_2.heap.size w_2 w_8) := ⟨HB_w_2.out.trans (hb_.mono HB_w_2.out.size)⟩
  clear hb_ HC_
  clear HR_n1
  have HC_ := Aside0.mk (rof0_c A n c a B m d b w_8 HR_a.out HR_b.out (by omega))
  go_wp2_with (refine HC_.out.mono ?_)
  rintro _ w_9 ⟨v_, R_9, rfl, hr_, hf_, hh_, hl_, hb_⟩
  obtain ⟨A_9, c_9, rfl, _, hC_⟩ := Kd.R_reads hr_
  have hl_ : R_9.length ≤ 800 := by rw [HL_a.out, HL_b.out] at hl_; omega
  have hq_ : R_9 = R_4 := Form.uniq hf_ HF_u.out (fun x => by rw [hh_ x, HH_u.out x])
  rw [hq_] at hC_ ⊢
  rw [HL_u.out] at hC_ ⊢
  have HR_a := Aside0.mk (rgs_below HR_a.out hb_)
  have HR_b := Aside0.mk (rgs_below HR_b.out hb_)
  have HR_x := Aside0.mk (rgs_below HR_x.out hb_)
  have HR_y := Aside0.mk (rgs_below HR_y.out hb_)
  have HR_n := Aside0.mk (rgs_below HR_n.out hb_)
  have HR_u := Aside0.mk (rgs_below HR_u.out hb_)
  have HR_m := Aside0.mk (rgs_below HR_m.out hb_)
  have HR_o := Aside0.mk (rgs_below HR_o.out hb_)
  have HO_n := Aside0.mk (Kd.R_below HO_n.out hb_)
  have HB_w : Aside0 (Below w.heap.size w w_9) := ⟨HB_w.out.trans (hb_.mono HB_w.out.size)⟩
  have HB_w_2 : Aside0 (Below w_2.heap.size w_2 w_9) := ⟨HB_w_2.out.trans (hb_.mono HB_w_2.out.size)⟩
  have HR_u1 : Aside0 (ReadsRow RRg 2 w_9 A_9 n_4 R_4) := ⟨hC_⟩
  have HL_u1 := HL_u
  clear hr_ hf_ hh_ hl_ hb_ hC_ HC_ hq_
  have HC_ := Aside0.mk (same_c A_4 A_9 n_4 c_4 c_9 R_4 w_9 HR_u.out HR_u1.out)
  go_wp2_with (refine HC_.out.mono ?_)
  rintro _ w_10 ⟨rfl, hb_⟩
  have HR_a := Aside0.mk (rgs_below HR_a.out hb_)
  have HR_b := Aside0.mk (rgs_below HR_b.out hb_)
  have HR_x := Aside0.mk (rgs_below HR_x.out hb_)
  have HR_y := Aside0.mk (rgs_below HR_y.out hb_)
  have HR_n := Aside0.mk (rgs_below HR_n.out hb_)
  have HR_u := Aside0.mk (rgs_below HR_u.out hb_)
  have HR_m := Aside0.mk (rgs_below HR_m.out hb_)
  have HR_o := Aside0.mk (rgs_below HR_o.out hb_)
  have HR_u1 := Aside0.mk (rgs_below HR_u1.out hb_)
  have HO_n := Aside0.mk (Kd.R_below HO_n.out hb_)
  have HB_w : Aside0 (Below w.heap.size w w_10) := ⟨HB_w.out.trans (hb_.mono HB_w.out.size)⟩
  have HB_w_2 : Aside0 (Below w_2.heap.size w_2 w_10) := ⟨HB_w_2.out.trans (hb_.mono HB_w_2.out.size)⟩
  clear hb_ HC_
  clear HR_u1
  have HC_ := Aside0.mk (rof1_c A n c a B m d b w_10 HR_a.out HR_b.out (by omega))
  go_wp2_with (refine HC_.out.mono ?_)
  rintro _ w_11 ⟨v_, R_11, rfl, hr_, hf_, hh_, hl_, hb_⟩
  obtain ⟨A_11, c_11, rfl, _, hC_⟩ := Kd.R_reads hr_
  have hl_ : R_11.length ≤ 800 := by rw [HL_a.out, HL_b.out] at hl_; omega
  have hq_ : R_11 = R_5 := Form.uniq hf_ HF_m.out (fun x => by rw [hh_ x, HH_m.out x])
  rw [hq_] at hC_ ⊢
  rw [HL_m.out] at hC_ ⊢
  have HR_a := Aside0.mk (rgs_below HR_a.out hb_)
  have HR_b := Aside0.mk (rgs_below HR_b.out hb_)
  have HR_x := Aside0.mk (rgs_below HR_x.out hb_)
  have HR_y := Aside0.mk (rgs_below HR_y.out hb_)
  have HR_n := Aside0.mk (rgs_below HR_n.out hb_)
  have HR_u := Aside0.mk (rgs_below HR_u.out hb_)
  have HR_m := Aside0.mk (rgs_below HR_m.out hb_)
  have HR_o := Aside0.mk (rgs_below HR_o.out hb_)
  have HO_n := Aside0.mk (Kd.R_below HO_n.out hb_)
  have HB_w : Aside0 (Below w.heap.size w w_11) := ⟨HB_w.out.trans (hb_.mono HB_w.out.size)⟩
  have HB_w_2 : Aside0 (Below w_2.heap.size w_2 w_11) := ⟨HB_w_2.out.trans (hb_.mono HB_w_2.out.size)⟩
  have HR_m1 : Aside0 (ReadsRow RRg 2 w_11 A_11 n_5 R_5) := ⟨hC_⟩
  have HL_m1 := HL_m
  clear hr_ hf_ hh_ hl_ hb_ hC_ HC_ hq_
  have HC_ := Aside0.mk (same_c A_5 A_11 n_5 c_5 c_11 R_5 w_11 HR_m.out HR_m1.out)
  go_wp2_with (refine HC_.out.mono ?_)
  rintro _ w_12 ⟨rfl, hb_⟩
  have HR_a := Aside0.mk (rgs_below HR_a.out hb_)
  have HR_b := Aside0.mk (rgs_below HR_b.out hb_)
  have HR_x := Aside0.mk (rgs_below HR_x.out hb_)
  have HR_y := Aside0.mk (rgs_below HR_y.out hb_)
  have HR_n := Aside0.mk (rgs_below HR_n.out hb_)
  have HR_u := Aside0.mk (rgs_below HR_u.out hb_)
  have HR_m := Aside0.mk (rgs_below HR_m.out hb_)
  have HR_o := Aside0.mk (rgs_below HR_o.out hb_)
  have HR_m1 := Aside0.mk (rgs_below HR_m1.out hb_)
  have HO_n := Aside0.mk (Kd.R_below HO_n.out hb_)
  have HB_w : Aside0 (Below w.heap.size w w_12) := ⟨HB_w.out.trans (hb_.mono HB_w.out.size)⟩
  have HB_w_2 : Aside0 (Below w_2.heap.size w_2 w_12) := ⟨HB_w_2.out.trans (hb_.mono HB_w_2.out.size)⟩
  clear hb_ HC_
  clear HR_m1
  have HC_ := Aside0.mk (rof2_c A n c a B m d b w_12 HR_a.out HR_b.out (by omega))
  go_wp2_with (refine HC_.out.mono ?_)
  rintro _ w_13 ⟨v_, R_13, rfl, hr_, hf_, hh_, hl_, hb_⟩
  obtain ⟨A_13, c_13, rfl, _, hC_⟩ := Kd.R_reads hr_
  have hl_ : R_13.length ≤ 800 := by rw [HL_a.out, HL_b.out] at hl_; omega
  have hq_ : R_13 = R_6 := Form.uniq hf_ HF_o.out (fun x => by rw [hh_ x, HH_o.out x])
  rw [hq_] at hC_ ⊢
  rw [HL_o.out] at hC_ ⊢
  have HR_a := Aside0.mk (rgs_below HR_a.out hb_)
  have HR_b := Aside0.mk (rgs_below HR_b.out hb_)
  have HR_x := Aside0.mk (rgs_below HR_x.out hb_)
  have HR_y := Aside0.mk (rgs_below HR_y.out hb_)
  have HR_n := Aside0.mk (rgs_below HR_n.out hb_)
  have HR_u := Aside0.mk (rgs_below HR_u.out hb_)
  have HR_m := Aside0.mk (rgs_below HR_m.out hb_)
  have HR_o := Aside0.mk (rgs_below HR_o.out hb_)
  have HO_n := Aside0.mk (Kd.R_below HO_n.out hb_)
  have HB_w : Aside0 (Below w.heap.size w w_13) := ⟨HB_w.out.trans (hb_.mono HB_w.out.size)⟩
  have HB_w_2 : Aside0 (Below w_2.heap.size w_2 w_13) := ⟨HB_w_2.out.trans (hb_.mono HB_w_2.out.size)⟩
  have HR_o1 : Aside0 (ReadsRow RRg 2 w_13 A_13 n_6 R_6) := ⟨hC_⟩
  have HL_o1 := HL_o
  clear hr_ hf_ hh_ hl_ hb_ hC_ HC_ hq_
  have HC_ := Aside0.mk (same_c A_6 A_13 n_6 c_6 c_13 R_6 w_13 HR_o.out HR_o1.out)
  go_wp2_with (refine HC_.out.mono ?_)
  rintro _ w_14 ⟨rfl, hb_⟩
  have HR_a := Aside0.mk (rgs_below HR_a.out hb_)
  have HR_b := Aside0.mk (rgs_below HR_b.out hb_)
  have HR_x := Aside0.mk (rgs_below HR_x.out hb_)
  have HR_y := Aside0.mk (rgs_below HR_y.out hb_)
  have HR_n := Aside0.mk (rgs_below HR_n.out hb_)
  have HR_u := Aside0.mk (rgs_below HR_u.out hb_)
  have HR_m := Aside0.mk (rgs_below HR_m.out hb_)
  have HR_o := Aside0.mk (rgs_below HR_o.out hb_)
  have HR_o1 := Aside0.mk (rgs_below HR_o1.out hb_)
  have HO_n := Aside0.mk (Kd.R_below HO_n.out hb_)
  have HB_w : Aside0 (Below w.heap.size w w_14) := ⟨HB_w.out.trans (hb_.mono HB_w.out.size)⟩
  have HB_w_2 : Aside0 (Below w_2.heap.size w_2 w_14) := ⟨HB_w_2.out.trans (hb_.mono HB_w_2.out.size)⟩
  clear hb_ HC_
  clear HR_o1
  have HBW := HB_w
  have HOW := HO_n
  have HRA := HR_a
  have HRB := HR_b
  go_upto_block 0 with (fail)
  go_wp2_with (fail)
  go_loopg [11] n_3 (fun gk v11 wr => ∃ (k : Nat) (R : List Rg), v11 = .int .i64 (k : Int) ∧ Aside0 (k + gk = n_3) ∧ Aside0 (kR.R 31 wr 0 (fun j => w_2.heap.size ≤ j) (.slice A_3 n_3 c_3) R) ∧ Aside0 (R.length = n_3) ∧ Aside0 (Below w_2.heap.size w_2 wr))
  case atStart => exact ⟨0, R_3, rfl, ⟨by omega⟩, HO_n, HL_n, HB_w_2⟩
  case round =>
    obtain ⟨k, R, rfl, HK, HR, HRL, HB⟩ := hrel
    by_cases hkn : k < n_3
    · obtain ⟨gn, rfl⟩ : ∃ gn, gk = gn + 1 := ⟨gk - 1, by have := HK.out; omega⟩
      obtain ⟨g, cap, hv, _⟩ := formR HR.out (by rw [HRL.out]; omega)
      injection hv with hv1 hv2 hv3
      subst hv1
      obtain ⟨y, hy⟩ : ∃ y, R[k]? = some y := ⟨_, List.getElem?_eq_getElem (by rw [HRL.out]; exact hkn)⟩
      have HY := Aside0.mk (atR HR.out hy)
      have p2 : (0 : Int) ≤ (k : Int) := by omega
      have p3 : (k : Int) < (n_3 : Int) := by omega
      have hw2 : IntKind.i64.wrap ((k : Int) + 1) = (k : Int) + 1 := IntWalk.i64_in _ (by omega)
      clear hv2 hv3 hy
      go_wp2_with ((with_reducible refine gate_ (.store 31 (.tmp 74) (.tmp 73)) rfl ?_); refine Kd.R_store kR (w0 := wr) 0 rfl rfl 31 (.tmp 74) (.tmp 73) rfl 31 (g := g) (n := n_3) (cap := c_3) (o' := k * 2) (k : Int) 0 R ⟨7, 77⟩ (.agg #[.int .i64 7, .int .i64 77]) [.int .i64 7, .int .i64 77] (rgc y).toList (fun j => w_2.heap.size ≤ j) (fun _ => False) rfl (by simp [kR, flat]) rfl rfl info31s (fun q hq => by simp at hq; rcases hq with rfl | rfl <;> rfl) HR.out (by omega) (by omega) rfl HY.out (Nat.le_refl 2) rfl (fun _ h => h.elim) (Below.refl _ _) ?_; intro w7 hR7 _ hg7; have HR7 := Aside0.mk hR7; have HG7 := Aside0.mk hg7; clear hR7 hg7)
      go_roundg gn
      case measure => exact Nat.lt_succ_self _
      case rel => exact ⟨k + 1, _, by simp, ⟨by have := HK.out; omega⟩, HR7, ⟨by rw [List.length_set]; exact HRL.out⟩, ⟨HB.out.grown HG7.out HB.out.size (fun k e => by cases e; exact HR.out.1 g rfl)⟩⟩
    · have hq : ¬ ((k : Int) < (n_3 : Int)) := by omega
      have HXF := Aside0.mk (rgs_below HRX_.out HB.out)
      have HYF := Aside0.mk (rgs_below HRY_.out HB.out)
      have HWX : Aside0 (Below w.heap.size w wr) := ⟨HBWX.out.trans (HB.out.mono HBWX.out.size)⟩
      have HAF := Aside0.mk (rgs_below HRAW.out HWX.out)
      have HBF := Aside0.mk (rgs_below HRBW.out HWX.out)
      have HS1 := Aside0.mk (same_c A_1 A n c_1 c a wr HXF.out HAF.out)
      clear HK HR HRL
      go_wp2_with (refine HS1.out.mono ?_)
      rintro _ w8 ⟨rfl, b8⟩
      have HS2 := Aside0.mk (same_c A_2 B m c_2 d b w8 (rgs_below HYF.out b8) (rgs_below HBF.out b8))
      have HW8 : Aside0 (Below w.heap.size w w8) := ⟨HWX.out.trans (b8.mono HWX.out.size)⟩
      clear b8 HS1
      go_wp2_with (refine HS2.out.mono ?_)
      rintro _ w9 ⟨rfl, b9⟩
      have HW9 : Aside0 (Below w.heap.size w w9) := ⟨HW8.out.trans (b9.mono HW8.out.size)⟩
      clear b9 HS2
      go_wp2_with (refine (wakes_c _).mono ?_; rintro _ w10 ⟨rfl, b10⟩; have HW10 : Aside0 (Below w.heap.size w w10) := ⟨HW9.out.trans (b10.mono HW9.out.size)⟩; clear b10)
      go_ret
      exact ⟨rfl, HW10.out⟩
end Go.Proofs.Ytcbddmmoioggaaa.Sp
