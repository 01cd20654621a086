/- SpanForm walked. -/
import Derived.Test.YtcbddmmoioggaaaWa
namespace Go.Proofs.Ytcbddmmoioggaaa.Sp
open Go.RowKit Go.Shelf Go.Proofs.YtcbddmmoioggaaaW.PrintWords Go.Proofs.YtcbddmmoioggaaaW.PrintLast Go.Proofs.YtcbddmmoioggaaaW.PrintMore
attribute [local go_sem] max2_int min2_int max_two min_two max_three min_three max_four min_four
set_option linter.unusedVariables false
set_option linter.unusedSimpArgs false
set_option maxRecDepth 100000 in
set_option maxHeartbeats 4000000 in
theorem form_c (A : Option Addr) (n c : Nat) (l : List Rg) (w : World) (hF : Form l) (hR : ReadsRow RRg 2 w A n l) : Calls Try.prog 20 #[.slice A n c] w fun e w' => BoolP w true e w' := by
  have HR := Aside0.mk hR
  have HF := Aside0.mk hF
  have hln := hR.1
  have HLN := Aside0.mk hln
  have hn8 := hR.2.1
  clear hR hln hF
  go_enter Try.func20, Try.ntmps20
  go_upto_block 0 with (fail)
  go_wp2_with (fail)
  go_loopg [3] n (fun gk v3 wr => ∃ (k : Nat), v3 = .int .i64 (k : Int) ∧ Aside0 (k + gk = n) ∧ Aside0 (Below w.heap.size w wr))
  case atStart => exact ⟨0, rfl, ⟨by omega⟩, ⟨Below.refl _ _⟩⟩
  case round =>
    obtain ⟨k, rfl, HK, HB⟩ := hrel
    by_cases hkn : k < n
    · obtain ⟨gn, rfl⟩ : ∃ gn, gk = gn + 1 := ⟨gk - 1, by have := HK.out; omega⟩
      obtain ⟨y, hy⟩ : ∃ y, l[k]? = some y := ⟨_, List.getElem?_eq_getElem (by rw [HLN.out]; exact hkn)⟩
      obtain ⟨ad, hA, _⟩ := HR.out.2.2 (by omega)
      subst hA
      obtain ⟨a0, a1⟩ := rg_at (rgs_below HR.out HB.out) hy
      have hye := HF.out.e y (List.mem_of_getElem? hy)
      unfold top at hye
      have q0 : ¬ y.f < 0 := by omega
      have q1 : ¬ y.t ≤ y.f := by omega
      have q2 : ¬ (1099511627776 : Int) < y.t := by omega
      have p0 : (0 : Int) ≤ (k : Int) := by omega
      have p1 : (k : Int) < (n : Int) := by omega
      have hw1 : IntKind.i64.wrap ((k : Int) + 1) = (k : Int) + 1 := IntWalk.i64_in _ (by omega)
      have HY := Aside0.mk hy
      clear hye hy
      rcases Nat.eq_zero_or_pos k with h0 | hp
      · subst h0
        have z0 : ad.add 0 = ad := by simp [Addr.add]
        rw [Nat.zero_mul, z0] at a0 a1
        have p3 : (0 : Int) < (n : Int) := by omega
        have hw1 : IntKind.i64.wrap 1 = 1 := by decide
        clear p0 p1
        go_upto_region 4 with (fail)
        go_quiet (fail)
        go_wp2_with (fail)
        go_roundg gn
        case measure => exact Nat.lt_succ_self _
        case rel => exact ⟨1, by simp, ⟨by have := HK.out; omega⟩, ⟨pw_below_drewN HB.out _⟩⟩
      · obtain ⟨j, rfl⟩ : ∃ j, k = j + 1 := ⟨k - 1, by omega⟩
        obtain ⟨z, hz⟩ : ∃ z, l[j]? = some z := ⟨_, List.getElem?_eq_getElem (by rw [HLN.out]; omega)⟩
        obtain ⟨b0, b1⟩ := rg_at (rgs_below HR.out HB.out) hz
        have hzy : z.t < y.f := by
          obtain ⟨h1, h2⟩ := List.getElem?_eq_some_iff.1 hz
          obtain ⟨h3, h4⟩ := List.getElem?_eq_some_iff.1 HY.out
          have := List.pairwise_iff_getElem.1 HF.out.p j (j + 1) h1 h3 (by omega)
          rw [h2, h4] at this
          exact this
        have q3 : ¬ y.f ≤ z.t := by omega
        have q4 : (0 : Int) < (j : Int) + 1 := by omega
        have q5 : (0 : Int) ≤ (j : Int) := by omega
        have q6 : (j : Int) < (n : Int) := by omega
        have q7 : IntKind.i64.wrap (j : Int) = (j : Int) := IntWalk.i64_in _ (by omega)
        have q8 : (0 : Int) ≤ (j : Int) + 1 := by omega
        have q9 : (j : Int) + 1 < (n : Int) := by omega
        have q10 : ((j : Int) + 1).toNat = j + 1 := by omega
        clear hz hzy
        go_upto_region 4 with (fail)
        go_quiet (fail)
        go_wp2_with (fail)
        go_roundg gn
        case measure => exact Nat.lt_succ_self _
        case rel => exact ⟨j + 1 + 1, by simp, ⟨by have := HK.out; omega⟩, ⟨pw_below_drewN HB.out _⟩⟩
    · have q : ¬ ((k : Int) < (n : Int)) := by omega
      clear HK
      go_wp2_with (fail)
      go_ret
      exact ⟨rfl, HB.out⟩
set_option maxRecDepth 100000 in
set_option maxHeartbeats 16000000 in
theorem form5_c (A : Option Addr) (n c : Nat) (a : List Rg) (B : Option Addr) (m d : Nat) (b : List Rg) (at_ : Int) (w : World) (hA : ReadsRow RRg 2 w A n a) (hB : ReadsRow RRg 2 w B m b) : Calls Try.prog 5 #[.slice A n c, .slice B m d, .int .i64 at_] w fun e w' => BoolP w true e w' := by
  have HR_a := Aside0.mk hA
  have HR_b := Aside0.mk hB
  have HL_a := Aside0.mk hA.1
  have HL_b := Aside0.mk hB.1
  have HB_w : Aside0 (Below w.heap.size w w) := ⟨Below.refl _ _⟩
  clear hA hB
  by_cases h200 : (200 : Int) < (n : Int)
  · go_enter Try.func5, Try.ntmps5
    go_wp2_with (refine (wakes_c _).mono ?_; rintro _ w1 ⟨rfl, hb⟩; have HB := Aside0.mk hb; clear hb)
    go_ret
    exact ⟨rfl, HB.out⟩
  by_cases h201 : (200 : Int) < (m : Int)
  · go_enter Try.func5, Try.ntmps5
    go_wp2_with (refine (wakes_c _).mono ?_; rintro _ w1 ⟨rfl, hb⟩; have HB := Aside0.mk hb; clear hb)
    go_ret
    exact ⟨rfl, HB.out⟩
  have hna : n ≤ 200 := by omega
  have hnb : m ≤ 200 := by omega
  go_enter Try.func5, Try.ntmps5
  have HC_ := Aside0.mk (own_c A n c a w HR_a.out (by omega))
  go_wp2_with (refine HC_.out.mono ?_)
  rintro _ w_1 ⟨v_, rfl, hr_, hb_⟩
  obtain ⟨A_1, c_1, rfl, _, hC_⟩ := Kd.R_reads hr_
  rw [HL_a.out] at hC_ ⊢
  have HR_a := Aside0.mk (rgs_below HR_a.out hb_)
  have HR_b := Aside0.mk (rgs_below HR_b.out hb_)
  have HB_w : Aside0 (Below w.heap.size w w_1) := ⟨HB_w.out.trans (hb_.mono HB_w.out.size)⟩
  have HR_x : Aside0 (ReadsRow RRg 2 w_1 A_1 n a) := ⟨hC_⟩
  have HL_x := HL_a
  clear hr_ hb_ hC_ HC_
  have HC_ := Aside0.mk (norm_c A_1 n c_1 a w_1 HR_x.out (by omega))
  go_wp2_with (refine HC_.out.mono ?_)
  rintro _ w_2 ⟨v_, R_2, rfl, hr_, hf_, hh_, hl_, hb_⟩
  obtain ⟨A_2, c_2, rfl, _, hC_⟩ := Kd.R_reads hr_
  have hl_ : R_2.length ≤ 400 := by rw [HL_x.out, List.length_nil] at hl_; omega
  obtain ⟨n_2, hn_2⟩ : ∃ q, R_2.length = q := ⟨_, rfl⟩
  rw [hn_2] at hC_ hl_ ⊢
  have HR_a := Aside0.mk (rgs_below HR_a.out hb_)
  have HR_b := Aside0.mk (rgs_below HR_b.out hb_)
  have HR_x := Aside0.mk (rgs_below HR_x.out hb_)
  have HB_w : Aside0 (Below w.heap.size w w_2) := ⟨HB_w.out.trans (hb_.mono HB_w.out.size)⟩
  have HR_n : Aside0 (ReadsRow RRg 2 w_2 A_2 n_2 R_2) := ⟨hC_⟩
  have HL_n := Aside0.mk hn_2
  have HF_n := Aside0.mk hf_
  have HH_n := Aside0.mk hh_
  have hn8_2 : n_2 ≤ 400 := hl_
  clear hr_ hf_ hh_ hl_ hb_ hC_ HC_ hn_2
  clear HR_x
  have HC_ := Aside0.mk (own_c A n c a w_2 HR_a.out (by omega))
  go_wp2_with (refine HC_.out.mono ?_)
  rintro _ w_3 ⟨v_, rfl, hr_, hb_⟩
  obtain ⟨A_3, c_3, rfl, _, hC_⟩ := Kd.R_reads hr_
  rw [HL_a.out] at hC_ ⊢
  have HR_a := Aside0.mk (rgs_below HR_a.out hb_)
  have HR_b := Aside0.mk (rgs_below HR_b.out hb_)
  have HR_n := Aside0.mk (rgs_below HR_n.out hb_)
  have HB_w : Aside0 (Below w.heap.size w w_3) := ⟨HB_w.out.trans (hb_.mono HB_w.out.size)⟩
  have HR_x : Aside0 (ReadsRow RRg 2 w_3 A_3 n a) := ⟨hC_⟩
  have HL_x := HL_a
  clear hr_ hb_ hC_ HC_
  have HC_ := Aside0.mk (own_c B m d b w_3 HR_b.out (by omega))
  go_wp2_with (refine HC_.out.mono ?_)
  rintro _ w_4 ⟨v_, rfl, hr_, hb_⟩
  obtain ⟨A_4, c_4, rfl, _, hC_⟩ := Kd.R_reads hr_
  rw [HL_b.out] at hC_ ⊢
  have HR_a := Aside0.mk (rgs_below HR_a.out hb_)
  have HR_b := Aside0.mk (rgs_below HR_b.out hb_)
  have HR_n := Aside0.mk (rgs_below HR_n.out hb_)
  have HR_x := Aside0.mk (rgs_below HR_x.out hb_)
  have HB_w : Aside0 (Below w.heap.size w w_4) := ⟨HB_w.out.trans (hb_.mono HB_w.out.size)⟩
  have HR_y : Aside0 (ReadsRow RRg 2 w_4 A_4 m b) := ⟨hC_⟩
  have HL_y := HL_b
  clear hr_ hb_ hC_ HC_
  have HC_ := Aside0.mk (union_c A_3 n c_3 a A_4 m c_4 b w_4 HR_x.out HR_y.out (by omega))
  go_wp2_with (refine HC_.out.mono ?_)
  rintro _ w_5 ⟨v_, R_5, rfl, hr_, hf_, hh_, hl_, hb_⟩
  obtain ⟨A_5, c_5, rfl, _, hC_⟩ := Kd.R_reads hr_
  have hl_ : R_5.length ≤ 800 := by rw [HL_x.out, HL_y.out] at hl_; omega
  obtain ⟨n_5, hn_5⟩ : ∃ q, R_5.length = q := ⟨_, rfl⟩
  rw [hn_5] at hC_ hl_ ⊢
  have HR_a := Aside0.mk (rgs_below HR_a.out hb_)
  have HR_b := Aside0.mk (rgs_below HR_b.out hb_)
  have HR_n := Aside0.mk (rgs_below HR_n.out hb_)
  have HR_x := Aside0.mk (rgs_below HR_x.out hb_)
  have HR_y := Aside0.mk (rgs_below HR_y.out hb_)
  have HB_w : Aside0 (Below w.heap.size w w_5) := ⟨HB_w.out.trans (hb_.mono HB_w.out.size)⟩
  have HR_u : Aside0 (ReadsRow RRg 2 w_5 A_5 n_5 R_5) := ⟨hC_⟩
  have HL_u := Aside0.mk hn_5
  have HF_u := Aside0.mk hf_
  have HH_u := Aside0.mk hh_
  have hn8_5 : n_5 ≤ 800 := hl_
  clear hr_ hf_ hh_ hl_ hb_ hC_ HC_ hn_5
  clear HR_x
  clear HR_y
  have HC_ := Aside0.mk (own_c A n c a w_5 HR_a.out (by omega))
  go_wp2_with (refine HC_.out.mono ?_)
  rintro _ w_6 ⟨v_, rfl, hr_, hb_⟩
  obtain ⟨A_6, c_6, rfl, _, hC_⟩ := Kd.R_reads hr_
  rw [HL_a.out] at hC_ ⊢
  have HR_a := Aside0.mk (rgs_below HR_a.out hb_)
  have HR_b := Aside0.mk (rgs_below HR_b.out hb_)
  have HR_n := Aside0.mk (rgs_below HR_n.out hb_)
  have HR_u := Aside0.mk (rgs_below HR_u.out hb_)
  have HB_w : Aside0 (Below w.heap.size w w_6) := ⟨HB_w.out.trans (hb_.mono HB_w.out.size)⟩
  have HR_x : Aside0 (ReadsRow RRg 2 w_6 A_6 n a) := ⟨hC_⟩
  have HL_x := HL_a
  clear hr_ hb_ hC_ HC_
  have HC_ := Aside0.mk (own_c B m d b w_6 HR_b.out (by omega))
  go_wp2_with (refine HC_.out.mono ?_)
  rintro _ w_7 ⟨v_, rfl, hr_, hb_⟩
  obtain ⟨A_7, c_7, rfl, _, hC_⟩ := Kd.R_reads hr_
  rw [HL_b.out] at hC_ ⊢
  have HR_a := Aside0.mk (rgs_below HR_a.out hb_)
  have HR_b := Aside0.mk (rgs_below HR_b.out hb_)
  have HR_n := Aside0.mk (rgs_below HR_n.out hb_)
  have HR_u := Aside0.mk (rgs_below HR_u.out hb_)
  have HR_x := Aside0.mk (rgs_below HR_x.out hb_)
  have HB_w : Aside0 (Below w.heap.size w w_7) := ⟨HB_w.out.trans (hb_.mono HB_w.out.size)⟩
  have HR_y : Aside0 (ReadsRow RRg 2 w_7 A_7 m b) := ⟨hC_⟩
  have HL_y := HL_b
  clear hr_ hb_ hC_ HC_
  have HC_ := Aside0.mk (minus_c A_6 n c_6 a A_7 m c_7 b w_7 HR_x.out HR_y.out (by omega))
  go_wp2_with (refine HC_.out.mono ?_)
  rintro _ w_8 ⟨v_, R_8, rfl, hr_, hf_, hh_, hl_, hb_⟩
  obtain ⟨A_8, c_8, rfl, _, hC_⟩ := Kd.R_reads hr_
  have hl_ : R_8.length ≤ 800 := by rw [HL_x.out, HL_y.out] at hl_; omega
  obtain ⟨n_8, hn_8⟩ : ∃ q, R_8.length = q := ⟨_, rfl⟩
  rw [hn_8] at hC_ hl_ ⊢
  have HR_a := Aside0.mk (rgs_below HR_a.out hb_)
  have HR_b := Aside0.mk (rgs_below HR_b.out hb_)
  have HR_n := Aside0.mk (rgs_below HR_n.out hb_)
  have HR_u := Aside0.mk (rgs_below HR_u.out hb_)
  have HR_x := Aside0.mk (rgs_below HR_x.out hb_)
  have HR_y := Aside0.mk (rgs_below HR_y.out hb_)
  have HB_w : Aside0 (Below w.heap.size w w_8) := ⟨HB_w.out.trans (hb_.mono HB_w.out.size)⟩
  have HR_m : Aside0 (ReadsRow RRg 2 w_8 A_8 n_8 R_8) := ⟨hC_⟩
  have HL_m := Aside0.mk hn_8
  have HF_m := Aside0.mk hf_
  have HH_m := Aside0.mk hh_
  have hn8_8 : n_8 ≤ 800 := hl_
  clear hr_ hf_ hh_ hl_ hb_ hC_ HC_ hn_8
  clear HR_x
  clear HR_y
  have HC_ := Aside0.mk (own_c A n c a w_8 HR_a.out (by omega))
  go_wp2_with (refine HC_.out.mono ?_)
  rintro _ w_9 ⟨v_, rfl, hr_, hb_⟩
  obtain ⟨A_9, c_9, rfl, _, hC_⟩ := Kd.R_reads hr_
  rw [HL_a.out] at hC_ ⊢
  have HR_a := Aside0.mk (rgs_below HR_a.out hb_)
  have HR_b := Aside0.mk (rgs_below HR_b.out hb_)
  have HR_n := Aside0.mk (rgs_below HR_n.out hb_)
  have HR_u := Aside0.mk (rgs_below HR_u.out hb_)
  have HR_m := Aside0.mk (rgs_below HR_m.out hb_)
  have HB_w : Aside0 (Below w.heap.size w w_9) := ⟨HB_w.out.trans (hb_.mono HB_w.out.size)⟩
  have HR_x : Aside0 (ReadsRow RRg 2 w_9 A_9 n a) := ⟨hC_⟩
  have HL_x := HL_a
  clear hr_ hb_ hC_ HC_
  have HC_ := Aside0.mk (own_c B m d b w_9 HR_b.out (by omega))
  go_wp2_with (refine HC_.out.mono ?_)
  rintro _ w_10 ⟨v_, rfl, hr_, hb_⟩
  obtain ⟨A_10, c_10, rfl, _, hC_⟩ := Kd.R_reads hr_
  rw [HL_b.out] at hC_ ⊢
  have HR_a := Aside0.mk (rgs_below HR_a.out hb_)
  have HR_b := Aside0.mk (rgs_below HR_b.out hb_)
  have HR_n := Aside0.mk (rgs_below HR_n.out hb_)
  have HR_u := Aside0.mk (rgs_below HR_u.out hb_)
  have HR_m := Aside0.mk (rgs_below HR_m.out hb_)
  have HR_x := Aside0.mk (rgs_below HR_x.out hb_)
  have HB_w : Aside0 (Below w.heap.size w w_10) := ⟨HB_w.out.trans (hb_.mono HB_w.out.size)⟩
  have HR_y : Aside0 (ReadsRow RRg 2 w_10 A_10 m b) := ⟨hC_⟩
  have HL_y := HL_b
  clear hr_ hb_ hC_ HC_
  have HC_ := Aside0.mk (both_c A_9 n c_9 a A_10 m c_10 b w_10 HR_x.out HR_y.out (by omega))
  go_wp2_with (refine HC_.out.mono ?_)
  rintro _ w_11 ⟨v_, R_11, rfl, hr_, hf_, hh_, hl_, hb_⟩
  obtain ⟨A_11, c_11, rfl, _, hC_⟩ := Kd.R_reads hr_
  have hl_ : R_11.length ≤ 800 := by rw [HL_x.out, HL_y.out] at hl_; omega
  obtain ⟨n_11, hn_11⟩ : ∃ q, R_11.length = q := ⟨_, rfl⟩
  rw [hn_11] at hC_ hl_ ⊢
  have HR_a := Aside0.mk (rgs_below HR_a.out hb_)
  have HR_b := Aside0.mk (rgs_below HR_b.out hb_)
  have HR_n := Aside0.mk (rgs_below HR_n.out hb_)
  have HR_u := Aside0.mk (rgs_below HR_u.out hb_)
  have HR_m := Aside0.mk (rgs_below HR_m.out hb_)
  have HR_x := Aside0.mk (rgs_below HR_x.out hb_)
  have HR_y := Aside0.mk (rgs_below HR_y.out hb_)
  have HB_w : Aside0 (Below w.heap.size w w_11) := ⟨HB_w.out.trans (hb_.mono HB_w.out.size)⟩
  have HR_o : Aside0 (ReadsRow RRg 2 w_11 A_11 n_11 R_11) := ⟨hC_⟩
  have HL_o := Aside0.mk hn_11
  have HF_o := Aside0.mk hf_
  have HH_o := Aside0.mk hh_
  have hn8_11 : n_11 ≤ 800 := hl_
  clear hr_ hf_ hh_ hl_ hb_ hC_ HC_ hn_11
  clear HR_x
  clear HR_y
  have HC_ := Aside0.mk (form_c A_2 n_2 c_2 R_2 w_11 HF_n.out HR_n.out)
  go_wp2_with (refine HC_.out.mono ?_)
  rintro _ w_12 ⟨rfl, hb_⟩
  have HR_a := Aside0.mk (rgs_below HR_a.out hb_)
  have HR_b := Aside0.mk (rgs_below HR_b.out hb_)
  have HR_n := Aside0.mk (rgs_below HR_n.out hb_)
  have HR_u := Aside0.mk (rgs_below HR_u.out hb_)
  have HR_m := Aside0.mk (rgs_below HR_m.out hb_)
  have HR_o := Aside0.mk (rgs_below HR_o.out hb_)
  have HB_w : Aside0 (Below w.heap.size w w_12) := ⟨HB_w.out.trans (hb_.mono HB_w.out.size)⟩
  clear hb_ HC_
  have HC_ := Aside0.mk (form_c A_5 n_5 c_5 R_5 w_12 HF_u.out HR_u.out)
  go_wp2_with (refine HC_.out.mono ?_)
  rintro _ w_13 ⟨rfl, hb_⟩
  have HR_a := Aside0.mk (rgs_below HR_a.out hb_)
  have HR_b := Aside0.mk (rgs_below HR_b.out hb_)
  have HR_n := Aside0.mk (rgs_below HR_n.out hb_)
  have HR_u := Aside0.mk (rgs_below HR_u.out hb_)
  have HR_m := Aside0.mk (rgs_below HR_m.out hb_)
  have HR_o := Aside0.mk (rgs_below HR_o.out hb_)
  have HB_w : Aside0 (Below w.heap.size w w_13) := ⟨HB_w.out.trans (hb_.mono HB_w.out.size)⟩
  clear hb_ HC_
  have HC_ := Aside0.mk (form_c A_8 n_8 c_8 R_8 w_13 HF_m.out HR_m.out)
  go_wp2_with (refine HC_.out.mono ?_)
  rintro _ w_14 ⟨rfl, hb_⟩
  have HR_a := Aside0.mk (rgs_below HR_a.out hb_)
  have HR_b := Aside0.mk (rgs_below HR_b.out hb_)
  have HR_n := Aside0.mk (rgs_below HR_n.out hb_)
  have HR_u := Aside0.mk (rgs_below HR_u.out hb_)
  have HR_m := Aside0.mk (rgs_below HR_m.out hb_)
  have HR_o := Aside0.mk (rgs_below HR_o.out hb_)
  have HB_w : Aside0 (Below w.heap.size w w_14) := ⟨HB_w.out.trans (hb_.mono HB_w.out.size)⟩
  clear hb_ HC_
  have HC_ := Aside0.mk (form_c A_11 n_11 c_11 R_11 w_14 HF_o.out HR_o.out)
  go_wp2_with (refine HC_.out.mono ?_)
  rintro _ w_15 ⟨rfl, hb_⟩
  have HR_a := Aside0.mk (rgs_below HR_a.out hb_)
  have HR_b := Aside0.mk (rgs_below HR_b.out hb_)
  have HR_n := Aside0.mk (rgs_below HR_n.out hb_)
  have HR_u := Aside0.mk (rgs_below HR_u.out hb_)
  have HR_m := Aside0.mk (rgs_below HR_m.out hb_)
  have HR_o := Aside0.mk (rgs_below HR_o.out hb_)
  have HB_w : Aside0 (Below w.heap.size w w_15) := ⟨HB_w.out.trans (hb_.mono HB_w.out.size)⟩
  clear hb_ HC_
  have HC_ := Aside0.mk (own_c A_2 n_2 c_2 R_2 w_15 HR_n.out (by omega))
  go_wp2_with (refine HC_.out.mono ?_)
  rintro _ w_16 ⟨v_, rfl, hr_, hb_⟩
  obtain ⟨A_16, c_16, rfl, _, hC_⟩ := Kd.R_reads hr_
  rw [HL_n.out] at hC_ ⊢
  have HR_a := Aside0.mk (rgs_below HR_a.out hb_)
  have HR_b := Aside0.mk (rgs_below HR_b.out hb_)
  have HR_n := Aside0.mk (rgs_below HR_n.out hb_)
  have HR_u := Aside0.mk (rgs_below HR_u.out hb_)
  have HR_m := Aside0.mk (rgs_below HR_m.out hb_)
  have HR_o := Aside0.mk (rgs_below HR_o.out hb_)
  have HB_w : Aside0 (Below w.heap.size w w_16) := ⟨HB_w.out.trans (hb_.mono HB_w.out.size)⟩
  have HR_x : Aside0 (ReadsRow RRg 2 w_16 A_16 n_2 R_2) := ⟨hC_⟩
  have HL_x := HL_n
  clear hr_ hb_ hC_ HC_
  have HC_ := Aside0.mk (norm_c A_16 n_2 c_16 R_2 w_16 HR_x.out (by omega))
  go_wp2_with (refine HC_.out.mono ?_)
  rintro _ w_17 ⟨v_, R_17, rfl, hr_, hf_, hh_, hl_, hb_⟩
  obtain ⟨A_17, c_17, rfl, _, hC_⟩ := Kd.R_reads hr_
  have hl_ : R_17.length ≤ 800 := by rw [HL_x.out, List.length_nil] at hl_; omega
  have hq_ : R_17 = R_2 := Form.uniq hf_ HF_n.out (fun x => by rw [hh_ x, has_nil]; simp)
  rw [hq_] at hC_ ⊢
  rw [HL_n.out] at hC_ ⊢
  have HR_a := Aside0.mk (rgs_below HR_a.out hb_)
  have HR_b := Aside0.mk (rgs_below HR_b.out hb_)
  have HR_n := Aside0.mk (rgs_below HR_n.out hb_)
  have HR_u := Aside0.mk (rgs_below HR_u.out hb_)
  have HR_m := Aside0.mk (rgs_below HR_m.out hb_)
  have HR_o := Aside0.mk (rgs_below HR_o.out hb_)
  have HR_x := Aside0.mk (rgs_below HR_x.out hb_)
  have HB_w : Aside0 (Below w.heap.size w w_17) := ⟨HB_w.out.trans (hb_.mono HB_w.out.size)⟩
  have HR_q : Aside0 (ReadsRow RRg 2 w_17 A_17 n_2 R_2) := ⟨hC_⟩
  have HL_q := HL_n
  clear hr_ hf_ hh_ hl_ hb_ hC_ HC_ hq_
  clear HR_x
  have HC_ := Aside0.mk (same2_c A_17 A_2 n_2 c_17 c_2 R_2 w_17 HR_q.out HR_n.out)
  go_wp2_with (refine HC_.out.mono ?_)
  rintro _ w_18 ⟨rfl, hb_⟩
  have HR_a := Aside0.mk (rgs_below HR_a.out hb_)
  have HR_b := Aside0.mk (rgs_below HR_b.out hb_)
  have HR_n := Aside0.mk (rgs_below HR_n.out hb_)
  have HR_u := Aside0.mk (rgs_below HR_u.out hb_)
  have HR_m := Aside0.mk (rgs_below HR_m.out hb_)
  have HR_o := Aside0.mk (rgs_below HR_o.out hb_)
  have HR_q := Aside0.mk (rgs_below HR_q.out hb_)
  have HB_w : Aside0 (Below w.heap.size w w_18) := ⟨HB_w.out.trans (hb_.mono HB_w.out.size)⟩
  clear hb_ HC_
  clear HR_q
  have HC_ := Aside0.mk (own_c A_8 n_8 c_8 R_8 w_18 HR_m.out (by omega))
  go_wp2_with (refine HC_.out.mono ?_)
  rintro _ w_19 ⟨v_, rfl, hr_, hb_⟩
  obtain ⟨A_19, c_19, rfl, _, hC_⟩ := Kd.R_reads hr_
  rw [HL_m.out] at hC_ ⊢
  have HR_a := Aside0.mk (rgs_below HR_a.out hb_)
  have HR_b := Aside0.mk (rgs_below HR_b.out hb_)
  have HR_n := Aside0.mk (rgs_below HR_n.out hb_)
  have HR_u := Aside0.mk (rgs_below HR_u.out hb_)
  have HR_m := Aside0.mk (rgs_below HR_m.out hb_)
  have HR_o := Aside0.mk (rgs_below HR_o.out hb_)
  have HB_w : Aside0 (Below w.heap.size w w_19) := ⟨HB_w.out.trans (hb_.mono HB_w.out.size)⟩
  have HR_x : Aside0 (ReadsRow RRg 2 w_19 A_19 n_8 R_8) := ⟨hC_⟩
  have HL_x := HL_m
  clear hr_ hb_ hC_ HC_
  have HC_ := Aside0.mk (own_c A_11 n_11 c_11 R_11 w_19 HR_o.out (by omega))
  go_wp2_with (refine HC_.out.mono ?_)
  rintro _ w_20 ⟨v_, rfl, hr_, hb_⟩
  obtain ⟨A_20, c_20, rfl, _, hC_⟩ := Kd.R_reads hr_
  rw [HL_o.out] at hC_ ⊢
  have HR_a := Aside0.mk (rgs_below HR_a.out hb_)
  have HR_b := Aside0.mk (rgs_below HR_b.out hb_)
  have HR_n := Aside0.mk (rgs_below HR_n.out hb_)
  have HR_u := Aside0.mk (rgs_below HR_u.out hb_)
  have HR_m := Aside0.mk (rgs_below HR_m.out hb_)
  have HR_o := Aside0.mk (rgs_below HR_o.out hb_)
  have HR_x := Aside0.mk (rgs_below HR_x.out hb_)
  have HB_w : Aside0 (Below w.heap.size w w_20) := ⟨HB_w.out.trans (hb_.mono HB_w.out.size)⟩
  have HR_y : Aside0 (ReadsRow RRg 2 w_20 A_20 n_11 R_11) := ⟨hC_⟩
  have HL_y := HL_o
  clear hr_ hb_ hC_ HC_
  have HC_ := Aside0.mk (both_c A_19 n_8 c_19 R_8 A_20 n_11 c_20 R_11 w_20 HR_x.out HR_y.out (by omega))
  go_wp2_with (refine HC_.out.mono ?_)
  rintro _ w_21 ⟨v_, R_21, rfl, hr_, hf_, hh_, hl_, hb_⟩
  obtain ⟨A_21, c_21, rfl, _, hC_⟩ := Kd.R_reads hr_
  have hl_ : R_21.length ≤ 3200 := by rw [HL_x.out, HL_y.out] at hl_; omega
  have hq_ : R_21 = [] := Form.uniq hf_ Form.nil (fun x => by rw [hh_ x, HH_m.out x, HH_o.out x, has_nil]; cases has a x <;> cases has b x <;> rfl)
  rw [hq_, List.length_nil]
  have HR_a := Aside0.mk (rgs_below HR_a.out hb_)
  have HR_b := Aside0.mk (rgs_below HR_b.out hb_)
  have HR_n := Aside0.mk (rgs_below HR_n.out hb_)
  have HR_u := Aside0.mk (rgs_below HR_u.out hb_)
  have HR_m := Aside0.mk (rgs_below HR_m.out hb_)
  have HR_o := Aside0.mk (rgs_below HR_o.out hb_)
  have HR_x := Aside0.mk (rgs_below HR_x.out hb_)
  have HR_y := Aside0.mk (rgs_below HR_y.out hb_)
  have HB_w : Aside0 (Below w.heap.size w w_21) := ⟨HB_w.out.trans (hb_.mono HB_w.out.size)⟩
  clear hr_ hf_ hh_ hl_ hb_ hC_ HC_ hq_
  clear HR_x
  clear HR_y
  have HC_ := Aside0.mk (own_c A_8 n_8 c_8 R_8 w_21 HR_m.out (by omega))
  go_wp2_with (refine HC_.out.mono ?_)
  rintro _ w_22 ⟨v_, rfl, hr_, hb_⟩
  obtain ⟨A_22, c_22, rfl, _, hC_⟩ := Kd.R_reads hr_
  rw [HL_m.out] at hC_ ⊢
  have HR_a := Aside0.mk (rgs_below HR_a.out hb_)
  have HR_b := Aside0.mk (rgs_below HR_b.out hb_)
  have HR_n := Aside0.mk (rgs_below HR_n.out hb_)
  have HR_u := Aside0.mk (rgs_below HR_u.out hb_)
  have HR_m := Aside0.mk (rgs_below HR_m.out hb_)
  have HR_o := Aside0.mk (rgs_below HR_o.out hb_)
  have HB_w : Aside0 (Below w.heap.size w w_22) := ⟨HB_w.out.trans (hb_.mono HB_w.out.size)⟩
  have HR_x : Aside0 (ReadsRow RRg 2 w_22 A_22 n_8 R_8) := ⟨hC_⟩
  have HL_x := HL_m
  clear hr_ hb_ hC_ HC_
  have HC_ := Aside0.mk (own_c A_11 n_11 c_11 R_11 w_22 HR_o.out (by omega))
  go_wp2_with (refine HC_.out.mono ?_)
  rintro _ w_23 ⟨v_, rfl, hr_, hb_⟩
  obtain ⟨A_23, c_23, rfl, _, hC_⟩ := Kd.R_reads hr_
  rw [HL_o.out] at hC_ ⊢
  have HR_a := Aside0.mk (rgs_below HR_a.out hb_)
  have HR_b := Aside0.mk (rgs_below HR_b.out hb_)
  have HR_n := Aside0.mk (rgs_below HR_n.out hb_)
  have HR_u := Aside0.mk (rgs_below HR_u.out hb_)
  have HR_m := Aside0.mk (rgs_below HR_m.out hb_)
  have HR_o := Aside0.mk (rgs_below HR_o.out hb_)
  have HR_x := Aside0.mk (rgs_below HR_x.out hb_)
  have HB_w : Aside0 (Below w.heap.size w w_23) := ⟨HB_w.out.trans (hb_.mono HB_w.out.size)⟩
  have HR_y : Aside0 (ReadsRow RRg 2 w_23 A_23 n_11 R_11) := ⟨hC_⟩
  have HL_y := HL_o
  clear hr_ hb_ hC_ HC_
  have HC_ := Aside0.mk (union_c A_22 n_8 c_22 R_8 A_23 n_11 c_23 R_11 w_23 HR_x.out HR_y.out (by omega))
  go_wp2_with (refine HC_.out.mono ?_)
  rintro _ w_24 ⟨v_, R_24, rfl, hr_, hf_, hh_, hl_, hb_⟩
  obtain ⟨A_24, c_24, rfl, _, hC_⟩ := Kd.R_reads hr_
  have hl_ : R_24.length ≤ 3200 := by rw [HL_x.out, HL_y.out] at hl_; omega
  have hq_ : R_24 = R_2 := Form.uniq hf_ HF_n.out (fun x => by rw [hh_ x, HH_m.out x, HH_o.out x, HH_n.out x, has_nil]; cases has a x <;> cases has b x <;> rfl)
  rw [hq_] at hC_ ⊢
  rw [HL_n.out] at hC_ ⊢
  have HR_a := Aside0.mk (rgs_below HR_a.out hb_)
  have HR_b := Aside0.mk (rgs_below HR_b.out hb_)
  have HR_n := Aside0.mk (rgs_below HR_n.out hb_)
  have HR_u := Aside0.mk (rgs_below HR_u.out hb_)
  have HR_m := Aside0.mk (rgs_below HR_m.out hb_)
  have HR_o := Aside0.mk (rgs_below HR_o.out hb_)
  have HR_x := Aside0.mk (rgs_below HR_x.out hb_)
  have HR_y := Aside0.mk (rgs_below HR_y.out hb_)
  have HB_w : Aside0 (Below w.heap.size w w_24) := ⟨HB_w.out.trans (hb_.mono HB_w.out.size)⟩
  have HR_q : Aside0 (ReadsRow RRg 2 w_24 A_24 n_2 R_2) := ⟨hC_⟩
  have HL_q := HL_n
  clear hr_ hf_ hh_ hl_ hb_ hC_ HC_ hq_
  clear HR_x
  clear HR_y
  have HC_ := Aside0.mk (same2_c A_24 A_2 n_2 c_24 c_2 R_2 w_24 HR_q.out HR_n.out)
  go_wp2_with (refine HC_.out.mono ?_)
  rintro _ w_25 ⟨rfl, hb_⟩
  have HR_a := Aside0.mk (rgs_below HR_a.out hb_)
  have HR_b := Aside0.mk (rgs_below HR_b.out hb_)
  have HR_n := Aside0.mk (rgs_below HR_n.out hb_)
  have HR_u := Aside0.mk (rgs_below HR_u.out hb_)
  have HR_m := Aside0.mk (rgs_below HR_m.out hb_)
  have HR_o := Aside0.mk (rgs_below HR_o.out hb_)
  have HR_q := Aside0.mk (rgs_below HR_q.out hb_)
  have HB_w : Aside0 (Below w.heap.size w w_25) := ⟨HB_w.out.trans (hb_.mono HB_w.out.size)⟩
  clear hb_ HC_
  clear HR_q
  have HC_ := Aside0.mk (own_c B m d b w_25 HR_b.out (by omega))
  go_wp2_with (refine HC_.out.mono ?_)
  rintro _ w_26 ⟨v_, rfl, hr_, hb_⟩
  obtain ⟨A_26, c_26, rfl, _, hC_⟩ := Kd.R_reads hr_
  rw [HL_b.out] at hC_ ⊢
  have HR_a := Aside0.mk (rgs_below HR_a.out hb_)
  have HR_b := Aside0.mk (rgs_below HR_b.out hb_)
  have HR_n := Aside0.mk (rgs_below HR_n.out hb_)
  have HR_u := Aside0.mk (rgs_below HR_u.out hb_)
  have HR_m := Aside0.mk (rgs_below HR_m.out hb_)
  have HR_o := Aside0.mk (rgs_below HR_o.out hb_)
  have HB_w : Aside0 (Below w.heap.size w w_26) := ⟨HB_w.out.trans (hb_.mono HB_w.out.size)⟩
  have HR_y : Aside0 (ReadsRow RRg 2 w_26 A_26 m b) := ⟨hC_⟩
  have HL_y := HL_b
  clear hr_ hb_ hC_ HC_
  have HC_ := Aside0.mk (own_c A n c a w_26 HR_a.out (by omega))
  go_wp2_with (refine HC_.out.mono ?_)
  rintro _ w_27 ⟨v_, rfl, hr_, hb_⟩
  obtain ⟨A_27, c_27, rfl, _, hC_⟩ := Kd.R_reads hr_
  rw [HL_a.out] at hC_ ⊢
  have HR_a := Aside0.mk (rgs_below HR_a.out hb_)
  have HR_b := Aside0.mk (rgs_below HR_b.out hb_)
  have HR_n := Aside0.mk (rgs_below HR_n.out hb_)
  have HR_u := Aside0.mk (rgs_below HR_u.out hb_)
  have HR_m := Aside0.mk (rgs_below HR_m.out hb_)
  have HR_o := Aside0.mk (rgs_below HR_o.out hb_)
  have HR_y := Aside0.mk (rgs_below HR_y.out hb_)
  have HB_w : Aside0 (Below w.heap.size w w_27) := ⟨HB_w.out.trans (hb_.mono HB_w.out.size)⟩
  have HR_x : Aside0 (ReadsRow RRg 2 w_27 A_27 n a) := ⟨hC_⟩
  have HL_x := HL_a
  clear hr_ hb_ hC_ HC_
  have HC_ := Aside0.mk (union_c A_26 m c_26 b A_27 n c_27 a w_27 HR_y.out HR_x.out (by omega))
  go_wp2_with (refine HC_.out.mono ?_)
  rintro _ w_28 ⟨v_, R_28, rfl, hr_, hf_, hh_, hl_, hb_⟩
  obtain ⟨A_28, c_28, rfl, _, hC_⟩ := Kd.R_reads hr_
  have hl_ : R_28.length ≤ 800 := by rw [HL_y.out, HL_x.out] at hl_; omega
  have hq_ : R_28 = R_5 := Form.uniq hf_ HF_u.out (fun x => by rw [hh_ x, HH_u.out x]; cases has a x <;> cases has b x <;> rfl)
  rw [hq_] at hC_ ⊢
  rw [HL_u.out] at hC_ ⊢
  have HR_a := Aside0.mk (rgs_below HR_a.out hb_)
  have HR_b := Aside0.mk (rgs_below HR_b.out hb_)
  have HR_n := Aside0.mk (rgs_below HR_n.out hb_)
  have HR_u := Aside0.mk (rgs_below HR_u.out hb_)
  have HR_m := Aside0.mk (rgs_below HR_m.out hb_)
  have HR_o := Aside0.mk (rgs_below HR_o.out hb_)
  have HR_y := Aside0.mk (rgs_below HR_y.out hb_)
  have HR_x := Aside0.mk (rgs_below HR_x.out hb_)
  have HB_w : Aside0 (Below w.heap.size w w_28) := ⟨HB_w.out.trans (hb_.mono HB_w.out.size)⟩
  have HR_q : Aside0 (ReadsRow RRg 2 w_28 A_28 n_5 R_5) := ⟨hC_⟩
  have HL_q := HL_u
  clear hr_ hf_ hh_ hl_ hb_ hC_ HC_ hq_
  clear HR_x
  clear HR_y
  have HC_ := Aside0.mk (same2_c A_28 A_5 n_5 c_28 c_5 R_5 w_28 HR_q.out HR_u.out)
  go_wp2_with (refine HC_.out.mono ?_)
  rintro _ w_29 ⟨rfl, hb_⟩
  have HR_a := Aside0.mk (rgs_below HR_a.out hb_)
  have HR_b := Aside0.mk (rgs_below HR_b.out hb_)
  have HR_n := Aside0.mk (rgs_below HR_n.out hb_)
  have HR_u := Aside0.mk (rgs_below HR_u.out hb_)
  have HR_m := Aside0.mk (rgs_below HR_m.out hb_)
  have HR_o := Aside0.mk (rgs_below HR_o.out hb_)
  have HR_q := Aside0.mk (rgs_below HR_q.out hb_)
  have HB_w : Aside0 (Below w.heap.size w w_29) := ⟨HB_w.out.trans (hb_.mono HB_w.out.size)⟩
  clear hb_ HC_
  clear HR_q
  have HC_ := Aside0.mk (own_c B m d b w_29 HR_b.out (by omega))
  go_wp2_with (refine HC_.out.mono ?_)
  rintro _ w_30 ⟨v_, rfl, hr_, hb_⟩
  obtain ⟨A_30, c_30, rfl, _, hC_⟩ := Kd.R_reads hr_
  rw [HL_b.out] at hC_ ⊢
  have HR_a := Aside0.mk (rgs_below HR_a.out hb_)
  have HR_b := Aside0.mk (rgs_below HR_b.out hb_)
  have HR_n := Aside0.mk (rgs_below HR_n.out hb_)
  have HR_u := Aside0.mk (rgs_below HR_u.out hb_)
  have HR_m := Aside0.mk (rgs_below HR_m.out hb_)
  have HR_o := Aside0.mk (rgs_below HR_o.out hb_)
  have HB_w : Aside0 (Below w.heap.size w w_30) := ⟨HB_w.out.trans (hb_.mono HB_w.out.size)⟩
  have HR_y : Aside0 (ReadsRow RRg 2 w_30 A_30 m b) := ⟨hC_⟩
  have HL_y := HL_b
  clear hr_ hb_ hC_ HC_
  have HC_ := Aside0.mk (own_c A n c a w_30 HR_a.out (by omega))
  go_wp2_with (refine HC_.out.mono ?_)
  rintro _ w_31 ⟨v_, rfl, hr_, hb_⟩
  obtain ⟨A_31, c_31, rfl, _, hC_⟩ := Kd.R_reads hr_
  rw [HL_a.out] at hC_ ⊢
  have HR_a := Aside0.mk (rgs_below HR_a.out hb_)
  have HR_b := Aside0.mk (rgs_below HR_b.out hb_)
  have HR_n := Aside0.mk (rgs_below HR_n.out hb_)
  have HR_u := Aside0.mk (rgs_below HR_u.out hb_)
  have HR_m := Aside0.mk (rgs_below HR_m.out hb_)
  have HR_o := Aside0.mk (rgs_below HR_o.out hb_)
  have HR_y := Aside0.mk (rgs_below HR_y.out hb_)
  have HB_w : Aside0 (Below w.heap.size w w_31) := ⟨HB_w.out.trans (hb_.mono HB_w.out.size)⟩
  have HR_x : Aside0 (ReadsRow RRg 2 w_31 A_31 n a) := ⟨hC_⟩
  have HL_x := HL_a
  clear hr_ hb_ hC_ HC_
  have HC_ := Aside0.mk (both_c A_30 m c_30 b A_31 n c_31 a w_31 HR_y.out HR_x.out (by omega))
  go_wp2_with (refine HC_.out.mono ?_)
  rintro _ w_32 ⟨v_, R_32, rfl, hr_, hf_, hh_, hl_, hb_⟩
  obtain ⟨A_32, c_32, rfl, _, hC_⟩ := Kd.R_reads hr_
  have hl_ : R_32.length ≤ 800 := by rw [HL_y.out, HL_x.out] at hl_; omega
  have hq_ : R_32 = R_11 := Form.uniq hf_ HF_o.out (fun x => by rw [hh_ x, HH_o.out x]; cases has a x <;> cases has b x <;> rfl)
  rw [hq_] at hC_ ⊢
  rw [HL_o.out] at hC_ ⊢
  have HR_a := Aside0.mk (rgs_below HR_a.out hb_)
  have HR_b := Aside0.mk (rgs_below HR_b.out hb_)
  have HR_n := Aside0.mk (rgs_below HR_n.out hb_)
  have HR_u := Aside0.mk (rgs_below HR_u.out hb_)
  have HR_m := Aside0.mk (rgs_below HR_m.out hb_)
  have HR_o := Aside0.mk (rgs_below HR_o.out hb_)
  have HR_y := Aside0.mk (rgs_below HR_y.out hb_)
  have HR_x := Aside0.mk (rgs_below HR_x.out hb_)
  have HB_w : Aside0 (Below w.heap.size w w_32) := ⟨HB_w.out.trans (hb_.mono HB_w.out.size)⟩
  have HR_q : Aside0 (ReadsRow RRg 2 w_32 A_32 n_11 R_11) := ⟨hC_⟩
  have HL_q := HL_o
  clear hr_ hf_ hh_ hl_ hb_ hC_ HC_ hq_
  clear HR_x
  clear HR_y
  have HC_ := Aside0.mk (same2_c A_32 A_11 n_11 c_32 c_11 R_11 w_32 HR_q.out HR_o.out)
  go_wp2_with (refine HC_.out.mono ?_)
  rintro _ w_33 ⟨rfl, hb_⟩
  have HR_a := Aside0.mk (rgs_below HR_a.out hb_)
  have HR_b := Aside0.mk (rgs_below HR_b.out hb_)
  have HR_n := Aside0.mk (rgs_below HR_n.out hb_)
  have HR_u := Aside0.mk (rgs_below HR_u.out hb_)
  have HR_m := Aside0.mk (rgs_below HR_m.out hb_)
  have HR_o := Aside0.mk (rgs_below HR_o.out hb_)
  have HR_q := Aside0.mk (rgs_below HR_q.out hb_)
  have HB_w : Aside0 (Below w.heap.size w w_33) := ⟨HB_w.out.trans (hb_.mono HB_w.out.size)⟩
  clear hb_ HC_
  clear HR_q
  obtain ⟨S_n, hs_⟩ : ∃ q, sumR R_2 = q := ⟨_, rfl⟩
  have HS_n := Aside0.mk hs_
  have hsb_n : 0 ≤ S_n ∧ S_n ≤ 1099511627776 * 100000 := by have h := sumR_bound HF_n.out; rw [hs_, HL_n.out] at h; omega
  clear hs_
  obtain ⟨S_u, hs_⟩ : ∃ q, sumR R_5 = q := ⟨_, rfl⟩
  have HS_u := Aside0.mk hs_
  have hsb_u : 0 ≤ S_u ∧ S_u ≤ 1099511627776 * 100000 := by have h := sumR_bound HF_u.out; rw [hs_, HL_u.out] at h; omega
  clear hs_
  obtain ⟨S_m, hs_⟩ : ∃ q, sumR R_8 = q := ⟨_, rfl⟩
  have HS_m := Aside0.mk hs_
  have hsb_m : 0 ≤ S_m ∧ S_m ≤ 1099511627776 * 100000 := by have h := sumR_bound HF_m.out; rw [hs_, HL_m.out] at h; omega
  clear hs_
  obtain ⟨S_o, hs_⟩ : ∃ q, sumR R_11 = q := ⟨_, rfl⟩
  have HS_o := Aside0.mk hs_
  have hsb_o : 0 ≤ S_o ∧ S_o ≤ 1099511627776 * 100000 := by have h := sumR_bound HF_o.out; rw [hs_, HL_o.out] at h; omega
  clear hs_
  have hw_1 : IntKind.i64.wrap (S_u + S_o) = S_u + S_o := IntWalk.i64_in _ (by omega)
  have hw_2 : IntKind.i64.wrap (S_m + S_o) = S_m + S_o := IntWalk.i64_in _ (by omega)
  have HC_ := Aside0.mk (size_c A_5 n_5 c_5 R_5 w_33 HR_u.out (by omega))
  go_wp2_with (refine HC_.out.mono ?_)
  rintro _ w_34 ⟨R_34, hf_, hh_, rfl, hb_⟩
  have hq_ : R_34 = R_5 := Form.uniq hf_ HF_u.out hh_
  rw [hq_, HS_u.out]
  clear hq_
  have HR_a := Aside0.mk (rgs_below HR_a.out hb_)
  have HR_b := Aside0.mk (rgs_below HR_b.out hb_)
  have HR_n := Aside0.mk (rgs_below HR_n.out hb_)
  have HR_u := Aside0.mk (rgs_below HR_u.out hb_)
  have HR_m := Aside0.mk (rgs_below HR_m.out hb_)
  have HR_o := Aside0.mk (rgs_below HR_o.out hb_)
  have HB_w : Aside0 (Below w.heap.size w w_34) := ⟨HB_w.out.trans (hb_.mono HB_w.out.size)⟩
  clear hf_ hh_ hb_ HC_
  have HC_ := Aside0.mk (size_c A_11 n_11 c_11 R_11 w_34 HR_o.out (by omega))
  go_wp2_with (refine HC_.out.mono ?_)
  rintro _ w_35 ⟨R_35, hf_, hh_, rfl, hb_⟩
  have hq_ : R_35 = R_11 := Form.uniq hf_ HF_o.out hh_
  rw [hq_, HS_o.out]
  clear hq_
  have HR_a := Aside0.mk (rgs_below HR_a.out hb_)
  have HR_b := Aside0.mk (rgs_below HR_b.out hb_)
  have HR_n := Aside0.mk (rgs_below HR_n.out hb_)
  have HR_u := Aside0.mk (rgs_below HR_u.out hb_)
  have HR_m := Aside0.mk (rgs_below HR_m.out hb_)
  have HR_o := Aside0.mk (rgs_below HR_o.out hb_)
  have HB_w : Aside0 (Below w.heap.size w w_35) := ⟨HB_w.out.trans (hb_.mono HB_w.out.size)⟩
  clear hf_ hh_ hb_ HC_
  have HC_ := Aside0.mk (size_c A n c a w_35 HR_a.out (by omega))
  go_wp2_with (refine HC_.out.mono ?_)
  rintro _ w_36 ⟨R_36, hf_, hh_, rfl, hb_⟩
  obtain ⟨S_a, hs_⟩ : ∃ q, sumR R_36 = q := ⟨_, rfl⟩
  rw [hs_]
  have HS_a := Aside0.mk hs_
  have HF_a := Aside0.mk hf_
  have HH_a := Aside0.mk hh_
  clear hs_
  have HR_a := Aside0.mk (rgs_below HR_a.out hb_)
  have HR_b := Aside0.mk (rgs_below HR_b.out hb_)
  have HR_n := Aside0.mk (rgs_below HR_n.out hb_)
  have HR_u := Aside0.mk (rgs_below HR_u.out hb_)
  have HR_m := Aside0.mk (rgs_below HR_m.out hb_)
  have HR_o := Aside0.mk (rgs_below HR_o.out hb_)
  have HB_w : Aside0 (Below w.heap.size w w_36) := ⟨HB_w.out.trans (hb_.mono HB_w.out.size)⟩
  clear hf_ hh_ hb_ HC_
  have HC_ := Aside0.mk (size_c B m d b w_36 HR_b.out (by omega))
  go_wp2_with (refine HC_.out.mono ?_)
  rintro _ w_37 ⟨R_37, hf_, hh_, rfl, hb_⟩
  obtain ⟨S_b, hs_⟩ : ∃ q, sumR R_37 = q := ⟨_, rfl⟩
  rw [hs_]
  have HS_b := Aside0.mk hs_
  have HF_b := Aside0.mk hf_
  have HH_b := Aside0.mk hh_
  clear hs_
  have HR_a := Aside0.mk (rgs_below HR_a.out hb_)
  have HR_b := Aside0.mk (rgs_below HR_b.out hb_)
  have HR_n := Aside0.mk (rgs_below HR_n.out hb_)
  have HR_u := Aside0.mk (rgs_below HR_u.out hb_)
  have HR_m := Aside0.mk (rgs_below HR_m.out hb_)
  have HR_o := Aside0.mk (rgs_below HR_o.out hb_)
  have HB_w : Aside0 (Below w.heap.size w w_37) := ⟨HB_w.out.trans (hb_.mono HB_w.out.size)⟩
  clear hf_ hh_ hb_ HC_
  have he_1 : S_u + S_o = S_a + S_b := by rw [← HS_u.out, ← HS_o.out, ← HS_a.out, ← HS_b.out]; exact sizes_add HF_a.out HF_b.out HF_u.out HF_o.out (fun x => by rw [HH_u.out x, HH_a.out x, HH_b.out x]) (fun x => by rw [HH_o.out x, HH_a.out x, HH_b.out x])
  have he_2 : S_m + S_o = S_n := by
    have h := sizes_add HF_m.out HF_o.out HF_n.out Form.nil (fun x => by rw [HH_m.out x, HH_o.out x, HH_n.out x, has_nil]; cases has a x <;> cases has b x <;> rfl) (fun x => by rw [HH_m.out x, HH_o.out x, has_nil]; cases has a x <;> cases has b x <;> rfl)
    rw [HS_m.out, HS_o.out, HS_n.out] at h
    simp only [sumR] at h
    omega
  have hw_3 : IntKind.i64.wrap (S_a + S_b) = S_u + S_o := by rw [← he_1]; exact hw_1
  have hw_4 : IntKind.i64.wrap (S_m + S_o) = S_n := by rw [← he_2]; exact hw_2
  clear he_1 he_2 hw_2
  have HC_ := Aside0.mk (size_c A_8 n_8 c_8 R_8 w_37 HR_m.out (by omega))
  go_wp2_with (refine HC_.out.mono ?_)
  rintro _ w_38 ⟨R_38, hf_, hh_, rfl, hb_⟩
  have hq_ : R_38 = R_8 := Form.uniq hf_ HF_m.out hh_
  rw [hq_, HS_m.out]
  clear hq_
  have HR_a := Aside0.mk (rgs_below HR_a.out hb_)
  have HR_b := Aside0.mk (rgs_below HR_b.out hb_)
  have HR_n := Aside0.mk (rgs_below HR_n.out hb_)
  have HR_u := Aside0.mk (rgs_below HR_u.out hb_)
  have HR_m := Aside0.mk (rgs_below HR_m.out hb_)
  have HR_o := Aside0.mk (rgs_below HR_o.out hb_)
  have HB_w : Aside0 (Below w.heap.size w w_38) := ⟨HB_w.out.trans (hb_.mono HB_w.out.size)⟩
  clear hf_ hh_ hb_ HC_
  have HC_ := Aside0.mk (size_c A_11 n_11 c_11 R_11 w_38 HR_o.out (by omega))
  go_wp2_with (refine HC_.out.mono ?_)
  rintro _ w_39 ⟨R_39, hf_, hh_, rfl, hb_⟩
  have hq_ : R_39 = R_11 := Form.uniq hf_ HF_o.out hh_
  rw [hq_, HS_o.out]
  clear hq_
  have HR_a := Aside0.mk (rgs_below HR_a.out hb_)
  have HR_b := Aside0.mk (rgs_below HR_b.out hb_)
  have HR_n := Aside0.mk (rgs_below HR_n.out hb_)
  have HR_u := Aside0.mk (rgs_below HR_u.out hb_)
  have HR_m := Aside0.mk (rgs_below HR_m.out hb_)
  have HR_o := Aside0.mk (rgs_below HR_o.out hb_)
  have HB_w : Aside0 (Below w.heap.size w w_39) := ⟨HB_w.out.trans (hb_.mono HB_w.out.size)⟩
  clear hf_ hh_ hb_ HC_
  have HC_ := Aside0.mk (size_c A_2 n_2 c_2 R_2 w_39 HR_n.out (by omega))
  go_wp2_with (refine HC_.out.mono ?_)
  rintro _ w_40 ⟨R_40, hf_, hh_, rfl, hb_⟩
  have hq_ : R_40 = R_2 := Form.uniq hf_ HF_n.out hh_
  rw [hq_, HS_n.out]
  clear hq_
  have HR_a := Aside0.mk (rgs_below HR_a.out hb_)
  have HR_b := Aside0.mk (rgs_below HR_b.out hb_)
  have HR_n := Aside0.mk (rgs_below HR_n.out hb_)
  have HR_u := Aside0.mk (rgs_below HR_u.out hb_)
  have HR_m := Aside0.mk (rgs_below HR_m.out hb_)
  have HR_o := Aside0.mk (rgs_below HR_o.out hb_)
  have HB_w : Aside0 (Below w.heap.size w w_40) := ⟨HB_w.out.trans (hb_.mono HB_w.out.size)⟩
  clear hf_ hh_ hb_ HC_
  obtain ⟨px, hx_⟩ : ∃ q, has a at_ = q := ⟨_, rfl⟩
  obtain ⟨py, hy_⟩ : ∃ q, has b at_ = q := ⟨_, rfl⟩
  have HPX := Aside0.mk hx_
  have HPY := Aside0.mk hy_
  clear hx_ hy_
  cases px <;> cases py
  · have hv_ : has a at_ = false := by exact HPX.out
    have hc_ := has_c A n c a at_ w_40 HR_a.out
    rw [hv_] at hc_
    have HC_ := Aside0.mk hc_
    clear hv_ hc_
    go_wp2_with (refine HC_.out.mono ?_)
    rintro _ w_41 ⟨rfl, hb_⟩
    have HR_a := Aside0.mk (rgs_below HR_a.out hb_)
    have HR_b := Aside0.mk (rgs_below HR_b.out hb_)
    have HR_n := Aside0.mk (rgs_below HR_n.out hb_)
    have HR_u := Aside0.mk (rgs_below HR_u.out hb_)
    have HR_m := Aside0.mk (rgs_below HR_m.out hb_)
    have HR_o := Aside0.mk (rgs_below HR_o.out hb_)
    have HB_w : Aside0 (Below w.heap.size w w_41) := ⟨HB_w.out.trans (hb_.mono HB_w.out.size)⟩
    clear hb_ HC_
    have hv_ : has b at_ = false := by exact HPY.out
    have hc_ := has_c B m d b at_ w_41 HR_b.out
    rw [hv_] at hc_
    have HC_ := Aside0.mk hc_
    clear hv_ hc_
    go_wp2_with (refine HC_.out.mono ?_)
    rintro _ w_42 ⟨rfl, hb_⟩
    have HR_a := Aside0.mk (rgs_below HR_a.out hb_)
    have HR_b := Aside0.mk (rgs_below HR_b.out hb_)
    have HR_n := Aside0.mk (rgs_below HR_n.out hb_)
    have HR_u := Aside0.mk (rgs_below HR_u.out hb_)
    have HR_m := Aside0.mk (rgs_below HR_m.out hb_)
    have HR_o := Aside0.mk (rgs_below HR_o.out hb_)
    have HB_w : Aside0 (Below w.heap.size w w_42) := ⟨HB_w.out.trans (hb_.mono HB_w.out.size)⟩
    clear hb_ HC_
    have hv_ : has R_2 at_ = false := by rw [HH_n.out at_, has_nil, HPX.out]; rfl
    have hc_ := has_c A_2 n_2 c_2 R_2 at_ w_42 HR_n.out
    rw [hv_] at hc_
    have HC_ := Aside0.mk hc_
    clear hv_ hc_
    go_wp2_with (refine HC_.out.mono ?_)
    rintro _ w_43 ⟨rfl, hb_⟩
    have HR_a := Aside0.mk (rgs_below HR_a.out hb_)
    have HR_b := Aside0.mk (rgs_below HR_b.out hb_)
    have HR_n := Aside0.mk (rgs_below HR_n.out hb_)
    have HR_u := Aside0.mk (rgs_below HR_u.out hb_)
    have HR_m := Aside0.mk (rgs_below HR_m.out hb_)
    have HR_o := Aside0.mk (rgs_below HR_o.out hb_)
    have HB_w : Aside0 (Below w.heap.size w w_43) := ⟨HB_w.out.trans (hb_.mono HB_w.out.size)⟩
    clear hb_ HC_
    have hv_ : has R_5 at_ = false := by rw [HH_u.out at_, HPX.out, HPY.out]; rfl
    have hc_ := has_c A_5 n_5 c_5 R_5 at_ w_43 HR_u.out
    rw [hv_] at hc_
    have HC_ := Aside0.mk hc_
    clear hv_ hc_
    go_wp2_with (refine HC_.out.mono ?_)
    rintro _ w_44 ⟨rfl, hb_⟩
    have HR_a := Aside0.mk (rgs_below HR_a.out hb_)
    have HR_b := Aside0.mk (rgs_below HR_b.out hb_)
    have HR_n := Aside0.mk (rgs_below HR_n.out hb_)
    have HR_u := Aside0.mk (rgs_below HR_u.out hb_)
    have HR_m := Aside0.mk (rgs_below HR_m.out hb_)
    have HR_o := Aside0.mk (rgs_below HR_o.out hb_)
    have HB_w : Aside0 (Below w.heap.size w w_44) := ⟨HB_w.out.trans (hb_.mono HB_w.out.size)⟩
    clear hb_ HC_
    have hv_ : has R_8 at_ = false := by rw [HH_m.out at_, HPX.out, HPY.out]; rfl
    have hc_ := has_c A_8 n_8 c_8 R_8 at_ w_44 HR_m.out
    rw [hv_] at hc_
    have HC_ := Aside0.mk hc_
    clear hv_ hc_
    go_wp2_with (refine HC_.out.mono ?_)
    rintro _ w_45 ⟨rfl, hb_⟩
    have HR_a := Aside0.mk (rgs_below HR_a.out hb_)
    have HR_b := Aside0.mk (rgs_below HR_b.out hb_)
    have HR_n := Aside0.mk (rgs_below HR_n.out hb_)
    have HR_u := Aside0.mk (rgs_below HR_u.out hb_)
    have HR_m := Aside0.mk (rgs_below HR_m.out hb_)
    have HR_o := Aside0.mk (rgs_below HR_o.out hb_)
    have HB_w : Aside0 (Below w.heap.size w w_45) := ⟨HB_w.out.trans (hb_.mono HB_w.out.size)⟩
    clear hb_ HC_
    have hv_ : has R_11 at_ = false := by rw [HH_o.out at_, HPX.out, HPY.out]; rfl
    have hc_ := has_c A_11 n_11 c_11 R_11 at_ w_45 HR_o.out
    rw [hv_] at hc_
    have HC_ := Aside0.mk hc_
    clear hv_ hc_
    go_wp2_with (refine HC_.out.mono ?_)
    rintro _ w_46 ⟨rfl, hb_⟩
    have HR_a := Aside0.mk (rgs_below HR_a.out hb_)
    have HR_b := Aside0.mk (rgs_below HR_b.out hb_)
    have HR_n := Aside0.mk (rgs_below HR_n.out hb_)
    have HR_u := Aside0.mk (rgs_below HR_u.out hb_)
    have HR_m := Aside0.mk (rgs_below HR_m.out hb_)
    have HR_o := Aside0.mk (rgs_below HR_o.out hb_)
    have HB_w : Aside0 (Below w.heap.size w w_46) := ⟨HB_w.out.trans (hb_.mono HB_w.out.size)⟩
    clear hb_ HC_
    go_wp2_with (refine (wakes_c _).mono ?_; rintro _ w10 ⟨rfl, b10⟩; have HW10 : Aside0 (Below w.heap.size w w10) := ⟨HB_w.out.trans (b10.mono HB_w.out.size)⟩; clear b10)
    go_ret
    exact ⟨rfl, HW10.out⟩
  · have hv_ : has a at_ = false := by exact HPX.out
    have hc_ := has_c A n c a at_ w_40 HR_a.out
    rw [hv_] at hc_
    have HC_ := Aside0.mk hc_
    clear hv_ hc_
    go_wp2_with (refine HC_.out.mono ?_)
    rintro _ w_41 ⟨rfl, hb_⟩
    have HR_a := Aside0.mk (rgs_below HR_a.out hb_)
    have HR_b := Aside0.mk (rgs_below HR_b.out hb_)
    have HR_n := Aside0.mk (rgs_below HR_n.out hb_)
    have HR_u := Aside0.mk (rgs_below HR_u.out hb_)
    have HR_m := Aside0.mk (rgs_below HR_m.out hb_)
    have HR_o := Aside0.mk (rgs_below HR_o.out hb_)
    have HB_w : Aside0 (Below w.heap.size w w_41) := ⟨HB_w.out.trans (hb_.mono HB_w.out.size)⟩
    clear hb_ HC_
    have hv_ : has b at_ = true := by exact HPY.out
    have hc_ := has_c B m d b at_ w_41 HR_b.out
    rw [hv_] at hc_
    have HC_ := Aside0.mk hc_
    clear hv_ hc_
    go_wp2_with (refine HC_.out.mono ?_)
    rintro _ w_42 ⟨rfl, hb_⟩
    have HR_a := Aside0.mk (rgs_below HR_a.out hb_)
    have HR_b := Aside0.mk (rgs_below HR_b.out hb_)
    have HR_n := Aside0.mk (rgs_below HR_n.out hb_)
    have HR_u := Aside0.mk (rgs_below HR_u.out hb_)
    have HR_m := Aside0.mk (rgs_below HR_m.out hb_)
    have HR_o := Aside0.mk (rgs_below HR_o.out hb_)
    have HB_w : Aside0 (Below w.heap.size w w_42) := ⟨HB_w.out.trans (hb_.mono HB_w.out.size)⟩
    clear hb_ HC_
    have hv_ : has R_2 at_ = false := by rw [HH_n.out at_, has_nil, HPX.out]; rfl
    have hc_ := has_c A_2 n_2 c_2 R_2 at_ w_42 HR_n.out
    rw [hv_] at hc_
    have HC_ := Aside0.mk hc_
    clear hv_ hc_
    go_wp2_with (refine HC_.out.mono ?_)
    rintro _ w_43 ⟨rfl, hb_⟩
    have HR_a := Aside0.mk (rgs_below HR_a.out hb_)
    have HR_b := Aside0.mk (rgs_below HR_b.out hb_)
    have HR_n := Aside0.mk (rgs_below HR_n.out hb_)
    have HR_u := Aside0.mk (rgs_below HR_u.out hb_)
    have HR_m := Aside0.mk (rgs_below HR_m.out hb_)
    have HR_o := Aside0.mk (rgs_below HR_o.out hb_)
    have HB_w : Aside0 (Below w.heap.size w w_43) := ⟨HB_w.out.trans (hb_.mono HB_w.out.size)⟩
    clear hb_ HC_
    have hv_ : has R_5 at_ = true := by rw [HH_u.out at_, HPX.out, HPY.out]; rfl
    have hc_ := has_c A_5 n_5 c_5 R_5 at_ w_43 HR_u.out
    rw [hv_] at hc_
    have HC_ := Aside0.mk hc_
    clear hv_ hc_
    go_wp2_with (refine HC_.out.mono ?_)
    rintro _ w_44 ⟨rfl, hb_⟩
    have HR_a := Aside0.mk (rgs_below HR_a.out hb_)
    have HR_b := Aside0.mk (rgs_below HR_b.out hb_)
    have HR_n := Aside0.mk (rgs_below HR_n.out hb_)
    have HR_u := Aside0.mk (rgs_below HR_u.out hb_)
    have HR_m := Aside0.mk (rgs_below HR_m.out hb_)
    have HR_o := Aside0.mk (rgs_below HR_o.out hb_)
    have HB_w : Aside0 (Below w.heap.size w w_44) := ⟨HB_w.out.trans (hb_.mono HB_w.out.size)⟩
    clear hb_ HC_
    have hv_ : has R_8 at_ = false := by rw [HH_m.out at_, HPX.out, HPY.out]; rfl
    have hc_ := has_c A_8 n_8 c_8 R_8 at_ w_44 HR_m.out
    rw [hv_] at hc_
    have HC_ := Aside0.mk hc_
    clear hv_ hc_
    go_wp2_with (refine HC_.out.mono ?_)
    rintro _ w_45 ⟨rfl, hb_⟩
    have HR_a := Aside0.mk (rgs_below HR_a.out hb_)
    have HR_b := Aside0.mk (rgs_below HR_b.out hb_)
    have HR_n := Aside0.mk (rgs_below HR_n.out hb_)
    have HR_u := Aside0.mk (rgs_below HR_u.out hb_)
    have HR_m := Aside0.mk (rgs_below HR_m.out hb_)
    have HR_o := Aside0.mk (rgs_below HR_o.out hb_)
    have HB_w : Aside0 (Below w.heap.size w w_45) := ⟨HB_w.out.trans (hb_.mono HB_w.out.size)⟩
    clear hb_ HC_
    have hv_ : has R_11 at_ = false := by rw [HH_o.out at_, HPX.out, HPY.out]; rfl
    have hc_ := has_c A_11 n_11 c_11 R_11 at_ w_45 HR_o.out
    rw [hv_] at hc_
    have HC_ := Aside0.mk hc_
    clear hv_ hc_
    go_wp2_with (refine HC_.out.mono ?_)
    rintro _ w_46 ⟨rfl, hb_⟩
    have HR_a := Aside0.mk (rgs_below HR_a.out hb_)
    have HR_b := Aside0.mk (rgs_below HR_b.out hb_)
    have HR_n := Aside0.mk (rgs_below HR_n.out hb_)
    have HR_u := Aside0.mk (rgs_below HR_u.out hb_)
    have HR_m := Aside0.mk (rgs_below HR_m.out hb_)
    have HR_o := Aside0.mk (rgs_below HR_o.out hb_)
    have HB_w : Aside0 (Below w.heap.size w w_46) := ⟨HB_w.out.trans (hb_.mono HB_w.out.size)⟩
    clear hb_ HC_
    go_wp2_with (refine (wakes_c _).mono ?_; rintro _ w10 ⟨rfl, b10⟩; have HW10 : Aside0 (Below w.heap.size w w10) := ⟨HB_w.out.trans (b10.mono HB_w.out.size)⟩; clear b10)
    go_ret
    exact ⟨rfl, HW10.out⟩
  · have hv_ : has a at_ = true := by exact HPX.out
    have hc_ := has_c A n c a at_ w_40 HR_a.out
    rw [hv_] at hc_
    have HC_ := Aside0.mk hc_
    clear hv_ hc_
    go_wp2_with (refine HC_.out.mono ?_)
    rintro _ w_41 ⟨rfl, hb_⟩
    have HR_a := Aside0.mk (rgs_below HR_a.out hb_)
    have HR_b := Aside0.mk (rgs_below HR_b.out hb_)
    have HR_n := Aside0.mk (rgs_below HR_n.out hb_)
    have HR_u := Aside0.mk (rgs_below HR_u.out hb_)
    have HR_m := Aside0.mk (rgs_below HR_m.out hb_)
    have HR_o := Aside0.mk (rgs_below HR_o.out hb_)
    have HB_w : Aside0 (Below w.heap.size w w_41) := ⟨HB_w.out.trans (hb_.mono HB_w.out.size)⟩
    clear hb_ HC_
    have hv_ : has b at_ = false := by exact HPY.out
    have hc_ := has_c B m d b at_ w_41 HR_b.out
    rw [hv_] at hc_
    have HC_ := Aside0.mk hc_
    clear hv_ hc_
    go_wp2_with (refine HC_.out.mono ?_)
    rintro _ w_42 ⟨rfl, hb_⟩
    have HR_a := Aside0.mk (rgs_below HR_a.out hb_)
    have HR_b := Aside0.mk (rgs_below HR_b.out hb_)
    have HR_n := Aside0.mk (rgs_below HR_n.out hb_)
    have HR_u := Aside0.mk (rgs_below HR_u.out hb_)
    have HR_m := Aside0.mk (rgs_below HR_m.out hb_)
    have HR_o := Aside0.mk (rgs_below HR_o.out hb_)
    have HB_w : Aside0 (Below w.heap.size w w_42) := ⟨HB_w.out.trans (hb_.mono HB_w.out.size)⟩
    clear hb_ HC_
    have hv_ : has R_2 at_ = true := by rw [HH_n.out at_, has_nil, HPX.out]; rfl
    have hc_ := has_c A_2 n_2 c_2 R_2 at_ w_42 HR_n.out
    rw [hv_] at hc_
    have HC_ := Aside0.mk hc_
    clear hv_ hc_
    go_wp2_with (refine HC_.out.mono ?_)
    rintro _ w_43 ⟨rfl, hb_⟩
    have HR_a := Aside0.mk (rgs_below HR_a.out hb_)
    have HR_b := Aside0.mk (rgs_below HR_b.out hb_)
    have HR_n := Aside0.mk (rgs_below HR_n.out hb_)
    have HR_u := Aside0.mk (rgs_below HR_u.out hb_)
    have HR_m := Aside0.mk (rgs_below HR_m.out hb_)
    have HR_o := Aside0.mk (rgs_below HR_o.out hb_)
    have HB_w : Aside0 (Below w.heap.size w w_43) := ⟨HB_w.out.trans (hb_.mono HB_w.out.size)⟩
    clear hb_ HC_
    have hv_ : has R_5 at_ = true := by rw [HH_u.out at_, HPX.out, HPY.out]; rfl
    have hc_ := has_c A_5 n_5 c_5 R_5 at_ w_43 HR_u.out
    rw [hv_] at hc_
    have HC_ := Aside0.mk hc_
    clear hv_ hc_
    go_wp2_with (refine HC_.out.mono ?_)
    rintro _ w_44 ⟨rfl, hb_⟩
    have HR_a := Aside0.mk (rgs_below HR_a.out hb_)
    have HR_b := Aside0.mk (rgs_below HR_b.out hb_)
    have HR_n := Aside0.mk (rgs_below HR_n.out hb_)
    have HR_u := Aside0.mk (rgs_below HR_u.out hb_)
    have HR_m := Aside0.mk (rgs_below HR_m.out hb_)
    have HR_o := Aside0.mk (rgs_below HR_o.out hb_)
    have HB_w : Aside0 (Below w.heap.size w w_44) := ⟨HB_w.out.trans (hb_.mono HB_w.out.size)⟩
    clear hb_ HC_
    have hv_ : has R_8 at_ = true := by rw [HH_m.out at_, HPX.out, HPY.out]; rfl
    have hc_ := has_c A_8 n_8 c_8 R_8 at_ w_44 HR_m.out
    rw [hv_] at hc_
    have HC_ := Aside0.mk hc_
    clear hv_ hc_
    go_wp2_with (refine HC_.out.mono ?_)
    rintro _ w_45 ⟨rfl, hb_⟩
    have HR_a := Aside0.mk (rgs_below HR_a.out hb_)
    have HR_b := Aside0.mk (rgs_below HR_b.out hb_)
    have HR_n := Aside0.mk (rgs_below HR_n.out hb_)
    have HR_u := Aside0.mk (rgs_below HR_u.out hb_)
    have HR_m := Aside0.mk (rgs_below HR_m.out hb_)
    have HR_o := Aside0.mk (rgs_below HR_o.out hb_)
    have HB_w : Aside0 (Below w.heap.size w w_45) := ⟨HB_w.out.trans (hb_.mono HB_w.out.size)⟩
    clear hb_ HC_
    have hv_ : has R_11 at_ = false := by rw [HH_o.out at_, HPX.out, HPY.out]; rfl
    have hc_ := has_c A_11 n_11 c_11 R_11 at_ w_45 HR_o.out
    rw [hv_] at hc_
    have HC_ := Aside0.mk hc_
    clear hv_ hc_
    go_wp2_with (refine HC_.out.mono ?_)
    rintro _ w_46 ⟨rfl, hb_⟩
    have HR_a := Aside0.mk (rgs_below HR_a.out hb_)
    have HR_b := Aside0.mk (rgs_below HR_b.out hb_)
    have HR_n := Aside0.mk (rgs_below HR_n.out hb_)
    have HR_u := Aside0.mk (rgs_below HR_u.out hb_)
    have HR_m := Aside0.mk (rgs_below HR_m.out hb_)
    have HR_o := Aside0.mk (rgs_below HR_o.out hb_)
    have HB_w : Aside0 (Below w.heap.size w w_46) := ⟨HB_w.out.trans (hb_.mono HB_w.out.size)⟩
    clear hb_ HC_
    go_wp2_with (refine (wakes_c _).mono ?_; rintro _ w10 ⟨rfl, b10⟩; have HW10 : Aside0 (Below w.heap.size w w10) := ⟨HB_w.out.trans (b10.mono HB_w.out.size)⟩; clear b10)
    go_ret
    exact ⟨rfl, HW10.out⟩
  · have hv_ : has a at_ = true := by exact HPX.out
    have hc_ := has_c A n c a at_ w_40 HR_a.out
    rw [hv_] at hc_
    have HC_ := Aside0.mk hc_
    clear hv_ hc_
    go_wp2_with (refine HC_.out.mono ?_)
    rintro _ w_41 ⟨rfl, hb_⟩
    have HR_a := Aside0.mk (rgs_below HR_a.out hb_)
    have HR_b := Aside0.mk (rgs_below HR_b.out hb_)
    have HR_n := Aside0.mk (rgs_below HR_n.out hb_)
    have HR_u := Aside0.mk (rgs_below HR_u.out hb_)
    have HR_m := Aside0.mk (rgs_below HR_m.out hb_)
    have HR_o := Aside0.mk (rgs_below HR_o.out hb_)
    have HB_w : Aside0 (Below w.heap.size w w_41) := ⟨HB_w.out.trans (hb_.mono HB_w.out.size)⟩
    clear hb_ HC_
    have hv_ : has b at_ = true := by exact HPY.out
    have hc_ := has_c B m d b at_ w_41 HR_b.out
    rw [hv_] at hc_
    have HC_ := Aside0.mk hc_
    clear hv_ hc_
    go_wp2_with (refine HC_.out.mono ?_)
    rintro _ w_42 ⟨rfl, hb_⟩
    have HR_a := Aside0.mk (rgs_below HR_a.out hb_)
    have HR_b := Aside0.mk (rgs_below HR_b.out hb_)
    have HR_n := Aside0.mk (rgs_below HR_n.out hb_)
    have HR_u := Aside0.mk (rgs_below HR_u.out hb_)
    have HR_m := Aside0.mk (rgs_below HR_m.out hb_)
    have HR_o := Aside0.mk (rgs_below HR_o.out hb_)
    have HB_w : Aside0 (Below w.heap.size w w_42) := ⟨HB_w.out.trans (hb_.mono HB_w.out.size)⟩
    clear hb_ HC_
    have hv_ : has R_2 at_ = true := by rw [HH_n.out at_, has_nil, HPX.out]; rfl
    have hc_ := has_c A_2 n_2 c_2 R_2 at_ w_42 HR_n.out
    rw [hv_] at hc_
    have HC_ := Aside0.mk hc_
    clear hv_ hc_
    go_wp2_with (refine HC_.out.mono ?_)
    rintro _ w_43 ⟨rfl, hb_⟩
    have HR_a := Aside0.mk (rgs_below HR_a.out hb_)
    have HR_b := Aside0.mk (rgs_below HR_b.out hb_)
    have HR_n := Aside0.mk (rgs_below HR_n.out hb_)
    have HR_u := Aside0.mk (rgs_below HR_u.out hb_)
    have HR_m := Aside0.mk (rgs_below HR_m.out hb_)
    have HR_o := Aside0.mk (rgs_below HR_o.out hb_)
    have HB_w : Aside0 (Below w.heap.size w w_43) := ⟨HB_w.out.trans (hb_.mono HB_w.out.size)⟩
    clear hb_ HC_
    have hv_ : has R_5 at_ = true := by rw [HH_u.out at_, HPX.out, HPY.out]; rfl
    have hc_ := has_c A_5 n_5 c_5 R_5 at_ w_43 HR_u.out
    rw [hv_] at hc_
    have HC_ := Aside0.mk hc_
    clear hv_ hc_
    go_wp2_with (refine HC_.out.mono ?_)
    rintro _ w_44 ⟨rfl, hb_⟩
    have HR_a := Aside0.mk (rgs_below HR_a.out hb_)
    have HR_b := Aside0.mk (rgs_below HR_b.out hb_)
    have HR_n := Aside0.mk (rgs_below HR_n.out hb_)
    have HR_u := Aside0.mk (rgs_below HR_u.out hb_)
    have HR_m := Aside0.mk (rgs_below HR_m.out hb_)
    have HR_o := Aside0.mk (rgs_below HR_o.out hb_)
    have HB_w : Aside0 (Below w.heap.size w w_44) := ⟨HB_w.out.trans (hb_.mono HB_w.out.size)⟩
    clear hb_ HC_
    have hv_ : has R_8 at_ = false := by rw [HH_m.out at_, HPX.out, HPY.out]; rfl
    have hc_ := has_c A_8 n_8 c_8 R_8 at_ w_44 HR_m.out
    rw [hv_] at hc_
    have HC_ := Aside0.mk hc_
    clear hv_ hc_
    go_wp2_with (refine HC_.out.mono ?_)
    rintro _ w_45 ⟨rfl, hb_⟩
    have HR_a := Aside0.mk (rgs_below HR_a.out hb_)
    have HR_b := Aside0.mk (rgs_below HR_b.out hb_)
    have HR_n := Aside0.mk (rgs_below HR_n.out hb_)
    have HR_u := Aside0.mk (rgs_below HR_u.out hb_)
    have HR_m := Aside0.mk (rgs_below HR_m.out hb_)
    have HR_o := Aside0.mk (rgs_below HR_o.out hb_)
    have HB_w : Aside0 (Below w.heap.size w w_45) := ⟨HB_w.out.trans (hb_.mono HB_w.out.size)⟩
    clear hb_ HC_
    have hv_ : has R_11 at_ = true := by rw [HH_o.out at_, HPX.out, HPY.out]; rfl
    have hc_ := has_c A_11 n_11 c_11 R_11 at_ w_45 HR_o.out
    rw [hv_] at hc_
    have HC_ := Aside0.mk hc_
    clear hv_ hc_
    go_wp2_with (refine HC_.out.mono ?_)
    rintro _ w_46 ⟨rfl, hb_⟩
    have HR_a := Aside0.mk (rgs_below HR_a.out hb_)
    have HR_b := Aside0.mk (rgs_below HR_b.out hb_)
    have HR_n := Aside0.mk (rgs_below HR_n.out hb_)
    have HR_u := Aside0.mk (rgs_below HR_u.out hb_)
    have HR_m := Aside0.mk (rgs_below HR_m.out hb_)
    have HR_o := Aside0.mk (rgs_below HR_o.out hb_)
    have HB_w : Aside0 (Below w.heap.size w w_46) := ⟨HB_w.out.trans (hb_.mono HB_w.out.size)⟩
    clear hb_ HC_
    go_wp2_with (refine (wakes_c _).mono ?_; rintro _ w10 ⟨rfl, b10⟩; have HW10 : Aside0 (Below w.heap.size w w10) := ⟨HB_w.out.trans (b10.mono HB_w.out.size)⟩; clear b10)
    go_ret
    exact ⟨rfl, HW10.out⟩
end Go.Proofs.Ytcbddmmoioggaaa.Sp
