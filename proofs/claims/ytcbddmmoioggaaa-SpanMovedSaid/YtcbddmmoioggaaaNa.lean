/- Norm, Union, Minus, Both, Size, lists that are the same: plain calls. -/
import Derived.Test.YtcbddmmoioggaaaOh
import Derived.Test.YtcbddmmoioggaaaPc
import Derived.Test.YtcbddmmoioggaaaOb
import Derived.Test.YtcbddmmoioggaaaOc
import Derived.Test.YtcbddmmoioggaaaOd
namespace Go.Proofs.Ytcbddmmoioggaaa.Sp
open Go.RowKit Go.Shelf Go.Proofs.YtcbddmmoioggaaaW.PrintWords Go.Proofs.YtcbddmmoioggaaaW.PrintLast Go.Proofs.YtcbddmmoioggaaaW.PrintMore
attribute [local go_sem] max2_int min2_int max_two min_two max_three min_three max_four min_four
set_option linter.unusedVariables false
set_option linter.unusedSimpArgs false
theorem no_rows (w : World) : ReadsRow RRg 2 w none 0 [] := ⟨rfl, by decide, fun hp => by simp at hp⟩
set_option maxRecDepth 100000 in
set_option maxHeartbeats 4000000 in
theorem union_c (A : Option Addr) (n c : Nat) (a : List Rg) (B : Option Addr) (m d : Nat) (b : List Rg) (w : World) (hA : ReadsRow RRg 2 w A n a) (hB : ReadsRow RRg 2 w B m b) (hnm : n + m ≤ 100000) :
    Calls Try.prog 15 #[.slice A n c, .slice B m d] w fun e w' => OfP w (fun x y => x || y) a b e w' := by
  have HO := Aside0.mk (callsIn_wide.1 (of30_in 6 (Nat.le_refl _) A n c a B m d b w hA hB hnm))
  clear hA hB
  go_enter Try.func15, Try.ntmps15
  go_wp2_with (refine HO.out.mono ?_; rintro _ w1 ⟨v, R, rfl, h1⟩; have H1 := Aside0.mk h1; clear h1)
  go_ret
  exact ⟨v, R, rfl, H1.out⟩
set_option maxRecDepth 100000 in
set_option maxHeartbeats 4000000 in
theorem minus_c (A : Option Addr) (n c : Nat) (a : List Rg) (B : Option Addr) (m d : Nat) (b : List Rg) (w : World) (hA : ReadsRow RRg 2 w A n a) (hB : ReadsRow RRg 2 w B m b) (hnm : n + m ≤ 100000) :
    Calls Try.prog 16 #[.slice A n c, .slice B m d] w fun e w' => OfP w (fun x y => x && !y) a b e w' := by
  have HO := Aside0.mk (callsIn_wide.1 (of31_in 6 (Nat.le_refl _) A n c a B m d b w hA hB hnm))
  clear hA hB
  go_enter Try.func16, Try.ntmps16
  go_wp2_with (refine HO.out.mono ?_; rintro _ w1 ⟨v, R, rfl, h1⟩; have H1 := Aside0.mk h1; clear h1)
  go_ret
  exact ⟨v, R, rfl, H1.out⟩
set_option maxRecDepth 100000 in
set_option maxHeartbeats 4000000 in
theorem both_c (A : Option Addr) (n c : Nat) (a : List Rg) (B : Option Addr) (m d : Nat) (b : List Rg) (w : World) (hA : ReadsRow RRg 2 w A n a) (hB : ReadsRow RRg 2 w B m b) (hnm : n + m ≤ 100000) :
    Calls Try.prog 17 #[.slice A n c, .slice B m d] w fun e w' => OfP w (fun x y => x && y) a b e w' := by
  have HO := Aside0.mk (callsIn_wide.1 (of32_in 6 (Nat.le_refl _) A n c a B m d b w hA hB hnm))
  clear hA hB
  go_enter Try.func17, Try.ntmps17
  go_wp2_with (refine HO.out.mono ?_; rintro _ w1 ⟨v, R, rfl, h1⟩; have H1 := Aside0.mk h1; clear h1)
  go_ret
  exact ⟨v, R, rfl, H1.out⟩
set_option maxRecDepth 100000 in
set_option maxHeartbeats 4000000 in
theorem norm_c (A : Option Addr) (n c : Nat) (a : List Rg) (w : World) (hA : ReadsRow RRg 2 w A n a) (hnm : n ≤ 100000) :
    Calls Try.prog 14 #[.slice A n c] w fun e w' => OfP w (fun x y => x || y) a [] e w' := by
  have HO := Aside0.mk (union_c A n c a none 0 0 [] w hA (no_rows w) hnm)
  clear hA
  go_enter Try.func14, Try.ntmps14
  go_wp2_with (refine HO.out.mono ?_; rintro _ w1 ⟨v, R, rfl, h1⟩; have H1 := Aside0.mk h1; clear h1)
  go_ret
  exact ⟨v, R, rfl, H1.out⟩
/-- A list of one's own. -/
def OwnP (w : World) (a : List Rg) (e : Ending) (w' : World) : Prop := ∃ v, e = .returned v ∧ kR.R 31 w' 0 (fun j => w.heap.size ≤ j) v a ∧ Below w.heap.size w w'
set_option maxRecDepth 100000 in
set_option maxHeartbeats 4000000 in
theorem own_c (A : Option Addr) (n c : Nat) (a : List Rg) (w : World) (hA : ReadsRow RRg 2 w A n a) (hn : n ≤ 100000) : Calls Try.prog 13 #[.slice A n c] w fun e w' => OwnP w a e w' := by
  have HA := Aside0.mk hA
  clear hA
  go_enter Try.func13, Try.ntmps13
  go_wp2_with (at_builtin; refine Kd.R_append_rows kR (Rr := RRg) (w0 := w) 0 rfl (.const (.slice none 0 0)) (.tmp 3) 22 31 (.agg #[.int .i64 0, .int .i64 0]) 16 rfl Try.underlying22 info31 rfl (by decide) (by decide) (.slice none 0 0) [] a A n c (fun j => w.heap.size ≤ j) (fun _ => False) rfl rfl (Kd.R_nil _ _ _ _ _) HA.out (fun _ _ h => h) (fun _ h => h.elim) (fun _ h => h) (Below.refl _ _) (Nat.zero_le _) (by simp; omega) ?_; intro v2 w2 hR2 _ hg2 _; rw [List.nil_append] at hR2; have hb2 : Below w.heap.size w w2 := ⟨hg2.os, hg2.tape, hg2.output, hg2.size, fun k hk => hg2.block k hk (by simp [Value.ownBlock])⟩; have HR2 := Aside0.mk hR2; have HB2 := Aside0.mk hb2; clear hR2 hg2 hb2)
  go_ret
  exact ⟨_, rfl, HR2.out, HB2.out⟩
set_option maxRecDepth 100000 in
set_option maxHeartbeats 4000000 in
theorem same_c (A A' : Option Addr) (n c c' : Nat) (l : List Rg) (w : World) (hX : ReadsRow RRg 2 w A n l) (hY : ReadsRow RRg 2 w A' n l) : Calls Try.prog 18 #[.slice A n c, .slice A' n c'] w fun e w' => BoolP w true e w' := by
  have HX := Aside0.mk hX
  have HY := Aside0.mk hY
  have hln := hX.1
  have hn8 := hX.2.1
  have HLN := Aside0.mk hln
  clear hX hY hln
  go_enter Try.func18, Try.ntmps18
  go_upto_block 0 with (fail)
  go_wp2_with (fail)
  go_loopg [5] n (fun gk v5 wr => ∃ (k : Nat), v5 = .int .i64 (k : Int) ∧ Aside0 (k + gk = n) ∧ Aside0 (Below w.heap.size w wr))
  case atStart => exact ⟨0, rfl, ⟨by omega⟩, ⟨Below.refl _ _⟩⟩
  case round =>
    obtain ⟨k, rfl, HK, HB⟩ := hrel
    by_cases hkn : k < n
    · obtain ⟨gn, rfl⟩ : ∃ gn, gk = gn + 1 := ⟨gk - 1, by have := HK.out; omega⟩
      obtain ⟨y, hy⟩ : ∃ y, l[k]? = some y := ⟨_, List.getElem?_eq_getElem (by rw [HLN.out]; exact hkn)⟩
      obtain ⟨ad, hA, _⟩ := HX.out.2.2 (by omega)
      obtain ⟨ad', hA', _⟩ := HY.out.2.2 (by omega)
      subst hA
      subst hA'
      obtain ⟨a0, a1⟩ := rg_at (rgs_below HX.out HB.out) hy
      obtain ⟨b0, b1⟩ := rg_at (rgs_below HY.out HB.out) hy
      have p0 : (0 : Int) ≤ (k : Int) := by omega
      have p1 : (k : Int) < (n : Int) := by omega
      have hw1 : IntKind.i64.wrap ((k : Int) + 1) = (k : Int) + 1 := IntWalk.i64_in _ (by omega)
      clear hy
      go_upto_region 6 with (fail)
      go_quiet (fail)
      go_wp2_with (fail)
      go_roundg gn
      case measure => exact Nat.lt_succ_self _
      case rel => exact ⟨k + 1, by simp, ⟨by have := HK.out; omega⟩, ⟨pw_below_drewN HB.out _⟩⟩
    · have q : ¬ ((k : Int) < (n : Int)) := by omega
      clear HK
      go_wp2_with (fail)
      go_ret
      exact ⟨rfl, HB.out⟩
set_option maxRecDepth 100000 in
set_option maxHeartbeats 4000000 in
theorem same2_c (A A' : Option Addr) (n c c' : Nat) (l : List Rg) (w : World) (hX : ReadsRow RRg 2 w A n l) (hY : ReadsRow RRg 2 w A' n l) : Calls Try.prog 21 #[.slice A n c, .slice A' n c'] w fun e w' => BoolP w true e w' := by
  have HX := Aside0.mk hX
  have HY := Aside0.mk hY
  have hln := hX.1
  have hn8 := hX.2.1
  have HLN := Aside0.mk hln
  clear hX hY hln
  go_enter Try.func21, Try.ntmps21
  go_upto_block 0 with (fail)
  go_wp2_with (fail)
  go_loopg [5] n (fun gk v5 wr => ∃ (k : Nat), v5 = .int .i64 (k : Int) ∧ Aside0 (k + gk = n) ∧ Aside0 (Below w.heap.size w wr))
  case atStart => exact ⟨0, rfl, ⟨by omega⟩, ⟨Below.refl _ _⟩⟩
  case round =>
    obtain ⟨k, rfl, HK, HB⟩ := hrel
    by_cases hkn : k < n
    · obtain ⟨gn, rfl⟩ : ∃ gn, gk = gn + 1 := ⟨gk - 1, by have := HK.out; omega⟩
      obtain ⟨y, hy⟩ : ∃ y, l[k]? = some y := ⟨_, List.getElem?_eq_getElem (by rw [HLN.out]; exact hkn)⟩
      obtain ⟨ad, hA, _⟩ := HX.out.2.2 (by omega)
      obtain ⟨ad', hA', _⟩ := HY.out.2.2 (by omega)
      subst hA
      subst hA'
      obtain ⟨a0, a1⟩ := rg_at (rgs_below HX.out HB.out) hy
      obtain ⟨b0, b1⟩ := rg_at (rgs_below HY.out HB.out) hy
      have p0 : (0 : Int) ≤ (k : Int) := by omega
      have p1 : (k : Int) < (n : Int) := by omega
      have hw1 : IntKind.i64.wrap ((k : Int) + 1) = (k : Int) + 1 := IntWalk.i64_in _ (by omega)
      clear hy
      go_upto_region 6 with (fail)
      go_quiet (fail)
      go_wp2_with (fail)
      go_roundg gn
      case measure => exact Nat.lt_succ_self _
      case rel => exact ⟨k + 1, by simp, ⟨by have := HK.out; omega⟩, ⟨pw_below_drewN HB.out _⟩⟩
    · have q : ¬ ((k : Int) < (n : Int)) := by omega
      clear HK
      go_wp2_with (fail)
      go_ret
      exact ⟨rfl, HB.out⟩
/-- What Size tells. -/
def SizeP (w : World) (a : List Rg) (e : Ending) (w' : World) : Prop := ∃ R, Form R ∧ (∀ x, has R x = has a x) ∧ e = .returned (.int .i64 (sumR R)) ∧ Below w.heap.size w w'
theorem sumR_take {R : List Rg} {k : Nat} {x : Rg} (h : R[k]? = some x) : sumR (R.take (k + 1)) = sumR (R.take k) + (x.t - x.f) := by
  rw [take_snoc h, sumR_append]
  simp [sumR]
set_option maxRecDepth 100000 in
set_option maxHeartbeats 4000000 in
theorem size_c (A : Option Addr) (n c : Nat) (a : List Rg) (w : World) (hA : ReadsRow RRg 2 w A n a) (hn : n ≤ 10000) : Calls Try.prog 11 #[.slice A n c] w fun e w' => SizeP w a e w' := by
  have HO := Aside0.mk (norm_c A n c a w hA (by omega))
  have HAL := Aside0.mk hA.1
  clear hA
  go_enter Try.func11, Try.ntmps11
  go_wp2_with (refine HO.out.mono ?_)
  rintro _ w1 ⟨v, R, rfl, hr, hf, hh, hl, hb⟩
  obtain ⟨A1, c1, rfl, hc1, hC1⟩ := Kd.R_reads hr
  obtain ⟨N, hN⟩ : ∃ q, R.length = q := ⟨_, rfl⟩
  rw [hN] at hC1 hl ⊢
  have HC1 := Aside0.mk hC1
  have HF := Aside0.mk hf
  have HH := Aside0.mk hh
  have HB1 := Aside0.mk hb
  have HN := Aside0.mk hN
  have hN8 : N ≤ 20000 := by rw [HAL.out] at hl; simp at hl; omega
  clear hr hf hh hl hb hC1 hN HO
  go_upto_block 0 with (fail)
  go_wp2_with (fail)
  go_loopg [9, 3] N (fun gk v9 v3 wr => ∃ (k : Nat) (S : Int), v9 = .int .i64 (k : Int) ∧ v3 = .int .i64 S ∧ Aside0 (k + gk = N) ∧ Aside0 (S = sumR (R.take k)) ∧ Aside0 (Below w1.heap.size w1 wr))
  case atStart => exact ⟨0, 0, rfl, rfl, ⟨by omega⟩, ⟨rfl⟩, ⟨Below.refl _ _⟩⟩
  case round =>
    obtain ⟨k, S, rfl, rfl, HK, HS, HB⟩ := hrel
    have hsb := sumR_bound (HF.out.take k)
    rw [← HS.out, List.length_take] at hsb
    by_cases hkn : k < N
    · obtain ⟨gn, rfl⟩ : ∃ gn, gk = gn + 1 := ⟨gk - 1, by have := HK.out; omega⟩
      obtain ⟨y, hy⟩ : ∃ y, R[k]? = some y := ⟨_, List.getElem?_eq_getElem (by rw [HN.out]; exact hkn)⟩
      have hye := HF.out.e y (List.mem_of_getElem? hy)
      unfold top at hye
      obtain ⟨ad, hA, _⟩ := HC1.out.2.2 (by omega)
      subst hA
      obtain ⟨a0, a1⟩ := rg_at (l := R) (rgs_below HC1.out HB.out) hy
      have HST := Aside0.mk (sumR_take hy)
      have p0 : (0 : Int) ≤ (k : Int) := by omega
      have p1 : (k : Int) < (N : Int) := by omega
      have hw1 : IntKind.i64.wrap ((k : Int) + 1) = (k : Int) + 1 := IntWalk.i64_in _ (by omega)
      have hw2 : IntKind.i64.wrap (y.t - y.f) = y.t - y.f := IntWalk.i64_in _ (by omega)
      have hmin : min k R.length ≤ 20000 := by rw [HN.out]; omega
      have hw3 : IntKind.i64.wrap (S + (y.t - y.f)) = S + (y.t - y.f) := IntWalk.i64_in _ (by omega)
      clear hy hsb
      go_upto_region 5 with (fail)
      obtain ⟨b9, hb9⟩ : ∃ q, wr.heap.size = q := ⟨_, rfl⟩
      obtain ⟨wx, hwx⟩ : ∃ q, wr.alloc (.cells #[.int .i64 y.f, .int .i64 y.t] 31) = q := ⟨_, rfl⟩
      rw [hwx, hb9]
      have hx9 : wx.heap[b9]? = some (.cells #[.int .i64 y.f, .int .i64 y.t] 31 (0, 0)) := by rw [← hwx, ← hb9]; exact heap_alloc_new _ _
      have HBX : Aside0 (Below w1.heap.size w1 wx) := ⟨by rw [← hwx]; exact below_alloc HB.out _⟩
      have x0 : wx.cell? ⟨b9, 0, none⟩ = some (.int .i64 y.f) := cell_of_row _ _ _ _ _ _ hx9
      have x1 : wx.cell? ⟨b9, 1, none⟩ = some (.int .i64 y.t) := cell_of_row _ _ _ _ _ _ hx9
      clear hwx hb9 hx9 a0 a1
      go_wp2_with (fail)
      go_roundg gn
      case measure => exact Nat.lt_succ_self _
      case rel => exact ⟨k + 1, S + (y.t - y.f), by simp, rfl, ⟨by have := HK.out; omega⟩, ⟨by rw [HST.out, HS.out]⟩, HBX⟩
    · have q : ¬ ((k : Int) < (N : Int)) := by omega
      have hfin : SizeP w a (.returned (.int .i64 S)) wr := by
        refine ⟨R, HF.out, fun x => by rw [HH.out x, has_nil]; simp, ?_, HB1.out.trans (HB.out.mono HB1.out.size)⟩
        have h := HS.out
        rw [List.take_of_length_le (by rw [HN.out]; omega)] at h
        rw [h]
      have HFIN := Aside0.mk hfin
      clear hfin HK HS hsb
      go_wp2_with (fail)
      go_ret
      exact HFIN.out
set_option maxRecDepth 100000 in
set_option maxHeartbeats 4000000 in
theorem rsize_c (A : Option Addr) (n c : Nat) (a : List Rg) (w : World) (hA : ReadsRow RRg 2 w A n a) (hn : n ≤ 10000) : Calls Try.prog 12 #[.slice A n c] w fun e w' => SizeP w a e w' := by
  have HO := Aside0.mk (rof0_c A n c a none 0 0 [] w hA (no_rows w) (by omega))
  have HAL := Aside0.mk hA.1
  clear hA
  go_enter Try.func12, Try.ntmps12
  go_wp2_with (refine HO.out.mono ?_)
  rintro _ w1 ⟨v, R, rfl, hr, hf, hh, hl, hb⟩
  obtain ⟨A1, c1, rfl, hc1, hC1⟩ := Kd.R_reads hr
  obtain ⟨N, hN⟩ : ∃ q, R.length = q := ⟨_, rfl⟩
  rw [hN] at hC1 hl ⊢
  have HC1 := Aside0.mk hC1
  have HF := Aside0.mk hf
  have HH := Aside0.mk hh
  have HB1 := Aside0.mk hb
  have HN := Aside0.mk hN
  have hN8 : N ≤ 20000 := by rw [HAL.out] at hl; simp at hl; omega
  clear hr hf hh hl hb hC1 hN HO
  go_upto_block 0 with (fail)
  go_wp2_with (fail)
  go_loopg [5, 3] N (fun gk v5 v3 wr => ∃ (k : Nat) (S : Int), v5 = .int .i64 (k : Int) ∧ v3 = .int .i64 S ∧ Aside0 (k + gk = N) ∧ Aside0 (S = sumR (R.take k)) ∧ Aside0 (Below w1.heap.size w1 wr))
  case atStart => exact ⟨0, 0, rfl, rfl, ⟨by omega⟩, ⟨rfl⟩, ⟨Below.refl _ _⟩⟩
  case round =>
    obtain ⟨k, S, rfl, rfl, HK, HS, HB⟩ := hrel
    have hsb := sumR_bound (HF.out.take k)
    rw [← HS.out, List.length_take] at hsb
    by_cases hkn : k < N
    · obtain ⟨gn, rfl⟩ : ∃ gn, gk = gn + 1 := ⟨gk - 1, by have := HK.out; omega⟩
      obtain ⟨y, hy⟩ : ∃ y, R[k]? = some y := ⟨_, List.getElem?_eq_getElem (by rw [HN.out]; exact hkn)⟩
      have hye := HF.out.e y (List.mem_of_getElem? hy)
      unfold top at hye
      obtain ⟨ad, hA, _⟩ := HC1.out.2.2 (by omega)
      subst hA
      obtain ⟨a0, a1⟩ := rg_at (l := R) (rgs_below HC1.out HB.out) hy
      have HST := Aside0.mk (sumR_take hy)
      have hmin : min k R.length ≤ 20000 := by rw [HN.out]; omega
      have p0 : (0 : Int) ≤ (k : Int) := by omega
      have p1 : (k : Int) < (N : Int) := by omega
      have hw1 : IntKind.i64.wrap ((k : Int) + 1) = (k : Int) + 1 := IntWalk.i64_in _ (by omega)
      have hw2 : IntKind.i64.wrap (S + y.t) = S + y.t := IntWalk.i64_in _ (by omega)
      have hw3 : IntKind.i64.wrap (S + y.t - y.f) = S + y.t - y.f := IntWalk.i64_in _ (by omega)
      clear hy hsb
      go_upto_region 6 with (fail)
      go_quiet (fail)
      go_wp2_with (fail)
      go_roundg gn
      case measure => exact Nat.lt_succ_self _
      case rel => exact ⟨k + 1, S + y.t - y.f, by simp, rfl, ⟨by have := HK.out; omega⟩, ⟨by rw [HST.out, HS.out]; omega⟩, ⟨pw_below_drewN HB.out _⟩⟩
    · have q : ¬ ((k : Int) < (N : Int)) := by omega
      have hfin : SizeP w a (.returned (.int .i64 S)) wr := by
        refine ⟨R, HF.out, fun x => by rw [HH.out x, has_nil]; simp, ?_, HB1.out.trans (HB.out.mono HB1.out.size)⟩
        have h := HS.out
        rw [List.take_of_length_le (by rw [HN.out]; omega)] at h
        rw [h]
      have HFIN := Aside0.mk hfin
      clear hfin HK HS hsb
      go_wp2_with (fail)
      go_ret
      exact HFIN.out
end Go.Proofs.Ytcbddmmoioggaaa.Sp
