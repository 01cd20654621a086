/- wakes: ranges that are known. SpanLooks walked. -/
import Derived.Test.YtcbddmmoioggaaaNa
namespace Go.Proofs.Ytcbddmmoioggaaa.Sp
open Go.RowKit Go.Shelf Go.Proofs.YtcbddmmoioggaaaW.PrintWords Go.Proofs.YtcbddmmoioggaaaW.PrintLast Go.Proofs.YtcbddmmoioggaaaW.PrintMore
attribute [local go_sem] max2_int min2_int max_two min_two max_three min_three max_four min_four
set_option linter.unusedVariables false
set_option linter.unusedSimpArgs false
theorem lit_row {w : World} {g n : Nat} {cs : Array Value} {L : List Rg} (hb : w.heap[g]? = some (.cells cs 31 (0, 0))) (hn : L.length = n) (h8 : n ≤ 100) (h : ∀ k a, L[k]? = some a → cs[k * 2]? = some (.int .i64 a.f) ∧ cs[k * 2 + 1]? = some (.int .i64 a.t)) : ReadsRow RRg 2 w (some ⟨g, 0, none⟩) n L := by
  refine ⟨hn, by omega, fun _ => ⟨_, rfl, fun k a ha => ⟨(rgc a).toList, rfl, rfl, fun j u hu => ?_⟩⟩⟩
  rw [add_plain]
  obtain ⟨h1, h2⟩ := h k a ha
  match j, hu with
  | 0, hu =>
    simp at hu
    subst hu
    rw [cell_of_row _ _ _ _ _ _ hb]
    exact h1
  | 1, hu =>
    simp at hu
    subst hu
    rw [cell_of_row _ _ _ _ _ _ hb]
    exact h2
def lit4 : List Rg := [⟨5, 7⟩, ⟨1, 3⟩, ⟨3, 4⟩, ⟨9, 9⟩]
def lit2 : List Rg := [⟨1, 4⟩, ⟨5, 7⟩]
theorem form2 : Form lit2 := ⟨fun r hr => by
  simp [lit2] at hr
  rcases hr with rfl | rfl <;> (unfold top; decide), by simp [lit2]⟩
theorem has4 (x : Int) : has lit4 x = has lit2 x := by
  rw [Bool.eq_iff_iff]
  simp [has, lit4, lit2, inR, clip, top]
  omega
theorem is2 {R : List Rg} (h : Form R) (hh : ∀ x, has R x = (has lit4 x || has [] x)) : R = lit2 :=
  Form.uniq h form2 (fun x => by rw [hh x, has_nil, has4]; simp)
set_option maxRecDepth 100000 in
set_option maxHeartbeats 4000000 in
theorem wakes_c (w : World) : Calls Try.prog 8 #[] w fun e w' => BoolP w true e w' := by
  obtain ⟨b0, hb0⟩ : ∃ q, w.heap.size = q := ⟨_, rfl⟩
  obtain ⟨w0, hw0⟩ : ∃ q, w.alloc (.cells #[.int .i64 5, .int .i64 7, .int .i64 1, .int .i64 3, .int .i64 3, .int .i64 4, .int .i64 9, .int .i64 9] 31) = q := ⟨_, rfl⟩
  have hr0 : w0.heap[b0]? = some (.cells #[.int .i64 5, .int .i64 7, .int .i64 1, .int .i64 3, .int .i64 3, .int .i64 4, .int .i64 9, .int .i64 9] 31 (0, 0)) := by rw [← hw0, ← hb0]; exact heap_alloc_new _ _
  have hbl : Below w.heap.size w w0 := by rw [← hw0]; exact below_alloc (Below.refl _ w) _
  have hl4 : ReadsRow RRg 2 w0 (some ⟨b0, 0, none⟩) 4 lit4 := lit_row hr0 rfl (by decide) (fun k a ha => by
    match k, ha with
    | 0, ha => simp [lit4] at ha; subst ha; exact ⟨rfl, rfl⟩
    | 1, ha => simp [lit4] at ha; subst ha; exact ⟨rfl, rfl⟩
    | 2, ha => simp [lit4] at ha; subst ha; exact ⟨rfl, rfl⟩
    | 3, ha => simp [lit4] at ha; subst ha; exact ⟨rfl, rfl⟩)
  have HNO := Aside0.mk (norm_c (some ⟨b0, 0, none⟩) 4 4 lit4 w0 hl4 (by decide))
  have HB0 := Aside0.mk hbl
  clear hr0 hbl hl4
  go_enter Try.func8, Try.ntmps8
  go_wp2_with (refine HNO.out.mono ?_)
  rintro _ w1 ⟨v, R, rfl, hr, hf, hh, hl, hb⟩
  obtain rfl := is2 hf hh
  obtain ⟨A1, c1, rfl, hc1, hC1⟩ := Kd.R_reads hr
  have HC1 : Aside0 (ReadsRow RRg 2 w1 A1 2 lit2) := ⟨hC1⟩
  have HB1 : Aside0 (Below w.heap.size w w1) := ⟨HB0.out.trans (hb.mono HB0.out.size)⟩
  have h2 : lit2.length = 2 := rfl
  rw [h2]
  clear hr hf hh hl hb hC1 h2 HNO
  obtain ⟨b2, hb2⟩ : ∃ q, w1.heap.size = q := ⟨_, rfl⟩
  obtain ⟨w2, hw2⟩ : ∃ q, w1.alloc (.cells #[.int .i64 1, .int .i64 4, .int .i64 5, .int .i64 7] 31) = q := ⟨_, rfl⟩
  have hr2 : w2.heap[b2]? = some (.cells #[.int .i64 1, .int .i64 4, .int .i64 5, .int .i64 7] 31 (0, 0)) := by rw [← hw2, ← hb2]; exact heap_alloc_new _ _
  have hbl : Below w1.heap.size w1 w2 := by rw [← hw2]; exact below_alloc (Below.refl _ w1) _
  have hl2 : ReadsRow RRg 2 w2 (some ⟨b2, 0, none⟩) 2 lit2 := lit_row hr2 rfl (by decide) (fun k a ha => by
    match k, ha with
    | 0, ha => simp [lit2] at ha; subst ha; exact ⟨rfl, rfl⟩
    | 1, ha => simp [lit2] at ha; subst ha; exact ⟨rfl, rfl⟩)
  have HSA := Aside0.mk (same_c A1 (some ⟨b2, 0, none⟩) 2 c1 2 lit2 w2 (rgs_below HC1.out hbl) hl2)
  have HB2 : Aside0 (Below w.heap.size w w2) := ⟨HB1.out.trans (hbl.mono HB1.out.size)⟩
  have HC2 := Aside0.mk (rgs_below HC1.out hbl)
  clear hr2 hbl hl2
  go_wp2_with (refine HSA.out.mono ?_)
  rintro _ w3 ⟨rfl, b3⟩
  have HB3 : Aside0 (Below w.heap.size w w3) := ⟨HB2.out.trans (b3.mono HB2.out.size)⟩
  have HC3 := Aside0.mk (rgs_below HC2.out b3)
  have HSZ := Aside0.mk (size_c A1 2 c1 lit2 w3 HC3.out (by decide))
  clear b3 HSA
  go_wp2_with (refine HSZ.out.mono ?_)
  rintro _ w4 ⟨R, hf, hh, rfl, b4⟩
  obtain rfl := Form.uniq hf form2 hh
  have hs5 : sumR lit2 = 5 := rfl
  rw [hs5]
  have HB4 : Aside0 (Below w.heap.size w w4) := ⟨HB3.out.trans (b4.mono HB3.out.size)⟩
  have HC4 := Aside0.mk (rgs_below HC3.out b4)
  have HH3 := Aside0.mk (has_c A1 2 c1 lit2 3 w4 HC4.out)
  have h3 : has lit2 3 = true := by decide
  rw [h3] at HH3
  clear b4 hf hh hs5 HSZ h3
  go_wp2_with (refine HH3.out.mono ?_)
  rintro _ w5 ⟨rfl, b5⟩
  have HB5 : Aside0 (Below w.heap.size w w5) := ⟨HB4.out.trans (b5.mono HB4.out.size)⟩
  have HC5 := Aside0.mk (rgs_below HC4.out b5)
  have HH4 := Aside0.mk (has_c A1 2 c1 lit2 4 w5 HC5.out)
  have h4 : has lit2 4 = false := by decide
  rw [h4] at HH4
  clear b5 HH3 h4
  go_wp2_with (refine HH4.out.mono ?_)
  rintro _ w6 ⟨rfl, b6⟩
  have HB6 : Aside0 (Below w.heap.size w w6) := ⟨HB5.out.trans (b6.mono HB5.out.size)⟩
  clear b6 HH4
  go_wp2_with (fail)
  go_ret
  exact ⟨rfl, HB6.out⟩
set_option maxRecDepth 100000 in
set_option maxHeartbeats 4000000 in
theorem looks_c (A : Option Addr) (n c : Nat) (l : List Rg) (at_ : Int) (w : World) (hR : ReadsRow RRg 2 w A n l) : Calls Try.prog 3 #[.slice A n c, .int .i64 at_] w fun e w' => BoolP w true e w' := by
  have HR := Aside0.mk hR
  clear hR
  by_cases h200 : (200 : Int) < (n : Int)
  · go_enter Try.func3, Try.ntmps3
    go_wp2_with (refine (wakes_c _).mono ?_; rintro _ w1 ⟨rfl, hb⟩; have HB := Aside0.mk hb; clear hb)
    go_ret
    exact ⟨rfl, HB.out⟩
  have hn : n ≤ 200 := by omega
  have HH := Aside0.mk (has_c A n c l at_ w HR.out)
  obtain ⟨b, hb⟩ : ∃ q, has l at_ = q := ⟨_, rfl⟩
  have HBB := Aside0.mk hb
  rw [hb] at HH
  clear hb
  go_enter Try.func3, Try.ntmps3
  go_wp2_with (refine HH.out.mono ?_)
  rintro _ w1 ⟨rfl, b1⟩
  have HB1 := Aside0.mk b1
  have hrh := rhas_c A n c l at_ w1 (rgs_below HR.out b1)
  rw [HBB.out] at hrh
  have HRH := Aside0.mk hrh
  have HSZ := Aside0.mk (size_c A n c l w1 (rgs_below HR.out b1) (by omega))
  clear b1 hrh HH
  have bb : (b == b) = true := beq_self_eq_true b
  go_wp2_with (first
    | (refine HRH.out.mono ?_; rintro _ w9 ⟨rfl, h9⟩; rw [h9]; clear h9 w9)
    | (refine HSZ.out.mono ?_))
  rintro _ w2 ⟨R, hf, hh, rfl, b2⟩
  have HB2 : Aside0 (Below w.heap.size w w2) := ⟨HB1.out.trans (b2.mono HB1.out.size)⟩
  have HRS := Aside0.mk (rsize_c A n c l w2 (rgs_below HR.out HB2.out) (by omega))
  have HF := Aside0.mk hf
  have HHH := Aside0.mk hh
  obtain ⟨S, hS⟩ : ∃ q, sumR R = q := ⟨_, rfl⟩
  have HS := Aside0.mk hS
  rw [hS]
  clear b2 hf hh hS HSZ HRH
  go_wp2_with (refine HRS.out.mono ?_)
  rintro _ w3 ⟨R', hf, hh, rfl, b3⟩
  have hRR : R' = R := Form.uniq hf HF.out (fun x => by rw [hh x, HHH.out x])
  rw [hRR, HS.out]
  have HB3 : Aside0 (Below w.heap.size w w3) := ⟨HB2.out.trans (b3.mono HB2.out.size)⟩
  clear b3 hf hh hRR HRS
  go_wp2_with (refine (wakes_c _).mono ?_; rintro _ w4 ⟨rfl, h4⟩; have HB4 : Aside0 (Below w.heap.size w w4) := ⟨HB3.out.trans (h4.mono HB3.out.size)⟩; clear h4)
  go_ret
  exact ⟨rfl, HB4.out⟩
end Go.Proofs.Ytcbddmmoioggaaa.Sp
