/- A tree that is known; no builder at all: BuildNil's walk. -/
import Derived.Test.YtfaibpdoalbkpaaSa
namespace Go.Proofs.Ytfaibpdoalbkpaa.Bu
open Go.RowKit Go.Proofs.YtfaibpdoalbkpaaW.PrintWords Go.Proofs.YtfaibpdoalbkpaaW.PrintLast Go.Proofs.YtfaibpdoalbkpaaW.PrintMore
attribute [local go_sem] max2_int min2_int max_two min_two max_three min_three max_four min_four
set_option linter.unusedVariables false
set_option linter.unusedSimpArgs false
theorem lit_row {α : Type} {w : World} {b : Nat} {t : TypeId} {cs : Array Value} {n : Nat} {enc : α → List Value} {xs : List α} (h : w.heap[b]? = some (.cells cs t (0, 0))) (hl : ∀ x, (enc x).length = n)
    (hc : ∀ (k : Nat) (x : α), xs[k]? = some x → ∀ (j : Nat) (u : Value), (enc x)[j]? = some u → cs[k * n + j]? = some u) (hm : xs.length ≤ 9223372036854775807) : ReadsRow (fun x cs => cs = enc x) n w (some ⟨b, 0, none⟩) xs.length xs :=
  ⟨rfl, hm, fun _ => ⟨_, rfl, fun k x hx => ⟨enc x, hl x, rfl, fun j u hu => by
    rw [add_plain, cell_of_row w b _ cs t (0, 0) h]
    exact hc k x hx j u hu⟩⟩⟩
def wE1 : List Ev := [⟨1, 10, 0, 0⟩, ⟨3, 11, 0, 2⟩]
def wE2 : List Ev := [⟨2, 0, 1, 0⟩]
def wM1 : Bl := ⟨[⟨1, 0, 0, 0⟩, ⟨10, 0, 0, 1⟩, ⟨11, 0, 2, 2⟩], [0, 1], 2⟩
def wM2 : Bl := ⟨[⟨1, 0, 0, 0⟩, ⟨10, 0, 3, 1⟩, ⟨11, 0, 2, 2⟩], [0], 3⟩
def wL : List Nd := [⟨1, 0, 5, 0⟩, ⟨10, 0, 3, 1⟩, ⟨11, 0, 2, 2⟩]
theorem we1 : putE (newB 1) 0 wE1 = 0 := by decide +kernel
theorem we2 : putE wM1 2 wE2 = 0 := by decide +kernel
theorem wm1 : putB 0 (newB 1) wE1 = wM1 := by kernel_rfl
theorem wm2 : putB 2 wM1 wE2 = wM2 := by kernel_rfl
theorem wl : doneL wM2 5 = wL := by kernel_rfl
theorem wf1 : WF (newB 1) 1 := ⟨by decide, by decide, by decide, by decide⟩
theorem wf2 : WF wM1 3 := ⟨by decide, by decide, by decide, by decide⟩
theorem srt2 : Srt wM2 := ⟨by decide, by decide⟩
def nCs : List Nd → List Value
  | [] => []
  | x :: r => (ndc x).toList ++ nCs r
def eCs : List Ev → List Value
  | [] => []
  | x :: r => (evc x).toList ++ eCs r
theorem evs_lit {w : World} {b : Nat} {t : TypeId} {l : List Ev} (h : w.heap[b]? = some (.cells (eCs l).toArray t (0, 0))) (hm : l.length ≤ 9223372036854775807) : ReadsRow REv 4 w (some ⟨b, 0, none⟩) l.length l := by
  refine lit_row (enc := fun e => (evc e).toList) h (fun _ => rfl) ?_ hm
  intro k x hx j u hu
  rw [List.getElem?_toArray]
  clear h hm
  induction l generalizing k with
  | nil => simp at hx
  | cons y r ih =>
    cases k with
    | zero =>
      simp at hx
      subst hx
      have hj : j < 4 := (List.getElem?_eq_some_iff.1 hu).1
      simp only [eCs]
      rw [List.getElem?_append_left (by simpa using hj)]
      simpa using hu
    | succ k =>
      have := ih k (by simpa using hx)
      simp only [eCs]
      rw [List.getElem?_append_right (by simp; omega)]
      simpa [show (k + 1) * 4 + j - 4 = k * 4 + j from by omega] using this
theorem nds_lit {w : World} {b : Nat} {t : TypeId} {l : List Nd} (h : w.heap[b]? = some (.cells (nCs l).toArray t (0, 0))) (hm : l.length ≤ 9223372036854775807) : kN.C w (some ⟨b, 0, none⟩) l.length l := by
  refine lit_row (n := 4) (enc := fun e => (ndc e).toList) h (fun _ => rfl) ?_ hm
  intro k x hx j u hu
  rw [List.getElem?_toArray]
  clear h hm
  induction l generalizing k with
  | nil => simp at hx
  | cons y r ih =>
    cases k with
    | zero =>
      simp at hx
      subst hx
      have hj : j < 4 := (List.getElem?_eq_some_iff.1 hu).1
      simp only [nCs]
      rw [List.getElem?_append_left (by simpa [ndc] using hj)]
      simpa using hu
    | succ k =>
      have := ih k (by simpa using hx)
      simp only [nCs]
      rw [List.getElem?_append_right (by simp [ndc]; omega)]
      simpa [ndc, show (k + 1) * 4 + j - 4 = k * 4 + j from by omega] using this

def WkP (w : World) (e : Ending) (w' : World) : Prop := e = .returned (.bool true) ∧ Below w.heap.size w w'
set_option maxRecDepth 100000 in
set_option maxHeartbeats 4000000 in
theorem wakes_c (w : World) : Calls Try.prog 9 #[] w fun e w' => WkP w e w' := by
  go_enter Try.func9, Try.ntmps9
  go_wp2_with (refine (new_c 1 _).mono ?_)
  rintro _ w1 ⟨b, ps, vN, vO, rfl, h1, b1⟩
  obtain ⟨w2, hw2⟩ : ∃ X, w1.alloc (.cells (eCs wE1).toArray 41) = X := ⟨_, rfl⟩
  have hb2 : Below w1.heap.size w1 w2 := by rw [← hw2]; exact below_alloc (Below.refl _ w1) _
  have r2 : w2.heap[w1.heap.size]? = some (.cells (eCs wE1).toArray 41 (0, 0)) := by rw [← hw2]; exact heap_alloc_new _ _
  have HP := Aside0.mk (put_c b ps (newB 1) vN vO (some ⟨w1.heap.size, 0, none⟩) 2 2 wE1 0 w2 _ (h1.bound.below hb2) (fun w' hf => evs_lit ((hf.block _ (blk_lt r2) (fun hh => by have := hh.2; omega)).trans r2) (by decide)) 1 wf1 (by decide))
  have B2 : Aside0 (Below w.heap.size w w2) := ⟨b1.trans (hb2.mono b1.size)⟩
  have hw2' : w1.alloc (.cells #[.int .u8 1, .int .u8 10, .int .i64 0, .int .i64 0, .int .u8 3, .int .u8 11, .int .i64 0, .int .i64 2] 41) = w2 := hw2
  have HSZ : Aside0 (w.heap.size ≤ w1.heap.size) := ⟨b1.size⟩
  clear h1 b1 hb2 r2 hw2
  go_wp2_with (refine HP.out.mono ?_)
  rintro _ w3 ⟨rfl, ⟨ps3, vN3, vO3, h3⟩, f3⟩
  rw [if_pos we1, wm1] at h3
  have B3 : Aside0 (Below w.heap.size w w3) := ⟨B2.out.trans (f3.below B2.out.size (fun j hj => hj.1))⟩
  have HM3 := h3.mono (fp' := fun j => w.heap.size ≤ j) (fun j hj => hj.elim (fun h => h.1) (fun h => Nat.le_trans B2.out.size h))
  obtain ⟨w4, hw4⟩ : ∃ X, w3.alloc (.cells (eCs wE2).toArray 41) = X := ⟨_, rfl⟩
  have hb4 : Below w3.heap.size w3 w4 := by rw [← hw4]; exact below_alloc (Below.refl _ w3) _
  have r4 : w4.heap[w3.heap.size]? = some (.cells (eCs wE2).toArray 41 (0, 0)) := by rw [← hw4]; exact heap_alloc_new _ _
  have HP2 := Aside0.mk (put_c b ps3 wM1 vN3 vO3 (some ⟨w3.heap.size, 0, none⟩) 1 1 wE2 2 w4 _ (HM3.bound.below hb4) (fun w' hf => evs_lit ((hf.block _ (blk_lt r4) (fun hh => by have := hh.2; omega)).trans r4) (by decide)) 3 wf2 (by decide))
  have B4 : Aside0 (Below w.heap.size w w4) := ⟨B3.out.trans (hb4.mono B3.out.size)⟩
  have hw4' : w3.alloc (.cells #[.int .u8 2, .int .u8 0, .int .i64 1, .int .i64 0] 41) = w4 := hw4
  have q1 := we1
  clear h3 f3 HM3 hb4 r4 hw4 HP hw2'
  rw [q1]
  go_wp2_with (refine HP2.out.mono ?_)
  rintro _ w5 ⟨rfl, ⟨ps5, vN5, vO5, h5⟩, f5⟩
  rw [if_pos we2, wm2] at h5
  have B5 : Aside0 (Below w.heap.size w w5) := ⟨B4.out.trans (f5.below B4.out.size (fun j hj => hj.1))⟩
  have HD := Aside0.mk (done_c b ps5 wM2 vN5 vO5 5 w5 _ h5 srt2 (by decide) (by decide))
  have H5 := Aside0.mk h5
  have q2 := we2
  clear h5 f5 HP2 hw4'
  rw [q2]
  go_wp2_with (refine HD.out.mono ?_)
  rintro _ w6 ⟨b6, (⟨hbad, _⟩ | ⟨_, v6, rfl, hr6⟩)⟩
  · exact absurd hbad (by decide)
  rw [wl] at hr6
  obtain ⟨A6, c6, rfl, _, hc6⟩ := Kd.R_reads hr6
  have hc6' : kN.C w6 A6 3 wL := hc6
  obtain ⟨w7, hw7⟩ : ∃ X, w6.alloc (.cells (nCs wL).toArray 38) = X := ⟨_, rfl⟩
  have hb7 : Below w6.heap.size w6 w7 := by rw [← hw7]; exact below_alloc (Below.refl _ w6) _
  have r7 : w7.heap[w6.heap.size]? = some (.cells (nCs wL).toArray 38 (0, 0)) := by rw [← hw7]; exact heap_alloc_new _ _
  have HSM := Aside0.mk (same_c A6 (some ⟨w6.heap.size, 0, none⟩) 3 c6 3 wL w7 (Kd.C_below hc6' hb7) (nds_lit r7 (by decide)))
  have H7 := Aside0.mk ((H5.out.below b6).below hb7)
  have B7 : Aside0 (Below w.heap.size w w7) := ⟨(B5.out.trans (b6.mono B5.out.size)).trans (hb7.mono (B5.out.trans (b6.mono B5.out.size)).size)⟩
  have hw7' : w6.alloc (.cells #[.int .u8 1, .int .i64 0, .int .i64 5, .int .i64 0, .int .u8 10, .int .i64 0, .int .i64 3, .int .i64 1, .int .u8 11, .int .i64 0, .int .i64 2, .int .i64 2] 38) = w7 := hw7
  have hl3 : wL.length = 3 := rfl
  rw [hl3]
  clear b6 hr6 hc6 hc6' hb7 r7 hw7 HD hl3
  go_wp2_with (refine HSM.out.mono ?_)
  rintro _ w8 ⟨rfl, b8⟩
  have H8 := Aside0.mk (H7.out.below b8)
  have B8 : Aside0 (Below w.heap.size w w8) := ⟨B7.out.trans (b8.mono B7.out.size)⟩
  have hO := open_c b ps5 wM2 vN5 vO5 w8 _ H8.out (by decide)
  have hF := far_c b ps5 wM2 vN5 vO5 w8 _ H8.out
  have ho1 : ((wM2.O.length : Int) - 1) = 0 := rfl
  have hf1 : wM2.far = 3 := rfl
  rw [ho1] at hO
  rw [hf1] at hF
  have HO := Aside0.mk hO
  have HF := Aside0.mk hF
  clear b8 HSM hO hF ho1 hf1 hw7'
  go_wp2_with (first
    | (refine HO.out.mono ?_; rintro _ w9 ⟨rfl, h9⟩; rw [h9]; clear h9 w9)
    | (refine HF.out.mono ?_; rintro _ w9 ⟨rfl, h9⟩; rw [h9]; clear h9 w9))
  go_ret
  exact ⟨rfl, B8.out⟩
end Go.Proofs.Ytfaibpdoalbkpaa.Bu
