/- Has of the program; two equal lists; a list of one's own. -/
import Derived.Test.YtcbddmmoioggaaaHa
namespace Go.Proofs.Ytcbddmmoioggaaa.Sp
open Go.RowKit Go.Proofs.YtcbddmmoioggaaaW.PrintWords Go.Proofs.YtcbddmmoioggaaaW.PrintLast Go.Proofs.YtcbddmmoioggaaaW.PrintMore
attribute [local go_sem] max2_int min2_int max_two min_two max_three min_three max_four min_four
set_option linter.unusedVariables false
set_option linter.unusedSimpArgs false
def BoolP (w : World) (b : Bool) (e : Ending) (w' : World) : Prop := e = .returned (.bool b) ∧ Below w.heap.size w w'
set_option maxRecDepth 100000 in
set_option maxHeartbeats 4000000 in
theorem has1_c (x : Rg) (p : Nat) (at_ : Int) (w : World) (hp : w.cell? ⟨p, 0, none⟩ = some (.int .i64 at_)) : Calls Try.prog 26 #[.agg (rgc x), pv p] w fun e w' => BoolP w (inR x at_) e w' := by
  obtain ⟨wx, hwx⟩ : ∃ q, w.alloc (.cells (rgc x) 31) = q := ⟨_, rfl⟩
  obtain ⟨b, hb⟩ : ∃ q, w.heap.size = q := ⟨_, rfl⟩
  have hx : wx.heap[b]? = some (.cells (rgc x) 31 (0, 0)) := by rw [← hwx, ← hb]; exact heap_alloc_new _ _
  have hbx : Below w.heap.size w wx := by rw [← hwx]; exact below_alloc (Below.refl _ w) _
  have e0 : wx.cell? ⟨b, 0, none⟩ = some (.int .i64 x.f) := cell_of_row _ _ _ _ _ _ hx
  have e1 : wx.cell? ⟨b, 1, none⟩ = some (.int .i64 x.t) := cell_of_row _ _ _ _ _ _ hx
  have ep := pw_cell_below hbx hp
  have HBX := Aside0.mk hbx
  have hin : inR x at_ = (decide (clip x.f ≤ at_) && decide (at_ < clip x.t)) := rfl
  have HIN := Aside0.mk hin
  have HC1 := Aside0.mk (fun W => clip_c x.f W)
  have HC2 := Aside0.mk (fun W => clip_c x.t W)
  obtain ⟨c1, hc1⟩ : ∃ q, clip x.f = q := ⟨_, rfl⟩
  obtain ⟨c2, hc2⟩ : ∃ q, clip x.t = q := ⟨_, rfl⟩
  rw [hc1] at HC1 HIN
  rw [hc2] at HC2 HIN
  clear hx hbx hp hin hc1 hc2
  go_enter Try.func26, Try.ntmps26
  go_upto_region 1 with (fail)
  by_cases h1 : c1 ≤ at_
  · by_cases h2 : at_ < c2
    · have ht : inR x at_ = true := by rw [HIN.out]; simp [h1, h2]
      have HT := Aside0.mk ht
      clear ht
      go_quiet (first | (go_at_call 27; refine Calls.quiet_of_same (HC1.out _)) | (go_at_call 27; refine Calls.quiet_of_same (HC2.out _)))
      go_wp2_with (fail)
      go_ret
      exact ⟨by rw [HT.out]; rfl, pw_below_drewN HBX.out _⟩
    · have ht : inR x at_ = false := by rw [HIN.out]; simp [h2]
      have HT := Aside0.mk ht
      clear ht
      go_quiet (first | (go_at_call 27; refine Calls.quiet_of_same (HC1.out _)) | (go_at_call 27; refine Calls.quiet_of_same (HC2.out _)))
      go_wp2_with (fail)
      go_ret
      exact ⟨by rw [HT.out]; rfl, pw_below_drewN HBX.out _⟩
  · have ht : inR x at_ = false := by rw [HIN.out]; simp [h1]
    have HT := Aside0.mk ht
    clear ht
    go_quiet (first | (go_at_call 27; refine Calls.quiet_of_same (HC1.out _)) | (go_at_call 27; refine Calls.quiet_of_same (HC2.out _)))
    go_wp2_with (fail)
    go_ret
    exact ⟨by rw [HT.out]; rfl, pw_below_drewN HBX.out _⟩
def IdxP (w : World) (b : Bool) (e : Ending) (w' : World) : Prop := ∃ r : Int, e = .returned (.int .i64 r) ∧ decide (0 ≤ r) = b ∧ Below w.heap.size w w'
set_option maxRecDepth 100000 in
set_option maxHeartbeats 4000000 in
theorem idx_c (A : Option Addr) (n c : Nat) (l : List Rg) (at_ : Int) (p : Nat) (w : World) (hR : ReadsRow RRg 2 w A n l) (hp : w.cell? ⟨p, 0, none⟩ = some (.int .i64 at_)) : Calls Try.prog 37 #[.slice A n c, .func (.func 26) #[] #[pv p]] w fun e w' => IdxP w (has l at_) e w' := by
  have HR := Aside0.mk hR
  have HP := Aside0.mk hp
  have hln := hR.1
  have HLN := Aside0.mk hln
  have hn8 := hR.2.1
  clear hR hln hp
  go_enter Try.func37, Try.ntmps37
  go_upto_block 0 with (fail)
  go_wp2_with (fail)
  go_loopg [8] n (fun gk v8 wr => ∃ (k : Nat), v8 = .int .i64 (k : Int) ∧ Aside0 (k + gk = n) ∧ Aside0 (Below w.heap.size w wr) ∧ Aside0 (has (l.take k) at_ = false))
  case atStart => exact ⟨0, rfl, ⟨by omega⟩, ⟨Below.refl _ _⟩, ⟨rfl⟩⟩
  case round =>
    obtain ⟨k, rfl, HK, HB, HH⟩ := hrel
    by_cases hkn : k < n
    · obtain ⟨gn, rfl⟩ : ∃ gn, gk = gn + 1 := ⟨gk - 1, by have := HK.out; omega⟩
      obtain ⟨x, hx⟩ : ∃ x, l[k]? = some x := ⟨_, List.getElem?_eq_getElem (by rw [HLN.out]; exact hkn)⟩
      obtain ⟨ad, hA, _⟩ := HR.out.2.2 (by omega)
      subst hA
      obtain ⟨e0, e1⟩ := rg_at (rgs_below HR.out HB.out) hx
      have HC := Aside0.mk (has1_c x p at_ wr (pw_cell_below HB.out HP.out))
      have HX := Aside0.mk hx
      have p0 : (0 : Int) ≤ (k : Int) := by omega
      have p1 : (k : Int) < (n : Int) := by omega
      have hw1 : IntKind.i64.wrap ((k : Int) + 1) = (k : Int) + 1 := IntWalk.i64_in _ (by omega)
      obtain ⟨b, hb⟩ : ∃ q, inR x at_ = q := ⟨_, rfl⟩
      have HBB := Aside0.mk hb
      rw [hb] at HC
      clear hx hb
      cases b
      · go_wp2_with (go_at_call 26; refine HC.out.mono ?_; rintro _ w9 ⟨rfl, h9⟩; have HB9 : Aside0 (Below w.heap.size w w9) := ⟨HB.out.trans (h9.mono HB.out.size)⟩; clear h9)
        go_roundg gn
        case measure => exact Nat.lt_succ_self _
        case rel => exact ⟨k + 1, by simp, ⟨by have := HK.out; omega⟩, HB9, ⟨has_take HX.out HH.out HBB.out⟩⟩
      · go_wp2_with (go_at_call 26; refine HC.out.mono ?_; rintro _ w9 ⟨rfl, h9⟩; have HB9 : Aside0 (Below w.heap.size w w9) := ⟨HB.out.trans (h9.mono HB.out.size)⟩; clear h9)
        go_ret
        exact ⟨(k : Int), rfl, by rw [has_hit HX.out HBB.out]; simp, HB9.out⟩
    · have q : ¬ ((k : Int) < (n : Int)) := by omega
      have hf : has l at_ = false := by
        have h := HH.out
        rw [List.take_of_length_le (by rw [HLN.out]; omega)] at h
        exact h
      have HF := Aside0.mk hf
      clear hf HK HH
      go_wp2_with (fail)
      go_ret
      exact ⟨-1, rfl, by rw [HF.out]; rfl, HB.out⟩
set_option maxRecDepth 100000 in
set_option maxHeartbeats 4000000 in
theorem cont_c (A : Option Addr) (n c : Nat) (l : List Rg) (at_ : Int) (p : Nat) (w : World) (hR : ReadsRow RRg 2 w A n l) (hp : w.cell? ⟨p, 0, none⟩ = some (.int .i64 at_)) : Calls Try.prog 25 #[.slice A n c, .func (.func 26) #[] #[pv p]] w fun e w' => BoolP w (has l at_) e w' := by
  have HI := Aside0.mk (idx_c A n c l at_ p w hR hp)
  obtain ⟨b, hb⟩ : ∃ q, has l at_ = q := ⟨_, rfl⟩
  rw [hb] at HI ⊢
  clear hR hp hb
  go_enter Try.func25, Try.ntmps25
  go_wp2_with (refine HI.out.mono ?_)
  rintro _ w9 ⟨r, rfl, hr, h9⟩
  have HB := Aside0.mk h9
  have HRR := Aside0.mk hr
  clear h9 hr
  go_wp2_with (fail)
  go_ret
  exact ⟨by rw [← HRR.out]; rfl, HB.out⟩
set_option maxRecDepth 100000 in
set_option maxHeartbeats 4000000 in
theorem has_c (A : Option Addr) (n c : Nat) (l : List Rg) (at_ : Int) (w : World) (hR : ReadsRow RRg 2 w A n l) : Calls Try.prog 9 #[.slice A n c, .int .i64 at_] w fun e w' => BoolP w (has l at_) e w' := by
  obtain ⟨wx, hwx⟩ : ∃ q, w.alloc (.cells #[.int .i64 at_] 3) = q := ⟨_, rfl⟩
  have hx : wx.heap[w.heap.size]? = some (.cells #[.int .i64 at_] 3 (0, 0)) := by rw [← hwx]; exact heap_alloc_new _ _
  have hbx : Below w.heap.size w wx := by rw [← hwx]; exact below_alloc (Below.refl _ w) _
  have HI := Aside0.mk (cont_c A n c l at_ w.heap.size wx (rgs_below hR hbx) (cell_of_row _ _ _ _ _ _ hx))
  have HBX := Aside0.mk hbx
  clear hR hx hbx
  go_enter Try.func9, Try.ntmps9
  go_wp2_with (refine HI.out.mono ?_; rintro _ w9 ⟨rfl, h9⟩; have HB := Aside0.mk (HBX.out.trans (h9.mono HBX.out.size)); clear h9)
  go_ret
  exact ⟨rfl, HB.out⟩
end Go.Proofs.Ytcbddmmoioggaaa.Sp
