/- Has, the document's and the program's; two equal lists. -/
import Derived.Test.YtcbddmmoioggaaaSt
namespace Go.Proofs.Ytcbddmmoioggaaa.Sp
open Go.RowKit Go.Proofs.YtcbddmmoioggaaaW.PrintWords Go.Proofs.YtcbddmmoioggaaaW.PrintLast Go.Proofs.YtcbddmmoioggaaaW.PrintMore
attribute [local go_sem] max2_int min2_int max_two min_two max_three min_three max_four min_four
set_option linter.unusedVariables false
set_option linter.unusedSimpArgs false
theorem has_take {l : List Rg} {k : Nat} {x : Rg} {at_ : Int} (hx : l[k]? = some x) (h : has (l.take k) at_ = false) (hn : inR x at_ = false) : has (l.take (k + 1)) at_ = false := by
  rw [take_snoc hx, has_append, h, has_cons, hn]
  rfl
theorem has_hit {l : List Rg} {k : Nat} {x : Rg} {at_ : Int} (hx : l[k]? = some x) (hn : inR x at_ = true) : has l at_ = true := by
  unfold has
  rw [List.any_eq_true]
  exact ⟨x, List.mem_of_getElem? hx, hn⟩
set_option maxRecDepth 100000 in
set_option maxHeartbeats 4000000 in
theorem rhas_c (A : Option Addr) (n c : Nat) (l : List Rg) (at_ : Int) (w : World) (hR : ReadsRow RRg 2 w A n l) : Calls Try.prog 10 #[.slice A n c, .int .i64 at_] w fun e w' => e = .returned (.bool (has l at_)) ∧ w' = w := by
  have HR := Aside0.mk hR
  have hln := hR.1
  have HLN := Aside0.mk hln
  have hn8 := hR.2.1
  clear hR hln
  go_enter Try.func10, Try.ntmps10
  go_upto_block 0 with (fail)
  go_wp2_with (fail)
  go_loopg [5] n (fun gk v5 wr => ∃ (k : Nat), v5 = .int .i64 (k : Int) ∧ Aside0 (k + gk = n) ∧ Aside0 (wr = w) ∧ Aside0 (has (l.take k) at_ = false))
  case atStart => exact ⟨0, rfl, ⟨by omega⟩, ⟨rfl⟩, ⟨rfl⟩⟩
  case round =>
    obtain ⟨k, rfl, HK, HW, HH⟩ := hrel
    obtain rfl := HW.out
    by_cases hkn : k < n
    · obtain ⟨gn, rfl⟩ : ∃ gn, gk = gn + 1 := ⟨gk - 1, by have := HK.out; omega⟩
      obtain ⟨x, hx⟩ : ∃ x, l[k]? = some x := ⟨_, List.getElem?_eq_getElem (by rw [HLN.out]; exact hkn)⟩
      obtain ⟨ad, hA, _⟩ := HR.out.2.2 (by omega)
      subst hA
      obtain ⟨e0, e1⟩ := rg_at HR.out hx
      have HC1 := Aside0.mk (rclip_c x.f wr)
      have HC2 := Aside0.mk (rclip_c x.t wr)
      have HX := Aside0.mk hx
      have p0 : (0 : Int) ≤ (k : Int) := by omega
      have p1 : (k : Int) < (n : Int) := by omega
      have hw1 : IntKind.i64.wrap ((k : Int) + 1) = (k : Int) + 1 := IntWalk.i64_in _ (by omega)
      have hin : inR x at_ = (decide (clip x.f ≤ at_) && decide (at_ < clip x.t)) := rfl
      have HIN := Aside0.mk hin
      obtain ⟨c1, hc1⟩ : ∃ q, clip x.f = q := ⟨_, rfl⟩
      obtain ⟨c2, hc2⟩ : ∃ q, clip x.t = q := ⟨_, rfl⟩
      rw [hc1] at HC1 HIN
      rw [hc2] at HC2 HIN
      clear hx hin hc1 hc2
      by_cases h1 : c1 ≤ at_
      · by_cases h2 : at_ < c2
        · have ht : inR x at_ = true := by rw [HIN.out]; simp [h1, h2]
          have HF := Aside0.mk (has_hit HX.out ht)
          clear ht
          go_wp2_with (first
            | (refine HC1.out.mono ?_; rintro _ w9 ⟨rfl, h9⟩; rw [h9]; clear h9 w9)
            | (refine HC2.out.mono ?_; rintro _ w9 ⟨rfl, h9⟩; rw [h9]; clear h9 w9))
          go_ret
          exact ⟨by rw [HF.out]; rfl, rfl⟩
        · have ht : inR x at_ = false := by rw [HIN.out]; simp [h2]
          have HF := Aside0.mk (has_take HX.out HH.out ht)
          clear ht
          go_wp2_with (first
            | (refine HC1.out.mono ?_; rintro _ w9 ⟨rfl, h9⟩; rw [h9]; clear h9 w9)
            | (refine HC2.out.mono ?_; rintro _ w9 ⟨rfl, h9⟩; rw [h9]; clear h9 w9))
          go_roundg gn
          case measure => exact Nat.lt_succ_self _
          case rel => exact ⟨k + 1, by simp, ⟨by have := HK.out; omega⟩, ⟨rfl⟩, HF⟩
      · have ht : inR x at_ = false := by rw [HIN.out]; simp [h1]
        have HF := Aside0.mk (has_take HX.out HH.out ht)
        clear ht
        go_wp2_with (first
          | (refine HC1.out.mono ?_; rintro _ w9 ⟨rfl, h9⟩; rw [h9]; clear h9 w9)
          | (refine HC2.out.mono ?_; rintro _ w9 ⟨rfl, h9⟩; rw [h9]; clear h9 w9))
        go_roundg gn
        case measure => exact Nat.lt_succ_self _
        case rel => exact ⟨k + 1, by simp, ⟨by have := HK.out; omega⟩, ⟨rfl⟩, HF⟩
    · have q : ¬ ((k : Int) < (n : Int)) := by omega
      have hf : has l at_ = false := by
        have h := HH.out
        rw [List.take_of_length_le (by rw [HLN.out]; omega)] at h
        exact h
      have HF := Aside0.mk hf
      clear hf HK HH
      go_wp2_with (fail)
      go_ret
      exact ⟨by rw [HF.out]; rfl, rfl⟩
end Go.Proofs.Ytcbddmmoioggaaa.Sp
