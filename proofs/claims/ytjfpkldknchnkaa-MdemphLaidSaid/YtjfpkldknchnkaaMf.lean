/- may and fit walked. -/
import Derived.Test.YtjfpkldknchnkaaPm
import Derived.Test.YtjfpkldknchnkaaLk
namespace Go.Proofs.Ytjfpkldknchnkaa.Me
open Go.RowKit Go.Proofs.YtjfpkldknchnkaaW.PrintWords Go.Proofs.YtjfpkldknchnkaaW.PrintLast Go.Proofs.YtjfpkldknchnkaaW.PrintMore
attribute [local go_sem] max2_int min2_int max_two min_two max_three min_three max_four min_four
set_option linter.unusedVariables false
set_option linter.unusedSimpArgs false
theorem rn_at {w : World} {ad : Addr} {n : Nat} {l : List Rn} {k : Nat} {e : Rn} (h : ReadsRow RRn 5 w (some ad) n l) (ha : l[k]? = some e) :
    w.cell? (ad.add (k * 5)) = some (.int .i64 e.a) ∧ w.cell? ⟨(ad.add (k * 5)).block, (ad.add (k * 5)).off + 1, none⟩ = some (.int .i64 e.n) ∧ w.cell? ⟨(ad.add (k * 5)).block, (ad.add (k * 5)).off + 2, none⟩ = some (.int .u8 e.c) ∧ w.cell? ⟨(ad.add (k * 5)).block, (ad.add (k * 5)).off + 3, none⟩ = some (.bool e.o) ∧ w.cell? ⟨(ad.add (k * 5)).block, (ad.add (k * 5)).off + 4, none⟩ = some (.bool e.k) := by
  have hl := (List.getElem?_eq_some_iff.1 ha).1
  obtain ⟨ad', hA, hr⟩ := h.2.2 (by have := h.1; omega)
  injection hA with hA
  subst hA
  obtain ⟨c, hc5, hc, hcell⟩ := hr k e ha
  have hc' : c = (rnc e).toList := hc
  subst hc'
  have e' : ∀ j u, ((rnc e).toList)[j]? = some u → w.cell? ((ad.add (k * 5)).add j) = some u := fun j u h => by
    rw [Go.Deep.add_add]
    exact hcell j u h
  exact ⟨e' 0 _ rfl, e' 1 _ rfl, e' 2 _ rfl, e' 3 _ rfl, e' 4 _ rfl⟩
set_option maxRecDepth 100000 in
set_option maxHeartbeats 8000000 in
theorem may_c (A : Option Addr) (n c : Nat) (l : List Rn) (w : World) (hl : ReadsRow RRn 5 w A n l) (hn : n ≤ 100000000) : Calls Try.prog 25 #[.slice A n c] w fun e w' => BoolP w (mayB 0 l) e w' := by
  have HL := Aside0.mk hl
  clear hl
  go_enter Try.func25, Try.ntmps25
  go_upto_block 0 with (fail)
  go_wp2_with (fail)
  go_loopg [3, 8] n (fun gk v3 v8 wr => ∃ k : Nat, v3 = .int .i64 (posI l k) ∧ v8 = .int .i64 (k : Int) ∧ Aside0 (k + gk = n) ∧ Aside0 (mayB 0 l = mayB (posI l k) (l.drop k)) ∧ Aside0 (0 ≤ posI l k) ∧ Aside0 (Below w.heap.size w wr))
  case atStart => exact ⟨0, rfl, rfl, ⟨by omega⟩, ⟨rfl⟩, ⟨by simp [posI]⟩, ⟨Below.refl _ w⟩⟩
  case round =>
    obtain ⟨k, rfl, rfl, HK, HM, HP0, HB⟩ := hrel
    by_cases hkn : k < n
    · obtain ⟨gn, rfl⟩ : ∃ gn, gk = gn + 1 := ⟨gk - 1, by have := HK.out; omega⟩
      obtain ⟨x, hx⟩ : ∃ x, l[k]? = some x := ⟨_, List.getElem?_eq_getElem (by rw [HL.out.1]; exact hkn)⟩
      obtain ⟨ad, hA, _⟩ := HL.out.2.2 (by omega)
      subst hA
      obtain ⟨e0, e1, e2, e3, e4⟩ := rn_at (rows_below HL.out HB.out) hx
      have k0 : (0 : Int) ≤ (k : Int) := by omega
      have k1 : (k : Int) < (n : Int) := by omega
      have hwk : IntKind.i64.wrap ((k : Int) + 1) = (k : Int) + 1 := IntWalk.i64_in _ (by omega)
      have hst := mayB_step (p := posI l k) hx
      have hp1 : posI l (k + 1) = x.a + x.n := by simp [posI, hx]
      obtain ⟨P, hP⟩ : ∃ q, posI l k = q := ⟨_, rfl⟩
      have HM2 := Aside0.mk (HM.out.trans hst)
      rw [hP] at HM2
      have HP1 := Aside0.mk hp1
      rw [hP]
      rw [hP] at HP0
      clear hst hp1 HM hP hx
      obtain ⟨b9, hb9⟩ : ∃ q, wr.heap.size = q := ⟨_, rfl⟩
      obtain ⟨wx, hwx⟩ : ∃ q, wr.alloc (.cells zrun 23) = q := ⟨_, rfl⟩
      have hz9 : wx.heap[b9]? = some (.cells zrun 23 (0, 0)) := by rw [← hwx, ← hb9]; exact heap_alloc_new _ _
      have hbx : Below wr.heap.size wr wx := by rw [← hwx]; exact below_alloc (Below.refl _ wr) _
      have fz := fun j => blk_frozen hz9 j
      have z0 : wx.cell? ⟨b9, 0, none⟩ = some (.int .i64 0) := cell_of_row _ _ _ _ _ _ hz9
      have z1 : wx.cell? ⟨b9, 1, none⟩ = some (.int .i64 0) := cell_of_row _ _ _ _ _ _ hz9
      have z2 : wx.cell? ⟨b9, 2, none⟩ = some (.int .u8 0) := cell_of_row _ _ _ _ _ _ hz9
      have z3 : wx.cell? ⟨b9, 3, none⟩ = some (.bool false) := cell_of_row _ _ _ _ _ _ hz9
      have z4 : wx.cell? ⟨b9, 4, none⟩ = some (.bool false) := cell_of_row _ _ _ _ _ _ hz9
      have HZ := Aside0.mk hz9
      have HBX : Aside0 (Below w.heap.size w wx) := ⟨HB.out.trans (hbx.mono HB.out.size)⟩
      have HSZ : Aside0 (w.heap.size ≤ b9) := ⟨by rw [← hb9]; exact HB.out.size⟩
      clear hz9 hbx
      go_upto_region 5 with (fail)
      obtain ⟨W, hW⟩ : ∃ q, ((((wx.setCell ⟨b9, 0, none⟩ (.int .i64 x.a)).setCell ⟨b9, 1, none⟩ (.int .i64 x.n)).setCell ⟨b9, 2, none⟩ (.int .u8 x.c)).setCell ⟨b9, 3, none⟩ (.bool x.o)).setCell ⟨b9, 4, none⟩ (.bool x.k) = q := ⟨_, rfl⟩
      rw [hW]
      have hr9 : W.heap[b9]? = some (.cells (rnc x) 23 (0, 0)) := by rw [← hW]; exact five_row HZ.out _ _ _ _ _
      have HBW : Aside0 (Below w.heap.size w W) := ⟨by rw [← hW]; exact five_below HBX.out HSZ.out _ _ _ _ _⟩
      have q0 : W.cell? ⟨b9, 0, none⟩ = some (.int .i64 x.a) := cell_of_row _ _ _ _ _ _ hr9
      have q1 : W.cell? ⟨b9, 1, none⟩ = some (.int .i64 x.n) := cell_of_row _ _ _ _ _ _ hr9
      have q2 : W.cell? ⟨b9, 2, none⟩ = some (.int .u8 x.c) := cell_of_row _ _ _ _ _ _ hr9
      clear hW hwx hb9 fz z0 z1 z2 z3 z4 e0 e1 e2 e3 e4 hr9
      go_cut [43] from 9 to 43 (fun v43 wc => v43 = .bool (badB P x) ∧ Aside0 (W = wc) ∧ Aside0 (badB P x = false → x.n ≤ 1048576 - x.a ∧ 1 ≤ x.n ∧ P ≤ x.a ∧ x.a ≤ 1048576))
      case first =>
        have HG : Aside0 (badB P x = false → x.n ≤ 1048576 - x.a ∧ 1 ≤ x.n ∧ P ≤ x.a ∧ x.a ≤ 1048576) := ⟨fun h => by have := badB_no h; omega⟩
        by_cases c1 : x.n < 1
        · have HBD : Aside0 (badB P x = true) := ⟨by simp [badB, c1]⟩
          go_wp2_with (fail)
          go_meet
          case rel => exact ⟨by rw [HBD.out], ⟨rfl⟩, HG⟩
        have c1n : 1 ≤ x.n := by omega
        by_cases c2 : x.c = 42
        · have HC2 : Aside0 (x.c = 42 ∨ x.c = 95) := ⟨.inl c2⟩
          have q3 : (x.c != 42) = false := by rw [c2]; rfl
          clear c2
          by_cases c4 : x.a < P
          · have HBD : Aside0 (badB P x = true) := ⟨by simp [badB, c4]⟩
            go_wp2_with (fail)
            go_meet
            case rel => exact ⟨by rw [HBD.out], ⟨rfl⟩, HG⟩
          by_cases c5 : 1048576 < x.a
          · have HBD : Aside0 (badB P x = true) := ⟨by simp [badB, c5]⟩
            go_wp2_with (fail)
            go_meet
            case rel => exact ⟨by rw [HBD.out], ⟨rfl⟩, HG⟩
          have hw1 : IntKind.i64.wrap (1048576 - x.a) = 1048576 - x.a := IntWalk.i64_in _ (by have := HP0.out; omega)
          by_cases c6 : 1048576 - x.a < x.n
          · have HBD : Aside0 (badB P x = true) := ⟨by simp [badB, c6]⟩
            go_wp2_with (fail)
            go_meet
            case rel => exact ⟨by rw [HBD.out], ⟨rfl⟩, HG⟩
          · have HBD : Aside0 (badB P x = false) := ⟨by
              have h := HC2.out
              simp [badB]
              refine ⟨⟨⟨⟨by omega, fun h2 => ?_⟩, by omega⟩, by omega⟩, by omega⟩
              rcases h with h | h
              · exact absurd h h2
              · exact h⟩
            go_wp2_with (fail)
            go_meet
            case rel => exact ⟨by rw [HBD.out], ⟨rfl⟩, HG⟩
        · have q3 : (x.c != 42) = true := by simpa using c2
          have HC3 := Aside0.mk c2
          clear c2
          by_cases c3 : x.c = 95
          · have HC2 : Aside0 (x.c = 42 ∨ x.c = 95) := ⟨.inr c3⟩
            have q4 : (x.c != 95) = false := by rw [c3]; rfl
            clear c3
            by_cases c4 : x.a < P
            · have HBD : Aside0 (badB P x = true) := ⟨by simp [badB, c4]⟩
              go_wp2_with (fail)
              go_meet
              case rel => exact ⟨by rw [HBD.out], ⟨rfl⟩, HG⟩
            by_cases c5 : 1048576 < x.a
            · have HBD : Aside0 (badB P x = true) := ⟨by simp [badB, c5]⟩
              go_wp2_with (fail)
              go_meet
              case rel => exact ⟨by rw [HBD.out], ⟨rfl⟩, HG⟩
            have hw1 : IntKind.i64.wrap (1048576 - x.a) = 1048576 - x.a := IntWalk.i64_in _ (by have := HP0.out; omega)
            by_cases c6 : 1048576 - x.a < x.n
            · have HBD : Aside0 (badB P x = true) := ⟨by simp [badB, c6]⟩
              go_wp2_with (fail)
              go_meet
              case rel => exact ⟨by rw [HBD.out], ⟨rfl⟩, HG⟩
            · have HBD : Aside0 (badB P x = false) := ⟨by
                have h := HC2.out
                simp [badB]
                refine ⟨⟨⟨⟨by omega, fun h2 => ?_⟩, by omega⟩, by omega⟩, by omega⟩
                rcases h with h | h
                · exact absurd h h2
                · exact h⟩
              go_wp2_with (fail)
              go_meet
              case rel => exact ⟨by rw [HBD.out], ⟨rfl⟩, HG⟩
          · have HBD : Aside0 (badB P x = true) := ⟨by simp [badB, HC3.out, c3]⟩
            have q4 : (x.c != 95) = true := by simpa using c3
            clear c3
            go_wp2_with (fail)
            go_meet
            case rel => exact ⟨by rw [HBD.out], ⟨rfl⟩, HG⟩
      case rest =>
        obtain ⟨rfl, HWc, HG⟩ := hcut
        obtain rfl := HWc.out
        cases hb : badB P x
        case true =>
          have HM3 : Aside0 (mayB 0 l = false) := ⟨by rw [HM2.out, hb]; rfl⟩
          clear hb
          go_wp2_with (fail)
          go_ret
          exact ⟨by rw [HM3.out]; rfl, HBW.out⟩
        case false =>
          obtain ⟨g1, g2, g3, g4⟩ := HG.out hb
          have hw2 : IntKind.i64.wrap (x.a + x.n) = x.a + x.n := IntWalk.i64_in _ (by have := HP0.out; omega)
          have HM3 : Aside0 (mayB 0 l = mayB (posI l (k + 1)) (l.drop (k + 1))) := ⟨by rw [HM2.out, hb]; rfl⟩
          have g9 : 0 ≤ x.a + x.n := by have := HP0.out; omega
          clear hb g1 g2 g3 g4
          go_wp2_with (fail)
          go_roundg gn
          case measure => exact Nat.lt_succ_self _
          case rel => exact ⟨k + 1, by rw [HP1.out], by simp, ⟨by have := HK.out; omega⟩, HM3, ⟨by rw [HP1.out]; exact g9⟩, HBW⟩
    · have hkk : ¬ ((k : Int) < (n : Int)) := by omega
      have HM2 : Aside0 (mayB 0 l = true) := ⟨by rw [HM.out, List.drop_eq_nil_of_le (by rw [HL.out.1]; omega)]; rfl⟩
      go_wp2_with (fail)
      go_ret
      exact ⟨by rw [HM2.out]; rfl, HB.out⟩
end Go.Proofs.Ytjfpkldknchnkaa.Me
