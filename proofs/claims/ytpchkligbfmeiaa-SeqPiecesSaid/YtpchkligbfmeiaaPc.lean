/- SeqPieces walked. -/
import Derived.Test.YtpchkligbfmeiaaPb
import Derived.Sort.LoopGhostIn
import Derived.Sort.CutIn
namespace Go.Proofs.Ytpchkligbfmeiaa.Se
open Go.RowKit Go.Shelf Go.Proofs.YtpchkligbfmeiaaW.PrintWords Go.Proofs.YtpchkligbfmeiaaW.PrintLast Go.Proofs.YtpchkligbfmeiaaW.PrintMore
attribute [local go_sem] max2_int min2_int max_two min_two max_three min_three max_four min_four
attribute [local go_sem] Oper.semAt_some
set_option linter.unusedVariables false
set_option linter.unusedSimpArgs false
def AtB (l : Items) (i : Int) (w : World) (e : Ending) (w' : World) : Prop := AtPost l i e ∧ Below w.heap.size w w'
theorem at_b (p : Nat) (l : Items) (i : Int) (w : World) (B : Nat) (h : SAt w B p l) : Calls Try.prog 14 #[.pointer (some ⟨p, 0, none⟩), .int .i64 i] w fun e w' => AtB l i w e w' := at_c p l i w B h
theorem FitL.fit2 {T : Tr} {L : Items} (h : FitL L) (e : toL T = L) : cntT T ≤ 8388608 := by
  have := h.n
  have := cntT_toL T
  rw [e] at this
  omega

set_option maxRecDepth 100000 in
set_option maxHeartbeats 40000000 in
theorem pieces_in (n : Nat) (hn : 8 ≤ n) (A : Option Addr) (N c : Nat) (l : List ActM) (w : World) (hR : ReadsRow (RAct w) 5 w A N l) :
    CallsIn Fence.wide n Try.prog 4 #[.slice A N c] w fun e W' => e = .returned (.bool true) ∧ Below w.heap.size w W' := by
  have h1 : 1 ≤ n := by omega
  have hq := eqFn
  have hln := hR.1
  have hn8 := hR.2.1
  have HR := Aside0.mk hR
  have HLN := Aside0.mk hln
  clear hR hln
  refine callsIn_of_wp_marks Try.func4 rfl trivial ?_ rfl
  simp only [Try.ntmps4, List.size_toArray, List.length_cons, List.length_nil, Nat.reduceAdd, Nat.reduceSub, Array.replicate_succ, Array.replicate_zero, List.push_toArray, List.append_toArray, List.nil_append, List.cons_append]
  obtain ⟨w2, hw2⟩ : ∃ w2, w.alloc (.cells #[.bool false] 4) = w2 := ⟨_, rfl⟩
  have hb2 : Below w.heap.size w w2 := by rw [← hw2]; exact below_alloc (Below.refl _ w) _
  have hs2 : w2.heap.size = w.heap.size + 1 := by rw [← hw2, size_al]
  have r2 : w2.heap[w.heap.size]? = some (.cells #[.bool false] 4 (0, 0)) := by
    rw [← hw2]
    exact heap_alloc_new _ _
  have HR2 := Aside0.mk (reads_below HR.out hb2)
  have HB2 := Aside0.mk hb2
  have R2 := Aside0.mk r2
  clear hb2 r2
  gi_wp2
  gi_loopg [3, 4] N (fun gk v3 v4 wr => ∃ (k : Nat) (T : Int), v3 = .int .i64 T ∧ v4 = .int .i64 (k : Int) ∧ wr = w2 ∧ Aside0 (k + gk = N) ∧ Aside0 (k ≤ 81) ∧ Aside0 (T = (totm (l.take k) : Int)) ∧ Aside0 (0 ≤ T ∧ T ≤ 301 * (k : Int)))
  case atStart => exact ⟨0, 0, rfl, rfl, rfl, ⟨by omega⟩, ⟨by omega⟩, ⟨rfl⟩, ⟨by omega⟩⟩
  case round =>
    obtain ⟨k, T, rfl, rfl, rfl, HK, HK81, HT, HTB⟩ := hrel
    by_cases hkn : k < N ∧ k < 81
    · obtain ⟨hkn, hk81⟩ := hkn
      obtain ⟨gn, rfl⟩ : ∃ gn, gk = gn + 1 := ⟨gk - 1, by have := HK.out; omega⟩
      obtain ⟨x, hx⟩ : ∃ x, l[k]? = some x := ⟨_, List.getElem?_eq_getElem (by rw [HLN.out]; exact hkn)⟩
      obtain ⟨ad, hA, _⟩ := HR2.out.2.2 (by omega)
      subst hA
      obtain ⟨A3, c3, A4, c4, hL, e0, e1, e2, e3, e4⟩ := act_at HR2.out hx
      have HX := Aside0.mk hx
      obtain ⟨m1, hm1⟩ : ∃ m, x.xs.length = m := ⟨_, rfl⟩
      rw [hm1] at e3
      have p0 : (0 : Int) ≤ (k : Int) := by omega
      have p1 : (k : Int) < (N : Int) := by omega
      have p2 : (k : Int) < 81 := by omega
      have htb := HTB.out
      have hw1 : IntKind.i64.wrap ((k : Int) + 1) = (k : Int) + 1 := IntWalk.i64_in _ (by omega)
      have hst : (totm (l.take (k + 1)) : Int) = T + (min m1 301 : Nat) := by
        rw [take_snoc hx, totm_append, HT.out]
        simp [totm, hm1]
      have HST := Aside0.mk hst
      clear hx hL hm1 e0 e1 e2 e4 hst
      by_cases hm : m1 < 301
      · have hq1 : ((m1 : Int) < 301) := by omega
        have hw2 : IntKind.i64.wrap (T + (m1 : Int)) = T + (m1 : Int) := IntWalk.i64_in _ (by omega)
        have hw3 : (if (301 : Int) < (m1 : Int) then (301 : Int) else (m1 : Int)) = (m1 : Int) := if_neg (by omega)
        have hw4 : (if (m1 : Int) < (301 : Int) then (m1 : Int) else (301 : Int)) = (m1 : Int) := if_pos (by omega)
        clear htb
        gi_wp2
        gi_roundg gn
        case measure => exact Nat.lt_succ_self _
        case rel => exact ⟨k + 1, T + (m1 : Int), by simp, by simp, rfl, ⟨by have := HK.out; omega⟩, ⟨by omega⟩, ⟨by rw [HST.out]; omega⟩, ⟨by have := HTB.out; omega⟩⟩
      · have hq1 : ¬ ((m1 : Int) < 301) := by omega
        have hw2 : IntKind.i64.wrap (T + 301) = T + 301 := IntWalk.i64_in _ (by omega)
        have hw3 : (if (301 : Int) < (m1 : Int) then (301 : Int) else (m1 : Int)) = 301 := by split <;> omega
        have hw4 : (if (m1 : Int) < (301 : Int) then (m1 : Int) else (301 : Int)) = 301 := if_neg (by omega)
        clear htb
        gi_wp2
        gi_roundg gn
        case measure => exact Nat.lt_succ_self _
        case rel => exact ⟨k + 1, T + 301, by simp, by simp, rfl, ⟨by have := HK.out; omega⟩, ⟨by omega⟩, ⟨by rw [HST.out]; omega⟩, ⟨by have := HTB.out; omega⟩⟩
    · have bb : (decide ((k : Int) < (N : Int)) && decide ((k : Int) < 81)) = false := by
        rw [Bool.and_eq_false_iff]
        simp only [decide_eq_false_iff_not]
        omega
      have hkc : ¬ ((k : Int) < (N : Int)) ∨ ((k : Int) < (N : Int) ∧ ¬ ((k : Int) < 81)) := by omega
      have HTF : Aside0 (Small l → T ≤ 300 → tot l ≤ 300) := ⟨fun hs hT => totm_small (by
        have h1 := hs.n
        have h2 := HLN.out
        have h3 := HT.out
        rw [List.take_of_length_le (by omega)] at h3
        omega)⟩
      clear HT HTB HK HK81 bb
      have hwk := fun (w5 : World) (hb5 : Below wr.heap.size wr w5) => (hb5.block _ (blk_lt R2.out)).trans R2.out
      rcases hkc with hkc | ⟨hkc1, hkc⟩
      case inr =>
        gi_wp2_with (first
          | (refine ⟨trivial, ?_⟩; gi_at_call 7; refine (callsIn_wide.2 (great_c A N c l wr HR2.out)).mono ?_; rintro _ w9 ⟨⟨b, rfl, hsm⟩, h9⟩; rw [h9]; clear h9 w9; obtain rfl : b = true := by (cases b; (have h8 := (hsm rfl).n; have h9 := HLN.out; omega); rfl))
          | (refine ⟨trivial, ?_⟩; gi_at_call 8; refine (callsIn_wide.2 (wakes_c _)).mono ?_; rintro _ w5 ⟨rfl, hb5⟩; have q5 := hwk w5 hb5; have c5 := cell_of_row _ _ 0 _ _ _ q5; have f5 := blk_frozen q5 0))
        have hcf := World.cell?_setCell_same' w5 ⟨w.heap.size, 0, none⟩ (.bool true) (by rw [c5]; rfl)
        refine ⟨.bool true, ?_, rfl, ((HB2.out.trans (hb5.mono HB2.out.size)).setCell (p := ⟨w.heap.size, 0, none⟩) (by simp) _)⟩
        simp [results, Try.f4, go_sem, hcf]
      case inl =>
        by_cases hT3 : (300 : Int) < T
        · gi_wp2_with (first
            | (refine ⟨trivial, ?_⟩; gi_at_call 7; refine (callsIn_wide.2 (great_c A N c l wr HR2.out)).mono ?_; rintro _ w9 ⟨⟨b, rfl, hsm⟩, h9⟩; rw [h9]; clear h9 w9 hsm; cases b)
            | (refine ⟨trivial, ?_⟩; gi_at_call 8; refine (callsIn_wide.2 (wakes_c _)).mono ?_; rintro _ w5 ⟨rfl, hb5⟩; have q5 := hwk w5 hb5; have c5 := cell_of_row _ _ 0 _ _ _ q5; have f5 := blk_frozen q5 0))
          all_goals
            have hcf := World.cell?_setCell_same' w5 ⟨w.heap.size, 0, none⟩ (.bool true) (by rw [c5]; rfl)
            refine ⟨.bool true, ?_, rfl, ((HB2.out.trans (hb5.mono HB2.out.size)).setCell (p := ⟨w.heap.size, 0, none⟩) (by simp) _)⟩
            simp [results, Try.f4, go_sem, hcf]
        have bT3 : decide ((300 : Int) < T) = false := decide_eq_false hT3
        gi_wp2_with (first
          | (refine ⟨trivial, ?_⟩; gi_at_call 7; refine (callsIn_wide.2 (great_c A N c l wr HR2.out)).mono ?_; rintro _ w9 ⟨⟨b, rfl, hsm⟩, h9⟩; rw [h9]; clear h9 w9; cases b)
          | (refine ⟨trivial, ?_⟩; gi_at_call 8; refine (callsIn_wide.2 (wakes_c _)).mono ?_; rintro _ w5 ⟨rfl, hb5⟩; have q5 := hwk w5 hb5; have c5 := cell_of_row _ _ 0 _ _ _ q5; have f5 := blk_frozen q5 0)
          | (refine ⟨trivial, ?_⟩; gi_at_call 9; refine (callsIn_wide.2 (new_c wr)).mono ?_; rintro _ w5 ⟨p, rfl, hs5, hb5⟩)
          | (refine ⟨trivial, ?_⟩; gi_at_call 9; refine (callsIn_wide.2 (new_c w5)).mono ?_; rintro _ w6 ⟨q, rfl, hs6, hb6⟩))
        rotate_left
        · have hcf := World.cell?_setCell_same' w5 ⟨w.heap.size, 0, none⟩ (.bool true) (by rw [c5]; rfl)
          refine ⟨.bool true, ?_, rfl, ((HB2.out.trans (hb5.mono HB2.out.size)).setCell (p := ⟨w.heap.size, 0, none⟩) (by simp) _)⟩
          simp [results, Try.f4, go_sem, hcf]
        · have hsmall := hsm trivial
          obtain ⟨b5, hb5e⟩ : ∃ b, w6.heap.size = b := ⟨_, rfl⟩
          obtain ⟨W0, hW0⟩ : ∃ W, (w6.alloc (.cells #[.pointer (some ⟨p, 0, none⟩)] 29)).alloc (.cells #[.pointer (some ⟨q, 0, none⟩)] 29) = W := ⟨_, rfl⟩
          rw [hW0, hb5e]
          have hpp : w.heap.size + 1 ≤ p := by
            obtain ⟨_, _, _, _, _, _, h⟩ := hs5.out
            omega
          have hpq : p < q := by
            obtain ⟨_, _, _, _, _, _, h⟩ := hs6.out
            have := hs5.lt
            omega
          have hq5 : q < b5 := by rw [← hb5e]; exact hs6.lt
          have hb06 : Below w6.heap.size w6 W0 := by rw [← hW0]; exact below_alloc (below_alloc (Below.refl _ w6) _) _
          have hb0 : Below wr.heap.size wr W0 := hb5.trans ((hb6.mono hb5.size).trans (hb06.mono (by have := hb5.size; have := hb6.size; omega)))
          have HSM := Aside0.mk hsmall
          have HTOT : Aside0 (tot l ≤ 300) := ⟨HTF.out hsmall hT3⟩
          have H1 : Aside0 (SAt W0 p p []) := ⟨(hs5.self.below hb6).below hb06⟩
          have H2 : Aside0 (SAt W0 q q []) := ⟨hs6.self.below hb06⟩
          have HC5 : Aside0 (W0.cell? ⟨b5, 0, none⟩ = some (.pointer (some ⟨p, 0, none⟩))) := ⟨by
            rw [← hW0, ← hb5e]
            exact cell_of_row _ _ _ _ _ _ ((Below.heap_alloc _ _ _ (by rw [size_al]; omega)).trans (heap_alloc_new _ _))⟩
          have HC6 : Aside0 (W0.cell? ⟨b5 + 1, 0, none⟩ = some (.pointer (some ⟨q, 0, none⟩))) := ⟨by
            rw [← hW0, ← hb5e]
            exact cell_of_row _ _ _ _ _ _ (alloc_at (size_al _ _))⟩
          have HS0 : Aside0 (W0.heap.size = b5 + 2) := ⟨by rw [← hW0, ← hb5e, size_al, size_al]⟩
          have HB0 : Aside0 (Below w.heap.size w W0) := ⟨HB2.out.trans (hb0.mono HB2.out.size)⟩
          have HB20 := Aside0.mk hb0
          have HBWF : Aside0 (∀ W', GQ p q (b5 + 2) W0 W' → Below w.heap.size w W') := ⟨fun W' hG => HB0.out.trans (hG.below (by have := HB0.out.size; have := HS0.out; omega) (by omega) (by omega))⟩
          clear hb5 hs5 hb6 hs6 hW0 hb5e hsmall hsm hb0 hb06 hwk hT3 bT3 HTF hw2
          gi_loopg [7] N (fun gk v7 wr => ∃ (k : Nat) (L : Items), v7 = .int .i64 (k : Int) ∧ Aside0 (SAt wr p p L) ∧ Aside0 (SAt wr q q L) ∧ Aside0 (GQ p q (b5 + 2) W0 wr) ∧ Aside0 (k + gk = N) ∧ Aside0 (L.length ≤ tot (l.take k)) ∧ Aside0 (sumL L ≤ 1099511627776))
          case atStart => exact ⟨0, [], rfl, H1, H2, ⟨GQ.refl _ _ _ _⟩, ⟨by omega⟩, ⟨by simp⟩, ⟨by simp [sumL]⟩⟩
          case round =>
            clear H1 H2
            obtain ⟨k, L, rfl, HS, HS', HG, HK, HLT, HSL⟩ := hrel
            have d5 : wr.cell? ⟨b5, 0, none⟩ = some (.pointer (some ⟨p, 0, none⟩)) := HG.out.cell (by show b5 < b5 + 2; omega) (by show b5 ≠ p; omega) (by show b5 ≠ q; omega) HC5.out
            have d6 : wr.cell? ⟨b5 + 1, 0, none⟩ = some (.pointer (some ⟨q, 0, none⟩)) := HG.out.cell (by show b5 + 1 < b5 + 2; omega) (by show b5 + 1 ≠ p; omega) (by show b5 + 1 ≠ q; omega) HC6.out
            by_cases hkn : k < N
            · obtain ⟨gn, rfl⟩ : ∃ gn, gk = gn + 1 := ⟨gk - 1, by have := HK.out; omega⟩
              obtain ⟨x, hx⟩ : ∃ x, l[k]? = some x := ⟨_, List.getElem?_eq_getElem (by rw [HLN.out]; exact hkn)⟩
              obtain ⟨ad, hA, _⟩ := HR.out.2.2 (by omega)
              subst hA
              obtain ⟨A3, c3, A4, c4, hL, e0, e1, e2, e3, e4⟩ := act_at HR.out hx
              have HX := Aside0.mk hx
              have HSMX := Aside0.mk (HSM.out.a x (List.mem_of_getElem? hx))
              have hBW : Below w.heap.size w wr := HBWF.out _ HG.out
              obtain ⟨m1, hm1⟩ : ∃ m, x.xs.length = m := ⟨_, rfl⟩
              obtain ⟨m2, hm2⟩ : ∃ m, x.ys.length = m := ⟨_, rfl⟩
              obtain ⟨xd, hxd⟩ : ∃ m, x.d = m := ⟨_, rfl⟩
              obtain ⟨xi, hxi⟩ : ∃ m, x.i = m := ⟨_, rfl⟩
              obtain ⟨xn, hxn⟩ : ∃ m, x.n = m := ⟨_, rfl⟩
              have hlx := hL.x
              have hly := hL.y
              have hle1 := hL.le1
              have hle2 := hL.le2
              rw [hm1] at e3 hlx hle1
              rw [hm2] at e4 hly hle2
              rw [hxd] at e0
              rw [hxi] at e1
              rw [hxn] at e2
              have d0 := pw_cell_below hBW e0
              have d1 := pw_cell_below hBW e1
              have d2 := pw_cell_below hBW e2
              have d3 := pw_cell_below hBW e3
              have d4 := pw_cell_below hBW e4
              have HM1 := Aside0.mk hm1
              have HM2 := Aside0.mk hm2
              have HLX := Aside0.mk hlx
              have HLY := Aside0.mk hly
              have HLE1 := Aside0.mk hle1
              have HLE2 := Aside0.mk hle2
              have p0 : (0 : Int) ≤ (k : Int) := by omega
              have p1 : (k : Int) < (N : Int) := by omega
              have hw1 : IntKind.i64.wrap ((k : Int) + 1) = (k : Int) + 1 := IntWalk.i64_in _ (by omega)
              clear hx hL hlx hly hle1 hle2 hm1 hm2 hxd hxi hxn e0 e1 e2 e3 e4 hBW
              gi_upto_region 13 with (fail)
              obtain ⟨b8, hb8⟩ : ∃ b, wr.heap.size = b := ⟨_, rfl⟩
              obtain ⟨wa, hwa⟩ : ∃ W, wr.alloc (.cells #[.int .i64 xd, .int .i64 xi, .int .i64 xn, .slice A3 m1 c3, .slice A4 m2 c4] 26) = W := ⟨_, rfl⟩
              rw [hwa, hb8]
              have hba : Below wr.heap.size wr wa := by rw [← hwa]; exact below_alloc (Below.refl _ wr) _
              have hb58 : b5 + 2 ≤ b8 := by
                have := HG.out.size
                have := HS0.out
                omega
              have row8 : wa.heap[b8]? = some (.cells #[.int .i64 xd, .int .i64 xi, .int .i64 xn, .slice A3 m1 c3, .slice A4 m2 c4] 26 (0, 0)) := by rw [← hwa, ← hb8]; exact heap_alloc_new _ _
              have f0 : wa.cell? ⟨b8, 0, none⟩ = some (.int .i64 xd) := cell_of_row _ _ _ _ _ _ row8
              have f1 : wa.cell? ⟨b8, 1, none⟩ = some (.int .i64 xi) := cell_of_row _ _ _ _ _ _ row8
              have f2 : wa.cell? ⟨b8, 2, none⟩ = some (.int .i64 xn) := cell_of_row _ _ _ _ _ _ row8
              have f3 : wa.cell? ⟨b8, 3, none⟩ = some (.slice A3 m1 c3) := cell_of_row _ _ _ _ _ _ row8
              have f4 : wa.cell? ⟨b8, 4, none⟩ = some (.slice A4 m2 c4) := cell_of_row _ _ _ _ _ _ row8
              have f5 := pw_cell_below hba d5
              have f6 := pw_cell_below hba d6
              have HSA := Aside0.mk (HS.out.below hba)
              have HSA' := Aside0.mk (HS'.out.below hba)
              have HGA : Aside0 (GQ p q (b5 + 2) W0 wa) := ⟨HG.out.trans (GQ.of_below (hba.mono (by omega)))⟩
              have HSZA : Aside0 (b8 < wa.heap.size) := ⟨blk_lt row8⟩
              have HTK : Aside0 (tot (l.take (k + 1)) = tot (l.take k) + m1) := ⟨by rw [take_snoc HX.out, tot_append, ← HM1.out]; simp [tot]⟩
              clear d0 d1 d2 d3 d4 d5 d6 hwa hba row8
              by_cases hd : xd = 0
              case neg =>
                have hd2 : (xd == 0) = false := beq_eq_false_iff_ne.mpr hd
                clear f1 f2 f3 f4 f5 f6
                gi_wp2_with (refine ⟨trivial, ?_⟩)
                gi_roundg gn
                case measure => exact Nat.lt_succ_self _
                case rel => exact ⟨k + 1, L, by simp, HSA, HSA', HGA, ⟨by have := HK.out; omega⟩, ⟨by have := HLT.out; have := HTK.out; omega⟩, HSL⟩
              subst hd
              have HSP := Aside0.mk (splice_c p L xi xn m1 m2 x.xs x.ys A3 c3 A4 c4 wa p HSA.out HM1.out HM2.out HLE1.out HLE2.out (by have := HSMX.out.1; have := HM1.out; omega) (Kd.C_below HLX.out (HBWF.out _ HGA.out)) (Kd.C_below HLY.out (HBWF.out _ HGA.out)))
              gi_wp2_with (refine ⟨trivial, ?_⟩; gi_at_call 10; refine (callsIn_wide.2 HSP.out).mono ?_)
              rintro _ wb ⟨er, L1, rfl, hr1, hs1, -, hg1⟩
              by_cases her : er = 0
              rotate_left
              · have bq : (er == 0) = false := beq_eq_false_iff_ne.mpr her
                have hl1 := spl_not hr1 her
                rw [hl1] at hs1
                have HS1 := Aside0.mk hs1
                have HG1 := Aside0.mk hg1
                clear hr1 hs1 hg1 hl1 f0 f1 f2 f3 f4 f5 f6
                gi_wp2
                gi_roundg gn
                case measure => exact Nat.lt_succ_self _
                case rel => exact ⟨k + 1, L, by simp, HS1, ⟨HSA'.out.other HG1.out (by omega)⟩, ⟨HGA.out.trans (HG1.out.gq (by have := HSZA.out; omega))⟩, ⟨by have := HK.out; omega⟩, ⟨by have := HLT.out; have := HTK.out; omega⟩, HSL⟩
              · subst her
                obtain ⟨a, b, c', hLe, hae, hbe, hxy, hok, hL1, hn1, hsum1⟩ := spl_ok hr1
                subst hae
                subst hbe
                have hmm : m2 = m1 := by rw [← HM1.out, ← HM2.out, hxy]
                subst hmm
                have hL300 : L.length ≤ 300 := by
                  have := HLT.out
                  have := tot_take l k
                  have := HTOT.out
                  omega
                have hb300 : a.length + b.length + c'.length ≤ 300 := by
                  rw [hLe] at hL300
                  simp only [List.length_append] at hL300
                  omega
                have hm300 : m2 ≤ 2000 := by have := HSMX.out.1; have := HM1.out; omega
                have hpos : ∀ z ∈ b, 0 ≤ z.2 := fun z hz => HS.out.fit.p z (by rw [hLe]; simp [hz])
                have hposz : ∀ z ∈ x.xs.zip x.ys, 0 ≤ z.2 := fun z hz => (hok z.2 (List.of_mem_zip hz).2).1
                have HSB : Aside0 (SAt wb p p L1) := ⟨hs1⟩
                have HSB' : Aside0 (SAt wb q q L) := ⟨HSA'.out.other hg1 (by omega)⟩
                have HGB : Aside0 (GQ p q (b5 + 2) W0 wb) := ⟨HGA.out.trans (hg1.gq (by have := HSZA.out; omega))⟩
                have HLE := Aside0.mk hLe
                have HL1 := Aside0.mk hL1
                have HOKS := Aside0.mk hok
                have HPOS := Aside0.mk hpos
                have HPOZ := Aside0.mk hposz
                have HN1 := Aside0.mk hn1
                have HSUM1 := Aside0.mk hsum1
                have HXY := Aside0.mk hxy
                have HB1 : Aside0 (wb.cell? ⟨b8, 1, none⟩ = some (.int .i64 (a.length : Int))) := ⟨hg1.cell (by show b8 ≠ p; omega) f1⟩
                have HB2' : Aside0 (wb.cell? ⟨b8, 2, none⟩ = some (.int .i64 (b.length : Int))) := ⟨hg1.cell (by show b8 ≠ p; omega) f2⟩
                have HB3 : Aside0 (wb.cell? ⟨b8, 3, none⟩ = some (.slice A3 m2 c3)) := ⟨hg1.cell (by show b8 ≠ p; omega) f3⟩
                have HB4 : Aside0 (wb.cell? ⟨b8, 4, none⟩ = some (.slice A4 m2 c4)) := ⟨hg1.cell (by show b8 ≠ p; omega) f4⟩
                have HG1 := Aside0.mk hg1
                have d5b : wb.cell? ⟨b5, 0, none⟩ = some (.pointer (some ⟨p, 0, none⟩)) := hg1.cell (by show b5 ≠ p; omega) f5
                have d6b : wb.cell? ⟨b5 + 1, 0, none⟩ = some (.pointer (some ⟨q, 0, none⟩)) := hg1.cell (by show b5 + 1 ≠ p; omega) f6
                have g2 := HB2'.out
                have g3 := HB3.out
                have g4 := HB4.out
                have HC5B := Aside0.mk d5b
                have HC6B := Aside0.mk d6b
                obtain ⟨NB, hNB⟩ : ∃ NB, b.length = NB := ⟨_, rfl⟩
                obtain ⟨NA, hNA⟩ : ∃ NA, a.length = NA := ⟨_, rfl⟩
                rw [hNB] at g2 hb300
                rw [hNA] at hb300
                have HNB := Aside0.mk hNB
                have HNA := Aside0.mk hNA
                have HB1N : Aside0 (wb.cell? ⟨b8, 1, none⟩ = some (.int .i64 (NA : Int))) := ⟨by rw [← hNA]; exact HB1.out⟩
                have q0 : ¬ ((300 : Int) < (NB : Int)) := by omega
                clear hr1 hs1 hg1 hLe hxy hok hL1 hn1 hsum1 hpos hposz f0 f1 f2 f3 f4 f5 f6 hNB hNA
                gi_wp2
                gi_loopg [9] NB (fun gk2 v9 wc => ∃ j : Nat, v9 = .int .i64 (j : Int) ∧ Aside0 (SAt wc q q (a ++ (b.drop j ++ c'))) ∧ Aside0 (KG q wb wc) ∧ Aside0 (j + gk2 = NB))
                case atStart => exact ⟨0, rfl, ⟨by rw [List.drop_zero, ← HLE.out]; exact HSB'.out⟩, ⟨KG.refl _ _⟩, ⟨by omega⟩⟩
                case round =>
                  obtain ⟨j, rfl, HSC, HKC, HJ⟩ := hrel
                  have h6 : wr.cell? ⟨b5 + 1, 0, none⟩ = some (.pointer (some ⟨q, 0, none⟩)) := HKC.out.cell (by show b5 + 1 ≠ q; omega) HC6B.out
                  have h1' : wr.cell? ⟨b8, 1, none⟩ = some (.int .i64 (NA : Int)) := by rw [← HNA.out]; exact HKC.out.cell (by show b8 ≠ q; omega) HB1.out
                  have h2' : wr.cell? ⟨b8, 2, none⟩ = some (.int .i64 (NB : Int)) := by rw [← HNB.out]; exact HKC.out.cell (by show b8 ≠ q; omega) HB2'.out
                  by_cases hj : j < NB
                  · obtain ⟨gn2, rfl⟩ : ∃ gn2, gk = gn2 + 1 := ⟨gk - 1, by have := HJ.out; omega⟩
                    obtain ⟨z, hz⟩ : ∃ z, b[j]? = some z := ⟨_, List.getElem?_eq_getElem (by rw [HNB.out]; exact hj)⟩
                    have hdr := drop_cons hz
                    have hsc := HSC.out
                    rw [hdr, List.cons_append] at hsc
                    have hw3 : IntKind.i64.wrap ((j : Int) + 1) = (j : Int) + 1 := IntWalk.i64_in _ (by omega)
                    have HSP2 := Aside0.mk (splice_c q (a ++ z :: (b.drop (j + 1) ++ c')) (NA : Int) 1 0 0 [] [] none 0 none 0 wr q hsc rfl rfl (Nat.le_refl _) (Nat.le_refl _) (by decide) (nilX _) (nilY _))
                    have HSD : Aside0 (∀ er l', SplR (a ++ z :: (b.drop (j + 1) ++ c')) (NA : Int) 1 [] [] er l' → er = 0 ∧ l' = a ++ (b.drop (j + 1) ++ c')) := ⟨fun er l' h => by
                      rw [← HNA.out] at h
                      refine spl_del h ?_ ?_
                      · have e := HNB.out
                        simp only [List.length_append, List.length_cons, List.length_drop]
                        have := HNA.out
                        omega
                      · have h1 := sum_drop (a := a) (c := c') HPOS.out (j + 1)
                        have h2 := HSL.out
                        rw [HLE.out] at h2
                        omega⟩
                    clear hz hdr hsc g2 g3 g4 d5b d6b
                    gi_wp2_with (refine ⟨trivial, ?_⟩; gi_at_call 10; refine (callsIn_wide.2 HSP2.out).mono ?_)
                    rintro _ wd ⟨er, L3, rfl, hr3, hs3, -, hg3⟩
                    obtain ⟨rfl, rfl⟩ := HSD.out _ _ hr3
                    have HS3 := Aside0.mk hs3
                    have HK3 := Aside0.mk (HKC.out.trans hg3)
                    clear hr3 hs3 hg3 HSP2 HSD h6 h1' h2'
                    gi_wp2
                    gi_roundg gn2
                    case measure => exact Nat.lt_succ_self _
                    case rel => exact ⟨j + 1, by simp, HS3, HK3, ⟨by have := HJ.out; omega⟩⟩
                  · have h3' : wr.cell? ⟨b8, 3, none⟩ = some (.slice A3 m2 c3) := HKC.out.cell (by show b8 ≠ q; omega) HB3.out
                    have HSC2 : Aside0 (SAt wr q q (a ++ c')) := ⟨by
                      have h := HSC.out
                      rw [List.drop_eq_nil_of_le (by rw [HNB.out]; omega), List.nil_append] at h
                      exact h⟩
                    have hw4 : IntKind.i64.wrap ((m2 : Int) - 1) = (m2 : Int) - 1 := IntWalk.i64_in _ (by omega)
                    have hjn : ¬ ((j : Int) < (NB : Int)) := by omega
                    clear HSC HJ g2 g3 g4 d5b d6b h6 h1'
                    gi_wp2
                    gi_loopg [10] m2 (fun gk3 v10 wd => ∃ (r : Nat) (z : Int), v10 = .int .i64 z ∧ z = (r : Int) - 1 ∧ Aside0 (SAt wd q q (a ++ ((x.xs.zip x.ys).drop r ++ c'))) ∧ Aside0 (KG q wb wd) ∧ Aside0 (r = gk3) ∧ Aside0 (r ≤ m2))
                    case atStart => exact ⟨m2, _, rfl, rfl, ⟨by rw [List.drop_eq_nil_of_le (by rw [List.length_zip]; have := HM1.out; omega), List.nil_append]; exact HSC2.out⟩, HKC, ⟨rfl⟩, ⟨Nat.le_refl _⟩⟩
                    case round =>
                      clear HSC2 HKC
                      obtain ⟨r, z, rfl, hz, HSC, HKC, HJ, HJM⟩ := hrel
                      have h5 : wr.cell? ⟨b5, 0, none⟩ = some (.pointer (some ⟨p, 0, none⟩)) := HKC.out.cell (by show b5 ≠ q; omega) HC5B.out
                      have h6 : wr.cell? ⟨b5 + 1, 0, none⟩ = some (.pointer (some ⟨q, 0, none⟩)) := HKC.out.cell (by show b5 + 1 ≠ q; omega) HC6B.out
                      cases r with
                      | succ k2 =>
                        obtain rfl : z = (k2 : Int) := by omega
                        obtain ⟨gn3, rfl⟩ : ∃ gn3, gk = gn3 + 1 := ⟨gk - 1, by have := HJ.out; omega⟩
                        have h1' : wr.cell? ⟨b8, 1, none⟩ = some (.int .i64 (NA : Int)) := HKC.out.cell (by show b8 ≠ q; omega) HB1N.out
                        have h3' : wr.cell? ⟨b8, 3, none⟩ = some (.slice A3 m2 c3) := HKC.out.cell (by show b8 ≠ q; omega) HB3.out
                        have h4' : wr.cell? ⟨b8, 4, none⟩ = some (.slice A4 m2 c4) := HKC.out.cell (by show b8 ≠ q; omega) HB4.out
                        have hk2 : k2 < m2 := by have := HJM.out; omega
                        obtain ⟨xk, hxk⟩ : ∃ y, x.xs[k2]? = some y := ⟨_, List.getElem?_eq_getElem (by rw [HM1.out]; exact hk2)⟩
                        obtain ⟨yk, hyk⟩ : ∃ y, x.ys[k2]? = some y := ⟨_, List.getElem?_eq_getElem (by rw [HM2.out]; exact hk2)⟩
                        have hle1 := HLE1.out
                        have hle2 := HLE2.out
                        have hzk : (x.xs.zip x.ys)[k2]? = some (xk, yk) := by rw [List.getElem?_zip_eq_some]; exact ⟨hxk, hyk⟩
                        have hdr := drop_cons hzk
                        have hbw : Below w.heap.size w wr := HBWF.out _ (HGB.out.trans (HKC.out.gq2 (by have := HGB.out.size; have := HS0.out; omega)))
                        have hcx := Kd.C_take (m := 1) (k := Kd.string) (Kd.C_drop (m := k2) (c := c3) (by rw [HM1.out]; exact Kd.C_below HLX.out hbw) (by rw [HM1.out]; omega) (by rw [HM1.out]; exact hle1)) (by rw [List.length_drop, HM1.out]; omega)
                        have hcy := Kd.C_take (m := 1) (k := Kd.int .i64) (Kd.C_drop (m := k2) (c := c4) (by rw [HM2.out]; exact Kd.C_below HLY.out hbw) (by rw [HM2.out]; omega) (by rw [HM2.out]; exact hle2)) (by rw [List.length_drop, HM2.out]; omega)
                        rw [drop_cons hxk, List.take_succ_cons, List.take_zero] at hcx
                        rw [drop_cons hyk, List.take_succ_cons, List.take_zero] at hcy
                        obtain ⟨P3, hP3⟩ : ∃ P, (if c3 = k2 then A3 else A3.map (·.add (k2 * 1))) = P := ⟨_, rfl⟩
                        obtain ⟨P4, hP4⟩ : ∃ P, (if c4 = k2 then A4 else A4.map (·.add (k2 * 1))) = P := ⟨_, rfl⟩
                        obtain ⟨C3, hC3⟩ : ∃ P, c3 - k2 = P := ⟨_, rfl⟩
                        obtain ⟨C4, hC4⟩ : ∃ P, c4 - k2 = P := ⟨_, rfl⟩
                        have hcx' : Kd.string.C wr P3 1 [xk] := by rw [← hP3]; exact hcx
                        have hcy' : (Kd.int .i64).C wr P4 1 [yk] := by rw [← hP4]; exact hcy
                        have HP3 := Aside0.mk hP3
                        have HP4 := Aside0.mk hP4
                        have HC3 := Aside0.mk hC3
                        have HC4 := Aside0.mk hC4
                        have HSPI := Aside0.mk (splice_c q (a ++ ((x.xs.zip x.ys).drop (k2 + 1) ++ c')) (NA : Int) 0 1 1 [xk] [yk] P3 C3 P4 C4 wr.drew q (HSC.out.below (below_drew (Below.refl _ wr))) rfl rfl (by omega) (by omega) (by decide) (Kd.C_below hcx' (below_drew (Below.refl _ wr))) (Kd.C_below hcy' (below_drew (Below.refl _ wr))))
                        have HSD : Aside0 (∀ er l', SplR (a ++ ((x.xs.zip x.ys).drop (k2 + 1) ++ c')) (NA : Int) 0 [xk] [yk] er l' → er = 0 ∧ l' = a ++ ((x.xs.zip x.ys).drop k2 ++ c')) := ⟨fun er l' h => by
                          rw [← HNA.out] at h
                          have hsd := sum_drop (a := a) (c := c') HPOZ.out k2
                          rw [hdr] at hsd ⊢
                          rw [List.cons_append] at hsd ⊢
                          refine spl_ins h (HOKS.out _ (List.mem_of_getElem? hyk)) ?_ ?_
                          · simp only [List.length_append, List.length_drop, List.length_zip]
                            have := HNA.out
                            have := HM1.out
                            omega
                          · have h2 := HSUM1.out
                            rw [HL1.out] at h2
                            omega⟩
                        have hw5 : IntKind.i64.wrap ((k2 : Int) + 1) = (k2 : Int) + 1 := IntWalk.i64_in _ (by omega)
                        have hw6 : IntKind.i64.wrap ((k2 : Int) - 1) = (k2 : Int) - 1 := IntWalk.i64_in _ (by omega)
                        clear hxk hyk hzk hdr hcx hcy hbw hz hcx' hcy' hP3 hP4 hC3 hC4
                        gi_upto_region 24 with (fail)
                        refine wpIn_wide.2 ?_
                        refine wp_region_noPanic ?_
                        refine wp_region_held_drew (S := (fun w' => w'.cell? ⟨b5 + 1, 0, none⟩ = some (.pointer (some ⟨q, 0, none⟩)) ∧ w'.cell? ⟨b8, 1, none⟩ = some (.int .i64 (NA : Int)) ∧ w'.cell? ⟨b8, 3, none⟩ = some (.slice A3 m2 c3) ∧ w'.cell? ⟨b8, 4, none⟩ = some (.slice A4 m2 c4))) (by kernel_rfl) ?_ (fun hHeld => ?_)
                        · exact ⟨h6, h1', h3', h4'⟩
                        refine wpAnyH_take (i := 0) (v := ?_) rfl (by kernel_rfl) (by kernel_rfl) (by kernel_rfl) (fun _ _ _ h => h) (Or.inl ⟨by rfl, ?_⟩) (by assumption) ?_
                        rotate_left
                        · intro w hSw
                          go_simp
                          try with_reducible rfl
                        simp only [Act.put, List.getElem_toArray, List.getElem_cons_zero, List.getElem_cons_succ, List.setIfInBounds_toArray, List.set_cons_zero, List.set_cons_succ]
                        refine wpAnyH_take (i := 1) (v := ?_) rfl (by kernel_rfl) (by kernel_rfl) (by kernel_rfl) (fun _ _ _ h => h) (Or.inl ⟨by rfl, ?_⟩) (by assumption) ?_
                        rotate_left
                        · intro w hSw
                          go_simp
                          try with_reducible rfl
                        simp only [Act.put, List.getElem_toArray, List.getElem_cons_zero, List.getElem_cons_succ, List.setIfInBounds_toArray, List.set_cons_zero, List.set_cons_succ]
                        refine wpAnyH_take (i := 2) (v := ?_) rfl (by kernel_rfl) (by kernel_rfl) (by kernel_rfl) (fun _ _ _ h => h) (Or.inl ⟨by rfl, ?_⟩) (by assumption) ?_
                        rotate_left
                        · intro w hSw
                          go_simp
                          try with_reducible rfl
                        simp only [Act.put, List.getElem_toArray, List.getElem_cons_zero, List.getElem_cons_succ, List.setIfInBounds_toArray, List.set_cons_zero, List.set_cons_succ]
                        refine wpAnyH_take (i := 3) (v := ?_) rfl (by kernel_rfl) (by kernel_rfl) (by kernel_rfl) (fun _ _ _ h => h) (Or.inl ⟨by rfl, ?_⟩) (by assumption) ?_
                        rotate_left
                        · intro w hSw
                          go_simp
                          try with_reducible rfl
                        simp only [Act.put, List.getElem_toArray, List.getElem_cons_zero, List.getElem_cons_succ, List.setIfInBounds_toArray, List.set_cons_zero, List.set_cons_succ]
                        refine wpAnyH_take (i := 4) (v := ?_) rfl (by kernel_rfl) (by kernel_rfl) (by kernel_rfl) (fun _ _ _ h => h) (Or.inl ⟨by rfl, ?_⟩) (by assumption) ?_
                        rotate_left
                        · intro w hSw
                          go_simp
                          try with_reducible rfl
                        simp only [Act.put, List.getElem_toArray, List.getElem_cons_zero, List.getElem_cons_succ, List.setIfInBounds_toArray, List.set_cons_zero, List.set_cons_succ]
                        refine wpAnyH_take (i := 5) (v := ?_) rfl (by kernel_rfl) (by kernel_rfl) (by kernel_rfl) (fun _ _ _ h => h) (Or.inl ⟨by rfl, ?_⟩) (by assumption) ?_
                        rotate_left
                        · intro w hSw
                          go_simp
                          try with_reducible rfl
                        simp only [Act.put, List.getElem_toArray, List.getElem_cons_zero, List.getElem_cons_succ, List.setIfInBounds_toArray, List.set_cons_zero, List.set_cons_succ]
                        refine wpAnyH_take (i := 6) (v := ?_) rfl (by kernel_rfl) (by kernel_rfl) (by kernel_rfl) (fun _ _ _ h => h) (Or.inl ⟨by rfl, ?_⟩) (by assumption) ?_
                        rotate_left
                        · intro w hSw
                          go_simp
                          try with_reducible rfl
                        simp only [Act.put, List.getElem_toArray, List.getElem_cons_zero, List.getElem_cons_succ, List.setIfInBounds_toArray, List.set_cons_zero, List.set_cons_succ]
                        refine wpAnyH_take (i := 7) (v := ?_) rfl (by kernel_rfl) (by kernel_rfl) (by kernel_rfl) (fun _ _ _ h => h) (Or.inl ⟨by rfl, ?_⟩) (by assumption) ?_
                        rotate_left
                        · intro w hSw
                          go_simp
                          try with_reducible rfl
                        simp only [Act.put, List.getElem_toArray, List.getElem_cons_zero, List.getElem_cons_succ, List.setIfInBounds_toArray, List.set_cons_zero, List.set_cons_succ]
                        refine wpAnyH_take (i := 8) (v := .slice P3 1 C3) rfl (by kernel_rfl) (by kernel_rfl) (by kernel_rfl) (fun _ _ _ h => h) (Or.inl ⟨by rfl, by rw [← HP3.out, ← HC3.out]; exact fun w _ => exec_cutLH Try.underlying23 info9 A3 m2 c3 k2 (by omega) _ _ _ _ _ (by rfl) (by rfl) (by rfl) (by go_simp) w⟩) (by assumption) ?_
                        simp only [Act.put, List.getElem_toArray, List.getElem_cons_zero, List.getElem_cons_succ, List.setIfInBounds_toArray, List.set_cons_zero, List.set_cons_succ]
                        refine wpAnyH_take (i := 9) (v := ?_) rfl (by kernel_rfl) (by kernel_rfl) (by kernel_rfl) (fun _ _ _ h => h) (Or.inl ⟨by rfl, ?_⟩) (by assumption) ?_
                        rotate_left
                        · intro w hSw
                          go_simp
                          try with_reducible rfl
                        simp only [Act.put, List.getElem_toArray, List.getElem_cons_zero, List.getElem_cons_succ, List.setIfInBounds_toArray, List.set_cons_zero, List.set_cons_succ]
                        refine wpAnyH_take (i := 10) (v := ?_) rfl (by kernel_rfl) (by kernel_rfl) (by kernel_rfl) (fun _ _ _ h => h) (Or.inl ⟨by rfl, ?_⟩) (by assumption) ?_
                        rotate_left
                        · intro w hSw
                          go_simp
                          try with_reducible rfl
                        simp only [Act.put, List.getElem_toArray, List.getElem_cons_zero, List.getElem_cons_succ, List.setIfInBounds_toArray, List.set_cons_zero, List.set_cons_succ]
                        refine wpAnyH_take (i := 11) (v := ?_) rfl (by kernel_rfl) (by kernel_rfl) (by kernel_rfl) (fun _ _ _ h => h) (Or.inl ⟨by rfl, ?_⟩) (by assumption) ?_
                        rotate_left
                        · intro w hSw
                          go_simp
                          try with_reducible rfl
                        simp only [Act.put, List.getElem_toArray, List.getElem_cons_zero, List.getElem_cons_succ, List.setIfInBounds_toArray, List.set_cons_zero, List.set_cons_succ]
                        refine wpAnyH_take (i := 12) (v := ?_) rfl (by kernel_rfl) (by kernel_rfl) (by kernel_rfl) (fun _ _ _ h => h) (Or.inl ⟨by rfl, ?_⟩) (by assumption) ?_
                        rotate_left
                        · intro w hSw
                          go_simp
                          try with_reducible rfl
                        simp only [Act.put, List.getElem_toArray, List.getElem_cons_zero, List.getElem_cons_succ, List.setIfInBounds_toArray, List.set_cons_zero, List.set_cons_succ]
                        refine wpAnyH_take (i := 13) (v := ?_) rfl (by kernel_rfl) (by kernel_rfl) (by kernel_rfl) (fun _ _ _ h => h) (Or.inl ⟨by rfl, ?_⟩) (by assumption) ?_
                        rotate_left
                        · intro w hSw
                          go_simp
                          try with_reducible rfl
                        simp only [Act.put, List.getElem_toArray, List.getElem_cons_zero, List.getElem_cons_succ, List.setIfInBounds_toArray, List.set_cons_zero, List.set_cons_succ]
                        refine wpAnyH_take (i := 14) (v := .slice P4 1 C4) rfl (by kernel_rfl) (by kernel_rfl) (by kernel_rfl) (fun _ _ _ h => h) (Or.inl ⟨by rfl, by rw [← HP4.out, ← HC4.out]; exact fun w _ => exec_cutLH Try.underlying24 info3 A4 m2 c4 k2 (by omega) _ _ _ _ _ (by rfl) (by rfl) (by rfl) (by go_simp) w⟩) (by assumption) ?_
                        simp only [Act.put, List.getElem_toArray, List.getElem_cons_zero, List.getElem_cons_succ, List.setIfInBounds_toArray, List.set_cons_zero, List.set_cons_succ]
                        refine wpAnyH_ready (rs := [15]) (by kernel_rfl) (by simp) ?_
                        refine AllReadyH.cons rfl (fun K hK => ?_) AllReadyH.nil
                        go_simp
                        refine (HSPI.out).mono ?_
                        rintro _ we ⟨er, L3, rfl, hr3, hs3, -, hg3⟩
                        obtain ⟨rfl, rfl⟩ := HSD.out _ _ hr3
                        have hk3 : KG q wb we := HKC.out.trans ((KG.of_below (below_drew (Below.refl _ wr))).trans hg3)
                        refine hK.out _ _ ⟨hk3.cell (by show b5 + 1 ≠ q; omega) HC6B.out, hk3.cell (by show b8 ≠ q; omega) HB1N.out, hk3.cell (by show b8 ≠ q; omega) HB3.out, hk3.cell (by show b8 ≠ q; omega) HB4.out⟩ (fun hHeld2 => ?_)
                        clear hK K hHeld
                        have hHeld := hHeld2
                        clear hHeld2
                        try simp only [Act.put, List.getElem_toArray, List.getElem_cons_zero, List.getElem_cons_succ, List.setIfInBounds_toArray, List.set_cons_zero, List.set_cons_succ]
                        refine wpAnyH_take (i := 16) (v := ?_) rfl (by kernel_rfl) (by kernel_rfl) (by kernel_rfl) (fun _ _ _ h => h) (Or.inl ⟨by rfl, ?_⟩) (by assumption) ?_
                        rotate_left
                        · intro w hSw
                          go_simp
                          try with_reducible rfl
                        simp only [Act.put, List.getElem_toArray, List.getElem_cons_zero, List.getElem_cons_succ, List.setIfInBounds_toArray, List.set_cons_zero, List.set_cons_succ]
                        refine wpAnyH_done (by kernel_rfl) ?_ _
                        refine NoPanic.normal ?_
                        have HS3 := Aside0.mk hs3
                        have HK3 := Aside0.mk hk3
                        clear hr3 hs3 hg3 hk3 hHeld h5 h6 h1' h3' h4' HSPI HSD
                        gi_wp2
                        gi_roundg gn3
                        case measure => exact Nat.lt_succ_self _
                        case rel => exact ⟨k2, _, rfl, rfl, HS3, HK3, ⟨by have := HJ.out; omega⟩, ⟨by omega⟩⟩
                      | zero =>
                        obtain rfl : z = -1 := by omega
                        have HSE : Aside0 (SAt wr q q L1) := ⟨by
                          have h := HSC.out
                          rw [List.drop_zero, ← HL1.out] at h
                          exact h⟩
                        have HSEP : Aside0 (SAt wr p p L1) := ⟨HSB.out.other HKC.out (by omega)⟩
                        have HLEN := Aside0.mk (fun w' (h : SAt w' p p L1) => len_c p L1 w' p h)
                        have HLEN' := Aside0.mk (fun w' (h : SAt w' q q L1) => len_c q L1 w' q h)
                        have HSIZ := Aside0.mk (fun w' (h : SAt w' p p L1) => size_c p L1 w' p h)
                        have HSIZ' := Aside0.mk (fun w' (h : SAt w' q q L1) => size_c q L1 w' q h)
                        have HGE : Aside0 (GQ p q (b5 + 2) W0 wr) := ⟨HGB.out.trans (HKC.out.gq2 (by have := HGB.out.size; have := HS0.out; omega))⟩
                        clear HSC HKC HJ HJM hz
                        gi_upto_region 26 with (fail)
                        refine wpIn_wide.2 ?_
                        go_quiet (first
                          | exact (HLEN.out (wr.drewN _) (HSEP.out.below (pw_below_drewN (Below.refl _ _) _))).mono (fun e w9 h => ⟨h.1, _, h.2⟩)
                          | exact (HLEN'.out (wr.drewN _) (HSE.out.below (pw_below_drewN (Below.refl _ _) _))).mono (fun e w9 h => ⟨h.1, _, h.2⟩)
                          | exact (HSIZ.out (wr.drewN _) (HSEP.out.below (pw_below_drewN (Below.refl _ _) _))).mono (fun e w9 h => ⟨h.1, _, h.2⟩)
                          | exact (HSIZ'.out (wr.drewN _) (HSE.out.below (pw_below_drewN (Below.refl _ _) _))).mono (fun e w9 h => ⟨h.1, _, h.2⟩))
                        have HDB : Aside0 (Below wr.heap.size wr (wr.drewN nq)) := ⟨pw_below_drewN (Below.refl _ _) _⟩
                        clear h5 h6 HLEN HLEN' HSIZ HSIZ'
                        gi_wp2
                        gi_roundg gn
                        case measure => exact Nat.lt_succ_self _
                        case rel => exact ⟨k + 1, L1, by simp, ⟨HSEP.out.below HDB.out⟩, ⟨HSE.out.below HDB.out⟩, ⟨HGE.out.trans (GQ.of_below (HDB.out.mono (by have := HGE.out.size; have := HS0.out; omega)))⟩, ⟨by have := HK.out; omega⟩, ⟨by
                          have h1 := HLT.out
                          have h2 := HTK.out
                          have h3 := HM1.out
                          rw [HLE.out] at h1
                          rw [HL1.out]
                          simp only [List.length_append, List.length_zip] at h1 ⊢
                          omega⟩, HSUM1⟩
            · have hkm : N ≤ k := by omega
              have b1 : decide (k < N) = false := decide_eq_false hkn
              clear HK HSM
              obtain ⟨T', v, hpc, hT, hTL, hfit, -⟩ := HS.out.out
              obtain ⟨a, rfl⟩ := hT.ptr
              have HALL := Aside0.mk (all_c p a wr hpc)
              have HTA := Aside0.mk hT
              have HFIT := Aside0.mk hfit
              have HTL := Aside0.mk hTL
              have hC8 : cntT T' ≤ 8388608 := hfit.fit2 hTL
              have HB6' : Aside0 (b5 + 2 ≤ wr.heap.size) := ⟨by have := HG.out.size; have := HS0.out; omega⟩
              have HD5 := Aside0.mk d5
              have HD6 := Aside0.mk d6
              clear hfit hTL hT hpc d6
              gi_wp2_with ((refine ⟨trivial, ?_⟩; gi_at_call 11; refine (callsIn_wide.2 HALL.out).mono ?_; rintro _ w9 ⟨rfl, hc9, hs9, hb9⟩))
              have hT9 : At w9 T' (.pointer a) := HTA.out.below hb9
              have HS9 := Aside0.mk (HS.out.below hb9)
              have HS9' := Aside0.mk (HS'.out.below hb9)
              have HD59 : Aside0 (w9.cell? ⟨b5, 0, none⟩ = some (.pointer (some ⟨p, 0, none⟩))) := ⟨pw_cell_below hb9 HD5.out⟩
              have HD69 : Aside0 (w9.cell? ⟨b5 + 1, 0, none⟩ = some (.pointer (some ⟨q, 0, none⟩))) := ⟨pw_cell_below hb9 HD6.out⟩
              have HBW9 : Aside0 (Below w.heap.size w w9) := ⟨(HBWF.out _ HG.out).trans (hb9.mono (HBWF.out _ HG.out).size)⟩
              have hr29 : w9.heap[w.heap.size]? = some (.cells #[.bool false] 4 (0, 0)) := by
                have h0 := (HB20.out.block _ (blk_lt R2.out)).trans R2.out
                have h1 := (HG.out.block w.heap.size (by omega) (by omega) (by omega)).trans h0
                exact (hb9.block _ (blk_lt h1)).trans h1
              have HR29 := Aside0.mk hr29
              obtain ⟨ys, hys⟩ : ∃ ys, numb 0 (toL T') = ys := ⟨_, rfl⟩
              have hyl : ys.length = (toL T').length := by rw [← hys, numb_len]
              have HNG : Aside0 (∀ (k : Nat) (y : NItem), ys[k]? = some y → y.1 = (k : Int) ∧ ∃ z, L[k]? = some (y.2, z)) := ⟨fun k y h => by
                rw [← hys] at h
                refine ⟨by have := numb_get 0 _ _ _ h; omega, ?_⟩
                obtain ⟨z, hz⟩ := numb_getL 0 _ _ _ h
                exact ⟨z, by rw [← HTL.out]; exact hz⟩⟩
              have hs9' : wr.heap.size < w9.heap.size := by omega
              clear HALL d5 hr29 hb9
              refine wpIn_rangeFunc_ownF (α := NItem) (F := Fence.wide) rfl h1 (gf := 23) (lb := #[.pointer (some ⟨wr.heap.size, 0, none⟩)]) rfl trivial (enters_of Try.func23 (by kernel_rfl) rfl)
                (all_stops (n - 1) wr.heap.size (.pointer a) T' w9 (by omega) hc9 hT9 hC8) K58.trans k58_b (Below.refl _ _) (fun _ => rfl)
                (fun _ W => Below w9.heap.size w9 W)
                (fun _ pre _ => ¬ pre <+: ys)
                (ownFrom_below (Nat.le_refl _) (Nat.le_refl _))
                (fun _ _ _ _ _ hs _ _ => hs)
                (Below.refl _ _)
                ?a2 ?assign ?body ?done ?stop
              case assign =>
                intro l x W K hK
                dsimp only [encN]
                gi_wp2
                exact hK
              case stop =>
                rintro D c pre W _ hp hx _
                rw [hys] at hp
                exact absurd hp hx
              case body =>
                rintro l2 pre ⟨x1, x2⟩ W hB hlt
                have HB := Aside0.mk hB
                have g5 := pw_cell_below hB HD59.out
                have g6 := pw_cell_below hB HD69.out
                have hr2 := (hB.block _ (blk_lt HR29.out)).trans HR29.out
                have hc4 : W.cell? ⟨w.heap.size, 0, none⟩ = some (.bool false) := cell_of_row _ _ _ _ _ _ hr2
                have hf4 : W.frozen? ⟨w.heap.size, 0, none⟩ = false := blk_frozen hr2 0
                have HAT := Aside0.mk (at_b q L x1 W q (HS9'.out.below hB))
                have HSW := Aside0.mk (HS9.out.below hB)
                have HHIT : Aside0 (pre ++ [(x1, x2)] <+: ys → ∃ z, AtR L x1 x2 z 0) := ⟨fun h => by
                  obtain ⟨e1, z, hz⟩ := HNG.out _ _ (prefix_get h)
                  simp only at e1 hz
                  have hlt' := (List.getElem?_eq_some_iff.1 hz).1
                  exact ⟨z, .inl ⟨by omega, by omega, by rw [e1]; exact hz, rfl⟩⟩⟩
                have HR2W := Aside0.mk hr2
                clear hr2 hB
                gi_wp2_with (refine ⟨trivial, fun h => (by simp [Fence.wide] at h), ?_⟩; gi_at_call 14; refine (CallsIn.inRound l2 (callsIn_wide.2 HAT.out)).mono ?_)
                rintro _ wA ⟨⟨it, z, er, rfl, har⟩, hbA⟩
                have HAR := Aside0.mk har
                have HBA := Aside0.mk hbA
                have g5A := pw_cell_below hbA g5
                have hr2A := (hbA.block _ (blk_lt HR2W.out)).trans HR2W.out
                have HR2A := Aside0.mk hr2A
                have HAT2 := Aside0.mk (at_b p L x1 wA p (HSW.out.below hbA))
                clear har hbA g5 g6 hc4 hf4 hr2A HAT
                gi_wp2_with (refine ⟨trivial, fun h => (by simp [Fence.wide] at h), ?_⟩; gi_at_call 14; refine (CallsIn.inRound l2 (callsIn_wide.2 HAT2.out)).mono ?_)
                rintro _ wB ⟨⟨it', z', er', rfl, har'⟩, hbB⟩
                obtain ⟨rfl, rfl, rfl⟩ := atr_det HAR.out har'
                have HBB : Aside0 (Below W.heap.size W wB) := ⟨HBA.out.trans (hbB.mono HBA.out.size)⟩
                have hr2B := (hbB.block _ (blk_lt HR2A.out)).trans HR2A.out
                have hc4 : wB.cell? ⟨w.heap.size, 0, none⟩ = some (.bool false) := cell_of_row _ _ _ _ _ _ hr2B
                have hf4 : wB.frozen? ⟨w.heap.size, 0, none⟩ = false := blk_frozen hr2B 0
                have HKO : Aside0 (KeepsOthers W wB) := ⟨⟨HBB.out.size, fun k o hk _ => (HBB.out.block _ (blk_lt hk)).trans hk⟩⟩
                clear har' hbB g5A hr2B HAT2
                by_cases her : er' = 0
                case neg =>
                  have bq : (er' == 0) = false := beq_eq_false_iff_ne.mpr her
                  gi_wp2
                  refine ⟨HKO.out.trans (KeepsOthers.setCell _ _ _), fun hpp => her ?_⟩
                  obtain ⟨z2, hz2⟩ := HHIT.out hpp
                  exact (atr_det hz2 HAR.out).2.2
                subst her
                by_cases hx2 : x2 = it'
                case neg =>
                  have bx2 : (x2.toList == it'.toList) = false := beq_eq_false_iff_ne.mpr (fun h => hx2 (by rw [Go.ByteArray.toList_eq, Go.ByteArray.toList_eq] at h; exact ByteArray.ext (Array.toList_inj.mp h)))
                  gi_wp2
                  refine ⟨HKO.out.trans (KeepsOthers.setCell _ _ _), fun hpp => hx2 ?_⟩
                  obtain ⟨z2, hz2⟩ := HHIT.out hpp
                  exact (atr_det hz2 HAR.out).1.symm
                subst hx2
                gi_wp2
                exact ⟨HKO.out, K58.of_below HBB.out, HB.out.trans (HBB.out.mono HB.out.size)⟩
              case done =>
                rintro D1 ys2 W2 hD1 hys2 hB hK1
                have hr2 := (hB.block _ (blk_lt HR29.out)).trans HR29.out
                gi_wp2_with ((refine ⟨trivial, ?_⟩; gi_at_call 8; refine (callsIn_wide.2 (wakes_c _)).mono ?_; rintro _ w15 ⟨rfl, hb15⟩; have q5 := (hb15.block _ (blk_lt hr2)).trans hr2; have c5 := cell_of_row _ _ 0 _ _ _ q5; have f5 := blk_frozen q5 0; have hK15 := (hb15.block _ (blk_lt hK1)).trans hK1))
                have hKS : (w15.setCell ⟨w.heap.size, 0, none⟩ (.bool true)).heap[D1]? = some (.deferred (some [])) := (KeepsOthers.setCell _ _ _).same D1 _ hK15 rfl
                have qS := blk_set q5 0 (.bool true)
                refine ⟨by simp, .inl ⟨_, _, rfl, run_takeDeferred hKS, ?_⟩⟩
                have hwsz := blk_lt HR29.out
                have q6 : ((w15.setCell ⟨w.heap.size, 0, none⟩ (.bool true)).putObj D1 (.deferred none)).heap[w.heap.size]? = _ := (World.putObj_heap_other (by omega)).trans qS
                have hcf := cell_of_row _ _ 0 _ _ _ q6
                refine ⟨.bool true, ?_, rfl, ?_⟩
                · simp [results, Try.f4, go_sem, hcf]
                · have hbW := (HBW9.out.trans (hB.mono HBW9.out.size)).trans (hb15.mono (by have := HBW9.out.size; have := hB.size; omega))
                  have h1 := hbW.setCell (p := ⟨w.heap.size, 0, none⟩) (by simp) (.bool true)
                  exact h1.trans (belowK_b (w := w) (Nat.le_refl _) _ D1 _ _ (by omega) hKS rfl rfl)
end Go.Proofs.Ytpchkligbfmeiaa.Se
