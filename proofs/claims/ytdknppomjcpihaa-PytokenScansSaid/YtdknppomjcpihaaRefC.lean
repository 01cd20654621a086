/- The document's Scan: what it tells is scanM's. -/
import Derived.Test.YtdknppomjcpihaaRefR
import Derived.Deep.DeepCutAuto
import Derived.Test.YtdknppomjcpihaaQa
namespace Go.Proofs.Ytdknppomjcpihaa.PPy
open Go.RowKit Go.Proofs.YtdknppomjcpihaaW.PrintWords Go.Proofs.YtdknppomjcpihaaW.PrintLast Go.Proofs.YtdknppomjcpihaaW.PrintMore
attribute [local go_sem] max2_int min2_int max_two min_two max_three min_three max_four min_four

theorem ref_end {W : World} {g B : Nat} {a0 a1 a2 a3 a4 a5 v : Value} {l : List S33} (hg : W.heap[g]? = some (.cells #[a0, a1, a2, a3, a4, a5] 27 (0, 0))) (hr : Kd.R k33 33 W B (fun _ => True) v l) (v0 v1 v2 v3 v4 v5 : Value) :
    ((((((W.setCell ⟨g, 0, none⟩ v0).setCell ⟨g, 1, none⟩ v1).setCell ⟨g, 2, none⟩ v2).setCell ⟨g, 3, none⟩ v3).setCell ⟨g, 4, none⟩ v4).setCell ⟨g, 5, none⟩ v5).heap[g]? = some (.cells #[v0, v1, v2, v3, v4, v5] 27 (0, 0)) ∧
    Kd.R k33 33 ((((((W.setCell ⟨g, 0, none⟩ v0).setCell ⟨g, 1, none⟩ v1).setCell ⟨g, 2, none⟩ v2).setCell ⟨g, 3, none⟩ v3).setCell ⟨g, 4, none⟩ v4).setCell ⟨g, 5, none⟩ v5) B (fun _ => True) v l := by
  obtain ⟨h0, r0⟩ := R_put27 hg hr 0 v0
  obtain ⟨h1, r1⟩ := R_put27 h0 r0 1 v1
  obtain ⟨h2, r2⟩ := R_put27 h1 r1 2 v2
  obtain ⟨h3, r3⟩ := R_put27 h2 r2 3 v3
  obtain ⟨h4, r4⟩ := R_put27 h3 r3 4 v4
  obtain ⟨h5, r5⟩ := R_put27 h4 r4 5 v5
  exact ⟨h5, r5⟩

set_option maxRecDepth 100000 in
set_option maxHeartbeats 4000000 in
theorem ref_w (line : ByteArray) (pos mark depth : Int) (w : World) (hz : line.size ≤ 1000000) (hm : 0 ≤ mark ∧ mark ≤ 255) (res : Rd) (hres : scanM line pos mark depth = res) :
    Calls Try.prog 11 #[.string line, .int .i64 pos, .int .u8 mark, .int .i64 depth] w fun e w' => (∃ v0_ : Value, e = .returned (.agg #[v0_, .int .u8 res.mark, .int .i64 res.depth, .bool res.join, .bool res.any, .bool res.colon]) ∧ Kd.R k33 33 w' w.heap.size (fun _ => True) v0_ res.ev) ∧ Below w.heap.size w w' := by
  obtain ⟨L, hL⟩ : ∃ L, lineOf line = L := ⟨_, rfl⟩
  have hL2 := lineOf_end line
  have hLs := lineOf_size line
  rw [hL] at hL2 hLs
  have HL := Aside0.mk hL
  have HRES := Aside0.mk hres
  obtain ⟨en, hen⟩ : ∃ en, endOf line = en := ⟨_, rfl⟩
  have hE := endOf_bd line
  rw [hen] at hL2 hE
  have HL2 := Aside0.mk hL2.symm
  have HEN := Aside0.mk hen
  have p0 : 0 ≤ en := hE.1
  have q0 : en ≤ (line.size : Int) := hE.2
  replace p0 := eq_true p0
  replace q0 := eq_true q0
  clear hL hres hL2 hE hen
  go_enter Try.func11, Try.ntmps11
  go_wp2_with (fail)
  refine (refEnd_c line hz _).mono ?_
  rintro _ w1 ⟨rfl, hb⟩
  rw [HEN.out]
  have hl2 := HL2.out
  obtain ⟨W0, hW0⟩ : ∃ W0, w.alloc (.cells #[.slice none 0 0, .int .u8 0, .int .i64 0, .bool false, .bool false, .bool false] 27) = W0 := ⟨_, rfl⟩
  rw [hW0] at hb
  have hr0 : w1.heap[w.heap.size]? = some (.cells #[.slice none 0 0, .int .u8 0, .int .i64 0, .bool false, .bool false, .bool false] 27 (0, 0)) :=
    (hb.block _ (by rw [← hW0, World.size_alloc]; omega)).trans (by rw [← hW0]; exact heap_alloc_new _ _)
  have hs1 : w.heap.size < w1.heap.size := by have := hb.size; rw [← hW0, World.size_alloc] at this; omega
  have hb0 : Below w.heap.size w w1 := ((Below.refl _ w).alloc (Nat.le_refl _) (.cells #[.slice none 0 0, .int .u8 0, .int .i64 0, .bool false, .bool false, .bool false] 27)).trans (by rw [hW0]; exact hb.mono (by rw [← hW0, World.size_alloc]; omega))
  have HR0 := Aside0.mk hr0
  have HB0 := Aside0.mk hb0
  clear hb hr0 hb0 hW0
  go_upto_region 3 with (fail)
  obtain ⟨W1, hW1⟩ : ∃ W1, w1.alloc (.cells #[.slice none 0 0, .int .u8 0, .int .i64 0, .bool false, .bool false, .bool false] 27) = W1 := ⟨_, rfl⟩
  rw [hW1]
  obtain ⟨g, hg⟩ : ∃ g, w1.heap.size = g := ⟨_, rfl⟩
  rw [hg] at hs1 ⊢
  have hnew : W1.heap[g]? = some (.cells #[.slice none 0 0, .int .u8 0, .int .i64 0, .bool false, .bool false, .bool false] 27 (0, 0)) := by rw [← hW1, ← hg]; exact heap_alloc_new _ _
  have H1 : Aside0 (OutAt g W1 g ⟨L, 0, [], 0, 0, false, false, false⟩) := ⟨⟨Nat.le_refl _, .slice none 0 0, hnew, Kd.R_nil _ _ _ _ _⟩⟩
  have HR1 : Aside0 (W1.heap[w.heap.size]? = some (.cells #[.slice none 0 0, .int .u8 0, .int .i64 0, .bool false, .bool false, .bool false] 27 (0, 0))) := ⟨by rw [← hW1]; exact (heap_alloc_old w1 _ (by omega)).trans HR0.out⟩
  have HB1 : Aside0 (Below w.heap.size w W1) := ⟨by rw [← hW1]; exact HB0.out.alloc (by omega) _⟩
  clear hW1 hg hnew HR0 HB0 hl2 p0 q0
  obtain ⟨A, c, hr, hh, c0, c1, c2, c3, c4, c5, hf⟩ := H1.out.open
  clear hr hh c0 c2 c3 c4 c5
  obtain ⟨pp, hpp⟩ : ∃ p0, (if pos < 0 then 0 else pos) = p0 := ⟨_, rfl⟩
  obtain ⟨d0, hd0⟩ : ∃ d0, (if depth < 0 then 0 else if depth ≤ 1048576 then depth else 1048576) = d0 := ⟨_, rfl⟩
  obtain ⟨m0, hm0⟩ : ∃ m0, (if mark ≤ 4 then mark else 0) = m0 := ⟨_, rfl⟩
  have HP0 := Aside0.mk hpp
  have HD0 := Aside0.mk hd0
  have HM0 := Aside0.mk hm0
  clear hpp hd0 hm0
  go_upto_if 25 with (fail)
  obtain ⟨ib, hib⟩ : ∃ ib, decide (mark ≤ 4) = ib := ⟨_, rfl⟩
  rw [hib]
  have HIB := Aside0.mk hib
  clear hib
  go_cut [] (fun wc => Aside0 (OutAt g wc g ⟨L, 0, [], m0, 0, false, false, false⟩) ∧ Aside0 (Below g W1 wc))
  case first =>
    as_aux_lemma =>
      cases ib with
      | true =>
        have hm0 := HM0.out
        rw [if_pos (of_decide_eq_true HIB.out)] at hm0
        have HM1 := Aside0.mk hm0
        clear hm0
        go_wp2_with (fail)
        go_meet
        case rel => exact ⟨⟨by rw [← HM1.out]; exact H1.out.setMark mark⟩, ⟨(Below.refl _ _).setCell (p := ⟨g, 1, none⟩) (Nat.le_refl _) _⟩⟩
      | false =>
        have hm0 := HM0.out
        rw [if_neg (of_decide_eq_false HIB.out)] at hm0
        have HM1 := Aside0.mk hm0
        clear hm0
        go_wp2_with (fail)
        go_meet
        case rel => exact ⟨⟨by rw [← HM1.out]; exact H1.out⟩, ⟨Below.refl _ _⟩⟩
  case rest =>
    as_aux_lemma =>
      clear H1 c1 hf
      obtain ⟨H1, HB2⟩ := hcut
      obtain ⟨A, c, hr, hh, c0, c1, c2, c3, c4, c5, hf⟩ := H1.out.open
      clear hr hh c0 c1 c3 c4 c5
      go_upto_if 31 with (fail)
      have H2 := Aside0.mk (H1.out.setDepth depth)
      have HB3 : Aside0 (Below g W1 (wc.setCell ⟨g, 2, none⟩ (.int .i64 depth))) := ⟨HB2.out.setCell (p := ⟨g, 2, none⟩) (Nat.le_refl _) _⟩
      obtain ⟨W3, hW3⟩ : ∃ W3, wc.setCell ⟨g, 2, none⟩ (.int .i64 depth) = W3 := ⟨_, rfl⟩
      rw [hW3] at H2 HB3 ⊢
      clear hW3 H1 HB2 c2 hf
      obtain ⟨A, c, hr, hh, c0, c1, c2, c3, c4, c5, hf⟩ := H2.out.open
      clear hr hh c0 c1 c3 c4 c5
      obtain ⟨ib2, hib2⟩ : ∃ ib, decide (depth < 0) = ib := ⟨_, rfl⟩
      rw [hib2]
      have HIB2 := Aside0.mk hib2
      clear hib2
      go_cut [] (fun wc => Aside0 (OutAt g wc g ⟨L, 0, [], m0, if depth < 0 then 0 else depth, false, false, false⟩) ∧ Aside0 (Below g W1 wc))
      case first =>
        as_aux_lemma =>
          cases ib2 with
          | true =>
            go_wp2_with (fail)
            go_meet
            case rel => exact ⟨⟨by rw [if_pos (of_decide_eq_true HIB2.out)]; exact H2.out.setDepth 0⟩, ⟨HB3.out.setCell (p := ⟨g, 2, none⟩) (Nat.le_refl _) _⟩⟩
          | false =>
            go_wp2_with (fail)
            go_meet
            case rel => exact ⟨⟨by rw [if_neg (of_decide_eq_false HIB2.out)]; exact H2.out⟩, HB3⟩
      case rest =>
        as_aux_lemma =>
          clear H2 HB3 c2 hf
          obtain ⟨H2, HB3⟩ := hcut
          obtain ⟨A, c, hr, hh, c0, c1, c2, c3, c4, c5, hf⟩ := H2.out.open
          clear hr hh c0 c1 c3 c4 c5
          obtain ⟨dd, hdd⟩ : ∃ dd, (if depth < 0 then 0 else depth) = dd := ⟨_, rfl⟩
          rw [hdd] at c2 H2
          have HDD := Aside0.mk hdd
          clear hdd
          go_upto_if 34 with (fail)
          obtain ⟨ib3, hib3⟩ : ∃ ib, decide (1048576 < depth) = ib := ⟨_, rfl⟩
          try rw [hib3]
          have HIB3 := Aside0.mk hib3
          clear hib3
          go_cut [] (fun wc => Aside0 (OutAt g wc g ⟨L, 0, [], m0, d0, false, false, false⟩) ∧ Aside0 (Below g W1 wc))
          case first =>
            as_aux_lemma =>
              cases ib3 with
              | true =>
                have e : Aside0 (d0 = 1048576) := ⟨by have := of_decide_eq_true HIB3.out; rw [← HD0.out, if_neg (by omega), if_neg (by omega)]⟩
                go_wp2_with (fail)
                go_meet
                case rel => exact ⟨⟨by rw [e.out]; exact H2.out.setDepth 1048576⟩, ⟨HB3.out.setCell (p := ⟨g, 2, none⟩) (Nat.le_refl _) _⟩⟩
              | false =>
                have e : Aside0 (d0 = dd) := ⟨by have := of_decide_eq_false HIB3.out; rw [← HD0.out, ← HDD.out]; (repeat' split) <;> omega⟩
                go_wp2_with (fail)
                go_meet
                case rel => exact ⟨⟨by rw [e.out]; exact H2.out⟩, HB3⟩
          case rest =>
            as_aux_lemma =>
              clear H2 HB3 c2 hf
              obtain ⟨H2, HB3⟩ := hcut
              go_upto_block 0 with (fail)
              rw [HP0.out]
              obtain ⟨r0, hr0⟩ : ∃ r0 : Rd, r0 = Rd.init line pos mark depth := ⟨_, rfl⟩
              have e1 : r0.s = L := by rw [hr0]; exact HL.out
              have e2 : r0.pos = pp := by rw [hr0]; exact HP0.out
              have e3 : r0.Ok := by rw [hr0]; exact Rd.Ok.init hz hm.1
              have e4 : scanL (L.size + 1) r0 = res := by rw [hr0, ← HRES.out, ← HL.out]; rfl
              have H3 : Aside0 (OutAt g wc g r0) := ⟨H2.out.same (by rw [hr0]; rfl) (by rw [hr0]; exact HM0.out) (by rw [hr0]; exact HD0.out) (by rw [hr0]; rfl) (by rw [hr0]; rfl) (by rw [hr0]; rfl)⟩
              have HOK := Aside0.mk e3
              have HS := Aside0.mk e1
              have HSC := Aside0.mk e4
              have hpp : 0 ≤ pp := by rw [← e2]; exact e3.p0
              rw [← e2]
              clear e1 e3 e4 hr0 H2 e2 HIB HIB2 HIB3 HD0 HM0 HP0 HDD HL HL2 HRES HEN hpp
              go_wp2_with (fail)
              go_loopg [11] (L.size + 1) (fun gk v11 wr => ∃ (r : Rd), v11 = .int .i64 r.pos ∧ Aside0 (OutAt g wr g r) ∧ Aside0 (Below g W1 wr) ∧ Aside0 r.Ok ∧ Aside0 (r.s = L) ∧ Aside0 ((L.size : Int) + 1 - r.pos ≤ gk) ∧ Aside0 (res = scanL gk r))
              case atStart => exact ⟨r0, rfl, H3, HB3, HOK, HS, ⟨by have := HOK.out.p0; omega⟩, ⟨HSC.out.symm⟩⟩
              case round =>
                rename_i J9 K9 hJ9 hK9
                as_aux_lemma =>
                  clear H3 HB3 HOK HS HSC
                  obtain ⟨r, rfl, H1, HB, HOK, HS, HG, HT⟩ := hrel
                  have hp0 := HOK.out.p0
                  by_cases hlt : r.pos < (L.size : Int)
                  · obtain ⟨gn, rfl⟩ : ∃ gn, gk = gn + 1 := ⟨gk - 1, by have := HG.out; omega⟩
                    have hstep := HOK.out.step (by rw [HS.out]; exact hlt)
                    have ht := HT.out
                    simp only [scanL] at ht
                    rw [if_pos (by rw [HS.out]; exact hlt)] at ht
                    have HT2 := Aside0.mk ht
                    have HSTEP := Aside0.mk hstep
                    have HLT := Aside0.mk hlt
                    clear ht hstep HT
                    exact ref_in _ _ _ _ _ _ _ _ _ _ _ _ _ _ _ _ _ _ _ _ _ _ _ _ _ _ _ _ _ _ _ _ _ _ _ _ _ _ _ _ _ _ _ _ _ _ _ _ _ _ _ _ _ _ _ _ _ _ _ _ _ _ _ _ _ _ _ _ _ _ _ _ _ _ _ _ _ _ _ _ _ _ _ _ _ _ _ _ _ _ _ _ _ _ _ _ _ _ _ _ _ _ _ _ _ _ _ _ _ _ _ _ _ _ _ _ _ _ _ _ _ _ _ _ _ _ _ _ _ _ _ _ _ _ _ _ _ _ _ _ _ _ _ _ _ _ _ _ _ _ _ _ _ _ _ _ _ _ _ _ _ _ _ _ _ _ _ _ _ _ _ _ _ _ _ _ _ _ _ _ _ _ _ _ _ _ _ _ _ _ _ _ _ _ _ _ _ _ _ _ _ _ _ _ _ _ _ _ _ _ _ _ _ _ _ _ _ _ _ _ _ _ _ _ _ _ _ _ _ _ _ _ _ _ _ _ _ _ _ _ _ _ _ _ _ _ _ _ line pos mark depth w res L g W1 r0 r HOK HS hp0 hlt gn J9 K9 hJ9 hK9 HG HT2 HSTEP (by omega) _ wr H1 HB _ (by kernel_rfl)
                  · have b1 : decide (r.pos < (L.size : Int)) = false := decide_eq_false hlt
                    have HF : Aside0 (res = r) := ⟨by
                      rw [HT.out]
                      cases gk with
                      | zero => rfl
                      | succ g => simp only [scanL]; rw [if_neg (by rw [HS.out]; exact hlt)]⟩
                    clear HT hlt
                    have hrb : wr.heap[w.heap.size]? = some (.cells #[.slice none 0 0, .int .u8 0, .int .i64 0, .bool false, .bool false, .bool false] 27 (0, 0)) := (HB.out.block _ hs1).trans HR1.out
                    have e0 : wr.cell? ⟨w.heap.size, 0, none⟩ = some (.slice none 0 0) := cell_of_row wr _ _ _ _ _ hrb
                    have e1 : wr.cell? ⟨w.heap.size, 1, none⟩ = some (.int .u8 0) := cell_of_row wr _ _ _ _ _ hrb
                    have e2 : wr.cell? ⟨w.heap.size, 2, none⟩ = some (.int .i64 0) := cell_of_row wr _ _ _ _ _ hrb
                    have e3 : wr.cell? ⟨w.heap.size, 3, none⟩ = some (.bool false) := cell_of_row wr _ _ _ _ _ hrb
                    have e4 : wr.cell? ⟨w.heap.size, 4, none⟩ = some (.bool false) := cell_of_row wr _ _ _ _ _ hrb
                    have e5 : wr.cell? ⟨w.heap.size, 5, none⟩ = some (.bool false) := cell_of_row wr _ _ _ _ _ hrb
                    have ef : ∀ j, wr.frozen? ⟨w.heap.size, j, none⟩ = false := fun j => frozen_of_row wr _ j _ _ hrb
                    have HRB := Aside0.mk hrb
                    obtain ⟨A, c, hr, hh, c0, c1, c2, c3, c4, c5, hf⟩ := H1.out.open
                    have HRR := Aside0.mk hr
                    clear hrb hr hh
                    go_wp2_with (fail)
                    obtain ⟨hg, hR⟩ := ref_end HRB.out HRR.out (.slice A r.ev.length c) (.int .u8 r.mark) (.int .i64 r.depth) (.bool r.join) (.bool r.any) (.bool r.colon)
                    refine bodyPost_ret (results_cell_row rfl _ _ w.heap.size 27 _ (0, 0) _ rfl hg Try.underlying27 rfl (by kernel_rfl)) rfl ?_
                    rw [HF.out]
                    refine ⟨⟨_, rfl, Kd.R_lower hR (by omega)⟩, ?_⟩
                    exact ((((((HB1.out.trans (HB.out.mono (by omega))).setCell (p := ⟨w.heap.size, 0, none⟩) (Nat.le_refl _) _).setCell (p := ⟨w.heap.size, 1, none⟩) (Nat.le_refl _) _).setCell (p := ⟨w.heap.size, 2, none⟩) (Nat.le_refl _) _).setCell (p := ⟨w.heap.size, 3, none⟩) (Nat.le_refl _) _).setCell (p := ⟨w.heap.size, 4, none⟩) (Nat.le_refl _) _).setCell (p := ⟨w.heap.size, 5, none⟩) (Nat.le_refl _) _

end Go.Proofs.Ytdknppomjcpihaa.PPy

namespace Go.Proofs.Ytdknppomjcpihaa.PPy
open Go.RowKit Go.Proofs.YtdknppomjcpihaaW.PrintWords Go.Proofs.YtdknppomjcpihaaW.PrintLast Go.Proofs.YtdknppomjcpihaaW.PrintMore

def indentureref11_Scan.f (a0 : ByteArray) (a1 a2 a3 : Int) : Option (List S33 × Int × Int × Bool × Bool × Bool) := pytoken_Scan.f a0 a1 a2 a3
theorem indentureref11_Scan.calls (a0 : ByteArray) (a1 a2 a3 : Int) (r0 : List S33) (r1 r2 : Int) (r3 r4 r5 : Bool) (w : World) (h : indentureref11_Scan.f a0 a1 a2 a3 = some (r0, r1, r2, r3, r4, r5)) :
    Calls Try.prog 11 #[.string a0, .int .i64 a1, .int .u8 a2, .int .i64 a3] w fun e w' => ∃ v0_ : Value, e = .returned (.agg #[v0_, .int .u8 r1, .int .i64 r2, .bool r3, .bool r4, .bool r5]) ∧ Kd.R k33 33 w' w.heap.size (fun _ => True) v0_ r0 ∧ Below w.heap.size w w' := by
  obtain ⟨r, hr⟩ : ∃ r, scanM a0 a1 a2 a3 = r := ⟨_, rfl⟩
  unfold indentureref11_Scan.f at h
  by_cases hc : a0.size ≤ 1000000 ∧ 0 ≤ a2 ∧ a2 ≤ 255
  · rw [pytoken_Scan.is a0 a1 a2 a3 hc.1 hc.2.1 hc.2.2 r hr] at h
    obtain ⟨rfl, rfl, rfl, rfl, rfl, rfl⟩ := by simpa using h
    exact (ref_w a0 a1 a2 a3 w hc.1 hc.2 r hr).mono fun e w' ⟨⟨v, h1, h2⟩, h3⟩ => ⟨v, h1, h2, h3⟩
  · unfold pytoken_Scan.f at h
    rw [if_neg hc] at h
    exact absurd h (by simp)

end Go.Proofs.Ytdknppomjcpihaa.PPy
