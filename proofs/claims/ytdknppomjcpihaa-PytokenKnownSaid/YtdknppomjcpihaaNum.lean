/- (*reader).number: the reader behind it. -/
import Derived.Test.YtdknppomjcpihaaSmall
import Derived.Test.YtdknppomjcpihaaBel
import Derived.Deep.DeepCutAuto
namespace Go.Proofs.Ytdknppomjcpihaa.PPy
open Go.RowKit Go.Proofs.YtdknppomjcpihaaW.PrintWords Go.Proofs.YtdknppomjcpihaaW.PrintLast Go.Proofs.YtdknppomjcpihaaW.PrintMore

theorem radix_idx (c : Int) (h : 0 ≤ c ∧ c ≤ 255) : decide (Lib.indexByte [120, 88, 98, 66, 111, 79] c.toNat.toUInt8 < 0) = !radixB c := by
  have e : ∀ n : Nat, n < 256 → decide (Lib.indexByte [120, 88, 98, 66, 111, 79] n.toUInt8 < 0) = !radixB (n : Int) := by decide +kernel
  have := e c.toNat (by omega)
  rwa [Int.toNat_of_nonneg h.1] at this

theorem bt_nat (s : ByteArray) (i : Nat) (h : i < s.size) : ((s[i]'h).toNat : Int) = bt s (i : Int) := by unfold bt; simp [h]

def sgB (sg : Bool) (p c : Int) : Bool := (decide (c = 43) || decide (c = 45)) && (sg && decide (smallB p = 101))

set_option maxRecDepth 100000 in
set_option maxHeartbeats 4000000 in
theorem number_c (B b : Nat) (w : World) (r : Rd) (h : RdAt B w b r) (hl : r.ev.length ≤ 1000000) (h0 : 0 ≤ r.pos) (h1 : r.pos < (r.s.size : Int)) (hs : r.s.size ≤ 1000000) :
    Calls Try.prog 24 #[.pointer (some ⟨b, 0, none⟩)] w fun en w' => en = .returned (.bool (numB r.rest)) ∧ RdAt B w' b (if numB r.rest = true then r.number else r) ∧ Below B w w' ∧ (¬ (numB r.rest = true) → Below w.heap.size w w') := by
  have H := Aside0.mk h
  have hrs := rest_c B b w r h h0 (by omega)
  have hsz : r.rest.size = r.s.size - r.pos.toNat := by unfold Rd.rest; rw [ByteArray.size_extract]; omega
  unfold Rd.number
  rw [show r.s.extract r.pos.toNat r.s.size = r.rest from rfl] at hrs
  obtain ⟨q, hq⟩ : ∃ q, r.rest = q := ⟨_, rfl⟩
  rw [hq] at hrs hsz ⊢
  have hz1 : 1 ≤ q.size := by omega
  have hz2 : q.size ≤ 1000000 := by omega
  have HZ := Aside0.mk (show r.pos + (q.size : Int) ≤ (r.s.size : Int) by omega)
  have HRS := Aside0.mk hrs
  obtain ⟨nb, hnb⟩ : ∃ nb, numB q = nb := ⟨_, rfl⟩
  obtain ⟨sg, hsg⟩ : ∃ sg, signsB q = sg := ⟨_, rfl⟩
  rw [hnb, hsg]
  obtain ⟨T0, hT0⟩ : ∃ T0, numEnd (r.s.size + 1) q sg 1 = T0 := ⟨_, rfl⟩
  rw [hT0]
  have HT0 := Aside0.mk hT0
  clear hT0
  have HNB := Aside0.mk hnb
  have HSG := Aside0.mk hsg
  clear h hrs hsz hq hnb hsg
  go_enter Try.func24, Try.ntmps24
  go_wp2_with (fail)
  refine HRS.out.mono ?_
  rintro _ w1 ⟨rfl, hd⟩
  have H1 := Aside0.mk (H.out.drawn hd)
  have HB1 : Aside0 (Bel B w w1) := ⟨drawn_below hd, drawn_below hd⟩
  clear hd H HRS
  go_upto_region 2 with (fail)
  go_cut [29] (fun v wc => v = .bool (!nb) ∧ Aside0 (RdAt B wc b r) ∧ Aside0 (Bel B w wc))
  case first =>
    have hx0 : ((q[0]'(by omega)).toNat : Int) = bt q 0 := bt_nat q 0 (by omega)
    have q0 : (0 : Int) < (q.size : Int) := by omega
    replace q0 := eq_true q0
    cases hd0 : digitB (bt q 0) with
    | true =>
      have HD0 := Aside0.mk hd0
      have hnb := HNB.out
      rw [numB, hd0, Bool.true_or] at hnb
      subst hnb
      clear hd0
      go_wp2_with (fail)
      refine (digit_c _ _).mono ?_
      rintro _ w2 ⟨rfl, hd⟩
      rw [HD0.out]
      have H2 := Aside0.mk (H1.out.drawn hd)
      have HB2 := Aside0.mk (HB1.out.trans (drawn_below hd))
      clear hd
      go_wp2_with (fail)
      go_meet
      case rel => exact ⟨rfl, H2, HB2⟩
    | false =>
      have HD0 := Aside0.mk hd0
      have hnb := HNB.out
      rw [numB, hd0, Bool.false_or] at hnb
      clear hd0
      by_cases h46 : bt q 0 = 46
      · have h46b : (bt q 0 != 46) = false := bne_eq_false_iff_eq.mpr h46
        rw [decide_eq_true h46, Bool.true_and] at hnb
        clear h46
        by_cases hz : 2 ≤ q.size
        · rw [decide_eq_true hz, Bool.true_and] at hnb
          have hx1 : ((q[1]'(by omega)).toNat : Int) = bt q 1 := bt_nat q 1 (by omega)
          have q1 : (1 : Int) < (q.size : Int) := by omega
          have qz : decide ((q.size : Int) < 2) = false := decide_eq_false (by omega)
          have qz2 : decide (q.size < 2) = false := decide_eq_false (by omega)
          replace q1 := eq_true q1
          go_wp2_with (fail)
          refine (digit_c _ _).mono ?_
          rintro _ w2 ⟨rfl, hd⟩
          rw [HD0.out]
          have H2 := Aside0.mk (H1.out.drawn hd)
          have HB2 := Aside0.mk (HB1.out.trans (drawn_below hd))
          clear hd
          have HN := Aside0.mk hnb
          clear hnb
          go_wp2_with (fail)
          refine (digit_c _ _).mono ?_
          rintro _ w3 ⟨rfl, hd⟩
          rw [HN.out]
          have H3 := Aside0.mk (H2.out.drawn hd)
          have HB3 := Aside0.mk (HB2.out.trans (drawn_below hd))
          clear hd
          go_wp2_with (fail)
          go_meet
          case rel => exact ⟨rfl, H3, HB3⟩
        · rw [decide_eq_false hz, Bool.false_and] at hnb
          subst hnb
          have qz : decide ((q.size : Int) < 2) = true := decide_eq_true (by omega)
          have qz2 : decide (q.size < 2) = true := decide_eq_true (by omega)
          go_wp2_with (fail)
          refine (digit_c _ _).mono ?_
          rintro _ w2 ⟨rfl, hd⟩
          rw [HD0.out]
          have H2 := Aside0.mk (H1.out.drawn hd)
          have HB2 := Aside0.mk (HB1.out.trans (drawn_below hd))
          clear hd
          go_wp2_with (fail)
          go_meet
          case rel => exact ⟨rfl, H2, HB2⟩
      · have h46b : (bt q 0 != 46) = true := bne_iff_ne.mpr h46
        rw [decide_eq_false h46, Bool.false_and] at hnb
        subst hnb
        clear h46
        go_wp2_with (fail)
        refine (digit_c _ _).mono ?_
        rintro _ w2 ⟨rfl, hd⟩
        rw [HD0.out]
        have H2 := Aside0.mk (H1.out.drawn hd)
        have HB2 := Aside0.mk (HB1.out.trans (drawn_below hd))
        clear hd
        go_wp2_with (fail)
        go_meet
        case rel => exact ⟨rfl, H2, HB2⟩
  case rest =>
    clear H1 HB1 HNB
    obtain ⟨rfl, H1, HB1⟩ := hcut
    cases nb with
    | false =>
      go_wp2_with (fail)
      go_ret
      exact ⟨rfl, H1.out, HB1.out.1, HB1.out.2⟩
    | true =>
      have HB2 := Aside0.mk HB1.out.1
      clear HB1
      have HB1 := HB2
      clear HB2
      go_upto_region 4 with (fail)
      go_cut [4] (fun v wc => v = .bool sg ∧ Aside0 (RdAt B wc b r) ∧ Aside0 (Below B w wc))
      case first =>
        have hsg := HSG.out
        rw [signsB] at hsg
        by_cases hz : q.size < 2
        · rw [decide_eq_true hz, Bool.true_or] at hsg
          subst hsg
          have qz : decide ((q.size : Int) < 2) = true := decide_eq_true (by omega)
          have qz2 : decide (q.size < 2) = true := decide_eq_true hz
          go_wp2_with (fail)
          go_meet
          case rel => exact ⟨rfl, H1, HB1⟩
        · rw [decide_eq_false hz, Bool.false_or] at hsg
          have qz : decide ((q.size : Int) < 2) = false := decide_eq_false (by omega)
          have qz2 : decide (q.size < 2) = false := decide_eq_false hz
          have hx1 : ((q[1]'(by omega)).toNat : Int) = bt q 1 := bt_nat q 1 (by omega)
          have q1 : (1 : Int) < (q.size : Int) := by omega
          replace q1 := eq_true q1
          have hri := Aside0.mk ((radix_idx _ (bt_range q 1)).trans hsg)
          clear hsg
          go_wp2_with (fail)
          refine (Try.strings_IndexByte _ _ _).mono ?_
          rintro _ w2 ⟨rfl, rfl⟩
          go_wp2_with (fail)
          go_meet
          case rel => exact ⟨congrArg Value.bool hri.out, H1, HB1⟩
      case rest =>
        clear H1 HB1 HSG
        obtain ⟨rfl, H1, HB1⟩ := hcut
        go_wp2_with (fail)
        go_loopg [5] (r.s.size + 1) (fun g v5 wr => ∃ (i : Int), v5 = .int .i64 i ∧ Aside0 (RdAt B wr b r) ∧ Aside0 (Below B w wr) ∧ 1 ≤ i ∧ i ≤ (q.size : Int) ∧ Aside0 ((q.size : Int) + 1 - i ≤ g) ∧ Aside0 (T0 = numEnd g q sg i))
        case atStart => exact ⟨1, rfl, H1, HB1, by omega, by omega, ⟨by have := HZ.out; omega⟩, ⟨HT0.out.symm⟩⟩
        case round =>
          clear H1 HB1
          obtain ⟨i, rfl, H1, HB, hi0, hi1, HG, HT⟩ := hrel
          obtain ⟨g, rfl⟩ : ∃ g, gk = g + 1 := ⟨gk - 1, by have := HG.out; omega⟩
          have HG1 : Aside0 ((q.size : Int) + 1 - (i + 1) ≤ g) := ⟨by have := HG.out; omega⟩
          have ht := HT.out
          simp only [numEnd] at ht
          clear HT HG
          by_cases hlt : i < (q.size : Int)
          · rw [if_pos hlt] at ht
            have HT := Aside0.mk ht
            clear ht
            have hx := bt_at q i
            have p : 0 ≤ i := by omega
            have q0 : i < (q.size : Int) := hlt
            replace p := eq_true p
            replace q0 := eq_true q0
            go_upto_region 8 with (fail)
            obtain ⟨c, hc⟩ : ∃ c, bt q i = c := ⟨_, rfl⟩
            obtain ⟨pc, hpc⟩ : ∃ pc, bt q (i - 1) = pc := ⟨_, rfl⟩
            have hcr := bt_range q i
            have hpr := bt_range q (i - 1)
            rw [hc] at hcr
            rw [hpc] at hpr
            have ht := HT.out
            rw [hc, hpc] at ht
            have HT := Aside0.mk ht
            have HC := Aside0.mk hc
            clear ht
            rw [hc]
            go_cut [7] (fun v wc => v = .bool (sgB sg pc c) ∧ Aside0 (RdAt B wc b r) ∧ Aside0 (Below B w wc))
            case first =>
              clear HT
              have hsb : sgB sg pc c = ((decide (c = 43) || decide (c = 45)) && (sg && decide (smallB pc = 101))) := rfl
              have hd43 : decide (c = 43) = (c == 43) := by rw [Bool.eq_iff_iff]; simp
              have hd45 : decide (c = 45) = (c == 45) := by rw [Bool.eq_iff_iff]; simp
              rw [hd43, hd45] at hsb
              clear hd43 hd45
              cases sg with
              | false =>
                rw [Bool.false_and, Bool.and_false] at hsb
                have HSB := Aside0.mk hsb
                clear hsb
                by_cases e1 : c = 43
                · have b1 : (c == 43) = true := beq_iff_eq.mpr e1
                  clear e1
                  go_wp2_with (fail)
                  go_meet
                  case rel => exact ⟨congrArg Value.bool HSB.out.symm, H1, HB⟩
                · have b1 : (c == 43) = false := beq_eq_false_iff_ne.mpr e1
                  by_cases e2 : c = 45
                  · have b2 : (c == 45) = true := beq_iff_eq.mpr e2
                    clear e1 e2
                    go_wp2_with (fail)
                    go_meet
                    case rel => exact ⟨congrArg Value.bool HSB.out.symm, H1, HB⟩
                  · have b2 : (c == 45) = false := beq_eq_false_iff_ne.mpr e2
                    clear e1 e2
                    go_wp2_with (fail)
                    go_meet
                    case rel => exact ⟨congrArg Value.bool HSB.out.symm, H1, HB⟩
              | true =>
                rw [Bool.true_and] at hsb
                have hd : decide (smallB pc = 101) = (smallB pc == 101) := by rw [Bool.eq_iff_iff]; simp
                rw [hd] at hsb
                clear hd
                obtain ⟨j, hj⟩ : ∃ j, i - 1 = j := ⟨_, rfl⟩
                have hxj := bt_at q j
                rw [hj] at hpc
                rw [hpc] at hxj
                have pj : 0 ≤ j := by omega
                have qj : j < (q.size : Int) := by omega
                replace pj := eq_true pj
                replace qj := eq_true qj
                have HPC := Aside0.mk hpc
                clear hpc
                have hcase : (c == 43) = true ∨ ((c == 43) = false ∧ (c == 45) = true) ∨ ((c == 43) = false ∧ (c == 45) = false) := by
                  cases (c == 43) <;> cases (c == 45) <;> simp
                rcases hcase with b1 | ⟨b1, b2⟩ | ⟨b1, b2⟩
                · rw [b1, Bool.true_or, Bool.true_and] at hsb
                  have HSB := Aside0.mk hsb
                  clear hsb
                  go_wp2_with (fail)
                  refine (small_c _ _ hpr).mono ?_
                  rintro _ w2 ⟨rfl, hd⟩
                  have H2 := Aside0.mk (H1.out.drawn hd)
                  have HB2 := Aside0.mk (HB.out.trans (drawn_below hd))
                  clear hd
                  go_wp2_with (fail)
                  go_meet
                  case rel => exact ⟨congrArg Value.bool HSB.out.symm, H2, HB2⟩
                · rw [b1, b2, Bool.false_or, Bool.true_and] at hsb
                  have HSB := Aside0.mk hsb
                  clear hsb
                  go_wp2_with (fail)
                  refine (small_c _ _ hpr).mono ?_
                  rintro _ w2 ⟨rfl, hd⟩
                  have H2 := Aside0.mk (H1.out.drawn hd)
                  have HB2 := Aside0.mk (HB.out.trans (drawn_below hd))
                  clear hd
                  go_wp2_with (fail)
                  go_meet
                  case rel => exact ⟨congrArg Value.bool HSB.out.symm, H2, HB2⟩
                · rw [b1, b2, Bool.false_or, Bool.false_and] at hsb
                  have HSB := Aside0.mk hsb
                  clear hsb
                  go_wp2_with (fail)
                  go_meet
                  case rel => exact ⟨congrArg Value.bool HSB.out.symm, H1, HB⟩
            case rest =>
              clear H1 HB
              obtain ⟨rfl, H1, HB⟩ := hcut
              obtain ⟨sgn, hsgn⟩ : ∃ sgn, sgB sg pc c = sgn := ⟨_, rfl⟩
              rw [hsgn]
              have hns : numStop sg pc c = (!(letterB c && decide (c < 128)) && (!digitB c && (!decide (c = 46) && !sgn))) := by rw [← hsgn]; rfl
              obtain ⟨ns, hns2⟩ : ∃ ns, numStop sg pc c = ns := ⟨_, rfl⟩
              rw [hns2] at hns
              have ht := HT.out
              rw [hns2] at ht
              have HT := Aside0.mk ht
              clear ht hns2 hsgn
              go_upto_region 9 with (fail)
              go_cut [82] (fun v wc => v = .bool ns ∧ Aside0 (RdAt B wc b r) ∧ Aside0 (Below B w wc))
              case first =>
                clear HT
                have HNS := Aside0.mk hns
                clear hns
                cases hlv : letterB c with
                | true =>
                  have HLV := Aside0.mk hlv
                  by_cases h128 : c < 128
                  · have b1 : decide (c < 128) = true := decide_eq_true h128
                    have HN2 := Aside0.mk (show ns = false by rw [HNS.out, hlv, b1]; rfl)
                    clear hlv h128
                    go_wp2_with (fail)
                    refine (letter_c _ _ hcr).mono ?_
                    rintro _ w2 ⟨rfl, hd⟩
                    rw [HLV.out]
                    have H2 := Aside0.mk (H1.out.drawn hd)
                    have HB2 := Aside0.mk (HB.out.trans (drawn_below hd))
                    clear hd
                    go_wp2_with (fail)
                    go_meet
                    case rel => exact ⟨congrArg Value.bool (HN2.out.symm), H2, HB2⟩
                  · have b1 : decide (c < 128) = false := decide_eq_false h128
                    have e46 : decide (c = 46) = false := decide_eq_false (by omega)
                    have b46 : (c != 46) = true := bne_iff_ne.mpr (by omega)
                    cases hdv : digitB c with
                    | true =>
                      have HDV := Aside0.mk hdv
                      have HN2 := Aside0.mk (show ns = false by rw [HNS.out, hlv, b1, hdv]; rfl)
                      clear hlv hdv e46
                      go_wp2_with (fail)
                      refine (letter_c _ _ hcr).mono ?_
                      rintro _ w2 ⟨rfl, hd⟩
                      rw [HLV.out]
                      have H2 := Aside0.mk (H1.out.drawn hd)
                      have HB2 := Aside0.mk (HB.out.trans (drawn_below hd))
                      clear hd
                      go_wp2_with (fail)
                      refine (digit_c _ _).mono ?_
                      rintro _ w3 ⟨rfl, hd⟩
                      rw [HDV.out]
                      have H3 := Aside0.mk (H2.out.drawn hd)
                      have HB3 := Aside0.mk (HB2.out.trans (drawn_below hd))
                      clear hd
                      go_wp2_with (fail)
                      go_meet
                      case rel => exact ⟨congrArg Value.bool (HN2.out.symm), H3, HB3⟩
                    | false =>
                      have HDV := Aside0.mk hdv
                      have HN2 := Aside0.mk (show ns = !sgn by rw [HNS.out, hlv, b1, hdv, e46]; rfl)
                      clear hlv hdv e46
                      go_wp2_with (fail)
                      refine (letter_c _ _ hcr).mono ?_
                      rintro _ w2 ⟨rfl, hd⟩
                      rw [HLV.out]
                      have H2 := Aside0.mk (H1.out.drawn hd)
                      have HB2 := Aside0.mk (HB.out.trans (drawn_below hd))
                      clear hd
                      go_wp2_with (fail)
                      refine (digit_c _ _).mono ?_
                      rintro _ w3 ⟨rfl, hd⟩
                      rw [HDV.out]
                      have H3 := Aside0.mk (H2.out.drawn hd)
                      have HB3 := Aside0.mk (HB2.out.trans (drawn_below hd))
                      clear hd
                      go_wp2_with (fail)
                      go_meet
                      case rel => exact ⟨congrArg Value.bool (HN2.out.symm), H3, HB3⟩
                | false =>
                  have HLV := Aside0.mk hlv
                  cases hdv : digitB c with
                  | true =>
                    have HDV := Aside0.mk hdv
                    have HN2 := Aside0.mk (show ns = false by rw [HNS.out, hlv, hdv]; rfl)
                    clear hlv hdv
                    go_wp2_with (fail)
                    refine (letter_c _ _ hcr).mono ?_
                    rintro _ w2 ⟨rfl, hd⟩
                    rw [HLV.out]
                    have H2 := Aside0.mk (H1.out.drawn hd)
                    have HB2 := Aside0.mk (HB.out.trans (drawn_below hd))
                    clear hd
                    go_wp2_with (fail)
                    refine (digit_c _ _).mono ?_
                    rintro _ w3 ⟨rfl, hd⟩
                    rw [HDV.out]
                    have H3 := Aside0.mk (H2.out.drawn hd)
                    have HB3 := Aside0.mk (HB2.out.trans (drawn_below hd))
                    clear hd
                    go_wp2_with (fail)
                    go_meet
                    case rel => exact ⟨congrArg Value.bool (HN2.out.symm), H3, HB3⟩
                  | false =>
                    have HDV := Aside0.mk hdv
                    by_cases h46 : c = 46
                    · have b46 : (c != 46) = false := bne_eq_false_iff_eq.mpr h46
                      have HN2 := Aside0.mk (show ns = false by rw [HNS.out, hlv, hdv, decide_eq_true h46]; rfl)
                      clear hlv hdv h46
                      go_wp2_with (fail)
                      refine (letter_c _ _ hcr).mono ?_
                      rintro _ w2 ⟨rfl, hd⟩
                      rw [HLV.out]
                      have H2 := Aside0.mk (H1.out.drawn hd)
                      have HB2 := Aside0.mk (HB.out.trans (drawn_below hd))
                      clear hd
                      go_wp2_with (fail)
                      refine (digit_c _ _).mono ?_
                      rintro _ w3 ⟨rfl, hd⟩
                      rw [HDV.out]
                      have H3 := Aside0.mk (H2.out.drawn hd)
                      have HB3 := Aside0.mk (HB2.out.trans (drawn_below hd))
                      clear hd
                      go_wp2_with (fail)
                      go_meet
                      case rel => exact ⟨congrArg Value.bool (HN2.out.symm), H3, HB3⟩
                    · have b46 : (c != 46) = true := bne_iff_ne.mpr h46
                      have HN2 := Aside0.mk (show ns = !sgn by rw [HNS.out, hlv, hdv, decide_eq_false h46]; rfl)
                      clear hlv hdv h46
                      go_wp2_with (fail)
                      refine (letter_c _ _ hcr).mono ?_
                      rintro _ w2 ⟨rfl, hd⟩
                      rw [HLV.out]
                      have H2 := Aside0.mk (H1.out.drawn hd)
                      have HB2 := Aside0.mk (HB.out.trans (drawn_below hd))
                      clear hd
                      go_wp2_with (fail)
                      refine (digit_c _ _).mono ?_
                      rintro _ w3 ⟨rfl, hd⟩
                      rw [HDV.out]
                      have H3 := Aside0.mk (H2.out.drawn hd)
                      have HB3 := Aside0.mk (HB2.out.trans (drawn_below hd))
                      clear hd
                      go_wp2_with (fail)
                      go_meet
                      case rel => exact ⟨congrArg Value.bool (HN2.out.symm), H3, HB3⟩
              case rest =>
                clear H1 HB hns
                obtain ⟨rfl, H1, HB⟩ := hcut
                cases ns with
                | true =>
                  have ht := HT.out
                  rw [if_pos rfl] at ht
                  have HT := Aside0.mk ht
                  clear ht
                  obtain ⟨A, c', hr, hh, c0, c1, c2, c3, c4, c5, c6, c7, hf⟩ := H1.out.open
                  clear hr hh
                  go_wp2_with (fail)
                  refine (leaf_c B b _ r 14 (r.pos + i) H1.out hl h0 (by omega) (by have := HZ.out; omega)).mono ?_
                  rintro _ w4 ⟨rfl, H4, hb⟩
                  have H5 := Aside0.mk H4
                  have HB5 := Aside0.mk (HB.out.trans hb)
                  clear H4 hb
                  go_wp2_with (fail)
                  go_ret
                  exact ⟨rfl, by rw [HT.out]; exact H5.out, HB5.out⟩
                | false =>
                  have ht := HT.out
                  rw [if_neg (by decide)] at ht
                  have HT := Aside0.mk ht
                  clear ht
                  go_wp2_with (fail)
                  go_roundg g
                  case measure => exact Nat.lt_succ_self _
                  case rel => exact ⟨i + 1, rfl, H1, HB, by omega, by omega, HG1, HT⟩
          · rw [if_neg hlt] at ht
            have HT := Aside0.mk ht
            clear ht
            obtain ⟨A, c, hr, hh, c0, c1, c2, c3, c4, c5, c6, c7, hf⟩ := H1.out.open
            clear hr hh
            go_wp2_with (fail)
            refine (leaf_c B b _ r 14 (r.pos + i) H1.out hl h0 (by omega) (by have := HZ.out; omega)).mono ?_
            rintro _ w4 ⟨rfl, H4, hb⟩
            have H5 := Aside0.mk H4
            have HB5 := Aside0.mk (HB.out.trans hb)
            clear H4 hb
            go_wp2_with (fail)
            go_ret
            exact ⟨rfl, by rw [HT.out]; exact H5.out, HB5.out⟩

end Go.Proofs.Ytdknppomjcpihaa.PPy
