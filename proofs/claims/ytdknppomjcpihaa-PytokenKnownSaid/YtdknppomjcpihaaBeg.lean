/- (*reader).begins: the reader behind it. -/
import Derived.Test.YtdknppomjcpihaaSmall
import Derived.Test.YtdknppomjcpihaaModel2
import Derived.Test.YtdknppomjcpihaaNum
import Derived.Test.YtdknppomjcpihaaBel
import Derived.Deep.DeepCutAuto
namespace Go.Proofs.Ytdknppomjcpihaa.PPy
open Go.RowKit Go.Proofs.YtdknppomjcpihaaW.PrintWords Go.Proofs.YtdknppomjcpihaaW.PrintLast Go.Proofs.YtdknppomjcpihaaW.PrintMore

theorem pre_idx (c : Int) (h : 0 ≤ c ∧ c ≤ 255) : decide (0 ≤ Lib.indexByte [114, 117, 98, 102] c.toNat.toUInt8) = preB c := by
  have e : ∀ n : Nat, n < 256 → decide (0 ≤ Lib.indexByte [114, 117, 98, 102] n.toUInt8) = preB (n : Int) := by decide +kernel
  have := e c.toNat (by omega)
  rwa [Int.toNat_of_nonneg h.1] at this
theorem small_range (c : Int) (h : 0 ≤ c ∧ c ≤ 255) : 0 ≤ smallB c ∧ smallB c ≤ 255 := by unfold smallB; split <;> omega

theorem markOf_hit {s : ByteArray} {i : Int} (h : 0 ≤ i ∧ i < 4) (hp1 : ∀ j : Int, 1 ≤ j → j ≤ i → hp s (quot j) = false) (hh : hp s (quot (i + 1)) = true) : markOf s = i + 1 := by
  unfold markOf
  have : i = 0 ∨ i = 1 ∨ i = 2 ∨ i = 3 := by omega
  rcases this with rfl | rfl | rfl | rfl
  · simp only [Int.zero_add] at hh; simp [hh]
  · have a := hp1 1 (by omega) (by omega); have hh2 : hp s (quot 2) = true := hh; simp [a, hh2]
  · have a := hp1 1 (by omega) (by omega); have a2 := hp1 2 (by omega) (by omega); have hh2 : hp s (quot 3) = true := hh; simp [a, a2, hh2]
  · have a := hp1 1 (by omega) (by omega); have a2 := hp1 2 (by omega) (by omega); have a3 := hp1 3 (by omega) (by omega); have hh2 : hp s (quot 4) = true := hh; simp [a, a2, a3, hh2]
theorem markOf_none {s : ByteArray} (hp1 : ∀ j : Int, 1 ≤ j → j ≤ 4 → hp s (quot j) = false) : markOf s = 0 := by
  unfold markOf
  simp [hp1 1 (by omega) (by omega), hp1 2 (by omega) (by omega), hp1 3 (by omega) (by omega), hp1 4 (by omega) (by omega)]
theorem rd_marks {i : Int} (h0 : 0 ≤ i) (h1 : i < 4) : rd [1, 2, 3, 4] i = i + 1 := by
  have : i = 0 ∨ i = 1 ∨ i = 2 ∨ i = 3 := by omega
  rcases this with rfl | rfl | rfl | rfl <;> rfl

set_option maxRecDepth 100000 in
set_option maxHeartbeats 4000000 in
theorem begins_c (B b : Nat) (w : World) (r : Rd) (h : RdAt B w b r) (hl : r.ev.length ≤ 1000000) (h0 : 0 ≤ r.pos) (h1 : r.pos < (r.s.size : Int)) (hs : r.s.size ≤ 1000000) :
    Calls Try.prog 22 #[.pointer (some ⟨b, 0, none⟩)] w fun en w' => en = .returned (.bool (decide (0 < begM r.rest))) ∧ RdAt B w' b (if 0 < begM r.rest then r.begun else r) ∧ Below B w w' ∧ (¬ (0 < begM r.rest) → Below w.heap.size w w') := by
  have H := Aside0.mk h
  have hrs : ∀ w', RdAt B w' b r → Calls Try.prog 38 #[.pointer (some ⟨b, 0, none⟩)] w' fun en w'' => en = .returned (.string r.rest) ∧ Drawn0 w' w'' := fun w' h' => rest_c B b w' r h' h0 (by omega)
  have hsz : r.rest.size = r.s.size - r.pos.toNat := by unfold Rd.rest; rw [ByteArray.size_extract]; omega
  have hlt := h.lt
  have hB := h.1
  obtain ⟨fin, hfin⟩ : ∃ fin, r.begun = fin := ⟨_, rfl⟩
  rw [hfin]
  unfold Rd.begun at hfin
  obtain ⟨q, hq⟩ : ∃ q, r.rest = q := ⟨_, rfl⟩
  rw [hq] at hsz hrs hfin ⊢
  have HRS := Aside0.mk hrs
  have HQ := Aside0.mk hq
  have HZ := Aside0.mk (show r.pos + (q.size : Int) ≤ (r.s.size : Int) by omega)
  have hz1 : 1 ≤ q.size := by omega
  have hz2 : q.size ≤ 1000000 := by omega
  obtain ⟨m, hm⟩ : ∃ m, begM q = m := ⟨_, rfl⟩
  rw [hm] at hfin ⊢
  have HM := Aside0.mk hm
  obtain ⟨n, hn⟩ : ∃ n, begN 3 q 0 = n := ⟨_, rfl⟩
  rw [hn] at hfin
  have hnb : 0 ≤ n ∧ n ≤ 2 ∧ n ≤ (q.size : Int) := by have := begN_bd q 3 0; rw [hn] at this; exact ⟨this.1, this.2.1 (by omega), this.2.2 (by omega)⟩
  have HF := Aside0.mk hfin
  have HN2 := Aside0.mk hn
  have HN := Aside0.mk hn
  obtain ⟨res, hres⟩ : ∃ res, (if 0 < m then fin else r) = res := ⟨_, rfl⟩
  obtain ⟨mb, hmb⟩ : ∃ mb, decide (0 < m) = mb := ⟨_, rfl⟩
  rw [hres, hmb]
  have HRES := Aside0.mk hres
  have HMB := Aside0.mk hmb
  clear hres hmb
  clear h hsz hq hm hn hfin hrs
  go_enter Try.func22, Try.ntmps22
  go_upto_block 0 with (fail)
  go_cut [3] (fun v wc => v = .int .i64 n ∧ Aside0 (RdAt B wc b r) ∧ Aside0 (Bel B w wc))
  case first =>
    go_wp2_with (fail)
    go_loopg [3] 3 (fun g v3 wr => ∃ (i : Int), v3 = .int .i64 i ∧ Aside0 (RdAt B wr b r) ∧ Aside0 (Bel B w wr) ∧ 0 ≤ i ∧ i ≤ 2 ∧ i ≤ (q.size : Int) ∧ Aside0 (3 - i ≤ g) ∧ Aside0 (n = begN g q i))
    case atStart => exact ⟨0, rfl, H, ⟨Bel.refl _ _⟩, by omega, by omega, by omega, ⟨by omega⟩, ⟨HN.out.symm⟩⟩
    case round =>
      clear H HN
      obtain ⟨i, rfl, H1, HB, hi0, hi1, hi2, HG, HT⟩ := hrel
      obtain ⟨g, rfl⟩ : ∃ g, gk = g + 1 := ⟨gk - 1, by have := HG.out; omega⟩
      have HG1 : Aside0 (3 - (i + 1) ≤ g) := ⟨by have := HG.out; omega⟩
      have ht := HT.out
      simp only [begN] at ht
      clear HT HG
      by_cases c1 : i < 2
      · have b1 : decide (i < 2) = true := decide_eq_true c1
        by_cases c2 : i < (q.size : Int)
        · have b2 : decide (i < (q.size : Int)) = true := decide_eq_true c2
          have hi3 : Aside0 (i + 1 ≤ (q.size : Int)) := ⟨by omega⟩
          obtain ⟨sm, hsm⟩ : ∃ sm, smallB (bt q i) = sm := ⟨_, rfl⟩
          have hsr := small_range _ (bt_range q i)
          have hsc := fun w' => small_c _ w' (bt_range q i)
          rw [hsm] at ht hsr hsc
          have HSC : Aside0 (∀ w', Calls Try.prog 39 #[.int .u8 (bt q i)] w' fun e w'' => e = .returned (.int .u8 sm) ∧ Drawn0 w' w'') := ⟨hsc⟩
          have hpi := pre_idx sm hsr
          clear hsm hsc
          have hx := bt_at q i
          have q0 : i < (q.size : Int) := c2
          have p : 0 ≤ i := hi0
          replace p := eq_true p
          replace q0 := eq_true q0
          cases hpr : preB sm with
          | true =>
            rw [hpr] at hpi
            rw [if_pos ⟨c1, c2, hpr⟩] at ht
            have HT := Aside0.mk ht
            have HPI := Aside0.mk hpi
            clear ht hpr hpi c2
            go_wp2_with (fail)
            refine (HRS.out _ H1.out).mono ?_
            rintro _ w1 ⟨rfl, hd⟩
            have H2 := Aside0.mk (H1.out.drawn hd)
            have HB2 := Aside0.mk (HB.out.trans (drawn_below hd))
            clear hd H1 HB
            go_wp2_with (fail)
            refine (HRS.out _ H2.out).mono ?_
            rintro _ w2 ⟨rfl, hd⟩
            have H3 := Aside0.mk (H2.out.drawn hd)
            have HB3 := Aside0.mk (HB2.out.trans (drawn_below hd))
            clear hd H2 HB2
            go_wp2_with (fail)
            refine (HSC.out _).mono ?_
            rintro _ w3 ⟨rfl, hd⟩
            have H4 := Aside0.mk (H3.out.drawn hd)
            have HB4 := Aside0.mk (HB3.out.trans (drawn_below hd))
            clear hd H3 HB3
            go_wp2_with (fail)
            refine (Try.strings_IndexByte _ _ _).mono ?_
            rintro _ w4 ⟨rfl, rfl⟩
            have hpi := HPI.out
            go_wp2_with (fail)
            go_roundg g
            case measure => exact Nat.lt_succ_self _
            case rel => exact ⟨i + 1, rfl, H4, HB4, by omega, by omega, hi3.out, HG1, HT⟩
          | false =>
            rw [hpr] at hpi
            rw [if_neg (by rw [hpr]; simp)] at ht
            subst ht
            have HPI := Aside0.mk hpi
            clear hpr hpi c2
            go_wp2_with (fail)
            refine (HRS.out _ H1.out).mono ?_
            rintro _ w1 ⟨rfl, hd⟩
            have H2 := Aside0.mk (H1.out.drawn hd)
            have HB2 := Aside0.mk (HB.out.trans (drawn_below hd))
            clear hd H1 HB
            go_wp2_with (fail)
            refine (HRS.out _ H2.out).mono ?_
            rintro _ w2 ⟨rfl, hd⟩
            have H3 := Aside0.mk (H2.out.drawn hd)
            have HB3 := Aside0.mk (HB2.out.trans (drawn_below hd))
            clear hd H2 HB2
            go_wp2_with (fail)
            refine (HSC.out _).mono ?_
            rintro _ w3 ⟨rfl, hd⟩
            have H4 := Aside0.mk (H3.out.drawn hd)
            have HB4 := Aside0.mk (HB3.out.trans (drawn_below hd))
            clear hd H3 HB3
            go_wp2_with (fail)
            refine (Try.strings_IndexByte _ _ _).mono ?_
            rintro _ w4 ⟨rfl, rfl⟩
            have hpi := HPI.out
            go_wp2_with (fail)
            go_meet
            case rel => exact ⟨rfl, H4, HB4⟩
        · rw [if_neg (fun h => c2 h.2.1)] at ht
          subst ht
          have b2 : decide (n < (q.size : Int)) = false := decide_eq_false c2
          clear c2
          go_wp2_with (fail)
          refine (HRS.out _ H1.out).mono ?_
          rintro _ w1 ⟨rfl, hd⟩
          have H2 := Aside0.mk (H1.out.drawn hd)
          have HB2 := Aside0.mk (HB.out.trans (drawn_below hd))
          clear hd H1 HB
          go_wp2_with (fail)
          go_meet
          case rel => exact ⟨rfl, H2, HB2⟩
      · rw [if_neg (fun h => c1 h.1)] at ht
        subst ht
        have b1 : decide (n < 2) = false := decide_eq_false c1
        go_wp2_with (fail)
        go_meet
        case rel => exact ⟨rfl, H1, HB⟩
  case rest =>
    clear H
    obtain ⟨rfl, H1, HB⟩ := hcut
    go_upto_if 30 with (fail)
    go_cut [] (fun wc => Aside0 (¬ (n = 2 ∧ pairB (strOfNums [smallB (bt q 0), smallB (bt q 1)]) = false)) ∧ Aside0 (RdAt B wc b r) ∧ Aside0 (Bel B w wc))
    case first =>
      by_cases c1 : n = 2
      · have b1 : (n == 2) = true := beq_iff_eq.mpr c1
        have hz3 : 2 ≤ q.size := by omega
        obtain ⟨a, ha⟩ : ∃ a, smallB (bt q 0) = a := ⟨_, rfl⟩
        obtain ⟨bb, hbb⟩ : ∃ bb, smallB (bt q 1) = bb := ⟨_, rfl⟩
        have hsc0 := fun w' => small_c _ w' (bt_range q 0)
        have hsc1 := fun w' => small_c _ w' (bt_range q 1)
        have har := small_range _ (bt_range q 0)
        have hbr := small_range _ (bt_range q 1)
        have hx0 : ((q[0]'(by omega)).toNat : Int) = bt q 0 := bt_nat q 0 (by omega)
        have hx1 : ((q[1]'(by omega)).toNat : Int) = bt q 1 := bt_nat q 1 (by omega)
        have q0 : (0 : Int) < (q.size : Int) := by omega
        have q1 : (1 : Int) < (q.size : Int) := by omega
        replace q0 := eq_true q0
        replace q1 := eq_true q1
        have hm := HM.out
        rw [begM] at hm
        rw [ha, hbb] at hm
        rw [ha] at hsc0 har
        rw [hbb] at hsc1 hbr
        have HS0 : Aside0 (∀ w', Calls Try.prog 39 #[.int .u8 (bt q 0)] w' fun e w'' => e = .returned (.int .u8 a) ∧ Drawn0 w' w'') := ⟨hsc0⟩
        have HS1 : Aside0 (∀ w', Calls Try.prog 39 #[.int .u8 (bt q 1)] w' fun e w'' => e = .returned (.int .u8 bb) ∧ Drawn0 w' w'') := ⟨hsc1⟩
        obtain ⟨P, hP⟩ : ∃ P, strOfNums [a, bb] = P := ⟨_, rfl⟩
        rw [hP] at hm
        have HAB : Aside0 (strOfNums [smallB (bt q 0), smallB (bt q 1)] = P) := ⟨by rw [ha, hbb, hP]⟩
        have HM2 := Aside0.mk hm
        have HP := Aside0.mk hP
        have hpc : pairB P = ((P.toList == [98, 114]) || ((P.toList == [114, 98]) || ((P.toList == [102, 114]) || (P.toList == [114, 102])))) := rfl
        have HC1 := Aside0.mk c1
        clear hm hP ha hbb hsc0 hsc1 c1
        have hcase : (pairB P = true ∧ (((P.toList == [98, 114]) = true) ∨ ((P.toList == [98, 114]) = false ∧ (P.toList == [114, 98]) = true) ∨ ((P.toList == [98, 114]) = false ∧ (P.toList == [114, 98]) = false ∧ (P.toList == [102, 114]) = true) ∨ ((P.toList == [98, 114]) = false ∧ (P.toList == [114, 98]) = false ∧ (P.toList == [102, 114]) = false ∧ (P.toList == [114, 102]) = true))) ∨
            (pairB P = false ∧ (P.toList == [98, 114]) = false ∧ (P.toList == [114, 98]) = false ∧ (P.toList == [102, 114]) = false ∧ (P.toList == [114, 102]) = false) := by
          rw [hpc]
          cases (P.toList == [98, 114]) <;> cases (P.toList == [114, 98]) <;> cases (P.toList == [102, 114]) <;> cases (P.toList == [114, 102]) <;> simp
        clear hpc
        rcases hcase with ⟨hpt, hcase⟩ | ⟨hpf, d0, d1, d2, d3⟩
        · have HPT : Aside0 (¬ (n = 2 ∧ pairB P = false)) := ⟨by rw [hpt]; simp⟩
          clear hpt
          rcases hcase with d0 | ⟨d0, d1⟩ | ⟨d0, d1, d2⟩ | ⟨d0, d1, d2, d3⟩
          · have n0 : (P.toList != [98, 114]) = false := by rw [bne, d0]; rfl
            have p0 : (P.toList = [98, 114]) = True := by exact eq_true (beq_iff_eq.mp d0)
            go_wp2_with (fail)
            refine (HRS.out _ H1.out).mono ?_
            rintro _ w1 ⟨rfl, hd⟩
            have H2 := Aside0.mk (H1.out.drawn hd)
            have HB2 := Aside0.mk (HB.out.trans (drawn_below hd))
            clear hd H1 HB
            go_wp2_with (fail)
            refine (HS0.out _).mono ?_
            rintro _ w2 ⟨rfl, hd⟩
            have H3 := Aside0.mk (H2.out.drawn hd)
            have HB3 := Aside0.mk (HB2.out.trans (drawn_below hd))
            clear hd H2 HB2
            go_wp2_with (fail)
            refine (HRS.out _ H3.out).mono ?_
            rintro _ w3 ⟨rfl, hd⟩
            have H4 := Aside0.mk (H3.out.drawn hd)
            have HB4 := Aside0.mk (HB3.out.trans (drawn_below hd))
            clear hd H3 HB3
            go_wp2_with (fail)
            refine (HS1.out _).mono ?_
            rintro _ w4 ⟨rfl, hd⟩
            have H5 := Aside0.mk (H4.out.drawn hd)
            have HB5 := Aside0.mk (HB4.out.trans (drawn_below hd))
            clear hd H4 HB4
            go_wp2_with (first | ((with_reducible refine gate_dst (N := 39) rfl ?_); refine Kd.R_lit (Kd.int .u8) _ 5 ?hg (N := 39) ?hd (xs := [a, bb]) (inner := [.int .u8 a, .int .u8 bb]) (ok := fun _ => True) (okp := fun _ => True) ?hr ?hp (fun _ hk => hk) trivial (Below.refl _ _) (Nat.le_refl _) (by simp) ?_; (case hd => rfl); (case hg => rfl); (case hr => first | (go_simp; done) | (go_simp; rfl)); (case hp => exact Reps.one (show Kd.M (Kd.int .u8) _ _ _ a [.int .u8 a] from rfl) (Reps.one (show Kd.M (Kd.int .u8) _ _ _ bb [.int .u8 bb] from rfl) (Reps.none _ _))); intro v1 w5 ho hb hg_ hn_; clear hg_ hn_; have hcv := own_string (P := Try.prog) Try.underlying37 Try.underlying5 Try.underlying9 (Kd.own_of_R ho); rw [HP.out] at hcv; clear ho; have H6 := Aside0.mk (H5.out.below hb); have HB6 := Aside0.mk (HB5.out.grow (Nat.le_trans hB (Nat.le_of_lt H5.out.lt)) hb); clear hb H5 HB5))
            go_meet
            case rel => exact ⟨⟨by rw [HAB.out]; exact HPT.out⟩, H6, HB6⟩
          · have n0 : (P.toList != [98, 114]) = true := by rw [bne, d0]; rfl
            have p0 : (P.toList = [98, 114]) = False := by exact eq_false (beq_eq_false_iff_ne.mp d0)
            have n1 : (P.toList != [114, 98]) = false := by rw [bne, d1]; rfl
            have p1 : (P.toList = [114, 98]) = True := by exact eq_true (beq_iff_eq.mp d1)
            go_wp2_with (fail)
            refine (HRS.out _ H1.out).mono ?_
            rintro _ w1 ⟨rfl, hd⟩
            have H2 := Aside0.mk (H1.out.drawn hd)
            have HB2 := Aside0.mk (HB.out.trans (drawn_below hd))
            clear hd H1 HB
            go_wp2_with (fail)
            refine (HS0.out _).mono ?_
            rintro _ w2 ⟨rfl, hd⟩
            have H3 := Aside0.mk (H2.out.drawn hd)
            have HB3 := Aside0.mk (HB2.out.trans (drawn_below hd))
            clear hd H2 HB2
            go_wp2_with (fail)
            refine (HRS.out _ H3.out).mono ?_
            rintro _ w3 ⟨rfl, hd⟩
            have H4 := Aside0.mk (H3.out.drawn hd)
            have HB4 := Aside0.mk (HB3.out.trans (drawn_below hd))
            clear hd H3 HB3
            go_wp2_with (fail)
            refine (HS1.out _).mono ?_
            rintro _ w4 ⟨rfl, hd⟩
            have H5 := Aside0.mk (H4.out.drawn hd)
            have HB5 := Aside0.mk (HB4.out.trans (drawn_below hd))
            clear hd H4 HB4
            go_wp2_with (first | ((with_reducible refine gate_dst (N := 39) rfl ?_); refine Kd.R_lit (Kd.int .u8) _ 5 ?hg (N := 39) ?hd (xs := [a, bb]) (inner := [.int .u8 a, .int .u8 bb]) (ok := fun _ => True) (okp := fun _ => True) ?hr ?hp (fun _ hk => hk) trivial (Below.refl _ _) (Nat.le_refl _) (by simp) ?_; (case hd => rfl); (case hg => rfl); (case hr => first | (go_simp; done) | (go_simp; rfl)); (case hp => exact Reps.one (show Kd.M (Kd.int .u8) _ _ _ a [.int .u8 a] from rfl) (Reps.one (show Kd.M (Kd.int .u8) _ _ _ bb [.int .u8 bb] from rfl) (Reps.none _ _))); intro v1 w5 ho hb hg_ hn_; clear hg_ hn_; have hcv := own_string (P := Try.prog) Try.underlying37 Try.underlying5 Try.underlying9 (Kd.own_of_R ho); rw [HP.out] at hcv; clear ho; have H6 := Aside0.mk (H5.out.below hb); have HB6 := Aside0.mk (HB5.out.grow (Nat.le_trans hB (Nat.le_of_lt H5.out.lt)) hb); clear hb H5 HB5))
            go_meet
            case rel => exact ⟨⟨by rw [HAB.out]; exact HPT.out⟩, H6, HB6⟩
          · have n0 : (P.toList != [98, 114]) = true := by rw [bne, d0]; rfl
            have p0 : (P.toList = [98, 114]) = False := by exact eq_false (beq_eq_false_iff_ne.mp d0)
            have n1 : (P.toList != [114, 98]) = true := by rw [bne, d1]; rfl
            have p1 : (P.toList = [114, 98]) = False := by exact eq_false (beq_eq_false_iff_ne.mp d1)
            have n2 : (P.toList != [102, 114]) = false := by rw [bne, d2]; rfl
            have p2 : (P.toList = [102, 114]) = True := by exact eq_true (beq_iff_eq.mp d2)
            go_wp2_with (fail)
            refine (HRS.out _ H1.out).mono ?_
            rintro _ w1 ⟨rfl, hd⟩
            have H2 := Aside0.mk (H1.out.drawn hd)
            have HB2 := Aside0.mk (HB.out.trans (drawn_below hd))
            clear hd H1 HB
            go_wp2_with (fail)
            refine (HS0.out _).mono ?_
            rintro _ w2 ⟨rfl, hd⟩
            have H3 := Aside0.mk (H2.out.drawn hd)
            have HB3 := Aside0.mk (HB2.out.trans (drawn_below hd))
            clear hd H2 HB2
            go_wp2_with (fail)
            refine (HRS.out _ H3.out).mono ?_
            rintro _ w3 ⟨rfl, hd⟩
            have H4 := Aside0.mk (H3.out.drawn hd)
            have HB4 := Aside0.mk (HB3.out.trans (drawn_below hd))
            clear hd H3 HB3
            go_wp2_with (fail)
            refine (HS1.out _).mono ?_
            rintro _ w4 ⟨rfl, hd⟩
            have H5 := Aside0.mk (H4.out.drawn hd)
            have HB5 := Aside0.mk (HB4.out.trans (drawn_below hd))
            clear hd H4 HB4
            go_wp2_with (first | ((with_reducible refine gate_dst (N := 39) rfl ?_); refine Kd.R_lit (Kd.int .u8) _ 5 ?hg (N := 39) ?hd (xs := [a, bb]) (inner := [.int .u8 a, .int .u8 bb]) (ok := fun _ => True) (okp := fun _ => True) ?hr ?hp (fun _ hk => hk) trivial (Below.refl _ _) (Nat.le_refl _) (by simp) ?_; (case hd => rfl); (case hg => rfl); (case hr => first | (go_simp; done) | (go_simp; rfl)); (case hp => exact Reps.one (show Kd.M (Kd.int .u8) _ _ _ a [.int .u8 a] from rfl) (Reps.one (show Kd.M (Kd.int .u8) _ _ _ bb [.int .u8 bb] from rfl) (Reps.none _ _))); intro v1 w5 ho hb hg_ hn_; clear hg_ hn_; have hcv := own_string (P := Try.prog) Try.underlying37 Try.underlying5 Try.underlying9 (Kd.own_of_R ho); rw [HP.out] at hcv; clear ho; have H6 := Aside0.mk (H5.out.below hb); have HB6 := Aside0.mk (HB5.out.grow (Nat.le_trans hB (Nat.le_of_lt H5.out.lt)) hb); clear hb H5 HB5))
            go_meet
            case rel => exact ⟨⟨by rw [HAB.out]; exact HPT.out⟩, H6, HB6⟩
          · have n0 : (P.toList != [98, 114]) = true := by rw [bne, d0]; rfl
            have p0 : (P.toList = [98, 114]) = False := by exact eq_false (beq_eq_false_iff_ne.mp d0)
            have n1 : (P.toList != [114, 98]) = true := by rw [bne, d1]; rfl
            have p1 : (P.toList = [114, 98]) = False := by exact eq_false (beq_eq_false_iff_ne.mp d1)
            have n2 : (P.toList != [102, 114]) = true := by rw [bne, d2]; rfl
            have p2 : (P.toList = [102, 114]) = False := by exact eq_false (beq_eq_false_iff_ne.mp d2)
            have n3 : (P.toList != [114, 102]) = false := by rw [bne, d3]; rfl
            have p3 : (P.toList = [114, 102]) = True := by exact eq_true (beq_iff_eq.mp d3)
            go_wp2_with (fail)
            refine (HRS.out _ H1.out).mono ?_
            rintro _ w1 ⟨rfl, hd⟩
            have H2 := Aside0.mk (H1.out.drawn hd)
            have HB2 := Aside0.mk (HB.out.trans (drawn_below hd))
            clear hd H1 HB
            go_wp2_with (fail)
            refine (HS0.out _).mono ?_
            rintro _ w2 ⟨rfl, hd⟩
            have H3 := Aside0.mk (H2.out.drawn hd)
            have HB3 := Aside0.mk (HB2.out.trans (drawn_below hd))
            clear hd H2 HB2
            go_wp2_with (fail)
            refine (HRS.out _ H3.out).mono ?_
            rintro _ w3 ⟨rfl, hd⟩
            have H4 := Aside0.mk (H3.out.drawn hd)
            have HB4 := Aside0.mk (HB3.out.trans (drawn_below hd))
            clear hd H3 HB3
            go_wp2_with (fail)
            refine (HS1.out _).mono ?_
            rintro _ w4 ⟨rfl, hd⟩
            have H5 := Aside0.mk (H4.out.drawn hd)
            have HB5 := Aside0.mk (HB4.out.trans (drawn_below hd))
            clear hd H4 HB4
            go_wp2_with (first | ((with_reducible refine gate_dst (N := 39) rfl ?_); refine Kd.R_lit (Kd.int .u8) _ 5 ?hg (N := 39) ?hd (xs := [a, bb]) (inner := [.int .u8 a, .int .u8 bb]) (ok := fun _ => True) (okp := fun _ => True) ?hr ?hp (fun _ hk => hk) trivial (Below.refl _ _) (Nat.le_refl _) (by simp) ?_; (case hd => rfl); (case hg => rfl); (case hr => first | (go_simp; done) | (go_simp; rfl)); (case hp => exact Reps.one (show Kd.M (Kd.int .u8) _ _ _ a [.int .u8 a] from rfl) (Reps.one (show Kd.M (Kd.int .u8) _ _ _ bb [.int .u8 bb] from rfl) (Reps.none _ _))); intro v1 w5 ho hb hg_ hn_; clear hg_ hn_; have hcv := own_string (P := Try.prog) Try.underlying37 Try.underlying5 Try.underlying9 (Kd.own_of_R ho); rw [HP.out] at hcv; clear ho; have H6 := Aside0.mk (H5.out.below hb); have HB6 := Aside0.mk (HB5.out.grow (Nat.le_trans hB (Nat.le_of_lt H5.out.lt)) hb); clear hb H5 HB5))
            go_meet
            case rel => exact ⟨⟨by rw [HAB.out]; exact HPT.out⟩, H6, HB6⟩
        · have HM0 : Aside0 (m = 0) := ⟨by have := HM2.out; rw [← this, if_pos ⟨HN2.out.trans HC1.out, hpf⟩]⟩
          clear hpf
          have n0 : (P.toList != [98, 114]) = true := by rw [bne, d0]; rfl
          have p0 : (P.toList = [98, 114]) = False := by exact eq_false (beq_eq_false_iff_ne.mp d0)
          have n1 : (P.toList != [114, 98]) = true := by rw [bne, d1]; rfl
          have p1 : (P.toList = [114, 98]) = False := by exact eq_false (beq_eq_false_iff_ne.mp d1)
          have n2 : (P.toList != [102, 114]) = true := by rw [bne, d2]; rfl
          have p2 : (P.toList = [102, 114]) = False := by exact eq_false (beq_eq_false_iff_ne.mp d2)
          have n3 : (P.toList != [114, 102]) = true := by rw [bne, d3]; rfl
          have p3 : (P.toList = [114, 102]) = False := by exact eq_false (beq_eq_false_iff_ne.mp d3)
          go_wp2_with (fail)
          refine (HRS.out _ H1.out).mono ?_
          rintro _ w1 ⟨rfl, hd⟩
          have H2 := Aside0.mk (H1.out.drawn hd)
          have HB2 := Aside0.mk (HB.out.trans (drawn_below hd))
          clear hd H1 HB
          go_wp2_with (fail)
          refine (HS0.out _).mono ?_
          rintro _ w2 ⟨rfl, hd⟩
          have H3 := Aside0.mk (H2.out.drawn hd)
          have HB3 := Aside0.mk (HB2.out.trans (drawn_below hd))
          clear hd H2 HB2
          go_wp2_with (fail)
          refine (HRS.out _ H3.out).mono ?_
          rintro _ w3 ⟨rfl, hd⟩
          have H4 := Aside0.mk (H3.out.drawn hd)
          have HB4 := Aside0.mk (HB3.out.trans (drawn_below hd))
          clear hd H3 HB3
          go_wp2_with (fail)
          refine (HS1.out _).mono ?_
          rintro _ w4 ⟨rfl, hd⟩
          have H5 := Aside0.mk (H4.out.drawn hd)
          have HB5 := Aside0.mk (HB4.out.trans (drawn_below hd))
          clear hd H4 HB4
          go_wp2_with (first | ((with_reducible refine gate_dst (N := 39) rfl ?_); refine Kd.R_lit (Kd.int .u8) _ 5 ?hg (N := 39) ?hd (xs := [a, bb]) (inner := [.int .u8 a, .int .u8 bb]) (ok := fun _ => True) (okp := fun _ => True) ?hr ?hp (fun _ hk => hk) trivial (Below.refl _ _) (Nat.le_refl _) (by simp) ?_; (case hd => rfl); (case hg => rfl); (case hr => first | (go_simp; done) | (go_simp; rfl)); (case hp => exact Reps.one (show Kd.M (Kd.int .u8) _ _ _ a [.int .u8 a] from rfl) (Reps.one (show Kd.M (Kd.int .u8) _ _ _ bb [.int .u8 bb] from rfl) (Reps.none _ _))); intro v1 w5 ho hb hg_ hn_; clear hg_ hn_; have hcv := own_string (P := Try.prog) Try.underlying37 Try.underlying5 Try.underlying9 (Kd.own_of_R ho); rw [HP.out] at hcv; clear ho; have H6 := Aside0.mk (H5.out.below hb); have HB6 := Aside0.mk (HB5.out.grow (Nat.le_trans hB (Nat.le_of_lt H5.out.lt)) hb); clear hb H5 HB5))
          go_ret
          have hm0 := HM0.out
          have e1 : mb = false := by rw [← HMB.out]; exact decide_eq_false (by omega)
          have e2 : res = r := by rw [← HRES.out, if_neg (by omega)]
          rw [e1, e2]
          exact ⟨rfl, H6.out, HB6.out.1, fun _ => HB6.out.2⟩
      · have b1 : (n == 2) = false := beq_eq_false_iff_ne.mpr c1
        have HPT : Aside0 (¬ (n = 2 ∧ pairB (strOfNums [smallB (bt q 0), smallB (bt q 1)]) = false)) := ⟨fun h => c1 h.1⟩
        clear c1
        go_wp2_with (fail)
        go_meet
        case rel => exact ⟨HPT, H1, HB⟩
    case rest =>
      clear H1 HB
      obtain ⟨HP, H1, HB⟩ := hcut
      have hm := HM.out
      rw [begM, HN2.out, if_neg HP.out] at hm
      have hn0 : 0 ≤ n := hnb.1
      have hn1 : n ≤ (q.size : Int) := hnb.2.2
      have HNB := Aside0.mk hnb
      obtain ⟨sx, hsx⟩ : ∃ sx, q.extract n.toNat q.size = sx := ⟨_, rfl⟩
      rw [hsx] at hm
      have HM2 := Aside0.mk hm
      have HSX := Aside0.mk hsx
      have hszx : (sx.size : Int) = (q.size : Int) - n := by rw [← hsx, ByteArray.size_extract]; omega
      have HSZ := Aside0.mk hszx
      clear hm hsx hnb hszx HP
      replace hn0 := eq_true hn0
      replace hn1 := eq_true hn1
      go_wp2_with (fail)
      refine (HRS.out _ H1.out).mono ?_
      rintro _ w1 ⟨rfl, hd⟩
      have H2 := Aside0.mk (H1.out.drawn hd)
      have HB2 := Aside0.mk (HB.out.trans (drawn_below hd))
      clear hd H1 HB
      have hsx := HSX.out
      go_wp2_with (first | ((with_reducible refine gate_dst (N := 59) rfl ?_); refine Kd.R_lit (Kd.int .u8) _ 5 ?hg (N := 59) ?hd (xs := [1, 2, 3, 4]) (inner := [.int .u8 1, .int .u8 2, .int .u8 3, .int .u8 4]) (ok := fun _ => True) (okp := fun _ => True) ?hr ?hp (fun _ hk => hk) trivial (Below.refl _ _) (Nat.le_refl _) (by simp) ?_; (case hd => rfl); (case hg => rfl); (case hr => first | (go_simp; done) | (go_simp; rfl)); (case hp => exact Reps.one (show Kd.M (Kd.int .u8) _ _ _ 1 [.int .u8 1] from rfl) (Reps.one (show Kd.M (Kd.int .u8) _ _ _ 2 [.int .u8 2] from rfl) (Reps.one (show Kd.M (Kd.int .u8) _ _ _ 3 [.int .u8 3] from rfl) (Reps.one (show Kd.M (Kd.int .u8) _ _ _ 4 [.int .u8 4] from rfl) (Reps.none _ _))))); intro v1 w5 ho hb hg_ hn_; clear hg_ hn_; have H6 := Aside0.mk (H2.out.below hb); have HB6 := Aside0.mk (HB2.out.grow (Nat.le_trans hB (Nat.le_of_lt H2.out.lt)) hb); have HA := Aside0.mk (Kd.R_lower ho (Nat.zero_le _)); clear ho; obtain ⟨Ao, co, eo⟩ := Kd.R_slice HA.out; subst eo; clear hb H2 HB2))
      go_loopg [61] 5 (fun g v61 wr => ∃ (i : Int), v61 = .int .i64 i ∧ Aside0 (RdAt B wr b r) ∧ Aside0 (Bel B w wr) ∧ Aside0 (Kd.R (Kd.int .u8) 5 wr 0 (fun _ => True) (.slice Ao 4 co) [1, 2, 3, 4]) ∧ 0 ≤ i ∧ i ≤ 4 ∧ Aside0 (5 - i ≤ g) ∧ Aside0 (∀ j : Int, 1 ≤ j → j ≤ i → hp sx (quot j) = false))
      case atStart => exact ⟨0, rfl, H6, HB6, HA, by omega, by omega, ⟨by omega⟩, ⟨fun j h1 h2 => by omega⟩⟩
      case round =>
        clear H6 HB6 HA
        obtain ⟨i, rfl, H1, HB, HA, hi0, hi1, HG, HP⟩ := hrel
        by_cases c1 : i < 4
        · obtain ⟨g, rfl⟩ : ∃ g, gk = g + 1 := ⟨gk - 1, by have := HG.out; omega⟩
          have HG1 : Aside0 (5 - (i + 1) ≤ g) := ⟨by have := HG.out; omega⟩
          have b1 : decide (i < 4) = true := decide_eq_true c1
          obtain ⟨ad, rfl, hx⟩ := Kd.at_int (Kd.R_reads' HA.out).2.2 i hi0 (by simpa using c1)
          rw [rd_marks hi0 c1] at hx
          have p : 0 ≤ i := hi0
          have q0 : i < 4 := c1
          have hmk : 1 ≤ i + 1 ∧ i + 1 ≤ 4 := by omega
          have HC1 := Aside0.mk c1
          clear c1
          replace p := eq_true p
          replace q0 := eq_true q0
          go_wp2_with (fail)
          refine (quot_c (i + 1) _ hmk).mono ?_
          rintro _ w6 ⟨rfl, hb⟩
          have H3 := Aside0.mk (H1.out.below hb)
          have HB3 := Aside0.mk (HB.out.grow (Nat.le_trans hB (Nat.le_of_lt H1.out.lt)) hb)
          have HA3 := Aside0.mk (Kd.R_below HA.out hb)
          clear hb H1 HB HA hx
          obtain ⟨qq, hqq⟩ : ∃ qq, quot (i + 1) = qq := ⟨_, rfl⟩
          rw [hqq]
          have HQQ := Aside0.mk hqq
          have hq3 : qq.size ≤ 3 := by rw [← hqq]; unfold quot; (repeat' split) <;> decide
          clear hqq
          go_wp2_with (fail)
          refine (hp_c sx qq _).mono ?_
          rintro _ w7 ⟨rfl, hd⟩
          have H4 := Aside0.mk (H3.out.drawn hd)
          have HB4 := Aside0.mk (HB3.out.trans (drawn_below hd))
          have HA4 := Aside0.mk (Kd.R_below HA3.out (drawn_below hd))
          clear hd H3 HB3 HA3
          cases hv : hp sx qq with
          | true =>
            have hpr := hp_le hv
            have HM3 : Aside0 (m = i + 1) := ⟨by rw [← HM2.out]; exact markOf_hit ⟨hi0, HC1.out⟩ HP.out (by rw [HQQ.out]; exact hv)⟩
            have hto : Aside0 (r.pos + n + (qq.size : Int) ≤ (r.s.size : Int)) := ⟨by have := HZ.out; have := HSZ.out; omega⟩
            have hfr : Aside0 (r.pos ≤ r.pos + n + (qq.size : Int)) := ⟨by have := HNB.out; omega⟩
            obtain ⟨A, c, hr, hh, c0, c1, c2, c3, c4, c5, c6, c7, hf⟩ := H4.out.open
            clear hr hh hv hpr
            have hto2 := hto.out
            have hn3 := HNB.out
            go_wp2_with (fail)
            refine (text_c B b _ r (r.pos + n + (qq.size : Int)) (i + 1) 15 H4.out hl h0 hfr.out hto.out hs hmk).mono ?_
            rintro _ w8 ⟨rfl, H5, hb5⟩
            have H6 := Aside0.mk H5
            have HB6 := Aside0.mk (HB4.out.1.trans hb5)
            clear H5 hb5
            go_wp2_with (fail)
            go_ret
            have hm3 := HM3.out
            have hpos : 0 < m := by omega
            have e1 : mb = true := by rw [← HMB.out]; exact decide_eq_true (by omega)
            have e2 : res = r.text (r.pos + n + (qq.size : Int)) (i + 1) 15 := by rw [← HRES.out, if_pos (by omega), ← HF.out, hm3, HQQ.out]
            rw [e1, e2]
            exact ⟨rfl, H6.out, HB6.out, fun h => absurd hpos (by omega)⟩
          | false =>
            have HP2 : Aside0 (∀ j : Int, 1 ≤ j → j ≤ i + 1 → hp sx (quot j) = false) := ⟨fun j h1 h2 => by
              by_cases hj : j ≤ i
              · exact HP.out j h1 hj
              · obtain rfl : j = i + 1 := by omega
                rw [HQQ.out]; exact hv⟩
            clear hv HP
            go_wp2_with (fail)
            go_roundg g
            case measure => exact Nat.lt_succ_self _
            case rel => exact ⟨i + 1, rfl, H4, HB4, HA4, by omega, by have := HC1.out; omega, HG1, HP2⟩
        · have b1 : decide (i < 4) = false := decide_eq_false c1
          have HM3 : Aside0 (m = 0) := ⟨by rw [← HM2.out]; exact markOf_none (fun j h1 h2 => HP.out j h1 (by omega))⟩
          go_wp2_with (fail)
          go_ret
          have hm0 := HM3.out
          have e1 : mb = false := by rw [← HMB.out]; exact decide_eq_false (by omega)
          have e2 : res = r := by rw [← HRES.out, if_neg (by omega)]
          rw [e1, e2]
          exact ⟨rfl, H1.out, HB.out.1, fun _ => HB.out.2⟩

end Go.Proofs.Ytdknppomjcpihaa.PPy
