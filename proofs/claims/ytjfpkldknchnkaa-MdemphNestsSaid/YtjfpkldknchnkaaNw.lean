/- MdemphNests walked. -/
import Derived.Test.YtjfpkldknchnkaaNp
import Derived.Test.YtjfpkldknchnkaaPz
import Derived.Test.YtjfpkldknchnkaaPl
namespace Go.Proofs.Ytjfpkldknchnkaa.Me
open Go.RowKit Go.Proofs.YtjfpkldknchnkaaW.PrintWords Go.Proofs.YtjfpkldknchnkaaW.PrintLast Go.Proofs.YtjfpkldknchnkaaW.PrintMore
attribute [local go_sem] max2_int min2_int max_two min_two max_three min_three max_four min_four
set_option linter.unusedVariables false
set_option linter.unusedSimpArgs false
theorem made_form2 {α : Type} {enc : α → List Value} {hl : ∀ x, (enc x).length = 1} {h1 : ∀ x, ∀ u ∈ enc x, u.oneCell' = true} {e : Nat} {w : World} {ok : Nat → Prop} {v : Value} {xs : List α} {m : Nat} (h : (flat 1 enc hl h1).R e w 0 ok v xs) (hat : ∃ b, v.ownBlock = some b ∧ m ≤ b) : ∃ g cap, v = .slice (some ⟨g, 0, none⟩) xs.length cap ∧ m ≤ g := by
  obtain ⟨b, hb, hm⟩ := hat
  obtain ⟨_, inner, hown, _⟩ := h
  rcases hown.2 with ⟨h1, _⟩ | ⟨g, cap, cur, h1, _⟩
  · rw [h1] at hb
    simp [Value.ownBlock] at hb
  · refine ⟨g, cap, h1, ?_⟩
    rw [h1] at hb
    simp [Value.ownBlock] at hb
    omega
theorem runsG_len (S : ByteArray) (fr E : Int) : ∀ (f : Nat) (i : Int), (runsG S fr E f i).length ≤ f
  | 0, _ => Nat.le_refl _
  | f + 1, i => by
    unfold runsG
    split
    · split
      · rw [List.length_cons]
        exact Nat.succ_le_succ (runsG_len S fr E f _)
      · exact Nat.le_succ_of_le (runsG_len S fr E f _)
    · exact Nat.zero_le _
theorem runsB_len (S : ByteArray) (fr en : Int) : (runsB S fr en).length ≤ S.size := by
  unfold runsB
  have h1 := runsG_len S fr (minE S en) (minE S en).toNat (if fr < 0 then 0 else fr)
  have h2 := minE_hi S en
  omega
theorem nodup_count {Q : List Int} (h : Q.Nodup) (z : Int) : Q.count z ≤ 1 := by
  induction Q with
  | nil => simp
  | cons y Q ih =>
    rw [List.nodup_cons] at h
    rw [List.count_cons]
    have := ih h.2
    split
    · rename_i e
      have e : y = z := by simpa using e
      subst e
      rw [List.count_eq_zero.2 h.1]
      omega
    · omega
/-- The tally in memory. -/
structure NS (w2 W : World) (g m c : Nat) (Q : List Int) : Prop where
  ru : kI.R 3 W 0 (fun j => w2.heap.size ≤ j) (.slice (some ⟨g, 0, none⟩) m c) (tal m Q)
  bel : Below w2.heap.size w2 W
theorem NS.below {w2 W W' : World} {g m c : Nat} {Q : List Int} (h : NS w2 W g m c Q) (hb : Below W.heap.size W W') : NS w2 W' g m c Q :=
  ⟨Kd.R_below h.ru hb, h.bel.trans (hb.mono h.bel.size)⟩
theorem NS.cell {w2 W : World} {g m c : Nat} {Q : List Int} (h : NS w2 W g m c Q) {j : Nat} (hj : j < m) : W.cell? ⟨g, j, none⟩ = some (.int .i64 (Q.count (j : Int) : Int)) := one_cell h.ru (tal_at hj) rfl
theorem NS.frz {w2 W : World} {g m c : Nat} {Q : List Int} (h : NS w2 W g m c Q) (j : Nat) : W.frozen? ⟨g, j, none⟩ = false := by
  obtain ⟨c1, h1⟩ := one_block h.ru
  exact blk_frozen h1 j
theorem NS.cell0 {w2 W : World} {g m c : Nat} {Q : List Int} (h : NS w2 W g m c Q) {j : Nat} (hj : j < m) (hq : (j : Int) ∉ Q) : W.cell? ⟨g, j, none⟩ = some (.int .i64 0) := by
  rw [h.cell hj, List.count_eq_zero.2 hq]
  rfl
theorem NS.put0 {w2 W : World} {g m c : Nat} {Q : List Int} (h : NS w2 W g m c Q) {j : Nat} (hj : j < m) (hq : (j : Int) ∉ Q) : NS w2 (W.setCell ⟨g, j, none⟩ (.int .i64 1)) g m c (Q ++ [(j : Int)]) := by
  refine ⟨?_, h.bel.setCell (p := ⟨g, j, none⟩) (h.ru.1 g rfl) _⟩
  have := one_set h.ru hj (x := (Q.count (j : Int) : Int) + 1) rfl
  rw [tal_set hj] at this
  rw [show (1 : Int) = (Q.count (j : Int) : Int) + 1 by rw [List.count_eq_zero.2 hq]; rfl]
  exact this
theorem tal_nil (m : Nat) : List.replicate m (0 : Int) = tal m [] := by
  apply List.ext_getElem?
  intro i
  by_cases e : i < m
  · rw [tal_at e, List.getElem?_replicate, if_pos e]
    rfl
  · rw [List.getElem?_eq_none (by rw [List.length_replicate]; omega), List.getElem?_eq_none (by rw [tal_len]; omega)]
def fO (a N c : Int) (r : Rn) : Bool := r.o && decide (r.c = c) && decide (r.a ≤ a) && decide (a + N ≤ r.a + r.n)
def fK (b N c : Int) (r : Rn) : Bool := r.k && decide (r.c = c) && decide (r.a ≤ b - N) && decide (b ≤ r.a + r.n)
theorem any_take {l : List Rn} {k : Nat} {r : Rn} (h : l[k]? = some r) (f : Rn → Bool) : (l.take (k + 1)).any f = ((l.take k).any f || f r) := by
  rw [take_snoc h, List.any_append]
  simp
/-- What is known of a pair for the walk. -/
theorem pair_facts {S : ByteArray} {en : Int} {l : List Rn} {R : List Pr} {p : Pr} (hg : ∀ r, r ∈ l → 0 ≤ r.a ∧ 1 ≤ r.n ∧ r.a + r.n ≤ minE S en ∧ (∀ j, r.a ≤ j → j < r.a + r.n → bt S j = r.c)) (hl : Laws l R) (hp : p ∈ R) :
    0 ≤ p.a ∧ p.b ≤ (S.size : Int) ∧ 2 * nn p + 1 ≤ p.b - p.a ∧ (∀ k : Int, 0 ≤ k → k < nn p → bt S (p.a + k) = bt S p.a ∧ bt S (p.b - 1 - k) = bt S p.a) ∧ l.any (fO p.a (nn p) (bt S p.a)) = true ∧ l.any (fK p.b (nn p) (bt S p.a)) = true := by
  obtain ⟨x, y, hx, hy, hxo, hyk, hc, h1, h2, h3, h4, h5⟩ := hl.ok p hp
  have gx := hg x hx
  have gy := hg y hy
  have hn := nn_pos p
  have hm := minE_hi S en
  have e0 : bt S p.a = x.c := gx.2.2.2 _ (by omega) (by omega)
  refine ⟨by omega, by omega, by omega, fun k k0 k1 => ⟨?_, ?_⟩, ?_, ?_⟩
  · rw [e0]; exact gx.2.2.2 _ (by omega) (by omega)
  · rw [e0, hc]; exact gy.2.2.2 _ (by omega) (by omega)
  · rw [List.any_eq_true]
    refine ⟨x, hx, ?_⟩
    unfold fO
    rw [hxo, e0]
    simp
    omega
  · rw [List.any_eq_true]
    refine ⟨y, hy, ?_⟩
    unfold fK
    rw [hyk, e0, hc]
    simp
    omega
set_option maxRecDepth 100000 in
set_option maxHeartbeats 16000000 in
theorem nests_c (S : ByteArray) (fr en : Int) (w : World) : Calls Try.prog 5 #[.string S, .int .i64 fr, .int .i64 en] w fun e w' => BoolP w true e w' := by
  by_cases hS : (300 : Int) < (S.size : Int)
  · go_enter Try.func5, Try.ntmps5
    go_wp2_with (fail)
    go_ret
    exact ⟨rfl, Below.refl _ w⟩
  · have HS : Aside0 (S.size ≤ 300) := ⟨by omega⟩
    go_enter Try.func5, Try.ntmps5
    go_upto_region 4 with (fail)
    refine (runs_c S fr en w (by have := HS.out; omega)).mono ?_
    rintro _ w1 ⟨A1, n1, c1, rfl, hr1, hb1⟩
    obtain ⟨hg1, hg2⟩ := runsB_gap S fr en
    have hlen := runsB_len S fr en
    obtain ⟨l, hl⟩ : ∃ l, runsB S fr en = l := ⟨_, rfl⟩
    rw [hl] at hr1 hg1 hg2 hlen
    have HR1 := Aside0.mk hr1
    have HB1 := Aside0.mk hb1
    have HG1 := Aside0.mk hg1
    have HG2 := Aside0.mk hg2
    have hn1 : n1 ≤ 300 := by rw [← hr1.1]; have := HS.out; omega
    have HN1 := Aside0.mk hn1
    clear hr1 hb1 hg1 hg2 hl hlen hn1
    go_upto_region 5 with (fail)
    refine (pairs_c A1 n1 c1 l w1 HR1.out (by have := HN1.out; omega)).mono ?_
    rintro _ w2 ⟨A2, n2, c2, R, rfl, hp, hs, hr2, hb2⟩
    have HLW := Aside0.mk (laws_of HG2.out hp hs)
    have HR2 := Aside0.mk hr2
    have HB2 : Aside0 (Below w.heap.size w w2) := ⟨HB1.out.trans (hb2.mono HB1.out.size)⟩
    have HR12 := Aside0.mk (rows_below HR1.out hb2)
    clear hp hs hr2 hb2 HR1
    obtain ⟨m, hm⟩ : ∃ m, S.size = m := ⟨_, rfl⟩
    have hm3 : m ≤ 300 := by have := HS.out; omega
    go_upto_region 6 with ((with_reducible refine gate_dst (N := 31) rfl ?_); refine Kd.R_make kI (w0 := w2) 0 3 rfl rfl 42 (.tmp 30) (.tmp 30) rfl (m : Int) rfl rfl Try.underlying42 (.int .i64 0) 8 info3a rfl (by decide) (by decide) 0 (ok := fun k => w2.heap.size ≤ k) (okp := fun _ => False) rfl (fun _ h => h.elim) (Nat.le_refl _) (by omega) (by omega) (Below.refl _ _) (Nat.zero_le _) ?_; intro va wa hRa _ hga hata)
    obtain ⟨g, cap, rfl, hgg⟩ := made_form2 hRa hata
    rw [List.length_replicate, Int.toNat_natCast] at *
    have hba : Below w2.heap.size w2 wa := ⟨hga.os, hga.tape, hga.output, hga.size, fun k hk => hga.block k hk (by simp)⟩
    rw [tal_nil] at hRa
    have HNS0 : Aside0 (NS w2 wa g m cap []) := ⟨⟨hRa, hba⟩⟩
    have HM := Aside0.mk hm
    clear hRa hga hata hba hgg hm hm3
    go_upto_block 0 with (fail)
    go_cut [] from 32 to 272 (fun wc => Aside0 (NS w2 wc g m cap (R.flatMap posns)))
    case first =>
      as_aux_lemma =>
        go_wp2_with (fail)
        go_loopg [10] n2 (fun gk v10 wr => ∃ i : Nat, v10 = .int .i64 (i : Int) ∧ Aside0 (i + gk = n2) ∧ Aside0 (NS w2 wr g m cap ((R.take i).flatMap posns)))
        case atStart => exact ⟨0, rfl, ⟨by omega⟩, HNS0⟩
        case round =>
          as_aux_lemma =>
            clear HNS0
            obtain ⟨i, rfl, HK, HNS⟩ := hrel
            by_cases hin : i < n2
            case neg =>
              have hii : ¬ ((i : Int) < (n2 : Int)) := by omega
              have HTA : Aside0 (R.take i = R) := ⟨List.take_of_length_le (by rw [HR2.out.1]; omega)⟩
              go_wp2_with (fail)
              go_meet
              case rel => exact ⟨by have h := HNS.out; rw [HTA.out] at h; exact h⟩
            case pos =>
              obtain ⟨gn, rfl⟩ : ∃ gn, gk = gn + 1 := ⟨gk - 1, by have := HK.out; omega⟩
              obtain ⟨⟨pa, pb, ps⟩, hp⟩ : ∃ p, R[i]? = some p := ⟨_, List.getElem?_eq_getElem (by rw [HR2.out.1]; exact hin)⟩
              obtain ⟨ad, hA, _⟩ := HR2.out.2.2 (by omega)
              subst hA
              obtain ⟨f1, f2, f3, f4, f5, f6⟩ := pair_facts HG1.out HLW.out (List.mem_of_getElem? hp)
              obtain ⟨N, hN⟩ : ∃ N : Int, nn ⟨pa, pb, ps⟩ = N := ⟨_, rfl⟩
              have hNP : 1 ≤ N ∧ N ≤ 2 := by rw [← hN]; exact nn_pos _
              rw [hN] at f3 f4 f5 f6
              dsimp only at f1 f2 f3 f4 f5 f6
              obtain ⟨cc, hcc⟩ : ∃ q, bt S pa = q := ⟨_, rfl⟩
              rw [hcc] at f4 f5 f6
              obtain ⟨x0, x1, x2⟩ := pr_at (rows_below HR2.out HNS.out.bel) hp
              dsimp only at x0 x1 x2
              have HP := Aside0.mk hp
              have HNN := Aside0.mk hN
              have HNP := Aside0.mk hNP
              have HIN := Aside0.mk hin
              have HF : Aside0 (pb ≤ (S.size : Int) ∧ 2 * N + 1 ≤ pb - pa ∧ 0 ≤ pa) := ⟨f2, f3, f1⟩
              have HF4 := Aside0.mk f4
              have HF5 := Aside0.mk f5
              have HF6 := Aside0.mk f6
              have HCC := Aside0.mk hcc
              have i0 : (0 : Int) ≤ (i : Int) := by omega
              have i1 : (i : Int) < (n2 : Int) := by omega
              have hwi : IntKind.i64.wrap ((i : Int) + 1) = (i : Int) + 1 := IntWalk.i64_in _ (by have := HR2.out.2.1; omega)
              clear hp hN hNP hin f1 f2 f3 f4 f5 f6 hcc
              go_upto_if 42 with (fail)
              go_cut [11] from 38 to 42 (fun v11 wc => v11 = .int .i64 N ∧ Aside0 (wr = wc))
              case first =>
                as_aux_lemma =>
                  cases ps
                  · have hN1 : N = 1 := HNN.out.symm
                    go_wp2_with (fail)
                    go_meet
                    case rel => exact ⟨by rw [hN1], ⟨rfl⟩⟩
                  · have hN1 : N = 2 := HNN.out.symm
                    go_wp2_with (fail)
                    go_meet
                    case rel => exact ⟨by rw [hN1], ⟨rfl⟩⟩
              case rest =>
                as_aux_lemma =>
                  obtain ⟨rfl, HW0⟩ := hcut
                  obtain rfl := HW0.out
                  clear x2
                  go_upto_region 12 with (fail)
                  go_cut [93] from 43 to 93 (fun v93 wc => v93 = .bool false ∧ Aside0 (∃ q, wc = wr.drewN q))
                  case first =>
                    as_aux_lemma =>
                      have q1 : ¬ (pa < 0) := by have := HF.out; omega
                      have q2 : ¬ ((S.size : Int) < pb) := by have := HF.out; omega
                      have q3 : IntKind.i64.wrap (pb - pa) = pb - pa := IntWalk.i64_in _ (by have := HF.out; have := HS.out; have := HNP.out; omega)
                      have q4 : IntKind.i64.wrap (2 * N) = 2 * N := IntWalk.i64_in _ (by have := HNP.out; omega)
                      have q5 : IntKind.i64.wrap (2 * N + 1) = 2 * N + 1 := IntWalk.i64_in _ (by have := HNP.out; omega)
                      have q6 : ¬ (pb - pa < 2 * N + 1) := by have := HF.out; omega
                      rcases Nat.eq_zero_or_pos i with h0 | h0
                      · have q7 : decide (0 < i) = false := decide_eq_false (by omega)
                        clear h0
                        go_quiet (fail)
                        go_wp2_with (fail)
                        go_meet
                        case rel => exact ⟨rfl, ⟨_, rfl⟩⟩
                      · obtain ⟨j, hj⟩ : ∃ j, i = j + 1 := ⟨i - 1, by omega⟩
                        have q7 : (0 : Int) < (i : Int) := by omega
                        have q8 : IntKind.i64.wrap ((i : Int) - 1) = (j : Int) := by rw [show (i : Int) - 1 = (j : Int) by omega]; exact IntWalk.i64_in _ (by have := HR2.out.2.1; omega)
                        obtain ⟨⟨qa, qb, qs⟩, hq⟩ : ∃ p, R[j]? = some p := ⟨_, List.getElem?_eq_getElem (by rw [HR2.out.1]; omega)⟩
                        obtain ⟨y0, _, _⟩ := pr_at (rows_below HR2.out HNS.out.bel) hq
                        dsimp only at y0
                        have j0 : (0 : Int) ≤ (j : Int) := by omega
                        have j1 : (j : Int) < (n2 : Int) := by omega
                        have q9 : ¬ (pa ≤ qa) := by
                          obtain ⟨g1, g2⟩ := List.getElem?_eq_some_iff.1 hq
                          obtain ⟨g3, g4⟩ := List.getElem?_eq_some_iff.1 HP.out
                          have := (List.pairwise_iff_getElem.1 HLW.out.pw j i g1 g3 (by omega)).1
                          rw [g2, g4] at this
                          have this : qa < pa := this
                          omega
                        clear hj hq
                        go_quiet (fail)
                        go_wp2_with (fail)
                        go_meet
                        case rel => exact ⟨rfl, ⟨_, rfl⟩⟩
                  case rest =>
                    as_aux_lemma =>
                      obtain ⟨rfl, HDR⟩ := hcut
                      obtain ⟨wB, hwB⟩ : ∃ q, wc = q := ⟨_, rfl⟩
                      rw [hwB] at HDR ⊢
                      have HNB : Aside0 (NS w2 wB g m cap ((R.take i).flatMap posns)) := ⟨by obtain ⟨q, hq⟩ := HDR.out; rw [hq]; exact HNS.out.below (pw_below_drewN (Below.refl _ wr) q)⟩
                      clear HDR hwB x0 x1
                      obtain ⟨x0, x1, _⟩ := pr_at (rows_below HR2.out HNB.out.bel) HP.out
                      dsimp only at x0 x1
                      obtain ⟨a, rfl⟩ : ∃ a : Nat, pa = (a : Int) := ⟨pa.toNat, by have := HF.out; omega⟩
                      have ha : a < S.size := by have := HF.out; have := HNP.out; omega
                      have z0 : (((S[a]'ha).toNat : Nat) : Int) = cc := by rw [bt_nat S a ha]; exact HCC.out
                      have y2 : (0 : Int) ≤ (a : Int) := by omega
                      have y3 : (a : Int) < (S.size : Int) := by omega
                      have HAS := Aside0.mk ha
                      go_upto_block 2 with (fail)
                      clear z0 y3
                      go_cut [] from 94 to 155 (fun wc => Aside0 (NS w2 wc g m cap ((R.take (i + 1)).flatMap posns)))
                      case first =>
                        as_aux_lemma =>
                          have HSP := Aside0.mk (fun (k : Nat) (hk : (k : Int) < N) => flat_split HP.out (by rw [HNN.out]; exact hk))
                          have HND := Aside0.mk HLW.out.nodup
                          go_wp2_with (fail)
                          go_loopg [13] N.toNat (fun gj v13 wr => ∃ k : Nat, v13 = .int .i64 (k : Int) ∧ Aside0 ((k : Int) + (gj : Int) = N) ∧ Aside0 (NS w2 wr g m cap ((R.take i).flatMap posns ++ bits ⟨(a : Int), pb, ps⟩ k)))
                          case atStart => exact ⟨0, rfl, ⟨by have := HNP.out; omega⟩, ⟨by rw [bits, List.append_nil]; exact HNB.out⟩⟩
                          case round =>
                            as_aux_lemma =>
                              clear HNB HNS x0 x1
                              obtain ⟨k, rfl, HKN, HNS⟩ := hrel
                              obtain ⟨x0, x1, _⟩ := pr_at (rows_below HR2.out HNS.out.bel) HP.out
                              dsimp only at x0 x1
                              by_cases hkn : (k : Int) < N
                              case neg =>
                                have HFIN : Aside0 ((R.take (i + 1)).flatMap posns = (R.take i).flatMap posns ++ bits ⟨(a : Int), pb, ps⟩ k) := ⟨by
                                  rw [take_snoc HP.out, List.flatMap_append, List.flatMap_cons, List.flatMap_nil, List.append_nil]
                                  unfold posns
                                  rw [HNN.out, show N.toNat = k by have := HKN.out; omega]⟩
                                go_wp2_with (fail)
                                go_meet
                                case rel => exact ⟨by rw [HFIN.out]; exact HNS.out⟩
                              case pos =>
                                obtain ⟨gj, rfl⟩ : ∃ gj', gk = gj' + 1 := ⟨gk - 1, by have := HKN.out; omega⟩
                                obtain ⟨rest, hrest⟩ := HSP.out k hkn
                                have hnd := HND.out
                                rw [hrest] at hnd
                                obtain ⟨q1, hq1⟩ : ∃ q1 : Nat, (a : Int) + (k : Int) = (q1 : Int) := ⟨a + k, by omega⟩
                                obtain ⟨q2, hq2⟩ : ∃ q2 : Nat, pb - 1 - (k : Int) = (q2 : Int) := ⟨(pb - 1 - (k : Int)).toNat, by have := HF.out; omega⟩
                                try dsimp only at hnd
                                rw [hq1, hq2] at hnd
                                have hn1 : (q1 : Int) ∉ (R.take i).flatMap posns ++ bits ⟨(a : Int), pb, ps⟩ k := fun h => (List.nodup_append.1 hnd).2.2 _ h _ List.mem_cons_self rfl
                                have hn2 : (q2 : Int) ∉ ((R.take i).flatMap posns ++ bits ⟨(a : Int), pb, ps⟩ k) ++ [(q1 : Int)] := fun h => by
                                  rcases List.mem_append.1 h with h | h
                                  · exact (List.nodup_append.1 hnd).2.2 _ h _ (List.mem_cons_of_mem _ List.mem_cons_self) rfl
                                  · rw [List.mem_singleton.1 h] at hnd
                                    have := (List.nodup_cons.1 (List.nodup_append.1 hnd).2.1).1
                                    exact this List.mem_cons_self
                                have hl1 : q1 < S.size := by have := HF.out; omega
                                have hl2 : q2 < S.size := by have := HF.out; omega
                                have hb1 : (((S[q1]'hl1).toNat : Nat) : Int) = cc := by rw [bt_nat S q1 hl1, ← hq1]; exact (HF4.out k (by omega) hkn).1
                                have hb2 : (((S[q2]'hl2).toNat : Nat) : Int) = cc := by rw [bt_nat S q2 hl2, ← hq2]; exact (HF4.out k (by omega) hkn).2
                                have hm1 : q1 < m := by rw [← HM.out]; exact hl1
                                have hm2 : q2 < m := by rw [← HM.out]; exact hl2
                                have k0 : (0 : Int) ≤ (k : Int) := by omega
                                have s1 : IntKind.i64.wrap ((a : Int) + (k : Int)) = (q1 : Int) := by rw [hq1]; exact IntWalk.i64_in _ (by have := HS.out; omega)
                                have s2 : IntKind.i64.wrap (pb - 1) = pb - 1 := IntWalk.i64_in _ (by have := HF.out; have := HS.out; omega)
                                have s3 : IntKind.i64.wrap (pb - 1 - (k : Int)) = (q2 : Int) := by rw [hq2]; exact IntWalk.i64_in _ (by have := HS.out; omega)
                                have s4 : IntKind.i64.wrap ((k : Int) + 1) = (k : Int) + 1 := IntWalk.i64_in _ (by have := HNP.out; omega)
                                have s5 : IntKind.i64.wrap 1 = 1 := by decide
                                have e1 : (0 : Int) ≤ (q1 : Int) := by omega
                                have e2 : (q1 : Int) < (m : Int) := by omega
                                have e3 : (0 : Int) ≤ (q2 : Int) := by omega
                                have e4 : (q2 : Int) < (m : Int) := by omega
                                have e5 : (q1 : Int) < (S.size : Int) := by omega
                                have e6 : (q2 : Int) < (S.size : Int) := by omega
                                have e7 : (cc != cc) = false := by simp
                                have c0 := HNS.out.cell0 hm1 hn1
                                have c1 := HNS.out.frz
                                have HN1Q := Aside0.mk hn1
                                have HN2Q := Aside0.mk hn2
                                have HQQ : Aside0 ((a : Int) + (k : Int) = (q1 : Int) ∧ pb - 1 - (k : Int) = (q2 : Int)) := ⟨hq1, hq2⟩
                                have HM1 := Aside0.mk hm1
                                have HM2 := Aside0.mk hm2
                                have HKN2 := Aside0.mk hkn
                                have H21 : Aside0 ((q2 : Int) ≠ (q1 : Int)) := ⟨fun h => hn2 (by rw [h]; simp)⟩
                                clear hrest hnd hn1 hn2 hq1 hq2 hm1 hm2
                                go_upto_region 19 with (fail)
                                obtain ⟨wP, hwP⟩ : ∃ q, wr.setCell ⟨g, q1, none⟩ (.int .i64 1) = q := ⟨_, rfl⟩
                                rw [hwP]
                                have HNP1 : Aside0 (NS w2 wP g m cap (((R.take i).flatMap posns ++ bits ⟨(a : Int), pb, ps⟩ k) ++ [(q1 : Int)])) := ⟨by rw [← hwP]; exact HNS.out.put0 HM1.out HN1Q.out⟩
                                clear c0 c1 x0 x1 hwP
                                obtain ⟨x0, x1, _⟩ := pr_at (rows_below HR2.out HNP1.out.bel) HP.out
                                dsimp only at x0 x1
                                have c0 := HNP1.out.cell0 HM2.out HN2Q.out
                                have c1 := HNP1.out.frz
                                go_upto_region 20 with (fail)
                                obtain ⟨wQ, hwQ⟩ : ∃ q, wP.setCell ⟨g, q2, none⟩ (.int .i64 1) = q := ⟨_, rfl⟩
                                rw [hwQ]
                                have HNP2 : Aside0 (NS w2 wQ g m cap ((((R.take i).flatMap posns ++ bits ⟨(a : Int), pb, ps⟩ k) ++ [(q1 : Int)]) ++ [(q2 : Int)])) := ⟨by rw [← hwQ]; exact HNP1.out.put0 HM2.out HN2Q.out⟩
                                clear c0 c1 x0 x1 hwQ
                                obtain ⟨x0, x1, _⟩ := pr_at (rows_below HR2.out HNP2.out.bel) HP.out
                                dsimp only at x0 x1
                                go_wp2_with (fail)
                                go_roundg gj
                                case measure => exact Nat.lt_succ_self _
                                case rel => exact ⟨k + 1, by simp, ⟨by have := HKN.out; omega⟩, ⟨by
                                  have h := HNP2.out
                                  rw [bits]
                                  dsimp only
                                  rw [HQQ.out.1, HQQ.out.2]
                                  simpa using h⟩⟩

                      case rest =>
                        as_aux_lemma =>
                          have HNA := hcut
                          clear hcut
                          obtain ⟨wA, hwA⟩ : ∃ q, wc = q := ⟨_, rfl⟩
                          rw [hwA] at HNA ⊢
                          clear hwA HNB HNS x0 x1
                          go_upto_block 4 with (fail)
                          go_cut [14, 15] from 156 to 237 (fun v14 v15 wc => v14 = .bool true ∧ v15 = .bool true ∧ Aside0 (NS w2 wc g m cap ((R.take (i + 1)).flatMap posns)))
                          case first =>
                            as_aux_lemma =>
                              go_wp2_with (fail)
                              go_loopg [14, 15, 16] n1 (fun gj v14 v15 v16 wr => ∃ (k : Nat) (ob kb : Bool), v16 = .int .i64 (k : Int) ∧ v14 = .bool ob ∧ v15 = .bool kb ∧ Aside0 (k + gj = n1) ∧ Aside0 (ob = (l.take k).any (fO (a : Int) N cc) ∧ kb = (l.take k).any (fK pb N cc)) ∧ Aside0 (NS w2 wr g m cap ((R.take (i + 1)).flatMap posns)))
                              case atStart => exact ⟨0, false, false, rfl, rfl, rfl, ⟨by omega⟩, ⟨rfl, rfl⟩, HNA⟩
                              case round =>
                                as_aux_lemma =>
                                  clear HNA
                                  obtain ⟨k, ob, kb, rfl, rfl, rfl, HKJ, HOB, HNS⟩ := hrel
                                  by_cases hkn : k < n1
                                  case neg =>
                                    have hkk : ¬ ((k : Int) < (n1 : Int)) := by omega
                                    have HT1 : Aside0 (ob = true ∧ kb = true) := ⟨by
                                      have hta : l.take k = l := List.take_of_length_le (by rw [HR12.out.1]; omega)
                                      have h := HOB.out
                                      rw [hta, HF5.out, HF6.out] at h
                                      exact h⟩
                                    obtain ⟨rfl, rfl⟩ := HT1.out
                                    go_wp2_with (fail)
                                    go_meet
                                    case rel => exact ⟨rfl, rfl, HNS⟩
                                  case pos =>
                                    obtain ⟨gj, rfl⟩ : ∃ gj', gk = gj' + 1 := ⟨gk - 1, by have := HKJ.out; omega⟩
                                    obtain ⟨⟨ra, rn, rc, ro, rk⟩, hr⟩ : ∃ r, l[k]? = some r := ⟨_, List.getElem?_eq_getElem (by rw [HR12.out.1]; exact hkn)⟩
                                    obtain ⟨ad3, hA3, _⟩ := HR12.out.2.2 (by omega)
                                    subst hA3
                                    obtain ⟨r0, r1, r2, r3, r4⟩ := rn_at (rows_below HR12.out HNS.out.bel) hr
                                    dsimp only at r0 r1 r2 r3 r4
                                    have hrg := HG1.out _ (List.mem_of_getElem? hr)
                                    have hmh := minE_hi S en
                                    have HRG : Aside0 (0 ≤ ra ∧ 1 ≤ rn ∧ ra + rn ≤ 300) := ⟨by have := HS.out; dsimp only at hrg; omega⟩
                                    have HANY : Aside0 ((l.take (k + 1)).any (fO (a : Int) N cc) = (ob || fO (a : Int) N cc ⟨ra, rn, rc, ro, rk⟩) ∧ (l.take (k + 1)).any (fK pb N cc) = (kb || fK pb N cc ⟨ra, rn, rc, ro, rk⟩)) := ⟨by rw [any_take hr, any_take hr, HOB.out.1, HOB.out.2]; exact ⟨rfl, rfl⟩⟩
                                    have k0 : (0 : Int) ≤ (k : Int) := by omega
                                    have k1 : (k : Int) < (n1 : Int) := by omega
                                    have hwk : IntKind.i64.wrap ((k : Int) + 1) = (k : Int) + 1 := IntWalk.i64_in _ (by have := HN1.out; omega)
                                    clear hr hrg hmh hkn
                                    obtain ⟨bx, hbx⟩ : ∃ q, wr.heap.size = q := ⟨_, rfl⟩
                                    obtain ⟨wx, hwx⟩ : ∃ q, wr.alloc (.cells zrun 23) = q := ⟨_, rfl⟩
                                    have hswx : wx.heap.size = bx + 1 := by rw [← hwx]; simp [hbx]
                                    have hzbx : wx.heap[bx]? = some (.cells zrun 23 (0, 0)) := by rw [← hwx, ← hbx]; exact heap_alloc_new _ _
                                    have hbbx : Below wr.heap.size wr wx := by rw [← hwx]; exact below_alloc (Below.refl _ wr) _
                                    have fzbx := fun j => blk_frozen hzbx j
                                    have z0bx : wx.cell? ⟨bx, 0, none⟩ = some (.int .i64 0) := cell_of_row _ _ _ _ _ _ hzbx
                                    have z1bx : wx.cell? ⟨bx, 1, none⟩ = some (.int .i64 0) := cell_of_row _ _ _ _ _ _ hzbx
                                    have z2bx : wx.cell? ⟨bx, 2, none⟩ = some (.int .u8 0) := cell_of_row _ _ _ _ _ _ hzbx
                                    have z3bx : wx.cell? ⟨bx, 3, none⟩ = some (.bool false) := cell_of_row _ _ _ _ _ _ hzbx
                                    have z4bx : wx.cell? ⟨bx, 4, none⟩ = some (.bool false) := cell_of_row _ _ _ _ _ _ hzbx
                                    have HZbx := Aside0.mk hzbx
                                    have HBbx := Aside0.mk hbbx
                                    clear hzbx hbbx
                                    go_upto_region 27 with (fail)
                                    obtain ⟨V, hV⟩ : ∃ q, ((((wx.setCell ⟨bx, 0, none⟩ (.int .i64 ra)).setCell ⟨bx, 1, none⟩ (.int .i64 rn)).setCell ⟨bx, 2, none⟩ (.int .u8 rc)).setCell ⟨bx, 3, none⟩ (.bool ro)).setCell ⟨bx, 4, none⟩ (.bool rk) = q := ⟨_, rfl⟩
                                    rw [hV]
                                    have HV : Aside0 (V.heap[bx]? = some (.cells (rnc (⟨ra, rn, rc, ro, rk⟩ : Rn)) 23 (0, 0))) := ⟨by rw [← hV]; exact five_row HZbx.out _ _ _ _ _⟩
                                    have HBV : Aside0 (Below wr.heap.size wr V) := ⟨by rw [← hV]; exact five_below HBbx.out (by omega) _ _ _ _ _⟩
                                    clear hV hwx fzbx z0bx z1bx z2bx z3bx z4bx hswx
                                    have HNV : Aside0 (NS w2 V g m cap ((R.take (i + 1)).flatMap posns)) := ⟨HNS.out.below HBV.out⟩
                                    clear HNS r0 r1 r2 r3 r4
                                    have d0 : V.cell? ⟨bx, 0, none⟩ = some (.int .i64 ra) := cell_of_row _ _ _ _ _ _ HV.out
                                    have d1 : V.cell? ⟨bx, 1, none⟩ = some (.int .i64 rn) := cell_of_row _ _ _ _ _ _ HV.out
                                    have d2 : V.cell? ⟨bx, 2, none⟩ = some (.int .u8 rc) := cell_of_row _ _ _ _ _ _ HV.out
                                    have d3 : V.cell? ⟨bx, 3, none⟩ = some (.bool ro) := cell_of_row _ _ _ _ _ _ HV.out
                                    obtain ⟨x0, x1, _⟩ := pr_at (rows_below HR2.out HNV.out.bel) HP.out
                                    dsimp only at x0 x1
                                    have s1 : IntKind.i64.wrap ((a : Int) + N) = (a : Int) + N := IntWalk.i64_in _ (by have := HF.out; have := HS.out; have := HNP.out; omega)
                                    have s2 : IntKind.i64.wrap (ra + rn) = ra + rn := IntWalk.i64_in _ (by have := HRG.out; omega)
                                    go_cut [14] from 162 to 201 (fun v14 wc => v14 = .bool (ob || fO (a : Int) N cc ⟨ra, rn, rc, ro, rk⟩) ∧ Aside0 (∃ q, wc = V.drewN q))
                                    case first =>
                                      as_aux_lemma =>
                                        rcases Bool.eq_false_or_eq_true ob with f0 | f0
                                        · have FZ := Aside0.mk f0
                                          rw [f0]
                                          clear f0
                                          go_quiet (fail)
                                          go_wp2_with (fail)
                                          go_meet
                                          case rel => exact ⟨(show Value.bool true = Value.bool (ob || fO (a : Int) N cc ⟨ra, rn, rc, ro, rk⟩) from by rw [FZ.out]; rfl), ⟨_, rfl⟩⟩
                                        · have FZ := Aside0.mk f0
                                          rw [f0]
                                          clear f0
                                          rcases Bool.eq_false_or_eq_true ro with f1 | f1
                                          · by_cases f2 : rc = cc
                                            · by_cases f3 : ra ≤ (a : Int)
                                              · by_cases f4 : (a : Int) + N ≤ ra + rn
                                                · have f2b : (rc == cc) = true := by simpa using f2
                                                  have HQ : Aside0 (fO (a : Int) N cc ⟨ra, rn, rc, ro, rk⟩ = true) := ⟨by unfold fO; simp [f1, f2, f3, f4]⟩
                                                  go_quiet (fail)
                                                  go_wp2_with (fail)
                                                  go_meet
                                                  case rel => exact ⟨(show Value.bool true = Value.bool (ob || fO (a : Int) N cc ⟨ra, rn, rc, ro, rk⟩) from by rw [FZ.out, HQ.out]; rfl), ⟨_, rfl⟩⟩
                                                · have f2b : (rc == cc) = true := by simpa using f2
                                                  have HQ : Aside0 (fO (a : Int) N cc ⟨ra, rn, rc, ro, rk⟩ = false) := ⟨by unfold fO; simp [f1, f2, f3, f4]⟩
                                                  go_quiet (fail)
                                                  go_wp2_with (fail)
                                                  go_meet
                                                  case rel => exact ⟨(show Value.bool false = Value.bool (ob || fO (a : Int) N cc ⟨ra, rn, rc, ro, rk⟩) from by rw [FZ.out, HQ.out]; rfl), ⟨_, rfl⟩⟩
                                              · have f2b : (rc == cc) = true := by simpa using f2
                                                have HQ : Aside0 (fO (a : Int) N cc ⟨ra, rn, rc, ro, rk⟩ = false) := ⟨by unfold fO; simp [f1, f2, f3]⟩
                                                go_quiet (fail)
                                                go_wp2_with (fail)
                                                go_meet
                                                case rel => exact ⟨(show Value.bool false = Value.bool (ob || fO (a : Int) N cc ⟨ra, rn, rc, ro, rk⟩) from by rw [FZ.out, HQ.out]; rfl), ⟨_, rfl⟩⟩
                                            · have f2b : (rc == cc) = false := by simpa using f2
                                              have HQ : Aside0 (fO (a : Int) N cc ⟨ra, rn, rc, ro, rk⟩ = false) := ⟨by unfold fO; simp [f1, f2]⟩
                                              go_quiet (fail)
                                              go_wp2_with (fail)
                                              go_meet
                                              case rel => exact ⟨(show Value.bool false = Value.bool (ob || fO (a : Int) N cc ⟨ra, rn, rc, ro, rk⟩) from by rw [FZ.out, HQ.out]; rfl), ⟨_, rfl⟩⟩
                                          · have HQ : Aside0 (fO (a : Int) N cc ⟨ra, rn, rc, ro, rk⟩ = false) := ⟨by unfold fO; simp [f1]⟩
                                            go_quiet (fail)
                                            go_wp2_with (fail)
                                            go_meet
                                            case rel => exact ⟨(show Value.bool false = Value.bool (ob || fO (a : Int) N cc ⟨ra, rn, rc, ro, rk⟩) from by rw [FZ.out, HQ.out]; rfl), ⟨_, rfl⟩⟩

                                    case rest =>
                                      as_aux_lemma =>
                                        obtain ⟨rfl, HDR⟩ := hcut
                                        obtain ⟨wB, hwB⟩ : ∃ q, wc = q := ⟨_, rfl⟩
                                        rw [hwB] at HDR ⊢
                                        have bVB : Below V.heap.size V wB := by obtain ⟨q, hq⟩ := HDR.out; rw [hq]; exact pw_below_drewN (Below.refl _ V) q
                                        have HNB : Aside0 (NS w2 wB g m cap ((R.take (i + 1)).flatMap posns)) := ⟨HNV.out.below bVB⟩
                                        have HBX : Aside0 (wB.heap[bx]? = some (.cells (rnc ⟨ra, rn, rc, ro, rk⟩) 23 (0, 0))) := ⟨(bVB.block bx (blk_lt HV.out)).trans HV.out⟩
                                        clear HDR hwB bVB d0 d1 d2 d3 x0 x1 s1
                                        obtain ⟨o2, ho2⟩ : ∃ q, (ob || fO (a : Int) N cc ⟨ra, rn, rc, ro, rk⟩) = q := ⟨_, rfl⟩
                                        have HO2 := Aside0.mk ho2
                                        rw [ho2]
                                        clear ho2
                                        have d0 : wB.cell? ⟨bx, 0, none⟩ = some (.int .i64 ra) := cell_of_row _ _ _ _ _ _ HBX.out
                                        have d1 : wB.cell? ⟨bx, 1, none⟩ = some (.int .i64 rn) := cell_of_row _ _ _ _ _ _ HBX.out
                                        have d2 : wB.cell? ⟨bx, 2, none⟩ = some (.int .u8 rc) := cell_of_row _ _ _ _ _ _ HBX.out
                                        have d4 : wB.cell? ⟨bx, 4, none⟩ = some (.bool rk) := cell_of_row _ _ _ _ _ _ HBX.out
                                        obtain ⟨x0, x1, _⟩ := pr_at (rows_below HR2.out HNB.out.bel) HP.out
                                        dsimp only at x0 x1
                                        have s3 : IntKind.i64.wrap (pb - N) = pb - N := IntWalk.i64_in _ (by have := HF.out; have := HS.out; have := HNP.out; omega)
                                        go_upto_region 28 with (fail)
                                        rcases Bool.eq_false_or_eq_true kb with f0 | f0
                                        · have FZ := Aside0.mk f0
                                          rw [f0]
                                          clear f0
                                          go_quiet (fail)
                                          have HND : Aside0 (NS w2 (wB.drewN nq) g m cap ((R.take (i + 1)).flatMap posns)) := ⟨HNB.out.below (pw_below_drewN (Below.refl _ wB) nq)⟩
                                          go_wp2_with (fail)
                                          go_roundg gj
                                          case measure => exact Nat.lt_succ_self _
                                          case rel => exact ⟨k + 1, o2, true, by simp, rfl, rfl, ⟨by have := HKJ.out; omega⟩, ⟨by rw [HANY.out.1, HANY.out.2]; exact ⟨HO2.out.symm, (by rw [FZ.out]; rfl)⟩⟩, HND⟩
                                        · have FZ := Aside0.mk f0
                                          rw [f0]
                                          clear f0
                                          rcases Bool.eq_false_or_eq_true rk with f1 | f1
                                          · by_cases f2 : rc = cc
                                            · by_cases f3 : ra ≤ pb - N
                                              · by_cases f4 : pb ≤ ra + rn
                                                · have f2b : (rc == cc) = true := by simpa using f2
                                                  have HQ : Aside0 (fK pb N cc ⟨ra, rn, rc, ro, rk⟩ = true) := ⟨by unfold fK; simp [f1, f2, f3, f4]⟩
                                                  go_quiet (fail)
                                                  have HND : Aside0 (NS w2 (wB.drewN nq) g m cap ((R.take (i + 1)).flatMap posns)) := ⟨HNB.out.below (pw_below_drewN (Below.refl _ wB) nq)⟩
                                                  go_wp2_with (fail)
                                                  go_roundg gj
                                                  case measure => exact Nat.lt_succ_self _
                                                  case rel => exact ⟨k + 1, o2, true, by simp, rfl, rfl, ⟨by have := HKJ.out; omega⟩, ⟨by rw [HANY.out.1, HANY.out.2]; exact ⟨HO2.out.symm, (by rw [FZ.out, HQ.out]; rfl)⟩⟩, HND⟩
                                                · have f2b : (rc == cc) = true := by simpa using f2
                                                  have HQ : Aside0 (fK pb N cc ⟨ra, rn, rc, ro, rk⟩ = false) := ⟨by unfold fK; simp [f1, f2, f3, f4]⟩
                                                  go_quiet (fail)
                                                  have HND : Aside0 (NS w2 (wB.drewN nq) g m cap ((R.take (i + 1)).flatMap posns)) := ⟨HNB.out.below (pw_below_drewN (Below.refl _ wB) nq)⟩
                                                  go_wp2_with (fail)
                                                  go_roundg gj
                                                  case measure => exact Nat.lt_succ_self _
                                                  case rel => exact ⟨k + 1, o2, false, by simp, rfl, rfl, ⟨by have := HKJ.out; omega⟩, ⟨by rw [HANY.out.1, HANY.out.2]; exact ⟨HO2.out.symm, (by rw [FZ.out, HQ.out]; rfl)⟩⟩, HND⟩
                                              · have f2b : (rc == cc) = true := by simpa using f2
                                                have HQ : Aside0 (fK pb N cc ⟨ra, rn, rc, ro, rk⟩ = false) := ⟨by unfold fK; simp [f1, f2, f3]⟩
                                                go_quiet (fail)
                                                have HND : Aside0 (NS w2 (wB.drewN nq) g m cap ((R.take (i + 1)).flatMap posns)) := ⟨HNB.out.below (pw_below_drewN (Below.refl _ wB) nq)⟩
                                                go_wp2_with (fail)
                                                go_roundg gj
                                                case measure => exact Nat.lt_succ_self _
                                                case rel => exact ⟨k + 1, o2, false, by simp, rfl, rfl, ⟨by have := HKJ.out; omega⟩, ⟨by rw [HANY.out.1, HANY.out.2]; exact ⟨HO2.out.symm, (by rw [FZ.out, HQ.out]; rfl)⟩⟩, HND⟩
                                            · have f2b : (rc == cc) = false := by simpa using f2
                                              have HQ : Aside0 (fK pb N cc ⟨ra, rn, rc, ro, rk⟩ = false) := ⟨by unfold fK; simp [f1, f2]⟩
                                              go_quiet (fail)
                                              have HND : Aside0 (NS w2 (wB.drewN nq) g m cap ((R.take (i + 1)).flatMap posns)) := ⟨HNB.out.below (pw_below_drewN (Below.refl _ wB) nq)⟩
                                              go_wp2_with (fail)
                                              go_roundg gj
                                              case measure => exact Nat.lt_succ_self _
                                              case rel => exact ⟨k + 1, o2, false, by simp, rfl, rfl, ⟨by have := HKJ.out; omega⟩, ⟨by rw [HANY.out.1, HANY.out.2]; exact ⟨HO2.out.symm, (by rw [FZ.out, HQ.out]; rfl)⟩⟩, HND⟩
                                          · have HQ : Aside0 (fK pb N cc ⟨ra, rn, rc, ro, rk⟩ = false) := ⟨by unfold fK; simp [f1]⟩
                                            go_quiet (fail)
                                            have HND : Aside0 (NS w2 (wB.drewN nq) g m cap ((R.take (i + 1)).flatMap posns)) := ⟨HNB.out.below (pw_below_drewN (Below.refl _ wB) nq)⟩
                                            go_wp2_with (fail)
                                            go_roundg gj
                                            case measure => exact Nat.lt_succ_self _
                                            case rel => exact ⟨k + 1, o2, false, by simp, rfl, rfl, ⟨by have := HKJ.out; omega⟩, ⟨by rw [HANY.out.1, HANY.out.2]; exact ⟨HO2.out.symm, (by rw [FZ.out, HQ.out]; rfl)⟩⟩, HND⟩

                          case rest =>
                            as_aux_lemma =>
                              obtain ⟨rfl, rfl, HNA2⟩ := hcut
                              clear HNA
                              obtain ⟨wE, hwE⟩ : ∃ q, wc = q := ⟨_, rfl⟩
                              rw [hwE] at HNA2 ⊢
                              clear hwE
                              go_upto_block 6 with (fail)
                              go_wp2_with (fail)
                              go_loopg [18] i (fun gj v18 wr => ∃ k : Nat, v18 = .int .i64 (k : Int) ∧ Aside0 (k + gj = i) ∧ Aside0 (NS w2 wr g m cap ((R.take (i + 1)).flatMap posns)))
                              case atStart => exact ⟨0, rfl, ⟨by omega⟩, HNA2⟩
                              case round =>
                                as_aux_lemma =>
                                  clear HNA2
                                  obtain ⟨k, rfl, HKI, HNS⟩ := hrel
                                  by_cases hki : k < i
                                  case neg =>
                                    have hkk : ¬ ((k : Int) < (i : Int)) := by omega
                                    go_wp2_with (fail)
                                    go_roundg gn
                                    case measure => exact Nat.lt_succ_self _
                                    case rel => exact ⟨i + 1, by simp, ⟨by have := HK.out; omega⟩, HNS⟩
                                  case pos =>
                                    obtain ⟨gj, rfl⟩ : ∃ gj', gk = gj' + 1 := ⟨gk - 1, by have := HKI.out; omega⟩
                                    obtain ⟨⟨qa, qb, qs⟩, hq⟩ : ∃ p, R[k]? = some p := ⟨_, List.getElem?_eq_getElem (by rw [HR2.out.1]; have := HIN.out; omega)⟩
                                    obtain ⟨x0, x1, _⟩ := pr_at (rows_below HR2.out HNS.out.bel) HP.out
                                    obtain ⟨_, y1, _⟩ := pr_at (rows_below HR2.out HNS.out.bel) hq
                                    dsimp only at x0 x1 y1
                                    have hli : qa < (a : Int) ∧ (qb ≤ (a : Int) ∨ (pb ≤ qb)) := by
                                      obtain ⟨g1, g2⟩ := List.getElem?_eq_some_iff.1 hq
                                      obtain ⟨g3, g4⟩ := List.getElem?_eq_some_iff.1 HP.out
                                      have := List.pairwise_iff_getElem.1 HLW.out.pw k i g1 g3 hki
                                      rw [g2, g4] at this
                                      obtain ⟨t1, t2⟩ := this
                                      have t1 : qa < (a : Int) := t1
                                      have hnq := nn_pos ⟨qa, qb, qs⟩
                                      rcases t2 with t2 | ⟨t2, t3⟩
                                      · exact ⟨t1, .inl t2⟩
                                      · have t3 : pb ≤ qb - nn ⟨qa, qb, qs⟩ := t3
                                        exact ⟨t1, .inr (by omega)⟩
                                    have k0 : (0 : Int) ≤ (k : Int) := by omega
                                    have k1 : (k : Int) < (n2 : Int) := by have := HIN.out; omega
                                    have k2 : (k : Int) < (i : Int) := by omega
                                    have hwk : IntKind.i64.wrap ((k : Int) + 1) = (k : Int) + 1 := IntWalk.i64_in _ (by have := HR2.out.2.1; omega)
                                    go_upto_region 34 with (fail)
                                    go_cut [272] from 247 to 272 (fun v272 wc => v272 = .bool false ∧ Aside0 (∃ q, wc = wr.drewN q))
                                    case first =>
                                      as_aux_lemma =>
                                        by_cases c1 : (a : Int) < qb
                                        · have c2 : ¬ (qb < pb) := by omega
                                          clear hq hli
                                          go_quiet (fail)
                                          go_wp2_with (fail)
                                          go_meet
                                          case rel => exact ⟨rfl, ⟨_, rfl⟩⟩
                                        · clear hq hli
                                          go_quiet (fail)
                                          go_wp2_with (fail)
                                          go_meet
                                          case rel => exact ⟨rfl, ⟨_, rfl⟩⟩
                                    case rest =>
                                      as_aux_lemma =>
                                        obtain ⟨rfl, HDR⟩ := hcut
                                        obtain ⟨wB, hwB⟩ : ∃ q, wc = q := ⟨_, rfl⟩
                                        rw [hwB] at HDR ⊢
                                        have HNB : Aside0 (NS w2 wB g m cap ((R.take (i + 1)).flatMap posns)) := ⟨by obtain ⟨q, hq⟩ := HDR.out; rw [hq]; exact HNS.out.below (pw_below_drewN (Below.refl _ wr) q)⟩
                                        clear HDR hwB x0 x1 y1 hq hli
                                        go_wp2_with (fail)
                                        go_roundg gj
                                        case measure => exact Nat.lt_succ_self _
                                        case rel => exact ⟨k + 1, by simp, ⟨by have := HKI.out; omega⟩, HNB⟩

    case rest =>
      as_aux_lemma =>
        have HNZ := hcut
        clear hcut HNS0
        obtain ⟨wZ, hwZ⟩ : ∃ q, wc = q := ⟨_, rfl⟩
        rw [hwZ] at HNZ ⊢
        clear hwZ
        go_upto_block 8 with (fail)
        go_wp2_with (fail)
        go_loopg [19] m (fun gj v19 wr => ∃ k : Nat, v19 = .int .i64 (k : Int) ∧ Aside0 (k + gj = m) ∧ Aside0 (NS w2 wr g m cap (R.flatMap posns)))
        case atStart => exact ⟨0, rfl, ⟨by omega⟩, HNZ⟩
        case round =>
          as_aux_lemma =>
            clear HNZ
            obtain ⟨k, rfl, HKM, HNS⟩ := hrel
            by_cases hkm : k < m
            case neg =>
              have hkk : ¬ ((k : Int) < (m : Int)) := by omega
              have HRD := Aside0.mk (reads_c wr)
              have HBE : Aside0 (Below w.heap.size w wr) := ⟨HB2.out.trans (HNS.out.bel.mono HB2.out.size)⟩
              go_wp2_with (go_at_call 11; refine HRD.out.mono ?_; rintro _ w9 ⟨rfl, h9⟩; have HB9 := Aside0.mk h9; clear h9)
              go_ret
              exact ⟨rfl, HBE.out.trans (HB9.out.mono HBE.out.size)⟩
            case pos =>
              obtain ⟨gj, rfl⟩ : ∃ gj', gk = gj' + 1 := ⟨gk - 1, by have := HKM.out; omega⟩
              obtain ⟨x, hx⟩ : ∃ x : Int, ((R.flatMap posns).count (k : Int) : Int) = x := ⟨_, rfl⟩
              have hx1 : x ≤ 1 := by rw [← hx]; exact Int.ofNat_le.2 (nodup_count HLW.out.nodup _)
              have c0 := HNS.out.cell hkm
              rw [hx] at c0
              have hx2 : ¬ (1 < x) := by omega
              have k0 : (0 : Int) ≤ (k : Int) := by omega
              have k1 : (k : Int) < (m : Int) := by omega
              have hwk : IntKind.i64.wrap ((k : Int) + 1) = (k : Int) + 1 := IntWalk.i64_in _ (by have := HM.out; have := HS.out; omega)
              clear hx hx1 hkm
              go_wp2_with (fail)
              go_roundg gj
              case measure => exact Nat.lt_succ_self _
              case rel => exact ⟨k + 1, by simp, ⟨by have := HKM.out; omega⟩, HNS⟩

end Go.Proofs.Ytjfpkldknchnkaa.Me
