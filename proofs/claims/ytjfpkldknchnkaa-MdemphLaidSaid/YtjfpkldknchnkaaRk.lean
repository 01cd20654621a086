/- The document's Look walked. -/
import Derived.Test.YtjfpkldknchnkaaLk
namespace Go.Proofs.Ytjfpkldknchnkaa.Me
open Go.RowKit Go.Proofs.YtjfpkldknchnkaaW.PrintWords Go.Proofs.YtjfpkldknchnkaaW.PrintLast Go.Proofs.YtjfpkldknchnkaaW.PrintMore
attribute [local go_sem] max2_int min2_int max_two min_two max_three min_three max_four min_four
set_option linter.unusedVariables false
set_option linter.unusedSimpArgs false
theorem info26s : (Try.prog.info? 26).map (·.size) = some 5 := by kernel_rfl
theorem isEnd.hi {S : ByteArray} {n : Int} (h : isEnd S n) : n ≤ (S.size : Int) := by
  rcases h with ⟨_, h⟩ | ⟨k, h0, h1, _, _, h | h⟩
  · omega
  · have := h.2.2; omega
  · have := h.2; omega
def RLookT (S : ByteArray) (fr at_ en : Int) (w : World) (e : Ending) (w' : World) : Prop :=
  ∃ n E, isEnd S n ∧ E = (if n < en then n else en) ∧ Below w.heap.size w w' ∧ ((¬ good (bt S) fr at_ E ∧ e = .returned (.tuple #[.agg zrun, .bool false])) ∨ (good (bt S) fr at_ E ∧ ∃ N, IsN (bt S) E at_ N ∧ e = .returned (.tuple #[.agg (runc (bt S) fr E at_ N), .bool true])))
set_option maxRecDepth 100000 in
set_option maxHeartbeats 8000000 in
theorem rlook_c (S : ByteArray) (fr at_ en : Int) (w : World) (hS : S.size ≤ 100000) : Calls Try.prog 10 #[.string S, .int .i64 fr, .int .i64 at_, .int .i64 en] w fun e w' => RLookT S fr at_ en w e w' := by
  obtain ⟨w1, hw1⟩ : ∃ q, w.alloc (.cells zrun 26) = q := ⟨_, rfl⟩
  obtain ⟨b, hb⟩ : ∃ q, w.heap.size = q := ⟨_, rfl⟩
  have hs1 : w1.heap.size = b + 1 := by rw [← hw1]; simp [hb]
  have k1 : w1.heap[b]? = some (.cells zrun 26 (0, 0)) := by rw [← hw1, ← hb]; exact heap_alloc_new _ _
  have b1 : Below w.heap.size w w1 := by rw [← hw1]; exact below_alloc (Below.refl _ w) _
  have H1 := Aside0.mk k1
  have HB1 := Aside0.mk b1
  have d0 : w1.cell? ⟨b, 0, none⟩ = some (.int .i64 0) := cell_of_row _ _ _ _ _ _ k1
  have d1 : w1.cell? ⟨b, 1, none⟩ = some (.int .i64 0) := cell_of_row _ _ _ _ _ _ k1
  have d2 : w1.cell? ⟨b, 2, none⟩ = some (.int .u8 0) := cell_of_row _ _ _ _ _ _ k1
  have d3 : w1.cell? ⟨b, 3, none⟩ = some (.bool false) := cell_of_row _ _ _ _ _ _ k1
  have d4 : w1.cell? ⟨b, 4, none⟩ = some (.bool false) := cell_of_row _ _ _ _ _ _ k1
  have f0 := fun j => blk_frozen k1 j
  clear k1 b1
  go_enter Try.func10, Try.ntmps10
  go_upto_region 2 with (fail)
  refine (end_c S w1 (by omega)).mono ?_
  rintro _ w9 ⟨n, rfl, hn, h9⟩
  rw [h9]
  clear h9 w9
  have HN := Aside0.mk hn
  have hnS := hn.hi
  clear hn
  obtain ⟨E, hE⟩ : ∃ E : Int, E = (if n < en then n else en) := ⟨_, rfl⟩
  have HE := Aside0.mk hE
  have hES : E ≤ (S.size : Int) := by rw [hE]; split <;> omega
  have HES := Aside0.mk hES
  clear hE hnS
  go_upto_if 22 with (fail)
  go_cut [3] from 18 (fun v3 wc => v3 = .int .i64 E ∧ Aside0 (w1 = wc))
  case first =>
    by_cases h : n < en
    · have hE2 : E = n := by rw [HE.out, if_pos h]
      go_wp2_with (fail)
      go_meet
      case rel => exact ⟨by rw [hE2], ⟨rfl⟩⟩
    · have hE2 : E = en := by rw [HE.out, if_neg h]
      go_wp2_with (fail)
      go_meet
      case rel => exact ⟨by rw [hE2], ⟨rfl⟩⟩
  case rest =>
    obtain ⟨rfl, HW⟩ := hcut
    obtain rfl := HW.out
    clear hw1
    by_cases g0 : fr < 0
    · go_wp2_with (fail)
      refine bodyPost_ret (results_cell_tmp rfl _ _ _ b 26 zrun _ rfl rfl (five_row H1.out _ _ _ _ _) Try.underlying26 info26s) rfl ?_
      exact ⟨n, E, HN.out, HE.out, five_below HB1.out (by omega) _ _ _ _ _, .inl ⟨fun h => by have := h.1; omega, rfl⟩⟩
    by_cases g1 : at_ < fr
    · go_wp2_with (fail)
      refine bodyPost_ret (results_cell_tmp rfl _ _ _ b 26 zrun _ rfl rfl (five_row H1.out _ _ _ _ _) Try.underlying26 info26s) rfl ?_
      exact ⟨n, E, HN.out, HE.out, five_below HB1.out (by omega) _ _ _ _ _, .inl ⟨fun h => by have := h.2.1; omega, rfl⟩⟩
    by_cases gE : E ≤ at_
    · go_wp2_with (fail)
      refine bodyPost_ret (results_cell_tmp rfl _ _ _ b 26 zrun _ rfl rfl (five_row H1.out _ _ _ _ _) Try.underlying26 info26s) rfl ?_
      exact ⟨n, E, HN.out, HE.out, five_below HB1.out (by omega) _ _ _ _ _, .inl ⟨fun h => by have := h.2.2.1; omega, rfl⟩⟩
    obtain ⟨a, rfl⟩ : ∃ a : Nat, at_ = (a : Int) := ⟨at_.toNat, by omega⟩
    have ha : a < S.size := by omega
    have y2 : (0 : Int) ≤ (a : Int) := by omega
    have y3 : (a : Int) < (S.size : Int) := by omega
    obtain ⟨c, hcv⟩ : ∃ q, bt S (a : Int) = q := ⟨_, rfl⟩
    have z0 : (((S[a]'ha).toNat : Nat) : Int) = c := by rw [bt_nat S a ha]; exact hcv
    have HCV := Aside0.mk hcv
    have h0 : 0 ≤ fr := by omega
    have h1 : fr ≤ (a : Int) := by omega
    have HGE : Aside0 ((a : Int) < E) := ⟨by omega⟩
    clear hcv
    by_cases hc : c = 42 ∨ c = 95
    case neg =>
      have z1 : (c != 42) = true := by simp only [not_or] at hc; simpa using hc.1
      have z2 : (c != 95) = true := by simp only [not_or] at hc; simpa using hc.2
      have HC := Aside0.mk hc
      clear hc
      go_wp2_with (fail)
      refine bodyPost_ret (results_cell_tmp rfl _ _ _ b 26 zrun _ rfl rfl (five_row H1.out _ _ _ _ _) Try.underlying26 info26s) rfl ?_
      exact ⟨n, E, HN.out, HE.out, five_below HB1.out (by omega) _ _ _ _ _, .inl ⟨fun h => HC.out (by have h2 := h.2.2.2.1; rw [HCV.out] at h2; exact h2), rfl⟩⟩
    case pos =>
      have HC := Aside0.mk hc
      clear hc
      go_upto_region 7 with (fail)
      go_cut [45] from 18 (fun v45 wc => v45 = .bool false ∧ Aside0 (w1 = wc))
      case first =>
        rcases HC.out with q | q
        · have z1 : (c != 42) = false := by rw [q]; rfl
          clear q
          go_wp2_with (fail)
          go_meet
          case rel => exact ⟨rfl, ⟨rfl⟩⟩
        · have z1 : (c != 42) = true := by rw [q]; rfl
          have z2 : (c != 95) = false := by rw [q]; rfl
          clear q
          go_wp2_with (fail)
          go_meet
          case rel => exact ⟨rfl, ⟨rfl⟩⟩
      case rest =>
        obtain ⟨rfl, HW5⟩ := hcut
        obtain rfl := HW5.out
        obtain ⟨p0, hp0⟩ : ∃ q, ofB (bt S) fr E ((a : Int) - 1) = q := ⟨_, rfl⟩
        have HP0 := Aside0.mk hp0
        clear hp0
        go_upto_if 49 with (fail)
        go_cut [12] from 18 (fun v12 wc => v12 = .int .u8 p0 ∧ Aside0 (w1 = wc))
        case first =>
          by_cases hp : fr < (a : Int)
          · obtain ⟨j, hj0⟩ : ∃ j : Nat, (a : Int) - 1 = (j : Int) := ⟨((a : Int) - 1).toNat, by omega⟩
            have hj : j < S.size := by omega
            have y4 : (0 : Int) ≤ (j : Int) := by omega
            have y5 : (j : Int) < (S.size : Int) := by omega
            have q1 : IntKind.i64.wrap ((a : Int) - 1) = (j : Int) := by rw [hj0]; exact IntWalk.i64_in _ (by omega)
            have q2 : (((S[j]'hj).toNat : Nat) : Int) = p0 := by
              rw [bt_nat S j hj, ← HP0.out, hj0]
              unfold ofB
              rw [if_neg (by have := HGE.out; omega)]
            clear hj0
            go_wp2_with (fail)
            go_meet
            case rel => exact ⟨rfl, ⟨rfl⟩⟩
          · have q2 : p0 = 32 := by
              rw [← HP0.out]
              unfold ofB
              rw [if_pos (.inl (by omega))]
            go_wp2_with (fail)
            go_meet
            case rel => exact ⟨by rw [q2], ⟨rfl⟩⟩
        case rest =>
          obtain ⟨rfl, HW2⟩ := hcut
          obtain rfl := HW2.out
          have hpq : (p0 = c ∧ fr < (a : Int) ∧ bt S ((a : Int) - 1) = c) ∨ (p0 ≠ c ∧ ¬ (fr < (a : Int) ∧ bt S ((a : Int) - 1) = bt S (a : Int))) := by
            rw [HCV.out]
            have h2 := HP0.out
            unfold ofB at h2
            have h3 := HGE.out
            by_cases hp : fr < (a : Int)
            · rw [if_neg (by omega)] at h2
              by_cases h4 : p0 = c
              · exact .inl ⟨h4, hp, h2.trans h4⟩
              · exact .inr ⟨h4, fun h5 => h4 (h2.symm.trans h5.2)⟩
            · rw [if_pos (.inl (by omega))] at h2
              exact .inr ⟨fun h5 => by rcases HC.out with h6 | h6 <;> omega, fun h5 => hp h5.1⟩
          rcases hpq with ⟨hpc, hpa, hpb⟩ | ⟨hpc, hpb⟩
          · have HPA : Aside0 (fr < (a : Int) ∧ bt S ((a : Int) - 1) = c) := ⟨⟨hpa, hpb⟩⟩
            clear hpa hpb
            go_wp2_with (fail)
            refine bodyPost_ret (results_cell_tmp rfl _ _ _ b 26 zrun _ rfl rfl (five_row H1.out _ _ _ _ _) Try.underlying26 info26s) rfl ?_
            exact ⟨n, E, HN.out, HE.out, five_below HB1.out (by omega) _ _ _ _ _, .inl ⟨fun h => h.2.2.2.2 ⟨HPA.out.1, by rw [HCV.out]; exact HPA.out.2⟩, rfl⟩⟩
          · have HPV := Aside0.mk hpb
            have hpc2 : (p0 == c) = false := by simpa using hpc
            clear hpb hpc
            go_upto_block 0 with (fail)
            go_cut [13] from 18 (fun v13 wc => ∃ N : Nat, v13 = .int .i64 ((a : Int) + (N : Int)) ∧ Aside0 (IsN (bt S) E (a : Int) (N : Int)) ∧ Aside0 (w1 = wc))
            case first =>
              go_wp2_with (fail)
              go_loopg [13] (S.size - a) (fun gk v13 wr => ∃ m : Nat, v13 = .int .i64 ((a : Int) + (m : Int)) ∧ Aside0 (gk + (a + m) = S.size) ∧ Aside0 ((a : Int) + (m : Int) ≤ E) ∧ Aside0 (w1 = wr) ∧ Aside0 (∀ j : Int, (a : Int) ≤ j → j < (a : Int) + (m : Int) → bt S j = c))
              case atStart => exact ⟨0, by simp, ⟨by omega⟩, ⟨by have := HGE.out; omega⟩, ⟨rfl⟩, ⟨fun j u1 u2 => by omega⟩⟩
              case round =>
                obtain ⟨m, rfl, HG, HLE, HR, HB⟩ := hrel
                obtain rfl := HR.out
                obtain ⟨K, hK⟩ : ∃ K : Nat, a + m = K := ⟨_, rfl⟩
                have HK := Aside0.mk hK
                have hKi : (a : Int) + (m : Int) = (K : Int) := by omega
                have v2 : IntKind.i64.wrap ((K : Int) + 1) = (K : Int) + 1 := IntWalk.i64_in _ (by have := HG.out; omega)
                rw [hKi]
                clear hK hKi
                by_cases hKE : (K : Int) < E
                · have hKT : K < S.size := by omega
                  have q0 : (0 : Int) ≤ (K : Int) := by omega
                  have q1 : (K : Int) < (S.size : Int) := by omega
                  have HKE := Aside0.mk hKE
                  by_cases hcK : bt S (K : Int) = c
                  · have HC2 := Aside0.mk hcK
                    have q2 : (((S[K]'hKT).toNat : Nat) : Int) = c := by rw [bt_nat S K hKT]; exact hcK
                    clear hcK
                    obtain ⟨gn, HGN⟩ : ∃ gn : Nat, Aside0 (gk = gn + 1) := ⟨gk - 1, ⟨by have := HG.out; have := HK.out; omega⟩⟩
                    go_wp2_with (fail)
                    go_roundg gn
                    case measure => exact (by have := HGN.out; omega)
                    case rel =>
                      refine ⟨m + 1, ?_, ⟨by have := HG.out; have := HGN.out; omega⟩, ⟨by have := HK.out; have := HKE.out; omega⟩, ⟨rfl⟩, ⟨fun j u1 u2 => ?_⟩⟩
                      · rw [show (a : Int) + ((m + 1 : Nat) : Int) = (K : Int) + 1 by have := HK.out; omega]
                      · by_cases hj : j < (a : Int) + (m : Int)
                        · exact HB.out j u1 hj
                        · have hj2 : j = (K : Int) := by have := HK.out; omega
                          rw [hj2]; exact HC2.out
                  · have HC2 := Aside0.mk hcK
                    have q2 : (((((S[K]'hKT).toNat : Nat) : Int)) == c) = false := by rw [bt_nat S K hKT]; simpa using hcK
                    clear hcK
                    go_wp2_with (fail)
                    go_meet
                    case rel =>
                      have hm1 : 1 ≤ m := by
                        rcases Nat.eq_zero_or_pos m with h | h
                        · exact absurd (by rw [show (K : Int) = (a : Int) by have := HK.out; omega]; exact HCV.out) HC2.out
                        · exact h
                      exact ⟨m, by rw [show (a : Int) + (m : Int) = (K : Int) by have := HK.out; omega], ⟨by omega, HLE.out, fun j u1 u2 => (HB.out j u1 u2).trans HCV.out.symm, .inr ⟨by have := HK.out; have := HKE.out; omega, by rw [show (a : Int) + (m : Int) = (K : Int) by have := HK.out; omega, HCV.out]; exact HC2.out⟩⟩, ⟨rfl⟩⟩
                · have HKE := Aside0.mk hKE
                  go_wp2_with (fail)
                  go_meet
                  case rel => exact ⟨m, by rw [show (a : Int) + (m : Int) = (K : Int) by have := HK.out; omega], ⟨by have := HK.out; have := HKE.out; have := HLE.out; have := HGE.out; omega, HLE.out, fun j u1 u2 => (HB.out j u1 u2).trans HCV.out.symm, .inl (by have := HK.out; have := HKE.out; have := HLE.out; omega)⟩, ⟨rfl⟩⟩
            case rest =>
              obtain ⟨N, rfl, HNN, HW3⟩ := hcut
              obtain rfl := HW3.out
              obtain ⟨K, hK⟩ : ∃ K : Nat, a + N = K := ⟨_, rfl⟩
              have HK0 := Aside0.mk hK
              have hKi : (a : Int) + (N : Int) = (K : Int) := by omega
              obtain ⟨p1, hp1⟩ : ∃ q, ofB (bt S) fr E ((a : Int) + (N : Int)) = q := ⟨_, rfl⟩
              have HP1 := Aside0.mk hp1
              rw [hKi]
              clear hp1
              go_upto_if 73 with (fail)
              go_cut [14] from 18 (fun v14 wc => v14 = .int .u8 p1 ∧ Aside0 (w1 = wc))
              case first =>
                by_cases hKE : (K : Int) < E
                · have hKT : K < S.size := by omega
                  have q0 : (0 : Int) ≤ (K : Int) := by omega
                  have q1 : (K : Int) < (S.size : Int) := by omega
                  have q2 : (((S[K]'hKT).toNat : Nat) : Int) = p1 := by
                    rw [bt_nat S K hKT, ← HP1.out, hKi]
                    unfold ofB
                    rw [if_neg (by omega)]
                  clear hKi hK
                  go_wp2_with (fail)
                  go_meet
                  case rel => exact ⟨rfl, ⟨rfl⟩⟩
                · have q2 : p1 = 32 := by
                    rw [← HP1.out, hKi]
                    unfold ofB
                    rw [if_pos (.inr (by omega))]
                  clear hKi hK
                  go_wp2_with (fail)
                  go_meet
                  case rel => exact ⟨by rw [q2], ⟨rfl⟩⟩
              case rest =>
                obtain ⟨rfl, HW4⟩ := hcut
                obtain rfl := HW4.out
                have v2 : IntKind.i64.wrap ((K : Int) - (a : Int)) = (N : Int) := by rw [show (K : Int) - (a : Int) = (N : Int) by omega]; exact IntWalk.i64_in _ (by have := HNN.out.le; omega)
                clear hKi hK
                obtain ⟨l, hl⟩ : ∃ q, leansB p1 p0 = q := ⟨_, rfl⟩
                obtain ⟨k, hk⟩ : ∃ q, leansB p0 p1 = q := ⟨_, rfl⟩
                have HL := Aside0.mk hl
                have HK := Aside0.mk hk
                obtain ⟨v, hv⟩ : ∃ q, w1.alloc (.cells zrun 26) = q := ⟨_, rfl⟩
                have c1 : v.heap[b + 1]? = some (.cells zrun 26 (0, 0)) := by rw [← hv, ← hs1]; exact heap_alloc_new _ _
                have c2 : Below w1.heap.size w1 v := by rw [← hv]; exact below_alloc (Below.refl _ w1) _
                have HV8 : Aside0 (v.heap[b]? = some (.cells zrun 26 (0, 0))) := ⟨(c2.block b (by omega)).trans H1.out⟩
                have HVB : Aside0 (Below w.heap.size w v) := ⟨HB1.out.trans (c2.mono (by omega))⟩
                have HVR := Aside0.mk c1
                have e0 : v.cell? ⟨b + 1, 0, none⟩ = some (.int .i64 0) := cell_of_row _ _ _ _ _ _ c1
                have e1 : v.cell? ⟨b + 1, 1, none⟩ = some (.int .i64 0) := cell_of_row _ _ _ _ _ _ c1
                have e2 : v.cell? ⟨b + 1, 2, none⟩ = some (.int .u8 0) := cell_of_row _ _ _ _ _ _ c1
                have e3 : v.cell? ⟨b + 1, 3, none⟩ = some (.bool false) := cell_of_row _ _ _ _ _ _ c1
                have e4 : v.cell? ⟨b + 1, 4, none⟩ = some (.bool false) := cell_of_row _ _ _ _ _ _ c1
                have fe := fun j => blk_frozen c1 j
                clear c1 c2
                go_upto_region 21 with (fail)
                obtain ⟨V, hV⟩ : ∃ q, ((((v.setCell ⟨b + 1, 0, none⟩ (.int .i64 (a : Int))).setCell ⟨b + 1, 1, none⟩ (.int .i64 (N : Int))).setCell ⟨b + 1, 2, none⟩ (.int .u8 c)).setCell ⟨b + 1, 3, none⟩ (.bool false)).setCell ⟨b + 1, 4, none⟩ (.bool false) = q := ⟨_, rfl⟩
                rw [hV]
                have HZR : Aside0 (V.heap[b + 1]? = some (.cells #[.int .i64 (a : Int), .int .i64 (N : Int), .int .u8 c, .bool false, .bool false] 26 (0, 0))) := ⟨by rw [← hV]; exact five_row HVR.out _ _ _ _ _⟩
                have HZB : Aside0 (Below w.heap.size w V) := ⟨by rw [← hV]; exact five_below HVB.out (by omega) _ _ _ _ _⟩
                have HZ8 : Aside0 (V.heap[b]? = some (.cells zrun 26 (0, 0))) := ⟨by rw [← hV]; exact blk_far (blk_far (blk_far (blk_far (blk_far HV8.out (by show b ≠ b + 1; omega) _) (by show b ≠ b + 1; omega) _) (by show b ≠ b + 1; omega) _) (by show b ≠ b + 1; omega) _) (by show b ≠ b + 1; omega) _⟩
                clear hV hv d0 d1 d2 d3 d4 f0 e0 e1 e2 e3 e4 fe
                have e3 : V.cell? ⟨b + 1, 3, none⟩ = some (.bool false) := cell_of_row _ _ _ _ _ _ HZR.out
                have e4 : V.cell? ⟨b + 1, 4, none⟩ = some (.bool false) := cell_of_row _ _ _ _ _ _ HZR.out
                have fe := fun j => blk_frozen HZR.out j
                have F23 : Aside0 (∀ x y : Int, Calls Try.prog 23 #[.int .u8 x, .int .u8 y] V fun e w' => e = .returned (.bool (leansB x y)) ∧ w' = V) := ⟨fun x y => leans23_c x y V⟩
                go_upto_region 23 with (go_at_call 23; refine (F23.out _ _).mono ?_; rintro _ w9 ⟨rfl, h9⟩; rw [h9]; clear h9 w9)
                have d0 : V.cell? ⟨b, 0, none⟩ = some (.int .i64 0) := cell_of_row _ _ _ _ _ _ HZ8.out
                have d1 : V.cell? ⟨b, 1, none⟩ = some (.int .i64 0) := cell_of_row _ _ _ _ _ _ HZ8.out
                have d2 : V.cell? ⟨b, 2, none⟩ = some (.int .u8 0) := cell_of_row _ _ _ _ _ _ HZ8.out
                have d3 : V.cell? ⟨b, 3, none⟩ = some (.bool false) := cell_of_row _ _ _ _ _ _ HZ8.out
                have d4 : V.cell? ⟨b, 4, none⟩ = some (.bool false) := cell_of_row _ _ _ _ _ _ HZ8.out
                have f0 := fun j => blk_frozen HZ8.out j
                have r0 : V.cell? ⟨b + 1, 0, none⟩ = some (.int .i64 (a : Int)) := cell_of_row _ _ _ _ _ _ HZR.out
                have r1 : V.cell? ⟨b + 1, 1, none⟩ = some (.int .i64 (N : Int)) := cell_of_row _ _ _ _ _ _ HZR.out
                have r2 : V.cell? ⟨b + 1, 2, none⟩ = some (.int .u8 c) := cell_of_row _ _ _ _ _ _ HZR.out
                rcases HC.out with q42 | q95
                · have q : (c == 42) = true := by rw [q42]; rfl
                  have Q42 := Aside0.mk q42
                  clear q42
                  go_wp2_with (fail)
                  refine bodyPost_ret (results_cell_tmp rfl _ _ _ b 26 #[.int .i64 (a : Int), .int .i64 (N : Int), .int .u8 c, .bool l, .bool k] _ rfl rfl (five_row (blk_far (blk_far HZ8.out (show b ≠ b + 1 by omega) _) (show b ≠ b + 1 by omega) _) _ _ _ _ _) Try.underlying26 info26s) rfl ?_
                  exact ⟨n, E, HN.out, HE.out, five_below ((HZB.out.setCell (p := ⟨b + 1, 3, none⟩) (by show w.heap.size ≤ b + 1; omega) _).setCell (p := ⟨b + 1, 4, none⟩) (by show w.heap.size ≤ b + 1; omega) _) (by omega) _ _ _ _ _, .inr ⟨⟨h0, h1, HGE.out, by rw [HCV.out]; exact HC.out, HPV.out⟩, (N : Int), HNN.out, by show _ = Ending.returned (.tuple #[.agg #[.int .i64 (a : Int), .int .i64 (N : Int), .int .u8 (bt S (a : Int)), .bool (opensB (bt S (a : Int)) (ofB (bt S) fr E ((a : Int) + (N : Int))) (ofB (bt S) fr E ((a : Int) - 1))), .bool (closesB (bt S (a : Int)) (ofB (bt S) fr E ((a : Int) + (N : Int))) (ofB (bt S) fr E ((a : Int) - 1)))], .bool true]); rw [HCV.out, HP0.out, HP1.out]; unfold opensB closesB; rw [HL.out, HK.out]; rw [if_neg (by rw [Q42.out]; decide), if_neg (by rw [Q42.out]; decide)]; rfl⟩⟩
                · subst q95
                  cases l
                  · cases k
                    · go_wp2_with (go_at_call 24; refine (mark24_c _ _).mono ?_; rintro _ w9 ⟨rfl, h9⟩; rw [h9]; clear h9 w9)
                      refine bodyPost_ret (results_cell_tmp rfl _ _ _ b 26 #[.int .i64 (a : Int), .int .i64 (N : Int), .int .u8 95, .bool false, .bool false] _ rfl rfl (five_row (blk_far (blk_far HZ8.out (show b ≠ b + 1 by omega) _) (show b ≠ b + 1 by omega) _) _ _ _ _ _) Try.underlying26 info26s) rfl ?_
                      exact ⟨n, E, HN.out, HE.out, five_below ((HZB.out.setCell (p := ⟨b + 1, 3, none⟩) (by show w.heap.size ≤ b + 1; omega) _).setCell (p := ⟨b + 1, 4, none⟩) (by show w.heap.size ≤ b + 1; omega) _) (by omega) _ _ _ _ _, .inr ⟨⟨h0, h1, HGE.out, by rw [HCV.out]; exact .inr rfl, HPV.out⟩, (N : Int), HNN.out, by show _ = Ending.returned (.tuple #[.agg #[.int .i64 (a : Int), .int .i64 (N : Int), .int .u8 (bt S (a : Int)), .bool (opensB (bt S (a : Int)) (ofB (bt S) fr E ((a : Int) + (N : Int))) (ofB (bt S) fr E ((a : Int) - 1))), .bool (closesB (bt S (a : Int)) (ofB (bt S) fr E ((a : Int) + (N : Int))) (ofB (bt S) fr E ((a : Int) - 1)))], .bool true]); rw [HCV.out, HP0.out, HP1.out]; unfold opensB closesB; rw [HL.out, HK.out]; simp⟩⟩
                    · go_wp2_with (go_at_call 24; refine (mark24_c _ _).mono ?_; rintro _ w9 ⟨rfl, h9⟩; rw [h9]; clear h9 w9)
                      refine bodyPost_ret (results_cell_tmp rfl _ _ _ b 26 #[.int .i64 (a : Int), .int .i64 (N : Int), .int .u8 95, .bool false, .bool true] _ rfl rfl (five_row (blk_far (blk_far HZ8.out (show b ≠ b + 1 by omega) _) (show b ≠ b + 1 by omega) _) _ _ _ _ _) Try.underlying26 info26s) rfl ?_
                      exact ⟨n, E, HN.out, HE.out, five_below ((HZB.out.setCell (p := ⟨b + 1, 3, none⟩) (by show w.heap.size ≤ b + 1; omega) _).setCell (p := ⟨b + 1, 4, none⟩) (by show w.heap.size ≤ b + 1; omega) _) (by omega) _ _ _ _ _, .inr ⟨⟨h0, h1, HGE.out, by rw [HCV.out]; exact .inr rfl, HPV.out⟩, (N : Int), HNN.out, by show _ = Ending.returned (.tuple #[.agg #[.int .i64 (a : Int), .int .i64 (N : Int), .int .u8 (bt S (a : Int)), .bool (opensB (bt S (a : Int)) (ofB (bt S) fr E ((a : Int) + (N : Int))) (ofB (bt S) fr E ((a : Int) - 1))), .bool (closesB (bt S (a : Int)) (ofB (bt S) fr E ((a : Int) + (N : Int))) (ofB (bt S) fr E ((a : Int) - 1)))], .bool true]); rw [HCV.out, HP0.out, HP1.out]; unfold opensB closesB; rw [HL.out, HK.out]; simp⟩⟩
                  · cases k
                    · go_wp2_with (go_at_call 24; refine (mark24_c _ _).mono ?_; rintro _ w9 ⟨rfl, h9⟩; rw [h9]; clear h9 w9)
                      refine bodyPost_ret (results_cell_tmp rfl _ _ _ b 26 #[.int .i64 (a : Int), .int .i64 (N : Int), .int .u8 95, .bool true, .bool false] _ rfl rfl (five_row (blk_far (blk_far HZ8.out (show b ≠ b + 1 by omega) _) (show b ≠ b + 1 by omega) _) _ _ _ _ _) Try.underlying26 info26s) rfl ?_
                      exact ⟨n, E, HN.out, HE.out, five_below ((HZB.out.setCell (p := ⟨b + 1, 3, none⟩) (by show w.heap.size ≤ b + 1; omega) _).setCell (p := ⟨b + 1, 4, none⟩) (by show w.heap.size ≤ b + 1; omega) _) (by omega) _ _ _ _ _, .inr ⟨⟨h0, h1, HGE.out, by rw [HCV.out]; exact .inr rfl, HPV.out⟩, (N : Int), HNN.out, by show _ = Ending.returned (.tuple #[.agg #[.int .i64 (a : Int), .int .i64 (N : Int), .int .u8 (bt S (a : Int)), .bool (opensB (bt S (a : Int)) (ofB (bt S) fr E ((a : Int) + (N : Int))) (ofB (bt S) fr E ((a : Int) - 1))), .bool (closesB (bt S (a : Int)) (ofB (bt S) fr E ((a : Int) + (N : Int))) (ofB (bt S) fr E ((a : Int) - 1)))], .bool true]); rw [HCV.out, HP0.out, HP1.out]; unfold opensB closesB; rw [HL.out, HK.out]; simp⟩⟩
                    · go_wp2_with (go_at_call 24; refine (mark24_c _ _).mono ?_; rintro _ w9 ⟨rfl, h9⟩; rw [h9]; clear h9 w9)
                      refine bodyPost_ret (results_cell_tmp rfl _ _ _ b 26 #[.int .i64 (a : Int), .int .i64 (N : Int), .int .u8 95, .bool (markB p0), .bool (markB p1)] _ rfl rfl (five_row (blk_far (blk_far HZ8.out (show b ≠ b + 1 by omega) _) (show b ≠ b + 1 by omega) _) _ _ _ _ _) Try.underlying26 info26s) rfl ?_
                      exact ⟨n, E, HN.out, HE.out, five_below ((HZB.out.setCell (p := ⟨b + 1, 3, none⟩) (by show w.heap.size ≤ b + 1; omega) _).setCell (p := ⟨b + 1, 4, none⟩) (by show w.heap.size ≤ b + 1; omega) _) (by omega) _ _ _ _ _, .inr ⟨⟨h0, h1, HGE.out, by rw [HCV.out]; exact .inr rfl, HPV.out⟩, (N : Int), HNN.out, by show _ = Ending.returned (.tuple #[.agg #[.int .i64 (a : Int), .int .i64 (N : Int), .int .u8 (bt S (a : Int)), .bool (opensB (bt S (a : Int)) (ofB (bt S) fr E ((a : Int) + (N : Int))) (ofB (bt S) fr E ((a : Int) - 1))), .bool (closesB (bt S (a : Int)) (ofB (bt S) fr E ((a : Int) + (N : Int))) (ofB (bt S) fr E ((a : Int) - 1)))], .bool true]); rw [HCV.out, HP0.out, HP1.out]; unfold opensB closesB; rw [HL.out, HK.out]; simp⟩⟩
end Go.Proofs.Ytjfpkldknchnkaa.Me
