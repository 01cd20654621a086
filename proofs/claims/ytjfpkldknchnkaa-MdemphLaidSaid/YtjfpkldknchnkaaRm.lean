/- The document's may and fit walked. -/
import Derived.Test.YtjfpkldknchnkaaPq
import Derived.Test.YtjfpkldknchnkaaMf
import Derived.Test.YtjfpkldknchnkaaLk
namespace Go.Proofs.Ytjfpkldknchnkaa.Me
open Go.RowKit Go.Proofs.YtjfpkldknchnkaaW.PrintWords Go.Proofs.YtjfpkldknchnkaaW.PrintLast Go.Proofs.YtjfpkldknchnkaaW.PrintMore
attribute [local go_sem] max2_int min2_int max_two min_two max_three min_three max_four min_four
set_option linter.unusedVariables false
set_option linter.unusedSimpArgs false
def chkB (r : Rn) (nx : Int) : Bool := decide (1 ≤ r.n) && decide (0 ≤ r.a) && (decide (r.c = 42) || decide (r.c = 95)) && decide (r.a ≤ nx) && decide (r.n ≤ nx - r.a)
def nxt : List Rn → Int
  | [] => 1048576
  | s :: _ => s.a
def rmayB : List Rn → Bool
  | [] => true
  | r :: l => chkB r (nxt l) && rmayB l
theorem chk_iff {r : Rn} {nx : Int} : chkB r nx = true ↔ 1 ≤ r.n ∧ 0 ≤ r.a ∧ (r.c = 42 ∨ r.c = 95) ∧ r.a ≤ nx ∧ r.n ≤ nx - r.a := by
  simp [chkB]
  constructor
  · rintro ⟨⟨⟨⟨h1, h2⟩, h3⟩, h4⟩, h5⟩
    exact ⟨h1, h2, h3, h4, h5⟩
  · rintro ⟨h1, h2, h3, h4, h5⟩
    exact ⟨⟨⟨⟨h1, h2⟩, h3⟩, h4⟩, h5⟩
theorem bad_iff {p : Int} {r : Rn} : badB p r = false ↔ 1 ≤ r.n ∧ (r.c = 42 ∨ r.c = 95) ∧ p ≤ r.a ∧ r.a ≤ 1048576 ∧ r.n ≤ 1048576 - r.a := by
  constructor
  · exact badB_no
  · rintro ⟨h1, h2, h3, h4, h5⟩
    simp [badB]
    refine ⟨⟨⟨⟨by omega, fun h => ?_⟩, by omega⟩, by omega⟩, by omega⟩
    rcases h2 with e | e
    · exact absurd e h
    · exact e
theorem rmay_imp : ∀ {l : List Rn}, rmayB l = true → ∀ p, (∀ r, l.head? = some r → p ≤ r.a) → mayB p l = true ∧ nxt l ≤ 1048576
  | [], _, p, _ => ⟨rfl, by decide⟩
  | r :: l, h, p, hp => by
    simp only [rmayB, Bool.and_eq_true] at h
    obtain ⟨c1, c2, c3, c4, c5⟩ := chk_iff.1 h.1
    have hpr := hp r rfl
    obtain ⟨i1, i2⟩ := rmay_imp h.2 (r.a + r.n) (fun s hs => by
      cases l with
      | nil => simp at hs
      | cons s' l' =>
        simp at hs
        subst hs
        have : nxt (s' :: l') = s'.a := rfl
        omega)
    refine ⟨?_, by show r.a ≤ 1048576; omega⟩
    simp only [mayB, Bool.and_eq_true, Bool.not_eq_true']
    exact ⟨bad_iff.2 ⟨c1, c3, hpr, by omega, by omega⟩, i1⟩
theorem may_imp : ∀ {l : List Rn} {p : Int}, 0 ≤ p → mayB p l = true → rmayB l = true
  | [], _, _, _ => rfl
  | r :: l, p, h0, h => by
    simp only [mayB, Bool.and_eq_true, Bool.not_eq_true'] at h
    obtain ⟨b1, b2, b3, b4, b5⟩ := bad_iff.1 h.1
    have ih := may_imp (l := l) (p := r.a + r.n) (by omega) h.2
    simp only [rmayB, Bool.and_eq_true]
    refine ⟨chk_iff.2 ⟨b1, by omega, b2, ?_⟩, ih⟩
    cases l with
    | nil => exact ⟨b4, b5⟩
    | cons s l' =>
      simp only [mayB, Bool.and_eq_true, Bool.not_eq_true'] at h
      have := (bad_iff.1 h.2.1).2.2.1
      exact ⟨by show r.a ≤ s.a; omega, by show r.n ≤ s.a - r.a; omega⟩
theorem rmay_eq (l : List Rn) : rmayB l = mayB 0 l := by
  cases h : rmayB l with
  | false =>
    cases h2 : mayB 0 l with
    | false => rfl
    | true => rw [may_imp (by omega) h2] at h; cases h
  | true =>
    refine (rmay_imp h 0 (fun r hr => ?_)).1.symm
    cases l with
    | nil => simp at hr
    | cons s l' =>
      simp at hr
      subst hr
      simp only [rmayB, Bool.and_eq_true] at h
      exact (chk_iff.1 h.1).2.1
theorem rmayB_step {l : List Rn} {k : Nat} {r : Rn} (h : l[k]? = some r) : rmayB (l.drop k) = (chkB r (nxt (l.drop (k + 1))) && rmayB (l.drop (k + 1))) := by
  obtain ⟨h1, h2⟩ := List.getElem?_eq_some_iff.1 h
  rw [List.drop_eq_getElem_cons h1, h2]
  rfl
set_option maxRecDepth 100000 in
set_option maxHeartbeats 8000000 in
theorem rmay_c (A : Option Addr) (n c : Nat) (l : List Rn) (w : World) (hl : ReadsRow RRn 5 w A n l) (hn : n ≤ 100000000) (h64 : ∀ r, r ∈ l → r.a ≤ 9223372036854775807) : Calls Try.prog 30 #[.slice A n c] w fun e w' => BoolP w (mayB 0 l) e w' := by
  rw [← rmay_eq]
  have HL := Aside0.mk hl
  have H64 := Aside0.mk h64
  clear hl h64
  go_enter Try.func30, Try.ntmps30
  go_upto_block 0 with (fail)
  go_wp2_with (fail)
  go_loopg [3] n (fun gk v3 wr => ∃ k : Nat, v3 = .int .i64 (k : Int) ∧ Aside0 (k + gk = n) ∧ Aside0 (rmayB l = rmayB (l.drop k)) ∧ Aside0 (Below w.heap.size w wr))
  case atStart => exact ⟨0, rfl, ⟨by omega⟩, ⟨rfl⟩, ⟨Below.refl _ w⟩⟩
  case round =>
    obtain ⟨k, rfl, HK, HM, HB⟩ := hrel
    by_cases hkn : k < n
    case neg =>
      have hkk : ¬ ((k : Int) < (n : Int)) := by omega
      have HM2 : Aside0 (rmayB l = true) := ⟨by rw [HM.out, List.drop_eq_nil_of_le (by rw [HL.out.1]; omega)]; rfl⟩
      go_wp2_with (fail)
      go_ret
      exact ⟨by rw [HM2.out]; rfl, HB.out⟩
    case pos =>
      obtain ⟨gn, rfl⟩ : ∃ gn, gk = gn + 1 := ⟨gk - 1, by have := HK.out; omega⟩
      obtain ⟨x, hx⟩ : ∃ x, l[k]? = some x := ⟨_, List.getElem?_eq_getElem (by rw [HL.out.1]; exact hkn)⟩
      obtain ⟨ad, hA, _⟩ := HL.out.2.2 (by omega)
      subst hA
      obtain ⟨e0, e1, e2, e3, e4⟩ := rn_at (rows_below HL.out HB.out) hx
      have k0 : (0 : Int) ≤ (k : Int) := by omega
      have k1 : (k : Int) < (n : Int) := by omega
      have hwk : IntKind.i64.wrap ((k : Int) + 1) = (k : Int) + 1 := IntWalk.i64_in _ (by omega)
      have HST := Aside0.mk (HM.out.trans (rmayB_step hx))
      clear hx HM
      obtain ⟨b9, hb9⟩ : ∃ q, wr.heap.size = q := ⟨_, rfl⟩
      obtain ⟨wx, hwx⟩ : ∃ q, wr.alloc (.cells zrun 26) = q := ⟨_, rfl⟩
      have hz9 : wx.heap[b9]? = some (.cells zrun 26 (0, 0)) := by rw [← hwx, ← hb9]; exact heap_alloc_new _ _
      have hbx : Below wr.heap.size wr wx := by rw [← hwx]; exact below_alloc (Below.refl _ wr) _
      have fz := fun j => blk_frozen hz9 j
      have z0 : wx.cell? ⟨b9, 0, none⟩ = some (.int .i64 0) := cell_of_row _ _ _ _ _ _ hz9
      have z1 : wx.cell? ⟨b9, 1, none⟩ = some (.int .i64 0) := cell_of_row _ _ _ _ _ _ hz9
      have z2 : wx.cell? ⟨b9, 2, none⟩ = some (.int .u8 0) := cell_of_row _ _ _ _ _ _ hz9
      have z3 : wx.cell? ⟨b9, 3, none⟩ = some (.bool false) := cell_of_row _ _ _ _ _ _ hz9
      have z4 : wx.cell? ⟨b9, 4, none⟩ = some (.bool false) := cell_of_row _ _ _ _ _ _ hz9
      have HZ := Aside0.mk hz9
      have HBX : Aside0 (Below w.heap.size w wx) := ⟨HB.out.trans (hbx.mono HB.out.size)⟩
      have HSZ : Aside0 (w.heap.size ≤ b9) := ⟨by rw [← hb9]; exact HB.out.size⟩
      clear hz9 hbx
      go_upto_region 5 with (fail)
      obtain ⟨W, hW⟩ : ∃ q, ((((wx.setCell ⟨b9, 0, none⟩ (.int .i64 x.a)).setCell ⟨b9, 1, none⟩ (.int .i64 x.n)).setCell ⟨b9, 2, none⟩ (.int .u8 x.c)).setCell ⟨b9, 3, none⟩ (.bool x.o)).setCell ⟨b9, 4, none⟩ (.bool x.k) = q := ⟨_, rfl⟩
      rw [hW]
      have hr9 : W.heap[b9]? = some (.cells (rnc x) 26 (0, 0)) := by rw [← hW]; exact five_row HZ.out _ _ _ _ _
      have HBW : Aside0 (Below w.heap.size w W) := ⟨by rw [← hW]; exact five_below HBX.out HSZ.out _ _ _ _ _⟩
      have q0 : W.cell? ⟨b9, 0, none⟩ = some (.int .i64 x.a) := cell_of_row _ _ _ _ _ _ hr9
      have q1 : W.cell? ⟨b9, 1, none⟩ = some (.int .i64 x.n) := cell_of_row _ _ _ _ _ _ hr9
      have q2 : W.cell? ⟨b9, 2, none⟩ = some (.int .u8 x.c) := cell_of_row _ _ _ _ _ _ hr9
      clear hW hwx hb9 fz z0 z1 z2 z3 z4 e0 e1 e2 e3 e4 hr9
      obtain ⟨nx, hnx⟩ : ∃ q, nxt (l.drop (k + 1)) = q := ⟨_, rfl⟩
      have HNX := Aside0.mk hnx
      rw [hnx] at HST
      clear hnx
      go_cut [33] from 6 to 33 (fun v33 wc => ∃ g : Bool, v33 = .bool g ∧ Aside0 (W = wc) ∧ Aside0 (g = true → chkB x nx = false) ∧ Aside0 (g = false → 1 ≤ x.n ∧ 0 ≤ x.a ∧ (x.c = 42 ∨ x.c = 95)))
      case first =>
        by_cases c1 : x.n < 1
        · have HC : Aside0 (chkB x nx = false) := ⟨by
            cases h : chkB x nx with
            | false => rfl
            | true => have := (chk_iff.1 h).1; omega⟩
          go_wp2_with (fail)
          go_meet
          case rel => exact ⟨true, rfl, ⟨rfl⟩, ⟨fun _ => HC.out⟩, ⟨fun h => by cases h⟩⟩
        by_cases c2 : x.a < 0
        · have HC : Aside0 (chkB x nx = false) := ⟨by
            cases h : chkB x nx with
            | false => rfl
            | true => have := (chk_iff.1 h).2.1; omega⟩
          go_wp2_with (fail)
          go_meet
          case rel => exact ⟨true, rfl, ⟨rfl⟩, ⟨fun _ => HC.out⟩, ⟨fun h => by cases h⟩⟩
        have HC12 : Aside0 (1 ≤ x.n ∧ 0 ≤ x.a) := ⟨by omega⟩
        by_cases c3 : x.c = 42
        · have q3 : (x.c != 42) = false := by rw [c3]; rfl
          have HC3 := Aside0.mk c3
          clear c3
          go_wp2_with (fail)
          go_meet
          case rel => exact ⟨false, rfl, ⟨rfl⟩, ⟨fun h => by cases h⟩, ⟨fun _ => ⟨HC12.out.1, HC12.out.2, .inl HC3.out⟩⟩⟩
        by_cases c4 : x.c = 95
        · have q3 : (x.c != 42) = true := by rw [c4]; rfl
          have q4 : (x.c != 95) = false := by rw [c4]; rfl
          have HC4 := Aside0.mk c4
          clear c3 c4
          go_wp2_with (fail)
          go_meet
          case rel => exact ⟨false, rfl, ⟨rfl⟩, ⟨fun h => by cases h⟩, ⟨fun _ => ⟨HC12.out.1, HC12.out.2, .inr HC4.out⟩⟩⟩
        · have q3 : (x.c != 42) = true := by simpa using c3
          have q4 : (x.c != 95) = true := by simpa using c4
          have HC : Aside0 (chkB x nx = false) := ⟨by
            cases h : chkB x nx with
            | false => rfl
            | true =>
              rcases (chk_iff.1 h).2.2.1 with e | e
              · exact absurd e c3
              · exact absurd e c4⟩
          clear c3 c4
          go_wp2_with (fail)
          go_meet
          case rel => exact ⟨true, rfl, ⟨rfl⟩, ⟨fun _ => HC.out⟩, ⟨fun h => by cases h⟩⟩
      case rest =>
        obtain ⟨g, rfl, HWc, HG1, HG2⟩ := hcut
        obtain rfl := HWc.out
        cases g
        case true =>
          have HF : Aside0 (rmayB l = false) := ⟨by rw [HST.out, HG1.out rfl]; rfl⟩
          go_wp2_with (fail)
          go_ret
          exact ⟨by rw [HF.out]; rfl, HBW.out⟩
        case false =>
          have HG := Aside0.mk (HG2.out rfl)
          clear HG1 HG2
          go_upto_if 38 with (fail)
          go_cut [5] from 6 to 44 (fun v5 wc => v5 = .int .i64 nx ∧ Aside0 (W = wc))
          case first =>
            by_cases hk2 : k + 1 < n
            · obtain ⟨s, hs⟩ : ∃ s, l[k + 1]? = some s := ⟨_, List.getElem?_eq_getElem (by rw [HL.out.1]; exact hk2)⟩
              obtain ⟨f0, f1, f2, f3, f4⟩ := rn_at (rows_below HL.out HBW.out) hs
              have hnx2 : s.a = nx := by
                obtain ⟨h1, h2⟩ := List.getElem?_eq_some_iff.1 hs
                rw [← HNX.out, List.drop_eq_getElem_cons h1, h2]
                rfl
              have k2 : (k : Int) + 1 < (n : Int) := by omega
              have k3 : (0 : Int) ≤ (k : Int) + 1 := by omega
              have k4 : ((k : Int) + 1).toNat = k + 1 := by omega
              clear hs f1 f2 f3 f4 hk2
              go_wp2_with (fail)
              go_meet
              case rel => exact ⟨rfl, ⟨rfl⟩⟩
            · have k2 : ¬ ((k : Int) + 1 < (n : Int)) := by omega
              have hnx2 : nx = 1048576 := by
                rw [← HNX.out, List.drop_eq_nil_of_le (by rw [HL.out.1]; omega)]
                rfl
              clear hk2
              go_wp2_with (fail)
              go_meet
              case rel => exact ⟨by rw [hnx2], ⟨rfl⟩⟩
          case rest =>
            obtain ⟨rfl, HWc2⟩ := hcut
            obtain rfl := HWc2.out
            by_cases c5 : nx < x.a
            · have HF : Aside0 (rmayB l = false) := ⟨by
                rw [HST.out]
                cases h : chkB x nx with
                | false => rfl
                | true => have := (chk_iff.1 h).2.2.2.1; omega⟩
              go_wp2_with (fail)
              go_ret
              exact ⟨by rw [HF.out]; rfl, HBW.out⟩
            have hnx64 : nx ≤ 9223372036854775807 := by
              rw [← HNX.out]
              cases hd : l.drop (k + 1) with
              | nil => decide
              | cons s l' =>
                have : s ∈ l := List.mem_of_mem_drop (by rw [hd]; exact List.mem_cons_self ..)
                exact H64.out s this
            have hw2 : IntKind.i64.wrap (nx - x.a) = nx - x.a := IntWalk.i64_in _ (by have := HG.out; omega)
            by_cases c6 : nx - x.a < x.n
            · have HF : Aside0 (rmayB l = false) := ⟨by
                rw [HST.out]
                cases h : chkB x nx with
                | false => rfl
                | true => have := (chk_iff.1 h).2.2.2.2; omega⟩
              clear hnx64
              go_wp2_with (fail)
              go_ret
              exact ⟨by rw [HF.out]; rfl, HBW.out⟩
            · have HM3 : Aside0 (rmayB l = rmayB (l.drop (k + 1))) := ⟨by
                rw [HST.out, chk_iff.2 ⟨HG.out.1, HG.out.2.1, HG.out.2.2, by omega, by omega⟩]
                rfl⟩
              clear hnx64
              go_wp2_with (fail)
              go_roundg gn
              case measure => exact Nat.lt_succ_self _
              case rel => exact ⟨k + 1, by simp, ⟨by have := HK.out; omega⟩, HM3, HBW⟩
end Go.Proofs.Ytjfpkldknchnkaa.Me
