/- mdemph.Pairs walked. -/
import Derived.Test.YtjfpkldknchnkaaPs
namespace Go.Proofs.Ytjfpkldknchnkaa.Me
open Go.RowKit Go.Proofs.YtjfpkldknchnkaaW.PrintWords Go.Proofs.YtjfpkldknchnkaaW.PrintLast Go.Proofs.YtjfpkldknchnkaaW.PrintMore
attribute [local go_sem] max2_int min2_int max_two min_two max_three min_three max_four min_four
set_option linter.unusedVariables false
set_option linter.unusedSimpArgs false
theorem lf_below {W : World} {q : Nat} {X : Lf} (h : W.heap[q]? = some (.cells (lfc X) 62 (0, 0))) : q < W.heap.size := blk_lt h
def PairsP (w : World) (l : List Rn) (e : Ending) (w' : World) : Prop :=
  ∃ A n c R, e = .returned (.slice A n c) ∧ R.Perm (pairsU l) ∧ Srt R ∧ ReadsRow RPr 3 w' A n R ∧ Below w.heap.size w w'
/-- What holds behind the inner loop, and at its head. -/
structure IN (w1 W : World) (x : Rn) (rb q : Nat) (L : List Lf) (ps : List Nat) (A4 : Option Addr) (n4 c4 : Nat) (o : List Pr) (A3 : Option Addr) (n3 c3 : Nat) (X : Lf) : Prop where
  st : PSt w1 W L ps (.slice A4 n4 c4) o (.slice A3 n3 c3)
  hr : W.heap[rb]? = some (.cells (rnc x) 23 (0, 0))
  hq : W.heap[q]? = some (.cells (lfc X) 62 (0, 0))
  qn : q ∉ ps
  qg : w1.heap.size ≤ q
  rg : w1.heap.size ≤ rb
  xr : X.r = x
  xk : okL X
  n3o : o.length = n3
  n4l : ps.length = n4
  sl : ∀ y, y ∈ L → y.f < y.t
theorem IN.below {w1 W W' : World} {x : Rn} {rb q : Nat} {L : List Lf} {ps : List Nat} {A4 : Option Addr} {n4 c4 : Nat} {o : List Pr} {A3 : Option Addr} {n3 c3 : Nat} {X : Lf} (h : IN w1 W x rb q L ps A4 n4 c4 o A3 n3 c3 X) (hb : Below W.heap.size W W') : IN w1 W' x rb q L ps A4 n4 c4 o A3 n3 c3 X :=
  ⟨h.st.below hb, (hb.block rb (blk_lt h.hr)).trans h.hr, (hb.block q (blk_lt h.hq)).trans h.hq, h.qn, h.qg, h.rg, h.xr, h.xk, h.n3o, h.n4l, h.sl⟩
theorem IN.draw {w1 W : World} {x : Rn} {rb q : Nat} {L : List Lf} {ps : List Nat} {A4 : Option Addr} {n4 c4 : Nat} {o : List Pr} {A3 : Option Addr} {n3 c3 : Nat} {X : Lf} (h : IN w1 W x rb q L ps A4 n4 c4 o A3 n3 c3 X) (m : Nat) : IN w1 (W.drewN m) x rb q L ps A4 n4 c4 o A3 n3 c3 X :=
  h.below (pw_below_drewN (Below.refl _ W) m)
/-- At the outer loop's head. -/
structure OUT (w1 W : World) (l : List Rn) (k : Nat) (ps : List Nat) (A4 : Option Addr) (n4 c4 : Nat) (A3 : Option Addr) (n3 c3 : Nat) : Prop where
  st : PSt w1 W (pairsL (l.take k)).1 ps (.slice A4 n4 c4) (pairsL (l.take k)).2 (.slice A3 n3 c3)
  n3o : (pairsL (l.take k)).2.length = n3
  n4l : ps.length = n4
  n3b : (n3 : Int) ≤ posI l k
  n4b : n4 ≤ k
  sl : ∀ y, y ∈ (pairsL (l.take k)).1 → y.f < y.t
theorem take_set_last {L : List Lf} {k : Nat} {y z : Lf} (h : L[k]? = some y) : (L.take (k + 1)).set k z = L.take k ++ [z] := by
  have hk := (List.getElem?_eq_some_iff.1 h).1
  rw [take_snoc h, List.set_append_right _ _ (by rw [List.length_take]; omega)]
  rw [List.length_take, Nat.min_eq_left (by omega), Nat.sub_self]
  rfl
def fitI : Option Nat → Int
  | none => -1
  | some k => (k : Int)
theorem closeX_stop {g : Nat} {L : List Lf} {X : Lf} {o : List Pr} (h : ¬ (X.r.k = true ∧ X.f < X.t)) : closeX g L X o = (L, X, o) := by
  cases g with
  | zero => rfl
  | succ g => unfold closeX; rw [if_neg h]
theorem closeX_none {g : Nat} {L : List Lf} {X : Lf} {o : List Pr} (h : fitAt L X.r L.length = none) : closeX g L X o = (L, X, o) := by
  cases g with
  | zero => rfl
  | succ g =>
    unfold closeX
    split
    · rw [h]
    · rfl
theorem closeX_some {g : Nat} {L : List Lf} {X y : Lf} {o : List Pr} {k : Nat} (hg : X.r.k = true ∧ X.f < X.t) (h : fitAt L X.r L.length = some k) (hy : L[k]? = some y) : closeX (g + 1) L X o = closeX g (takeL L k y X) { X with f := X.f + twoB y X } (o ++ [⟨y.t - twoB y X, X.f + twoB y X, decide (twoB y X = 2)⟩]) := by
  rw [closeX, if_pos hg, h]
  simp only [hy]
theorem twoB_in {y X : Lf} (h1 : y.f < y.t) (h2 : X.f < X.t) : y.f ≤ y.t - twoB y X ∧ X.f + twoB y X ≤ X.t := by
  unfold twoB
  split <;> omega
set_option maxRecDepth 100000 in
set_option maxHeartbeats 16000000 in
theorem pairs_c (A : Option Addr) (n c : Nat) (l : List Rn) (w : World) (hl : ReadsRow RRn 5 w A n l) (hn : n ≤ 100000000) : Calls Try.prog 13 #[.slice A n c] w fun e w' => PairsP w l e w' := by
  have HL := Aside0.mk hl
  obtain ⟨i60, hi60, hz60⟩ := Option.map_eq_some_iff.1 info60s
  have I60 := Aside0.mk hi60
  clear hi60 hz60
  clear hl
  go_enter Try.func13, Try.ntmps13
  go_upto_if 13 with (fail)
  refine (may_c A n c l w HL.out hn).mono ?_
  rintro _ w1 ⟨rfl, hb1⟩
  have HB1 := Aside0.mk hb1
  clear hb1
  cases hm : mayB 0 l
  case false =>
    have HM := Aside0.mk hm
    clear hm
    go_wp2_with (fail)
    go_ret
    exact ⟨none, 0, 0, [], rfl, by unfold pairsU; rw [HM.out]; exact List.Perm.refl _, List.Pairwise.nil, ⟨rfl, by decide, fun h => by omega⟩, HB1.out⟩
  case true =>
    have HM := Aside0.mk hm
    have HPL := Aside0.mk (posI_le hm)
    have hnl : n ≤ 1048576 := by
      have h1 := posI_le hm n (by rw [HL.out.1]; exact Nat.le_refl _)
      omega
    clear hm
    go_upto_block 0 with (fail)
    go_cut [3, 4] from 14 (fun v3 v4 wc => ∃ (A3 : Option Addr) (n3 c3 : Nat) (A4 : Option Addr) (n4 c4 : Nat) (ps : List Nat), v3 = .slice A3 n3 c3 ∧ v4 = .slice A4 n4 c4 ∧ Aside0 (OUT w1 wc l n ps A4 n4 c4 A3 n3 c3))
    case first =>
      go_wp2_with (fail)
      go_loopg [3, 4, 16] n (fun gk v3 v4 v16 wr => ∃ (k : Nat) (A3 : Option Addr) (n3 c3 : Nat) (A4 : Option Addr) (n4 c4 : Nat) (ps : List Nat), v16 = .int .i64 (k : Int) ∧ v3 = .slice A3 n3 c3 ∧ v4 = .slice A4 n4 c4 ∧ Aside0 (k + gk = n) ∧ Aside0 (OUT w1 wr l k ps A4 n4 c4 A3 n3 c3))
      case atStart => exact ⟨0, none, 0, 0, none, 0, 0, [], rfl, rfl, rfl, ⟨by omega⟩, ⟨⟨PSt.nil w1, rfl, rfl, by simp [posI], Nat.le_refl _, fun y hy => by simp [pairsL] at hy⟩⟩⟩
      case round =>
        obtain ⟨k, A3, n3, c3, A4, n4, c4, ps, rfl, rfl, rfl, HK, HO⟩ := hrel
        by_cases hkn : k < n
        case neg =>
          have hkk : ¬ ((k : Int) < (n : Int)) := by omega
          have hkn2 : k = n := by have := HK.out; omega
          have HO2 : Aside0 (OUT w1 wr l n ps A4 n4 c4 A3 n3 c3) := ⟨by rw [← hkn2]; exact HO.out⟩
          clear hkn2 hkn
          go_wp2_with (fail)
          go_meet
          case rel => exact ⟨A3, n3, c3, A4, n4, c4, ps, rfl, rfl, HO2⟩
        case pos =>
          obtain ⟨gn, rfl⟩ : ∃ gn, gk = gn + 1 := ⟨gk - 1, by have := HK.out; omega⟩
          obtain ⟨x, hx⟩ : ∃ x, l[k]? = some x := ⟨_, List.getElem?_eq_getElem (by rw [HL.out.1]; exact hkn)⟩
          obtain ⟨ad, hA, _⟩ := HL.out.2.2 (by omega)
          subst hA
          obtain ⟨e0, e1, e2, e3, e4⟩ := rn_at (rows_below HL.out (HB1.out.trans (HO.out.st.bel.mono HB1.out.size))) hx
          obtain ⟨m1, m2, m3, m4, m5⟩ := may_at HM.out hx
          have k0 : (0 : Int) ≤ (k : Int) := by omega
          have k1 : (k : Int) < (n : Int) := by omega
          have hwk : IntKind.i64.wrap ((k : Int) + 1) = (k : Int) + 1 := IntWalk.i64_in _ (by omega)
          have hpk := HPL.out k (by have := HL.out.1; omega)
          have hwa : IntKind.i64.wrap (x.a + x.n) = x.a + x.n := IntWalk.i64_in _ (by omega)
          have HSTEP := Aside0.mk (pairsL_step hx)
          have hp1 : posI l (k + 1) = x.a + x.n := by simp [posI, hx]
          have HP1 := Aside0.mk hp1
          have HX0 : Aside0 (okL ⟨x, x.a, x.a + x.n⟩) := ⟨⟨by show 0 ≤ x.n; omega, by show x.n ≤ 1048576; omega, by show 0 ≤ x.a; omega, by show x.a ≤ x.a + x.n; omega, by show x.a + x.n ≤ 1048576; omega⟩⟩
          have HXN : Aside0 (1 ≤ x.n ∧ (n3 : Int) ≤ x.a) := ⟨⟨m1, Int.le_trans HO.out.n3b m3⟩⟩
          have HXM : Aside0 (x.a + x.n ≤ 1048576) := ⟨by omega⟩
          clear hx m1 m2 m3 m4 m5 hp1 hpk
          obtain ⟨rb, hrb⟩ : ∃ q, wr.heap.size = q := ⟨_, rfl⟩
          obtain ⟨wx, hwx⟩ : ∃ q, wr.alloc (.cells zrun 23) = q := ⟨_, rfl⟩
          have hz9 : wx.heap[rb]? = some (.cells zrun 23 (0, 0)) := by rw [← hwx, ← hrb]; exact heap_alloc_new _ _
          have hbx : Below wr.heap.size wr wx := by rw [← hwx]; exact below_alloc (Below.refl _ wr) _
          have hsx : wx.heap.size = rb + 1 := by rw [← hwx]; simp [hrb]
          have fz := fun j => blk_frozen hz9 j
          have z0 : wx.cell? ⟨rb, 0, none⟩ = some (.int .i64 0) := cell_of_row _ _ _ _ _ _ hz9
          have z1 : wx.cell? ⟨rb, 1, none⟩ = some (.int .i64 0) := cell_of_row _ _ _ _ _ _ hz9
          have z2 : wx.cell? ⟨rb, 2, none⟩ = some (.int .u8 0) := cell_of_row _ _ _ _ _ _ hz9
          have z3 : wx.cell? ⟨rb, 3, none⟩ = some (.bool false) := cell_of_row _ _ _ _ _ _ hz9
          have z4 : wx.cell? ⟨rb, 4, none⟩ = some (.bool false) := cell_of_row _ _ _ _ _ _ hz9
          have HRB := Aside0.mk hrb
          have HZ := Aside0.mk hz9
          have HBX := Aside0.mk hbx
          have HSZ : Aside0 (w1.heap.size ≤ rb) := ⟨by rw [← hrb]; exact HO.out.st.bel.size⟩
          clear hz9 hbx
          go_upto_region 8 with (fail)
          obtain ⟨W, hW⟩ : ∃ q, ((((wx.setCell ⟨rb, 0, none⟩ (.int .i64 x.a)).setCell ⟨rb, 1, none⟩ (.int .i64 x.n)).setCell ⟨rb, 2, none⟩ (.int .u8 x.c)).setCell ⟨rb, 3, none⟩ (.bool x.o)).setCell ⟨rb, 4, none⟩ (.bool x.k) = q := ⟨_, rfl⟩
          rw [hW]
          have hr9 : W.heap[rb]? = some (.cells (rnc x) 23 (0, 0)) := by rw [← hW]; exact five_row HZ.out _ _ _ _ _
          have hbW : Below wr.heap.size wr W := by rw [← hW]; exact five_below HBX.out (by omega) _ _ _ _ _
          have hsW : W.heap.size = rb + 1 := by rw [← hW]; simp [hsx]
          have HR9 := Aside0.mk hr9
          have HBW := Aside0.mk hbW
          have r0 : W.cell? ⟨rb, 0, none⟩ = some (.int .i64 x.a) := cell_of_row _ _ _ _ _ _ hr9
          have r1 : W.cell? ⟨rb, 1, none⟩ = some (.int .i64 x.n) := cell_of_row _ _ _ _ _ _ hr9
          have r2 : W.cell? ⟨rb, 2, none⟩ = some (.int .u8 x.c) := cell_of_row _ _ _ _ _ _ hr9
          have r3 : W.cell? ⟨rb, 3, none⟩ = some (.bool x.o) := cell_of_row _ _ _ _ _ _ hr9
          have r4 : W.cell? ⟨rb, 4, none⟩ = some (.bool x.k) := cell_of_row _ _ _ _ _ _ hr9
          clear hW hwx hrb fz z0 z1 z2 z3 z4 e0 e1 e2 e3 e4 hr9 hbW hsx
          go_upto_block 2 with (fail)
          obtain ⟨W2, hW2⟩ : ∃ q, W.alloc (.cells #[.int .i64 x.a, .int .i64 x.n, .int .u8 x.c, .bool x.o, .bool x.k, .int .i64 x.a, .int .i64 (x.a + x.n)] 62) = q := ⟨_, rfl⟩
          rw [hW2]
          obtain ⟨L0, hL0⟩ : ∃ q, (pairsL (l.take k)).1 = q := ⟨_, rfl⟩
          obtain ⟨o0, ho0⟩ : ∃ q, (pairsL (l.take k)).2 = q := ⟨_, rfl⟩
          have HL0 := Aside0.mk hL0
          have HO0 := Aside0.mk ho0
          have HIN : Aside0 (IN w1 W2 x rb (rb + 1) L0 ps A4 n4 c4 o0 A3 n3 c3 ⟨x, x.a, x.a + x.n⟩) := ⟨by
            have hb2 : Below W.heap.size W W2 := by rw [← hW2]; exact below_alloc (Below.refl _ W) _
            have h1 := HO.out.st
            rw [hL0, ho0] at h1
            exact ⟨h1.below (HBW.out.trans (hb2.mono (by rw [hsW, HRB.out]; omega))), (hb2.block rb (by omega)).trans HR9.out, by rw [← hW2, ← hsW]; exact heap_alloc_new _ _, fun hm2 => by
              obtain ⟨y, hy⟩ := h1.pcm hm2
              have h2 := blk_lt hy
              rw [HRB.out] at h2
              omega, by have := HSZ.out; omega, HSZ.out, rfl, HX0.out, by rw [← ho0]; exact HO.out.n3o, HO.out.n4l, by rw [← hL0]; exact HO.out.sl⟩⟩
          clear hW2 hsW r0 r1 r2 r3 r4 hL0 ho0 hwa
          go_cut [3, 4] from 30 to 132 (fun v3 v4 wc => ∃ (A5 : Option Addr) (n5 c5 : Nat) (A6 : Option Addr) (n6 c6 : Nat) (qs : List Nat) (L : List Lf) (X : Lf) (o : List Pr), v3 = .slice A5 n5 c5 ∧ v4 = .slice A6 n6 c6 ∧ Aside0 (IN w1 wc x rb (rb + 1) L qs A6 n6 c6 o A5 n5 c5 X) ∧ Aside0 (closeX x.n.toNat L0 ⟨x, x.a, x.a + x.n⟩ o0 = (L, X, o)) ∧ Aside0 ((n5 : Int) ≤ X.f ∧ n6 ≤ k ∧ X.t = x.a + x.n))
          case first =>
            go_wp2_with (fail)
            go_loopg [3, 4] x.n.toNat (fun gj v3 v4 wc => ∃ (A5 : Option Addr) (n5 c5 : Nat) (A6 : Option Addr) (n6 c6 : Nat) (qs : List Nat) (L : List Lf) (X : Lf) (o : List Pr), v3 = .slice A5 n5 c5 ∧ v4 = .slice A6 n6 c6 ∧ Aside0 (IN w1 wc x rb (rb + 1) L qs A6 n6 c6 o A5 n5 c5 X) ∧ Aside0 (closeX x.n.toNat L0 ⟨x, x.a, x.a + x.n⟩ o0 = closeX gj L X o) ∧ Aside0 ((n5 : Int) ≤ X.f ∧ n6 ≤ k ∧ X.t = x.a + x.n ∧ X.t - X.f ≤ (gj : Int)))
            case atStart => exact ⟨A3, n3, c3, A4, n4, c4, ps, L0, _, o0, rfl, rfl, HIN, ⟨rfl⟩, ⟨⟨HXN.out.2, HO.out.n4b, rfl, by have := HXN.out.1; show x.a + x.n - x.a ≤ _; omega⟩⟩⟩
            case round =>
              clear HIN
              obtain ⟨A5, n5, c5, A6, n6, c6, qs, L, X, o, rfl, rfl, HI, HC, HF⟩ := hrel
              go_upto_region 9 with (fail)
              have i4 : wr.cell? ⟨rb, 4, none⟩ = some (.bool x.k) := cell_of_row _ _ _ _ _ _ HI.out.hr
              have j5 : wr.cell? ⟨rb + 1, 5, none⟩ = some (.int .i64 X.f) := cell_of_row _ _ _ _ _ _ HI.out.hq
              have j6 : wr.cell? ⟨rb + 1, 6, none⟩ = some (.int .i64 X.t) := cell_of_row _ _ _ _ _ _ HI.out.hq
              rcases Bool.eq_false_or_eq_true x.k with hk | hk
              case inr =>
                rw [hk] at i4
                have HST : Aside0 (closeX gk L X o = (L, X, o)) := ⟨closeX_stop (fun h => by rw [HI.out.xr, hk] at h; cases h.1)⟩
                clear hk
                go_quiet (fail)
                go_wp2_with (fail)
                go_meet
                case rel => exact ⟨A5, n5, c5, A6, n6, c6, qs, L, X, o, rfl, rfl, ⟨HI.out.draw nq⟩, ⟨HC.out.trans HST.out⟩, ⟨⟨HF.out.1, HF.out.2.1, HF.out.2.2.1⟩⟩⟩
              case inl =>
                rw [hk] at i4
                by_cases hgd : X.f < X.t
                case neg =>
                  have HST : Aside0 (closeX gk L X o = (L, X, o)) := ⟨closeX_stop (fun h => hgd h.2)⟩
                  clear hk
                  go_quiet (fail)
                  go_wp2_with (fail)
                  go_meet
                  case rel => exact ⟨A5, n5, c5, A6, n6, c6, qs, L, X, o, rfl, rfl, ⟨HI.out.draw nq⟩, ⟨HC.out.trans HST.out⟩, ⟨⟨HF.out.1, HF.out.2.1, HF.out.2.2.1⟩⟩⟩
                case pos =>
                  obtain ⟨gj, rfl⟩ : ∃ gj, gk = gj + 1 := ⟨gk - 1, by have := HF.out.2.2.2; omega⟩
                  have HGD : Aside0 (X.r.k = true ∧ X.f < X.t) := ⟨⟨by rw [HI.out.xr]; exact hk, hgd⟩⟩
                  have hn6 : n6 ≤ 1048576 := by have := HF.out.2.1; omega
                  have hwn : IntKind.i64.wrap ((n6 : Int) - 1) = (n6 : Int) - 1 := IntWalk.i64_in _ (by omega)
                  clear hk
                  go_quiet (fail)
                  obtain ⟨wD, hwD⟩ : ∃ q, wr.drewN nq = q := ⟨_, rfl⟩
                  rw [hwD]
                  have HID : Aside0 (IN w1 wD x rb (rb + 1) L qs A6 n6 c6 o A5 n5 c5 X) := ⟨by rw [← hwD]; exact HI.out.draw nq⟩
                  clear hwD i4 j5 j6 HI hgd
                  go_upto_block 4 with (fail)
                  go_cut [8] from 43 to 58 (fun v8 wc => v8 = .int .i64 (fitI (fitAt L X.r L.length)) ∧ Aside0 (∃ m, wc = wD.drewN m))
                  case first =>
                    go_wp2_with (fail)
                    go_loopg [8] n6 (fun gi v8 wi => ∃ z : Int, v8 = .int .i64 z ∧ Aside0 (z = (gi : Int) - 1) ∧ Aside0 (gi ≤ n6) ∧ Aside0 (fitAt L X.r L.length = fitAt L X.r gi) ∧ Aside0 (∃ m, wi = wD.drewN m))
                    case atStart => exact ⟨_, rfl, ⟨rfl⟩, ⟨Nat.le_refl _⟩, ⟨by rw [← HID.out.st.pl, HID.out.n4l]⟩, ⟨⟨0, (World.drewN_zero _).symm⟩⟩⟩
                    case round =>
                      obtain ⟨z, rfl, HZ2, HG, HFA, HM2⟩ := hrel
                      rcases Nat.eq_zero_or_pos gk with hz0 | hz0
                      case inl =>
                        subst hz0
                        have hz : ¬ (0 : Int) ≤ z := by have := HZ2.out; omega
                        have HZ3 : Aside0 (z = fitI (fitAt L X.r L.length)) := ⟨by rw [HFA.out, HZ2.out]; rfl⟩
                        go_wp2_with (fail)
                        go_meet
                        case rel => exact ⟨by rw [HZ3.out], HM2⟩
                      case inr =>
                        obtain ⟨gm, rfl⟩ : ∃ gm, gk = gm + 1 := ⟨gk - 1, by omega⟩
                        clear hz0
                        obtain rfl : z = (gm : Int) := by have := HZ2.out; omega
                        have hgm : gm < n6 := by have := HG.out; omega
                        have g0 : (0 : Int) ≤ (gm : Int) := by omega
                        have g1 : (gm : Int) < (n6 : Int) := by omega
                        have hwg : IntKind.i64.wrap ((gm : Int) - 1) = (gm : Int) - 1 := IntWalk.i64_in _ (by omega)
                        obtain ⟨m9, hm9⟩ := HM2.out
                        have HIW : Aside0 (IN w1 wr x rb (rb + 1) L qs A6 n6 c6 o A5 n5 c5 X) := ⟨by rw [hm9]; exact HID.out.draw m9⟩
                        obtain ⟨p, hp⟩ : ∃ p, qs[gm]? = some p := ⟨_, List.getElem?_eq_getElem (by rw [HIW.out.n4l]; exact hgm)⟩
                        obtain ⟨y, hy⟩ := pair_at HIW.out.st.pl hp
                        obtain ⟨g, hg, cg, _⟩ := HIW.out.st.at hp
                        subst hg
                        have FIT := Aside0.mk (fit_c p (rb + 1) y X wr (HIW.out.st.pc gm p y hp hy) HIW.out.hq (by have h := HIW.out.st.ok y (List.mem_of_getElem? hy); exact ⟨h.1, h.2.1⟩) (by have h := HIW.out.xk; exact ⟨h.1, h.2.1⟩))
                        have HFS : Aside0 (fitAt L X.r (gm + 1) = if fitB y.r X.r = true then some gm else fitAt L X.r gm) := ⟨by simp [fitAt, hy]⟩
                        have HM9 := Aside0.mk hm9
                        clear hm9 hp hy hgm
                        cases hfb : fitB y.r X.r
                        case true =>
                          rw [hfb] at FIT HFS
                          have HZ3 : Aside0 ((gm : Int) = fitI (fitAt L X.r L.length)) := ⟨by rw [HFA.out, HFS.out]; rfl⟩
                          clear hfb
                          go_wp2_with (go_at_call 26; refine FIT.out.mono ?_; rintro _ w9 ⟨rfl, m8, h9⟩; rw [h9]; have HM8 : Aside0 (∃ m, w9 = wD.drewN m) := ⟨⟨m9 + m8, by rw [h9, HM9.out, World.drewN_drewN]⟩⟩; rw [h9] at HM8; clear h9 w9 FIT)
                          go_meet
                          case rel => exact ⟨by rw [HZ3.out], HM8⟩
                        case false =>
                          rw [hfb] at FIT HFS
                          have HFA2 : Aside0 (fitAt L X.r L.length = fitAt L X.r gm) := ⟨by rw [HFA.out, HFS.out]; rfl⟩
                          clear hfb
                          go_wp2_with (go_at_call 26; refine FIT.out.mono ?_; rintro _ w9 ⟨rfl, m8, h9⟩; rw [h9]; have HM8 : Aside0 (∃ m, w9 = wD.drewN m) := ⟨⟨m9 + m8, by rw [h9, HM9.out, World.drewN_drewN]⟩⟩; rw [h9] at HM8; clear h9 w9 FIT)
                          go_roundg gm
                          case measure => exact Nat.lt_succ_self _
                          case rel => exact ⟨_, rfl, ⟨rfl⟩, ⟨by have := HG.out; omega⟩, HFA2, HM8⟩
                  case rest =>
                    obtain ⟨rfl, HMc⟩ := hcut
                    obtain ⟨m9, hm9⟩ := HMc.out
                    have HIc : Aside0 (IN w1 wc x rb (rb + 1) L qs A6 n6 c6 o A5 n5 c5 X) := ⟨by rw [hm9]; exact HID.out.draw m9⟩
                    clear hm9 HMc
                    rcases hfa : fitAt L X.r L.length with _ | kk
                    case none =>
                      have HST : Aside0 (closeX (gj + 1) L X o = (L, X, o)) := ⟨closeX_none hfa⟩
                      clear hfa
                      rw [show fitI none = -1 from rfl]
                      go_wp2_with (fail)
                      go_meet
                      case rel => exact ⟨A5, n5, c5, A6, n6, c6, qs, L, X, o, rfl, rfl, HIc, ⟨HC.out.trans HST.out⟩, ⟨⟨HF.out.1, HF.out.2.1, HF.out.2.2.1⟩⟩⟩
                    case some =>
                      obtain ⟨hk1, y, hy, _⟩ := fitAt_some hfa
                      have hk2 : kk < n6 := by rw [← HIc.out.n4l, HIc.out.st.pl]; exact hk1
                      obtain ⟨p, hp⟩ : ∃ p, qs[kk]? = some p := ⟨_, List.getElem?_eq_getElem (by rw [HIc.out.n4l]; exact hk2)⟩
                      obtain ⟨g, hg, cg, _⟩ := HIc.out.st.at hp
                      subst hg
                      have hpc := HIc.out.st.pc kk p y hp hy
                      have HPC := Aside0.mk hpc
                      have HHP := Aside0.mk hp
                      have HHY := Aside0.mk hy
                      have HFA := Aside0.mk hfa
                      have hpq : p ≠ rb + 1 := fun e => HIc.out.qn (by rw [← e]; exact List.mem_of_getElem? hp)
                      have HPQ := Aside0.mk hpq
                      have hys := HIc.out.sl y (List.mem_of_getElem? hy)
                      have hyo := HIc.out.st.ok y (List.mem_of_getElem? hy)
                      have HYS := Aside0.mk hys
                      have HYO := Aside0.mk hyo
                      obtain ⟨oy1, oy2, oy3, oy4, oy5⟩ := hyo
                      obtain ⟨ox1, ox2, ox3, ox4, ox5⟩ := HIc.out.xk
                      have k0' : (0 : Int) ≤ (kk : Int) := by omega
                      have k1' : (kk : Int) < (n6 : Int) := by omega
                      have k2' : ¬ (kk : Int) < 0 := by omega
                      have hwkk : IntKind.i64.wrap ((kk : Int) + 1) = (kk : Int) + 1 := IntWalk.i64_in _ (by omega)
                      have hcap := (Kd.R_reads' HIc.out.st.rS).2.1
                      have hcut1 := cut_to (P := Try.prog) 59 60 .i64 Try.underlying59 I60.out (some ⟨g, 0, none⟩) n6 c6 ((kk : Int) + 1) (by omega) (by omega) hcap
                      rw [show ((kk : Int) + 1).toNat = kk + 1 by omega] at hcut1
                      have hcut2 := cut_to (P := Try.prog) 59 60 .i64 Try.underlying59 I60.out (some ⟨g, 0, none⟩) (kk + 1) c6 (kk : Int) (by omega) (by omega) (by omega)
                      rw [Int.toNat_natCast] at hcut2
                      have HCUT2 := Aside0.mk hcut2
                      have HCAP := Aside0.mk hcap
                      rw [show fitI (some kk) = (kk : Int) from rfl]
                      clear hfa hp hy hk1 hcap hcut2 hpc hpq hys
                      go_upto_region 17 with (fail)
                      have p5 : wc.cell? ⟨p, 5, none⟩ = some (.int .i64 y.f) := cell_of_row _ _ _ _ _ _ HPC.out
                      have p6 : wc.cell? ⟨p, 6, none⟩ = some (.int .i64 y.t) := cell_of_row _ _ _ _ _ _ HPC.out
                      have j5 : wc.cell? ⟨rb + 1, 5, none⟩ = some (.int .i64 X.f) := cell_of_row _ _ _ _ _ _ HIc.out.hq
                      have j6 : wc.cell? ⟨rb + 1, 6, none⟩ = some (.int .i64 X.t) := cell_of_row _ _ _ _ _ _ HIc.out.hq
                      have hw1 : IntKind.i64.wrap (y.t - y.f) = y.t - y.f := IntWalk.i64_in _ (by omega)
                      have hw2 : IntKind.i64.wrap (X.t - X.f) = X.t - X.f := IntWalk.i64_in _ (by omega)
                      have HTB := Aside0.mk (twoB_pos y X)
                      have HTI := Aside0.mk (twoB_in HYS.out HGD.out.2)
                      clear oy1 oy2 ox1 ox2
                      go_cut [90] from 69 to 90 (fun v90 wF => v90 = .bool (decide (2 ≤ y.t - y.f ∧ 2 ≤ X.t - X.f)) ∧ Aside0 (∃ m, wF = wc.drewN m))
                      case first =>
                        by_cases a1 : 2 ≤ y.t - y.f
                        · by_cases a2 : 2 ≤ X.t - X.f
                          · have HD : Aside0 (decide (2 ≤ y.t - y.f ∧ 2 ≤ X.t - X.f) = true) := ⟨decide_eq_true ⟨a1, a2⟩⟩
                            go_quiet (fail)
                            go_wp2_with (fail)
                            go_meet
                            case rel => exact ⟨by rw [HD.out], ⟨_, rfl⟩⟩
                          · have HD : Aside0 (decide (2 ≤ y.t - y.f ∧ 2 ≤ X.t - X.f) = false) := ⟨decide_eq_false (fun h => a2 h.2)⟩
                            go_quiet (fail)
                            go_wp2_with (fail)
                            go_meet
                            case rel => exact ⟨by rw [HD.out], ⟨_, rfl⟩⟩
                        · have HD : Aside0 (decide (2 ≤ y.t - y.f ∧ 2 ≤ X.t - X.f) = false) := ⟨decide_eq_false (fun h => a1 h.1)⟩
                          go_quiet (fail)
                          go_wp2_with (fail)
                          go_meet
                          case rel => exact ⟨by rw [HD.out], ⟨_, rfl⟩⟩
                      case rest =>
                        obtain ⟨rfl, HMF⟩ := hcut
                        obtain ⟨m8, hm8⟩ := HMF.out
                        have HIF : Aside0 (IN w1 wc x rb (rb + 1) L qs (some ⟨g, 0, none⟩) n6 c6 o A5 n5 c5 X) := ⟨by rw [hm8]; exact HIc.out.draw m8⟩
                        have HPF : Aside0 (wc.heap[p]? = some (.cells (lfc y) 62 (0, 0))) := ⟨by rw [hm8]; exact HPC.out⟩
                        clear hm8 HMF p5 p6 j5 j6 HPC HIc hw1 hw2
                        obtain ⟨wF, hwF⟩ : ∃ q, wc = q := ⟨_, rfl⟩
                        rw [hwF] at HIF HPF ⊢
                        clear hwF
                        go_upto_if 90 with (fail)
                        go_cut [10] from 69 to 90 (fun v10 wG => v10 = .int .i64 (twoB y X) ∧ Aside0 (wF = wG))
                        case first =>
                          by_cases a1 : 2 ≤ y.t - y.f ∧ 2 ≤ X.t - X.f
                          · have HD : decide (2 ≤ y.t - y.f ∧ 2 ≤ X.t - X.f) = true := decide_eq_true a1
                            have HT : Aside0 (twoB y X = 2) := ⟨if_pos a1⟩
                            rw [HD]
                            clear a1 HD
                            go_wp2_with (fail)
                            go_meet
                            case rel => exact ⟨by rw [HT.out], ⟨rfl⟩⟩
                          · have HD : decide (2 ≤ y.t - y.f ∧ 2 ≤ X.t - X.f) = false := decide_eq_false a1
                            have HT : Aside0 (twoB y X = 1) := ⟨if_neg a1⟩
                            rw [HD]
                            clear a1 HD
                            go_wp2_with (fail)
                            go_meet
                            case rel => exact ⟨by rw [HT.out], ⟨rfl⟩⟩
                        case rest =>
                          obtain ⟨rfl, HWG⟩ := hcut
                          obtain rfl := HWG.out
                          obtain ⟨tb, htb⟩ : ∃ q, twoB y X = q := ⟨_, rfl⟩
                          have HTBE := Aside0.mk htb
                          have htp := HTB.out
                          have hti := HTI.out
                          rw [htb] at htp hti ⊢
                          have HTP := Aside0.mk htp
                          have HTI2 := Aside0.mk hti
                          have hw1 : IntKind.i64.wrap (y.t - tb) = y.t - tb := IntWalk.i64_in _ (by omega)
                          have hw2 : IntKind.i64.wrap (X.f + tb) = X.f + tb := IntWalk.i64_in _ (by omega)
                          clear htb htp hti HTB HTI
                          have p5 : wF.cell? ⟨p, 5, none⟩ = some (.int .i64 y.f) := cell_of_row _ _ _ _ _ _ HPF.out
                          have p6 : wF.cell? ⟨p, 6, none⟩ = some (.int .i64 y.t) := cell_of_row _ _ _ _ _ _ HPF.out
                          have fp := fun j => blk_frozen HPF.out j
                          obtain ⟨wG, hwG⟩ : ∃ q, wF.setCell ⟨p, 6, none⟩ (.int .i64 (y.t - tb)) = q := ⟨_, rfl⟩
                          have HQG : Aside0 (wG.heap[rb + 1]? = some (.cells (lfc X) 62 (0, 0))) := ⟨by rw [← hwG]; exact blk_far HIF.out.hq (fun e => HPQ.out e.symm) _⟩
                          have j5 : wG.cell? ⟨rb + 1, 5, none⟩ = some (.int .i64 X.f) := cell_of_row _ _ _ _ _ _ HQG.out
                          have fq := fun j => blk_frozen HQG.out j
                          obtain ⟨wH, hwH⟩ : ∃ q, wG.setCell ⟨rb + 1, 5, none⟩ (.int .i64 (X.f + tb)) = q := ⟨_, rfl⟩
                          have HPG : Aside0 (wG.heap[p]? = some (.cells (lfc { y with t := y.t - tb }) 62 (0, 0))) := ⟨by rw [← hwG]; exact blk_set HPF.out 6 _⟩
                          have HPH : Aside0 (wH.heap[p]? = some (.cells (lfc { y with t := y.t - tb }) 62 (0, 0))) := ⟨by rw [← hwH]; exact blk_far HPG.out HPQ.out _⟩
                          have HQH : Aside0 (wH.heap[rb + 1]? = some (.cells (lfc { X with f := X.f + tb }) 62 (0, 0))) := ⟨by rw [← hwH]; exact blk_set HQG.out 5 _⟩
                          have HRH : Aside0 (wH.heap[rb]? = some (.cells (rnc x) 23 (0, 0))) := ⟨by
                            rw [← hwH, ← hwG]
                            refine blk_far (blk_far HIF.out.hr (fun e => ?_) _) (fun e => ?_) _
                            · have h1 := HIF.out.hr
                              have e2 : rb = p := e
                              rw [e2, HPF.out] at h1
                              injection h1 with h1
                              injection h1 with _ h3
                              exact absurd h3 (by decide)
                            · have e2 : rb = rb + 1 := e
                              omega⟩
                          have HPSH : Aside0 (PSt w1 wH (L.take kk ++ [{ y with t := y.t - tb }]) (qs.take (kk + 1)) (.slice (some ⟨g, 0, none⟩) (kk + 1) c6) o (.slice A5 n5 c5)) := ⟨by
                            have hc1 := HIF.out.st.cut (m := kk + 1) (by have := (List.getElem?_eq_some_iff.1 HHP.out).1; omega)
                            have hc2 := hc1.setL (k := kk) (p := p) (y := y) (by rw [List.getElem?_take, if_pos (by omega)]; exact HHP.out) (by rw [List.getElem?_take, if_pos (by omega)]; exact HHY.out) (y.t - tb) ⟨HYO.out.1, HYO.out.2.1, HYO.out.2.2.1, HTI2.out.1, by have := HYO.out.2.2.2.2; have := HTP.out; show y.t - tb ≤ 1048576; omega⟩
                            rw [take_set_last HHY.out, hwG] at hc2
                            have hc3 := hc2.setX HQG.out (fun h => HIF.out.qn (List.mem_of_mem_take h)) HIF.out.qg 5 (.int .i64 (X.f + tb))
                            rw [hwH] at hc3
                            exact hc3⟩
                          clear HPG HQG oy3 oy4 oy5 ox3 ox4 ox5
                          go_upto_region 21 with (fail)
                          obtain ⟨sb, hsb⟩ : ∃ q, (tb == 2) = q := ⟨_, rfl⟩
                          have HSB := Aside0.mk hsb
                          have d6 : wH.cell? ⟨p, 6, none⟩ = some (.int .i64 (y.t - tb)) := cell_of_row _ _ _ _ _ _ HPH.out
                          have d5 : wH.cell? ⟨rb + 1, 5, none⟩ = some (.int .i64 (X.f + tb)) := cell_of_row _ _ _ _ _ _ HQH.out
                          clear hwG hwH p5 p6 fp j5 fq hw1 hw2 cg hcut1
                          have hn5 : n5 ≤ 1048576 := by have h1 := HF.out.1; have h2 := HIF.out.xk.2.2.2; omega
                          refine wp_region_noPanic ?_
                          refine wp_region_held_drew (S := (fun w' => w'.cell? ⟨p, 6, none⟩ = some (.int .i64 (y.t - tb)) ∧ w'.cell? ⟨rb + 1, 5, none⟩ = some (.int .i64 (X.f + tb)))) (by kernel_rfl) ?_ (fun hHeld => ?_)
                          · exact ⟨d6, d5⟩
                          refine wpAnyH_take (i := 0) (v := ?_) rfl (by kernel_rfl) (by kernel_rfl) (by kernel_rfl) (fun _ _ _ h => h) (Or.inl ⟨by rfl, ?_⟩) (by assumption) ?_
                          rotate_left
                          · intro w hSw
                            go_simp
                            try with_reducible rfl
                          simp only [Act.put, List.getElem_toArray, List.getElem_cons_zero, List.getElem_cons_succ, List.setIfInBounds_toArray, List.set_cons_zero, List.set_cons_succ]
                          refine wpAnyH_take (i := 1) (v := ?_) rfl (by kernel_rfl) (by kernel_rfl) (by kernel_rfl) (fun _ _ _ h => h) (Or.inl ⟨by rfl, ?_⟩) (by assumption) ?_
                          rotate_left
                          · intro w hSw
                            go_simp
                            try with_reducible rfl
                          simp only [Act.put, List.getElem_toArray, List.getElem_cons_zero, List.getElem_cons_succ, List.setIfInBounds_toArray, List.set_cons_zero, List.set_cons_succ]
                          refine wpAnyH_take (i := 2) (v := ?_) rfl (by kernel_rfl) (by kernel_rfl) (by kernel_rfl) (fun _ _ _ h => h) (Or.inl ⟨by rfl, ?_⟩) (by assumption) ?_
                          rotate_left
                          · intro w hSw
                            go_simp
                            try with_reducible rfl
                          simp only [Act.put, List.getElem_toArray, List.getElem_cons_zero, List.getElem_cons_succ, List.setIfInBounds_toArray, List.set_cons_zero, List.set_cons_succ]
                          refine wpAnyH_take (i := 3) (v := ?_) rfl (by kernel_rfl) (by kernel_rfl) (by kernel_rfl) (fun _ _ _ h => h) (Or.inl ⟨by rfl, ?_⟩) (by assumption) ?_
                          rotate_left
                          · intro w hSw
                            go_simp
                            try with_reducible rfl
                          simp only [Act.put, List.getElem_toArray, List.getElem_cons_zero, List.getElem_cons_succ, List.setIfInBounds_toArray, List.set_cons_zero, List.set_cons_succ]
                          refine wpAnyH_take (i := 4) (v := ?_) rfl (by kernel_rfl) (by kernel_rfl) (by kernel_rfl) (fun _ _ _ h => h) (Or.inl ⟨by rfl, ?_⟩) (by assumption) ?_
                          rotate_left
                          · intro w hSw
                            go_simp
                            try with_reducible rfl
                          simp only [Act.put, List.getElem_toArray, List.getElem_cons_zero, List.getElem_cons_succ, List.setIfInBounds_toArray, List.set_cons_zero, List.set_cons_succ]
                          refine wpAnyH_take (i := 5) (v := ?_) rfl (by kernel_rfl) (by kernel_rfl) (by kernel_rfl) (fun _ _ _ h => h) (Or.inl ⟨by rfl, ?_⟩) (by assumption) ?_
                          rotate_left
                          · intro w hSw
                            go_simp
                            try with_reducible rfl
                          simp only [Act.put, List.getElem_toArray, List.getElem_cons_zero, List.getElem_cons_succ, List.setIfInBounds_toArray, List.set_cons_zero, List.set_cons_succ]
                          refine wpAnyH_take (i := 6) (v := ?_) rfl (by kernel_rfl) (by kernel_rfl) (by kernel_rfl) (fun _ _ _ h => h) (Or.inl ⟨by rfl, ?_⟩) (by assumption) ?_
                          rotate_left
                          · intro w hSw
                            go_simp
                            try with_reducible rfl
                          simp only [Act.put, List.getElem_toArray, List.getElem_cons_zero, List.getElem_cons_succ, List.setIfInBounds_toArray, List.set_cons_zero, List.set_cons_succ]
                          refine wpAnyH_take (i := 7) (v := ?_) rfl (by kernel_rfl) (by kernel_rfl) (by kernel_rfl) (fun _ _ _ h => h) (Or.inl ⟨by rfl, ?_⟩) (by assumption) ?_
                          rotate_left
                          · intro w hSw
                            go_simp
                            try with_reducible rfl
                          simp only [Act.put, List.getElem_toArray, List.getElem_cons_zero, List.getElem_cons_succ, List.setIfInBounds_toArray, List.set_cons_zero, List.set_cons_succ]
                          refine wpAnyH_take (i := 8) (v := ?_) rfl (by kernel_rfl) (by kernel_rfl) (by kernel_rfl) (fun _ _ _ h => h) (Or.inl ⟨by rfl, ?_⟩) (by assumption) ?_
                          rotate_left
                          · intro w hSw
                            go_simp
                            try with_reducible rfl
                          simp only [Act.put, List.getElem_toArray, List.getElem_cons_zero, List.getElem_cons_succ, List.setIfInBounds_toArray, List.set_cons_zero, List.set_cons_succ]
                          refine wpAnyH_take (i := 9) (v := ?_) rfl (by kernel_rfl) (by kernel_rfl) (by kernel_rfl) (fun _ _ _ h => h) (Or.inl ⟨by rfl, ?_⟩) (by assumption) ?_
                          rotate_left
                          · intro w hSw
                            go_simp
                            try with_reducible rfl
                          simp only [Act.put, List.getElem_toArray, List.getElem_cons_zero, List.getElem_cons_succ, List.setIfInBounds_toArray, List.set_cons_zero, List.set_cons_succ]
                          refine wpAnyH_take (i := 10) (v := ?_) rfl (by kernel_rfl) (by kernel_rfl) (by kernel_rfl) (fun _ _ _ h => h) (Or.inl ⟨by rfl, ?_⟩) (by assumption) ?_
                          rotate_left
                          · intro w hSw
                            go_simp
                            try with_reducible rfl
                          simp only [Act.put, List.getElem_toArray, List.getElem_cons_zero, List.getElem_cons_succ, List.setIfInBounds_toArray, List.set_cons_zero, List.set_cons_succ]
                          refine wpAnyH_take (i := 11) (v := ?_) rfl (by kernel_rfl) (by kernel_rfl) (by kernel_rfl) (fun _ _ _ h => h) (Or.inl ⟨by rfl, ?_⟩) (by assumption) ?_
                          rotate_left
                          · intro w hSw
                            go_simp
                            try with_reducible rfl
                          simp only [Act.put, List.getElem_toArray, List.getElem_cons_zero, List.getElem_cons_succ, List.setIfInBounds_toArray, List.set_cons_zero, List.set_cons_succ]
                          refine wpAnyH_ready (rs := [12]) (by kernel_rfl) (by simp) ?_
                          refine AllReadyH.cons rfl (fun K hK => ?_) AllReadyH.nil
                          go_simp
                          refine hK.out _ _ ⟨pw_cell_below (below_alloc (below_drew (Below.refl _ wH)) _) d6, pw_cell_below (below_alloc (below_drew (Below.refl _ wH)) _) d5⟩ (fun hHeld2 => ?_)
                          clear hK K hHeld
                          have hHeld := hHeld2
                          clear hHeld2
                          try simp only [Act.put, List.getElem_toArray, List.getElem_cons_zero, List.getElem_cons_succ, List.setIfInBounds_toArray, List.set_cons_zero, List.set_cons_succ]
                          refine wpAnyH_ready (rs := [13]) (by kernel_rfl) (by simp) ?_
                          refine AllReadyH.cons rfl (fun K hK => ?_) AllReadyH.nil
                          refine Kd.R_append_step (W := wH.drew) kV (w0 := wH.drew) 0 (by rfl) (.tmp 107) (.tmp 119) 34 39 (.agg #[.int .i64 0, .int .i64 0, .bool false]) 24 rfl Try.underlying34 info39 rfl (by decide) (by decide) (.slice A5 n5 c5) o ⟨y.t - tb, X.f + tb, sb⟩ [.int .i64 (y.t - tb), .int .i64 (X.f + tb), .bool sb] (fun j => w1.heap.size ≤ j) (fun _ => False) rfl rfl rfl (fun _ h => h.elim) (fun j hj => Nat.le_trans HPSH.out.bel.size hj) (Kd.R_drew HPSH.out.rO) (Below.refl _ _) (Nat.zero_le _) (by rw [HIF.out.n3o]; omega) ?_
                          intro v4 w4 hR4 _ hg4 hat4
                          obtain ⟨A7, c7, hv4, _, _⟩ := Kd.R_reads hR4
                          rw [show (o ++ [(⟨y.t - tb, X.f + tb, sb⟩ : Pr)]).length = n5 + 1 from (by rw [List.length_append, HIF.out.n3o]; rfl)] at hv4
                          subst hv4
                          have hst := (HPSH.out.below (below_drew (Below.refl _ wH))).outs hR4 hg4
                          have hb4 : wH.heap.size ≤ w4.heap.size := hg4.size
                          have hne : ∀ (b : Nat) (cs : Array Value), wH.heap[b]? = some (.cells cs 62 (0, 0)) → w4.heap[b]? = some (.cells cs 62 (0, 0)) := fun b cs h => (hg4.block b (blk_lt h) (Kd.R_ne HPSH.out.rO h (by decide))).trans h
                          have HP4 := Aside0.mk (hne p _ HPH.out)
                          have HQ4 := Aside0.mk (hne (rb + 1) _ HQH.out)
                          have HR4 : Aside0 (w4.heap[rb]? = some (.cells (rnc x) 23 (0, 0))) := ⟨(hg4.block rb (blk_lt HRH.out) (Kd.R_ne HPSH.out.rO HRH.out (by decide))).trans HRH.out⟩
                          have HST4 := Aside0.mk hst
                          have d6 : w4.cell? ⟨p, 6, none⟩ = some (.int .i64 (y.t - tb)) := cell_of_row _ _ _ _ _ _ HP4.out
                          have d5 : w4.cell? ⟨rb + 1, 5, none⟩ = some (.int .i64 (X.f + tb)) := cell_of_row _ _ _ _ _ _ HQ4.out
                          clear hR4 hg4 hat4 hst hne hb4
                          refine hK.out _ _ ⟨d6, d5⟩ (fun hHeld2 => ?_)
                          clear hK K hHeld
                          have hHeld := hHeld2
                          clear hHeld2
                          try simp only [Act.put, List.getElem_toArray, List.getElem_cons_zero, List.getElem_cons_succ, List.setIfInBounds_toArray, List.set_cons_zero, List.set_cons_succ]
                          refine wpAnyH_take (i := 14) (v := ?_) rfl (by kernel_rfl) (by kernel_rfl) (by kernel_rfl) (fun _ _ _ h => h) (Or.inl ⟨by rfl, ?_⟩) (by assumption) ?_
                          rotate_left
                          · intro w hSw
                            go_simp
                            try with_reducible rfl
                          simp only [Act.put, List.getElem_toArray, List.getElem_cons_zero, List.getElem_cons_succ, List.setIfInBounds_toArray, List.set_cons_zero, List.set_cons_succ]
                          refine wpAnyH_done (by kernel_rfl) ?_ _
                          refine NoPanic.normal ?_
                          clear hHeld
                          have p5 : w4.cell? ⟨p, 5, none⟩ = some (.int .i64 y.f) := cell_of_row _ _ _ _ _ _ HP4.out
                          have p6 : w4.cell? ⟨p, 6, none⟩ = some (.int .i64 (y.t - tb)) := cell_of_row _ _ _ _ _ _ HP4.out
                          have HCX : Aside0 (closeX (gj + 1) L X o = closeX gj (takeL L kk y X) { X with f := X.f + tb } (o ++ [⟨y.t - tb, X.f + tb, sb⟩])) := ⟨by
                            rw [closeX_some HGD.out HFA.out HHY.out, HTBE.out, ← HSB.out]
                            rfl⟩
                          have HQM : Aside0 (∀ q, q ∈ qs.take (kk + 1) → q ∈ qs) := ⟨fun q hq => List.mem_of_mem_take hq⟩
                          by_cases hyt : y.f = y.t - tb
                          case pos =>
                            have HTK : Aside0 (takeL L kk y X = L.take kk) := ⟨by unfold takeL; rw [HTBE.out, if_pos hyt]⟩
                            have HYT := Aside0.mk hyt
                            rw [hyt] at p5
                            clear hyt
                            have hcut2 := HCUT2.out
                            go_upto_region 22 with (fail)
                            go_quiet (fail)
                            have HFIN : Aside0 (IN w1 (w4.drewN nq) x rb (rb + 1) (L.take kk) ((qs.take (kk + 1)).take kk) (some ⟨g, 0, none⟩) kk c6 (o ++ [⟨y.t - tb, X.f + tb, sb⟩]) A7 (n5 + 1) c7 { X with f := X.f + tb }) := ⟨by
                              have h1 := HST4.out.cut (m := kk) (by rw [List.length_take, HIF.out.n4l]; omega)
                              rw [List.take_append_of_le_length (by rw [List.length_take]; have := (List.getElem?_eq_some_iff.1 HHY.out).1; omega), List.take_take, Nat.min_self] at h1
                              exact ⟨h1.below (pw_below_drewN (Below.refl _ w4) nq), HR4.out, HQ4.out, fun h => HIF.out.qn (HQM.out _ (List.mem_of_mem_take h)), HIF.out.qg, HIF.out.rg, HIF.out.xr, ⟨HIF.out.xk.1, HIF.out.xk.2.1, by have := HIF.out.xk.2.2.1; have := HTP.out.1; show 0 ≤ X.f + tb; omega, HTI2.out.2, HIF.out.xk.2.2.2.2⟩, by rw [List.length_append, HIF.out.n3o]; rfl, by rw [List.length_take, List.length_take, HIF.out.n4l]; omega, fun z hz => HIF.out.sl z (List.mem_of_mem_take hz)⟩⟩
                            go_wp2_with (fail)
                            go_roundg gj
                            case measure => exact Nat.lt_succ_self _
                            case rel => exact ⟨A7, n5 + 1, c7, some ⟨g, 0, none⟩, kk, c6, _, L.take kk, { X with f := X.f + tb }, _, rfl, rfl, HFIN, ⟨by rw [HC.out, HCX.out, HTK.out]⟩, ⟨⟨by have := HF.out.1; have := HTP.out.1; show ((n5 + 1 : Nat) : Int) ≤ X.f + tb; omega, by have := HF.out.2.1; omega, HF.out.2.2.1, by have := HF.out.2.2.2; have := HTP.out.1; show X.t - (X.f + tb) ≤ (gj : Int); omega⟩⟩⟩
                          case neg =>
                            have HTK : Aside0 (takeL L kk y X = L.take kk ++ [{ y with t := y.t - tb }]) := ⟨by unfold takeL; rw [HTBE.out, if_neg hyt]⟩
                            have HYT := Aside0.mk hyt
                            have hq7 : (y.f == y.t - tb) = false := by simpa using hyt
                            clear hyt
                            go_upto_region 22 with (fail)
                            go_quiet (fail)
                            have HFIN : Aside0 (IN w1 (w4.drewN nq) x rb (rb + 1) (L.take kk ++ [{ y with t := y.t - tb }]) (qs.take (kk + 1)) (some ⟨g, 0, none⟩) (kk + 1) c6 (o ++ [⟨y.t - tb, X.f + tb, sb⟩]) A7 (n5 + 1) c7 { X with f := X.f + tb }) := ⟨by
                              exact ⟨HST4.out.below (pw_below_drewN (Below.refl _ w4) nq), HR4.out, HQ4.out, fun h => HIF.out.qn (HQM.out _ h), HIF.out.qg, HIF.out.rg, HIF.out.xr, ⟨HIF.out.xk.1, HIF.out.xk.2.1, by have := HIF.out.xk.2.2.1; have := HTP.out.1; show 0 ≤ X.f + tb; omega, HTI2.out.2, HIF.out.xk.2.2.2.2⟩, by rw [List.length_append, HIF.out.n3o]; rfl, by rw [List.length_take, HIF.out.n4l]; omega, fun z hz => by
                                rcases List.mem_append.1 hz with h | h
                                · exact HIF.out.sl z (List.mem_of_mem_take h)
                                · simp at h
                                  rw [h]
                                  have h1 := HTI2.out.1
                                  have h2 := HYT.out
                                  show y.f < y.t - tb
                                  omega⟩⟩
                            go_wp2_with (fail)
                            go_roundg gj
                            case measure => exact Nat.lt_succ_self _
                            case rel => exact ⟨A7, n5 + 1, c7, some ⟨g, 0, none⟩, kk + 1, c6, _, _, { X with f := X.f + tb }, _, rfl, rfl, HFIN, ⟨by rw [HC.out, HCX.out, HTK.out]⟩, ⟨⟨by have := HF.out.1; have := HTP.out.1; show ((n5 + 1 : Nat) : Int) ≤ X.f + tb; omega, by have := HF.out.2.1; omega, HF.out.2.2.1, by have := HF.out.2.2.2; have := HTP.out.1; show X.t - (X.f + tb) ≤ (gj : Int); omega⟩⟩⟩

          case rest =>
            obtain ⟨A5, n5, c5, A6, n6, c6, qs, L, X, o, rfl, rfl, HI, HC, HF⟩ := hcut
            clear HIN
            go_upto_region 24 with (fail)
            have i3 : wc.cell? ⟨rb, 3, none⟩ = some (.bool x.o) := cell_of_row _ _ _ _ _ _ HI.out.hr
            have j5 : wc.cell? ⟨rb + 1, 5, none⟩ = some (.int .i64 X.f) := cell_of_row _ _ _ _ _ _ HI.out.hq
            have j6 : wc.cell? ⟨rb + 1, 6, none⟩ = some (.int .i64 X.t) := cell_of_row _ _ _ _ _ _ HI.out.hq
            have HRX : Aside0 (pairsL (l.take (k + 1)) = (pushX L X, o)) := ⟨by
              rw [HSTEP.out]
              unfold runX
              rw [HL0.out, HO0.out, HC.out]⟩
            have HN5 : Aside0 ((n5 : Int) ≤ posI l (k + 1)) := ⟨by rw [HP1.out]; have h1 := HF.out; have h2 := HI.out.xk.2.2.2.1; omega⟩
            have HN6 : Aside0 (n6 ≤ k) := ⟨HF.out.2.1⟩
            have hn6 : n6 ≤ 1048576 := by have := HF.out.2.1; omega
            have HOUT : ¬ (X.r.o = true ∧ X.f < X.t) → ∀ m, OUT w1 (wc.drewN m) l (k + 1) qs A6 n6 c6 A5 n5 c5 := fun h m => by
              have hpx : pushX L X = L := by unfold pushX; rw [if_neg h]
              have h2 := HRX.out
              rw [hpx] at h2
              exact ⟨by rw [h2]; exact (HI.out.draw m).st, by rw [h2]; exact HI.out.n3o, HI.out.n4l, HN5.out, by have := HN6.out; omega, by rw [h2]; exact HI.out.sl⟩
            have HOUT2 := Aside0.mk HOUT
            clear HOUT
            rcases Bool.eq_false_or_eq_true x.o with ho | ho
            case inr =>
              rw [ho] at i3
              have HNP : Aside0 (¬ (X.r.o = true ∧ X.f < X.t)) := ⟨fun h => by rw [HI.out.xr, ho] at h; cases h.1⟩
              clear ho
              go_quiet (fail)
              go_wp2_with (fail)
              go_roundg gn
              case measure => exact Nat.lt_succ_self _
              case rel => exact ⟨k + 1, A5, n5, c5, A6, n6, c6, qs, by simp, rfl, rfl, ⟨by have := HK.out; omega⟩, ⟨HOUT2.out HNP.out nq⟩⟩
            case inl =>
              rw [ho] at i3
              by_cases hft : X.f < X.t
              case neg =>
                have HNP : Aside0 (¬ (X.r.o = true ∧ X.f < X.t)) := ⟨fun h => hft h.2⟩
                clear ho
                go_quiet (fail)
                go_wp2_with (fail)
                go_roundg gn
                case measure => exact Nat.lt_succ_self _
                case rel => exact ⟨k + 1, A5, n5, c5, A6, n6, c6, qs, by simp, rfl, rfl, ⟨by have := HK.out; omega⟩, ⟨HOUT2.out HNP.out nq⟩⟩
              case pos =>
                have HPX : Aside0 (pairsL (l.take (k + 1)) = (L ++ [X], o)) := ⟨by rw [HRX.out]; unfold pushX; rw [if_pos ⟨by rw [HI.out.xr]; exact ho, hft⟩]⟩
                have HFT := Aside0.mk hft
                clear ho
                go_quiet (fail)
                obtain ⟨wD, hwD⟩ : ∃ q, wc.drewN nq = q := ⟨_, rfl⟩
                rw [hwD]
                have HID : Aside0 (IN w1 wD x rb (rb + 1) L qs A6 n6 c6 o A5 n5 c5 X) := ⟨by rw [← hwD]; exact HI.out.draw nq⟩
                clear hwD i3 j5 j6 HI hft HOUT2
                go_wp2_with (at_builtin; refine Kd.R_append kQ (w0 := wD) 0 rfl (.tmp 146) (.tmp 148) 59 60 (.pointer none) 8 rfl Try.underlying59 info60 rfl (by decide) (by decide) (.slice A6 n6 c6) qs (rb + 1) [pv (rb + 1)] (fun j => w1.heap.size ≤ j) (fun _ => False) rfl rfl rfl (fun _ h => h.elim) (fun j hj => Nat.le_trans HID.out.st.bel.size hj) HID.out.st.rS (Below.refl _ _) (Nat.zero_le _) (by rw [HID.out.n4l]; omega) ?_; intro v3 w3 hR3 _ hg3 hat3; obtain ⟨A8, c8, hv3, hc3, _⟩ := Kd.R_reads hR3; rw [show (qs ++ [rb + 1]).length = n6 + 1 from (by rw [List.length_append, HID.out.n4l]; rfl)] at hv3; subst hv3; have HST3 := Aside0.mk (HID.out.st.push HID.out.hq HID.out.qn HID.out.qg HID.out.xk hR3 hg3); clear hR3 hg3 hat3 hc3)
                go_roundg gn
                case measure => exact Nat.lt_succ_self _
                case rel => exact ⟨k + 1, A5, n5, c5, A8, n6 + 1, c8, qs ++ [rb + 1], by simp, rfl, rfl, ⟨by have := HK.out; omega⟩, ⟨by rw [HPX.out]; exact HST3.out, by rw [HPX.out]; exact HID.out.n3o, by rw [List.length_append, HID.out.n4l]; rfl, HN5.out, by have := HN6.out; omega, by
                  rw [HPX.out]
                  intro y hy
                  rcases List.mem_append.1 hy with h | h
                  · exact HID.out.sl y h
                  · simp at h
                    rw [h]
                    exact HFT.out⟩⟩

    case rest =>
      obtain ⟨A3, n3, c3, A4, n4, c4, ps, rfl, rfl, HO⟩ := hcut
      have htk : l.take n = l := List.take_of_length_le (by rw [HL.out.1]; exact Nat.le_refl _)
      have hn3 : n3 ≤ 100000000 := by
        have h1 := HO.out.n3b
        have h2 := HPL.out n (by rw [HL.out.1]; exact Nat.le_refl _)
        omega
      have hrO := HO.out.st.rO
      have HBO := HO.out.st.bel
      have HBO2 := Aside0.mk HBO
      rw [htk] at hrO
      have HRO := Aside0.mk hrO
      clear hrO htk HBO
      go_upto_region 28 with (fail)
      refine (sort_c A3 n3 c3 (pairsL l).2 wc _ HRO.out hn3).mono ?_
      rintro _ w9 ⟨rfl, E', hp, hs, hr, hg, _⟩
      have HP := Aside0.mk hp
      have HS := Aside0.mk hs
      have HR := Aside0.mk hr
      have HB9 : Aside0 (Below w.heap.size w w9) := ⟨HB1.out.trans (Below.mono (HBO2.out.grown hg HBO2.out.size (fun j e => HRO.out.1 j (by
        cases A3 with
        | none => cases e
        | some a => exact e))) HB1.out.size)⟩
      clear hp hs hr hg
      go_wp2_with (fail)
      go_ret
      exact ⟨A3, n3, c3, E', rfl, by unfold pairsU; rw [if_pos HM.out]; exact HP.out, HS.out, HR.out, HB9.out⟩

end Go.Proofs.Ytjfpkldknchnkaa.Me
