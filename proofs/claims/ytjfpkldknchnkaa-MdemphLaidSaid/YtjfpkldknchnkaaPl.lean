/- MdemphPairs walked (over the document's Pairs). -/
import Derived.Test.YtjfpkldknchnkaaPu
import Derived.Test.YtjfpkldknchnkaaRb
namespace Go.Proofs.Ytjfpkldknchnkaa.Me
open Go.RowKit Go.Proofs.YtjfpkldknchnkaaW.PrintWords Go.Proofs.YtjfpkldknchnkaaW.PrintLast Go.Proofs.YtjfpkldknchnkaaW.PrintMore
attribute [local go_sem] max2_int min2_int max_two min_two max_three min_three max_four min_four
set_option linter.unusedVariables false
set_option linter.unusedSimpArgs false
/-- What the document's Pairs tells. -/
def RPairsP (w : World) (l : List Rn) (e : Ending) (w' : World) : Prop :=
  ∃ A n c R, e = .returned (.slice A n c) ∧ R.Perm (pairsU l) ∧ Srt R ∧ ReadsRow RPr 3 w' A n R ∧ Below w.heap.size w w'
def RPC : Prop := ∀ (A : Option Addr) (n c : Nat) (l : List Rn) (w : World), ReadsRow RRn 5 w A n l → n ≤ 60 → (∀ r, r ∈ l → r.a ≤ 9223372036854775807) → Calls Try.prog 14 #[.slice A n c] w fun e w' => RPairsP w l e w'
def HeavyP (w : World) (n : Nat) (e : Ending) (w' : World) : Prop := ∃ b, e = .returned (.bool b) ∧ w' = w ∧ (b = false → n ≤ 60)
set_option maxRecDepth 100000 in
set_option maxHeartbeats 8000000 in
theorem heavy_c (A : Option Addr) (n c : Nat) (l : List Rn) (w : World) (hl : ReadsRow RRn 5 w A n l) : Calls Try.prog 12 #[.slice A n c] w fun e w' => HeavyP w n e w' := by
  by_cases hn : (60 : Int) < (n : Int)
  · go_enter Try.func12, Try.ntmps12
    go_wp2_with (fail)
    go_ret
    exact ⟨true, rfl, rfl, fun h => by cases h⟩
  · have HN : Aside0 (n ≤ 60) := ⟨by omega⟩
    have HL := Aside0.mk hl
    clear hl
    go_enter Try.func12, Try.ntmps12
    go_upto_block 0 with (fail)
    go_wp2_with (fail)
    go_loopg [3] n (fun gk v3 wr => ∃ k : Nat, v3 = .int .i64 (k : Int) ∧ Aside0 (k + gk = n) ∧ Aside0 (w = wr))
    case atStart => exact ⟨0, rfl, ⟨by omega⟩, ⟨rfl⟩⟩
    case round =>
      obtain ⟨k, rfl, HK, HW⟩ := hrel
      obtain rfl := HW.out
      by_cases hkn : k < n
      case neg =>
        have hkk : ¬ ((k : Int) < (n : Int)) := by omega
        go_wp2_with (fail)
        go_ret
        exact ⟨false, rfl, rfl, fun _ => HN.out⟩
      case pos =>
        obtain ⟨gn, rfl⟩ : ∃ gn, gk = gn + 1 := ⟨gk - 1, by have := HK.out; omega⟩
        obtain ⟨x, hx⟩ : ∃ x, l[k]? = some x := ⟨_, List.getElem?_eq_getElem (by rw [HL.out.1]; exact hkn)⟩
        obtain ⟨ad, hA, _⟩ := HL.out.2.2 (by omega)
        subst hA
        obtain ⟨_, e1, _, _, _⟩ := rn_at HL.out hx
        have k0 : (0 : Int) ≤ (k : Int) := by omega
        have k1 : (k : Int) < (n : Int) := by omega
        have hwk : IntKind.i64.wrap ((k : Int) + 1) = (k : Int) + 1 := IntWalk.i64_in _ (by have := HN.out; omega)
        clear hx
        by_cases c1 : 60 < x.n
        · by_cases c2 : x.n < 1099511627776
          · go_wp2_with (fail)
            go_ret
            exact ⟨true, rfl, rfl, fun h => by cases h⟩
          · go_wp2_with (fail)
            go_roundg gn
            case measure => exact Nat.lt_succ_self _
            case rel => exact ⟨k + 1, by simp, ⟨by have := HK.out; omega⟩, ⟨rfl⟩⟩
        · go_wp2_with (fail)
          go_roundg gn
          case measure => exact Nat.lt_succ_self _
          case rel => exact ⟨k + 1, by simp, ⟨by have := HK.out; omega⟩, ⟨rfl⟩⟩
theorem info26 : (Try.prog.info? 26).map (fun i => (i.zero, i.size, i.bytes)) = some (some (.agg zrun), 5, 24) := by kernel_rfl
theorem same_pairs {l : List Rn} {R R' : List Pr} (h : R.Perm (pairsU l)) (hs : Srt R) (h' : R'.Perm (pairsU l)) (hs' : Srt R') : R = R' := by
  have hnd : R'.Pairwise fun p q => p.a ≠ q.a := (h'.pairwise_iff (fun hab e => hab e.symm)).2 (pairsU_nd l)
  refine srt_uniq (h.trans h'.symm) hs ?_
  have := hs'.and hnd
  exact this.imp (fun {a b} hab => by have h1 := hab.1; have h2 := hab.2; omega)
set_option maxRecDepth 100000 in
set_option maxHeartbeats 16000000 in
theorem plaw_c (rp : RPC) (A : Option Addr) (n c : Nat) (l : List Rn) (w : World) (hl : ReadsRow RRn 5 w A n l) (h64 : ∀ r, r ∈ l → r.a ≤ 9223372036854775807) : Calls Try.prog 4 #[.slice A n c] w fun e w' => BoolP w true e w' := by
  have HL := Aside0.mk hl
  have H64 := Aside0.mk h64
  have RP := Aside0.mk rp
  clear hl h64 rp
  go_enter Try.func4, Try.ntmps4
  go_upto_if 12 with (fail)
  refine (heavy_c A n c l w HL.out).mono ?_
  rintro _ w9 ⟨hv, rfl, h9, hn⟩
  rw [h9]
  clear h9 w9
  cases hv
  case true =>
    go_wp2_with (fail)
    go_ret
    exact ⟨rfl, Below.refl _ w⟩
  case false =>
    have hn60 : n ≤ 60 := hn rfl
    have HN := Aside0.mk hn60
    clear hn
    go_upto_block 0 with (fail)
    go_cut [3, 4] from 11 (fun v3 v4 wc => ∃ (A3 : Option Addr) (c3 : Nat) (A4 : Option Addr) (c4 : Nat), v3 = .slice A3 n c3 ∧ v4 = .slice A4 n c4 ∧ Aside0 (kU.R 23 wc 0 (fun j => w.heap.size ≤ j) (.slice A3 n c3) l) ∧ Aside0 (kU.R 26 wc 0 (fun j => w.heap.size ≤ j) (.slice A4 n c4) l) ∧ Aside0 (Below w.heap.size w wc))
    case first =>
      go_wp2_with (fail)
      go_loopg [3, 4, 5] n (fun gk v3 v4 v5 wr => ∃ (k : Nat) (A3 : Option Addr) (c3 : Nat) (A4 : Option Addr) (c4 : Nat), v5 = .int .i64 (k : Int) ∧ v3 = .slice A3 k c3 ∧ v4 = .slice A4 k c4 ∧ Aside0 (k + gk = n) ∧ Aside0 (kU.R 23 wr 0 (fun j => w.heap.size ≤ j) (.slice A3 k c3) (l.take k)) ∧ Aside0 (kU.R 26 wr 0 (fun j => w.heap.size ≤ j) (.slice A4 k c4) (l.take k)) ∧ Aside0 (Below w.heap.size w wr))
      case atStart => exact ⟨0, none, 0, none, 0, rfl, rfl, rfl, ⟨by omega⟩, ⟨Kd.R_nil _ _ _ _ _⟩, ⟨Kd.R_nil _ _ _ _ _⟩, ⟨Below.refl _ w⟩⟩
      case round =>
        obtain ⟨k, A3, c3, A4, c4, rfl, rfl, rfl, HK, HR3, HR4, HB⟩ := hrel
        by_cases hkn : k < n
        case neg =>
          have hkk : ¬ ((k : Int) < (n : Int)) := by omega
          obtain rfl : k = n := by have := HK.out; omega
          have htk : l.take k = l := List.take_of_length_le (by rw [HL.out.1]; exact Nat.le_refl _)
          rw [htk] at HR3 HR4
          clear htk
          go_wp2_with (fail)
          go_meet
          case rel => exact ⟨A3, c3, A4, c4, rfl, rfl, HR3, HR4, HB⟩
        case pos =>
          obtain ⟨gn, rfl⟩ : ∃ gn, gk = gn + 1 := ⟨gk - 1, by have := HK.out; omega⟩
          obtain ⟨x, hx⟩ : ∃ x, l[k]? = some x := ⟨_, List.getElem?_eq_getElem (by rw [HL.out.1]; exact hkn)⟩
          obtain ⟨ad, hA, _⟩ := HL.out.2.2 (by omega)
          subst hA
          obtain ⟨e0, e1, e2, e3, e4⟩ := rn_at (rows_below HL.out HB.out) hx
          have k0 : (0 : Int) ≤ (k : Int) := by omega
          have k1 : (k : Int) < (n : Int) := by omega
          have hwk : IntKind.i64.wrap ((k : Int) + 1) = (k : Int) + 1 := IntWalk.i64_in _ (by omega)
          have HTK := Aside0.mk (take_snoc hx)
          have hlt : (l.take k).length = k := by rw [List.length_take, HL.out.1]; omega
          have HLT := Aside0.mk hlt
          clear hx hlt
          obtain ⟨b, hb⟩ : ∃ q, wr.heap.size = q := ⟨_, rfl⟩
          obtain ⟨w5, hw5⟩ : ∃ q, wr.alloc (.cells zrun 23) = q := ⟨_, rfl⟩
          have hsw5 : w5.heap.size = b + 1 := by rw [← hw5]; simp [hb]
          have hzb : w5.heap[b]? = some (.cells zrun 23 (0, 0)) := by rw [← hw5, ← hb]; exact heap_alloc_new _ _
          have hbb : Below wr.heap.size wr w5 := by rw [← hw5]; exact below_alloc (Below.refl _ wr) _
          have fzb := fun j => blk_frozen hzb j
          have z0b : w5.cell? ⟨b, 0, none⟩ = some (.int .i64 0) := cell_of_row _ _ _ _ _ _ hzb
          have z1b : w5.cell? ⟨b, 1, none⟩ = some (.int .i64 0) := cell_of_row _ _ _ _ _ _ hzb
          have z2b : w5.cell? ⟨b, 2, none⟩ = some (.int .u8 0) := cell_of_row _ _ _ _ _ _ hzb
          have z3b : w5.cell? ⟨b, 3, none⟩ = some (.bool false) := cell_of_row _ _ _ _ _ _ hzb
          have z4b : w5.cell? ⟨b, 4, none⟩ = some (.bool false) := cell_of_row _ _ _ _ _ _ hzb
          have HZb := Aside0.mk hzb
          have HBb := Aside0.mk hbb
          clear hzb hbb
          go_upto_region 9 with (fail)
          obtain ⟨V, hV⟩ : ∃ q, ((((w5.setCell ⟨b, 0, none⟩ (.int .i64 x.a)).setCell ⟨b, 1, none⟩ (.int .i64 x.n)).setCell ⟨b, 2, none⟩ (.int .u8 x.c)).setCell ⟨b, 3, none⟩ (.bool x.o)).setCell ⟨b, 4, none⟩ (.bool x.k) = q := ⟨_, rfl⟩
          rw [hV]
          have HV : Aside0 (V.heap[b]? = some (.cells (rnc x) 23 (0, 0))) := ⟨by rw [← hV]; exact five_row HZb.out _ _ _ _ _⟩
          have HBV : Aside0 (Below wr.heap.size wr V) := ⟨by rw [← hV]; exact five_below HBb.out (by omega) _ _ _ _ _⟩
          clear hV hw5 fzb z0b z1b z2b z3b z4b hsw5
          clear e0 e1 e2 e3 e4
          have HRV3 := Aside0.mk (Kd.R_below HR3.out HBV.out)
          have HRV4 := Aside0.mk (Kd.R_below HR4.out HBV.out)
          have HBV2 : Aside0 (Below w.heap.size w V) := ⟨HB.out.trans (HBV.out.mono HB.out.size)⟩
          have HNB : Aside0 ((Value.slice A3 k c3).ownBlock ≠ some b) := ⟨fun e => by have h1 := Kd.R_lt HR3.out b e; omega⟩
          have a0 : V.cell? ⟨b, 0, none⟩ = some (.int .i64 x.a) := cell_of_row _ _ _ _ _ _ HV.out
          have a1 : V.cell? ⟨b, 1, none⟩ = some (.int .i64 x.n) := cell_of_row _ _ _ _ _ _ HV.out
          have a2 : V.cell? ⟨b, 2, none⟩ = some (.int .u8 x.c) := cell_of_row _ _ _ _ _ _ HV.out
          have a3 : V.cell? ⟨b, 3, none⟩ = some (.bool x.o) := cell_of_row _ _ _ _ _ _ HV.out
          have a4 : V.cell? ⟨b, 4, none⟩ = some (.bool x.k) := cell_of_row _ _ _ _ _ _ HV.out
          go_upto_region 10 with (at_builtin; refine Kd.R_append kU (w0 := V) 0 rfl (.tmp 23) (.tmp 25) 31 23 (.agg zrun) 24 rfl Try.underlying31 info23 rfl (by decide) (by decide) (.slice A3 k c3) (l.take k) x (rnc x).toList (fun j => w.heap.size ≤ j) (fun _ => False) rfl rfl rfl (fun _ h => h.elim) (fun j hj => Nat.le_trans HBV2.out.size hj) HRV3.out (Below.refl _ _) (Nat.zero_le _) (by rw [HLT.out]; omega) ?_; intro v6 w6 hR6 _ hg6 hat6; obtain ⟨A6, c6, hv6, hc6, _⟩ := Kd.R_reads hR6; rw [show (l.take k ++ [x]).length = k + 1 from (by rw [List.length_append, HLT.out]; rfl)] at hv6; subst hv6; have HR6 := Aside0.mk hR6; have HB6 : Aside0 (Below w.heap.size w w6) := ⟨HBV2.out.grown hg6 HBV2.out.size (fun j e => HRV3.out.1 j e)⟩; have HR46 := Aside0.mk (Kd.R_over (d' := kU) HRV4.out HRV3.out (by decide) hg6); have hp6 := (hg6.block b (blk_lt HV.out) HNB.out.symm).trans HV.out; have HP6 := Aside0.mk hp6; clear hR6 hg6 hat6 hc6 hp6)
          clear a0 a1 a2 a3 a4
          have a0 : w6.cell? ⟨b, 0, none⟩ = some (.int .i64 x.a) := cell_of_row _ _ _ _ _ _ HP6.out
          have a1 : w6.cell? ⟨b, 1, none⟩ = some (.int .i64 x.n) := cell_of_row _ _ _ _ _ _ HP6.out
          have a2 : w6.cell? ⟨b, 2, none⟩ = some (.int .u8 x.c) := cell_of_row _ _ _ _ _ _ HP6.out
          have a3 : w6.cell? ⟨b, 3, none⟩ = some (.bool x.o) := cell_of_row _ _ _ _ _ _ HP6.out
          have a4 : w6.cell? ⟨b, 4, none⟩ = some (.bool x.k) := cell_of_row _ _ _ _ _ _ HP6.out
          go_wp2_with (at_builtin; refine Kd.R_append kU (w0 := w6) 0 rfl (.tmp 27) (.tmp 39) 33 26 (.agg zrun) 24 rfl Try.underlying33 info26 rfl (by decide) (by decide) (.slice A4 k c4) (l.take k) x (rnc x).toList (fun j => w.heap.size ≤ j) (fun _ => False) rfl rfl rfl (fun _ h => h.elim) (fun j hj => Nat.le_trans HB6.out.size hj) HR46.out (Below.refl _ _) (Nat.zero_le _) (by rw [HLT.out]; omega) ?_; intro v7 w7 hR7 _ hg7 hat7; obtain ⟨A7, c7, hv7, hc7, _⟩ := Kd.R_reads hR7; rw [show (l.take k ++ [x]).length = k + 1 from (by rw [List.length_append, HLT.out]; rfl)] at hv7; subst hv7; have HR7 := Aside0.mk hR7; have HB7 : Aside0 (Below w.heap.size w w7) := ⟨HB6.out.grown hg7 HB6.out.size (fun j e => HR46.out.1 j e)⟩; have HR67 := Aside0.mk (Kd.R_over (d' := kU) HR6.out HR46.out (by decide) hg7); clear hR7 hg7 hat7 hc7)
          go_roundg gn
          case measure => exact Nat.lt_succ_self _
          case rel => exact ⟨k + 1, A6, c6, A7, c7, by simp, rfl, rfl, ⟨by have := HK.out; omega⟩, ⟨by rw [HTK.out]; exact HR67.out⟩, ⟨by rw [HTK.out]; exact HR7.out⟩, HB7⟩
    case rest =>
      obtain ⟨A3, c3, A4, c4, rfl, rfl, HR3, HR4, HB⟩ := hcut
      have hn1 : l.length = n := HL.out.1
      have hr3 : ReadsRow RRn 5 wc A3 n l := by have h := (Kd.R_reads' HR3.out).2.2; rw [hn1] at h; exact h
      have hr4 : ReadsRow RRn 5 wc A4 n l := by have h := (Kd.R_reads' HR4.out).2.2; rw [hn1] at h; exact h
      have HI3 := Aside0.mk hr3
      have HI4 := Aside0.mk hr4
      clear hr3 hr4 hn1
      go_upto_region 12 with (fail)
      refine (pairs_c A3 n c3 l wc HI3.out (by omega)).mono ?_
      rintro _ w6 ⟨A6, n6, c6, R, rfl, hp6, hs6, hr6, hb6⟩
      have HP6 := Aside0.mk hp6
      have HS6 := Aside0.mk hs6
      have HR6 := Aside0.mk hr6
      have HB6 := Aside0.mk hb6
      clear hp6 hs6 hr6 hb6
      go_upto_region 13 with (fail)
      refine (RP.out A4 n c4 l w6 (rows_below HI4.out HB6.out) HN.out H64.out).mono ?_
      rintro _ w7 ⟨A7, n7, c7, R', rfl, hp7, hs7, hr7, hb7⟩
      obtain rfl := same_pairs HP6.out HS6.out hp7 hs7
      obtain rfl : n6 = n7 := HR6.out.1.symm.trans hr7.1
      have HR7 := Aside0.mk hr7
      have HR67 := Aside0.mk (rows_below HR6.out hb7)
      have h67 : Below wc.heap.size wc w7 := HB6.out.trans (hb7.mono HB6.out.size)
      have HBW : Aside0 (Below w.heap.size w w7) := ⟨HB.out.trans (h67.mono HB.out.size)⟩
      have HI37 := Aside0.mk (rows_below HI3.out h67)
      have hne : ((n6 : Int) != (n6 : Int)) = false := by simp
      clear hp7 hs7 hr7 hb7 h67
      go_upto_block 2 with (fail)
      clear hne
      go_cut [] from 11 (fun wc => Aside0 (Below w7.heap.size w7 wc))
      case first =>
        go_wp2_with (fail)
        go_loopg [9] n6 (fun gj v9 wj => ∃ j : Nat, v9 = .int .i64 (j : Int) ∧ Aside0 (j + gj = n6) ∧ Aside0 (Below w7.heap.size w7 wj))
        case atStart => exact ⟨0, rfl, ⟨by omega⟩, ⟨Below.refl _ w7⟩⟩
        case round =>
          obtain ⟨j, rfl, HJ, HBJ⟩ := hrel
          by_cases hj : j < n6
          case neg =>
            have hjj : ¬ ((j : Int) < (n6 : Int)) := by omega
            go_wp2_with (fail)
            go_meet
            case rel => exact HBJ
          case pos =>
            obtain ⟨gj, rfl⟩ : ∃ gj, gk = gj + 1 := ⟨gk - 1, by have := HJ.out; omega⟩
            obtain ⟨x, hx⟩ : ∃ x, R[j]? = some x := ⟨_, List.getElem?_eq_getElem (by rw [HR6.out.1]; exact hj)⟩
            obtain ⟨ad6, hA6, _⟩ := HR67.out.2.2 (by omega)
            obtain ⟨ad7, hA7, _⟩ := HR7.out.2.2 (by omega)
            subst hA6
            subst hA7
            obtain ⟨x0, x1, x2⟩ := pr_at (rows_below HR67.out HBJ.out) hx
            obtain ⟨y0, y1, y2⟩ := pr_at (rows_below HR7.out HBJ.out) hx
            have j0 : (0 : Int) ≤ (j : Int) := by omega
            have j1 : (j : Int) < (n6 : Int) := by omega
            have hwj : IntKind.i64.wrap ((j : Int) + 1) = (j : Int) + 1 := IntWalk.i64_in _ (by have := HR67.out.2.1; omega)
            have q1 : (x.a != x.a) = false := by simp
            have q2 : (x.b != x.b) = false := by simp
            have q3 : (x.s != x.s) = false := by simp
            clear hx
            go_upto_region 18 with (fail)
            go_quiet (fail)
            have HBJ2 : Aside0 (Below w7.heap.size w7 (wr.drewN nq)) := ⟨pw_below_drewN HBJ.out nq⟩
            go_wp2_with (fail)
            go_roundg gj
            case measure => exact Nat.lt_succ_self _
            case rel => exact ⟨j + 1, by simp, ⟨by have := HJ.out; omega⟩, HBJ2⟩
      case rest =>
        have HB2 := hcut
        clear hcut
        obtain ⟨w8, hw8⟩ : ∃ q, wc = q := ⟨_, rfl⟩
        rw [hw8] at HB2 ⊢
        clear hw8
        go_upto_block 4 with (fail)
        go_wp2_with (fail)
        go_loopg [10] n (fun gj v10 wj => ∃ j : Nat, v10 = .int .i64 (j : Int) ∧ Aside0 (j + gj = n) ∧ Aside0 (Below w7.heap.size w7 wj))
        case atStart => exact ⟨0, rfl, ⟨by omega⟩, HB2⟩
        case round =>
          obtain ⟨j, rfl, HJ, HBJ⟩ := hrel
          by_cases hj : j < n
          case neg =>
            have hjj : ¬ ((j : Int) < (n : Int)) := by omega
            have HBE : Aside0 (Below w.heap.size w wr) := ⟨HBW.out.trans (HBJ.out.mono HBW.out.size)⟩
            have HRD := Aside0.mk (reads_c wr)
            go_wp2_with (go_at_call 11; refine HRD.out.mono ?_; rintro _ w9 ⟨rfl, h9⟩; have HB9 := Aside0.mk h9; clear h9)
            go_ret
            exact ⟨rfl, HBE.out.trans (HB9.out.mono HBE.out.size)⟩
          case pos =>
            obtain ⟨gj, rfl⟩ : ∃ gj, gk = gj + 1 := ⟨gk - 1, by have := HJ.out; omega⟩
            obtain ⟨x, hx⟩ : ∃ x, l[j]? = some x := ⟨_, List.getElem?_eq_getElem (by rw [HL.out.1]; exact hj)⟩
            obtain ⟨ad3, hA3, _⟩ := HI37.out.2.2 (by omega)
            obtain ⟨ad, hA, _⟩ := HL.out.2.2 (by omega)
            subst hA3
            subst hA
            obtain ⟨x0, x1, x2, x3, x4⟩ := rn_at (rows_below HI37.out HBJ.out) hx
            obtain ⟨y0, y1, y2, y3, y4⟩ := rn_at (rows_below HL.out (HBW.out.trans (HBJ.out.mono HBW.out.size))) hx
            have j0 : (0 : Int) ≤ (j : Int) := by omega
            have j1 : (j : Int) < (n : Int) := by omega
            have hwj : IntKind.i64.wrap ((j : Int) + 1) = (j : Int) + 1 := IntWalk.i64_in _ (by omega)
            clear hx
            go_upto_region 23 with (fail)
            go_quiet (fail)
            have HBJ2 : Aside0 (Below w7.heap.size w7 (wr.drewN nq)) := ⟨pw_below_drewN HBJ.out nq⟩
            go_wp2_with (fail)
            go_roundg gj
            case measure => exact Nat.lt_succ_self _
            case rel => exact ⟨j + 1, by simp, ⟨by have := HJ.out; omega⟩, HBJ2⟩
end Go.Proofs.Ytjfpkldknchnkaa.Me
