/- The document's Pairs walked. -/
import Derived.Test.YtjfpkldknchnkaaPz
import Derived.Test.YtjfpkldknchnkaaPl
import Derived.Test.YtjfpkldknchnkaaPt
namespace Go.Proofs.Ytjfpkldknchnkaa.Me
open Go.RowKit Go.Proofs.YtjfpkldknchnkaaW.PrintWords Go.Proofs.YtjfpkldknchnkaaW.PrintLast Go.Proofs.YtjfpkldknchnkaaW.PrintMore
attribute [local go_sem] max2_int min2_int max_two min_two max_three min_three max_four min_four
set_option linter.unusedVariables false
set_option linter.unusedSimpArgs false
theorem made_form {α : Type} {enc : α → List Value} {hl : ∀ x, (enc x).length = 1} {h1 : ∀ x, ∀ u ∈ enc x, u.oneCell' = true} {e : Nat} {w : World} {ok : Nat → Prop} {v : Value} {xs : List α} {m : Nat} (h : (flat 1 enc hl h1).R e w 0 ok v xs) (hat : ∃ b, v.ownBlock = some b ∧ m ≤ b) : ∃ g cap, v = .slice (some ⟨g, 0, none⟩) xs.length cap ∧ m ≤ g := by
  obtain ⟨b, hb, hm⟩ := hat
  obtain ⟨_, inner, hown, _⟩ := h
  rcases hown.2 with ⟨h1, _⟩ | ⟨g, cap, cur, h1, _⟩
  · rw [h1] at hb
    simp [Value.ownBlock] at hb
  · refine ⟨g, cap, h1, ?_⟩
    rw [h1] at hb
    simp [Value.ownBlock] at hb
    omega
/-- Within the inner loop. -/
structure RI (l : List Rn) (F T : List Int) (B : List Bool) (i : Nat) (r : Rn) (o oc : List Pr) (f : Int) (g : Nat) : Prop where
  cl : closeX r.n.toNat (pairsL (l.take i)).1 ⟨r, r.a, r.a + r.n⟩ (pairsL (l.take i)).2 = closeX g (stk (candB l F T B) i) ⟨r, f, r.a + r.n⟩ oc
  hF : F[i]? = some f
  hT : T[i]? = some (r.a + r.n)
  hB : B[i]? = some false
  f0 : 0 ≤ f
  ft : f ≤ r.a + r.n
  fu : r.a + r.n - f ≤ (g : Int)
  pe : o.Perm oc
  so : Srt o
  lo : (o.length : Int) ≤ f
  up : ∀ (j : Nat) (r : Rn), i + 1 ≤ j → l[j]? = some r → F[j]? = some r.a ∧ T[j]? = some (r.a + r.n) ∧ B[j]? = some false
  dn : ∀ j : Nat, j < i → ∃ f t b, F[j]? = some f ∧ T[j]? = some t ∧ B[j]? = some b ∧ 0 ≤ f ∧ f ≤ t ∧ t ≤ 1048576
theorem cand_inv {l : List Rn} {F T : List Int} {B : List Bool} {k : Nat} {y : Lf} (h : candB l F T B k = some y) : l[k]? = some y.r ∧ F[k]? = some y.f ∧ T[k]? = some y.t ∧ B[k]? = some false ∧ y.f ≠ y.t ∧ y.r.o = true := by
  unfold candB at h
  split at h
  · rename_i r f t b h1 h2 h3 h4
    split at h
    · rename_i hc
      injection h with h
      subst h
      exact ⟨h1, h2, h3, by rw [h4, hc.1], hc.2.1, hc.2.2⟩
    · cases h
  · cases h
theorem srch_inv {l : List Rn} {F T : List Int} {B : List Bool} {r : Rn} {i j : Nat} (h : srch l F T B r i = some j) : r.k = true ∧ j < i ∧ ∃ y, candB l F T B j = some y := by
  unfold srch at h
  split at h
  · rename_i hk
    obtain ⟨h1, y, hy, _⟩ := topK_some h
    exact ⟨hk, h1, y, hy⟩
  · cases h
theorem three_row {W : World} {g : Nat} {t : TypeId} {a0 a1 a2 : Value} (h : W.heap[g]? = some (.cells #[a0, a1, a2] t (0, 0))) (x0 x1 x2 : Value) :
    (((W.setCell ⟨g, 0, none⟩ x0).setCell ⟨g, 1, none⟩ x1).setCell ⟨g, 2, none⟩ x2).heap[g]? = some (.cells #[x0, x1, x2] t (0, 0)) := by
  have h0 := blk_set h 0 x0
  have h1 := blk_set h0 1 x1
  have h2 := blk_set h1 2 x2
  simpa using h2
set_option maxRecDepth 100000 in
set_option maxHeartbeats 16000000 in
theorem rpairs_c (A : Option Addr) (n c : Nat) (l : List Rn) (w : World) (hl : ReadsRow RRn 5 w A n l) (hn : n ≤ 60) (h64 : ∀ r, r ∈ l → r.a ≤ 9223372036854775807) : Calls Try.prog 14 #[.slice A n c] w fun e w' => RPairsP w l e w' := by
  have HL := Aside0.mk hl
  have H64 := Aside0.mk h64
  clear hl h64
  go_enter Try.func14, Try.ntmps14
  go_upto_if 15 with (fail)
  refine (rmay_c A n c l w HL.out (by omega) H64.out).mono ?_
  rintro _ w1 ⟨rfl, hb1⟩
  have HB1 := Aside0.mk hb1
  clear hb1
  cases hm : mayB 0 l
  case false =>
    have HM := Aside0.mk hm
    clear hm
    go_wp2_with (fail)
    go_ret
    exact ⟨none, 0, 0, [], rfl, by unfold pairsU; rw [HM.out]; exact List.Perm.refl _, List.Pairwise.nil, ⟨rfl, by decide, fun h => by omega⟩, HB1.out⟩
  case true =>
    have HM := Aside0.mk hm
    have HPL := Aside0.mk (posI_le hm)
    clear hm
    go_upto_region 5 with ((with_reducible refine gate_dst (N := 19) rfl ?_); refine Kd.R_make kI (w0 := w1) 0 3 rfl rfl 42 (.tmp 18) (.tmp 18) rfl (n : Int) rfl rfl Try.underlying42 (.int .i64 0) 8 info3a rfl (by decide) (by decide) 0 (ok := fun k => w1.heap.size ≤ k) (okp := fun _ => False) rfl (fun _ h => h.elim) (Nat.le_refl _) (by omega) (by omega) (Below.refl _ _) (Nat.zero_le _) ?_; intro va wa hRa _ hga hata)
    obtain ⟨gF, cF, rfl, hgF⟩ := made_form hRa hata
    rw [List.length_replicate, Int.toNat_natCast] at *
    have hba : Below w1.heap.size w1 wa := ⟨hga.os, hga.tape, hga.output, hga.size, fun k hk => hga.block k hk (by simp)⟩
    have HRa := Aside0.mk hRa
    have HBa := Aside0.mk hba
    have HgF := Aside0.mk hgF
    have hsa : w1.heap.size ≤ wa.heap.size := hba.size
    clear hRa hga hata hba hgF
    go_upto_region 6 with ((with_reducible refine gate_dst (N := 21) rfl ?_); refine Kd.R_make kI (w0 := wa) 0 3 rfl rfl 42 (.tmp 20) (.tmp 20) rfl (n : Int) rfl rfl Try.underlying42 (.int .i64 0) 8 info3a rfl (by decide) (by decide) 0 (ok := fun k => w1.heap.size ≤ k) (okp := fun _ => False) rfl (fun _ h => h.elim) (hsa) (by omega) (by omega) (Below.refl _ _) (Nat.zero_le _) ?_; intro vb wb hRb _ hgb hatb)
    obtain ⟨gT, cT, rfl, hgT⟩ := made_form hRb hatb
    rw [List.length_replicate, Int.toNat_natCast] at *
    have hbb : Below wa.heap.size wa wb := ⟨hgb.os, hgb.tape, hgb.output, hgb.size, fun k hk => hgb.block k hk (by simp)⟩
    have hbb1 : Below w1.heap.size w1 wb := HBa.out.trans (hbb.mono hsa)
    obtain ⟨csF, hcsF⟩ := one_block HRa.out
    have hne : gF ≠ gT := by
      have := blk_lt hcsF
      omega
    have HNE := Aside0.mk hne
    have HRFb := Aside0.mk (Kd.R_below HRa.out hbb)
    have HRb := Aside0.mk hRb
    have HBb := Aside0.mk hbb1
    have hsb : w1.heap.size ≤ wb.heap.size := hbb1.size
    clear hRb hgb hatb hbb hbb1 hgT hcsF hne hsa
    go_upto_region 7 with ((with_reducible refine gate_dst (N := 23) rfl ?_); refine Kd.R_make kL (w0 := wb) 0 4 rfl rfl 68 (.tmp 22) (.tmp 22) rfl (n : Int) rfl rfl Try.underlying68 (.bool false) 1 info4a rfl (by decide) (by decide) false (ok := fun k => w1.heap.size ≤ k) (okp := fun _ => False) rfl (fun _ h => h.elim) (hsb) (by omega) (by omega) (Below.refl _ _) (Nat.zero_le _) ?_; intro vc wd hRc _ hgc hatc)
    obtain ⟨gB, cB, rfl, hgB⟩ := made_form hRc hatc
    rw [List.length_replicate, Int.toNat_natCast] at *
    have hbc : Below wb.heap.size wb wd := ⟨hgc.os, hgc.tape, hgc.output, hgc.size, fun k hk => hgc.block k hk (by simp)⟩
    have HAR : Aside0 (AR w1 wd gF gT gB n cF cT cB (List.replicate n 0) (List.replicate n 0) (List.replicate n false) (.slice none 0 0) []) := ⟨Kd.R_below HRFb.out hbc, Kd.R_below HRb.out hbc, hRc, Kd.R_nil _ _ _ _ _, HNE.out, List.length_replicate .., List.length_replicate .., List.length_replicate .., HBb.out.trans (hbc.mono HBb.out.size)⟩
    clear hRc hgc hatc hbc hgB hsb
    go_upto_block 0 with (fail)
    go_cut [] from 13 (fun wc => ∃ F T : List Int, Aside0 (AR w1 wc gF gT gB n cF cT cB F T (List.replicate n false) (.slice none 0 0) []) ∧ Aside0 (∀ (j : Nat) (r : Rn), l[j]? = some r → F[j]? = some r.a ∧ T[j]? = some (r.a + r.n)))
    case first =>
      go_wp2_with (fail)
      go_loopg [7] n (fun gk v7 wr => ∃ (k : Nat) (F T : List Int), v7 = .int .i64 (k : Int) ∧ Aside0 (k + gk = n) ∧ Aside0 (AR w1 wr gF gT gB n cF cT cB F T (List.replicate n false) (.slice none 0 0) []) ∧ Aside0 (∀ (j : Nat) (r : Rn), j < k → l[j]? = some r → F[j]? = some r.a ∧ T[j]? = some (r.a + r.n)))
      case atStart => exact ⟨0, _, _, rfl, ⟨by omega⟩, HAR, ⟨fun j r h => by omega⟩⟩
      case round =>
        clear HAR
        obtain ⟨k, F, T, rfl, HK, HAR, HFT⟩ := hrel
        by_cases hkn : k < n
        case neg =>
          have hkk : ¬ ((k : Int) < (n : Int)) := by omega
          have HKN : Aside0 (k = n) := ⟨by have := HK.out; omega⟩
          go_wp2_with (fail)
          go_meet
          case rel => exact ⟨F, T, HAR, ⟨fun j r hj => HFT.out j r (by have h1 := (List.getElem?_eq_some_iff.1 hj).1; have h2 := HL.out.1; have h3 := HKN.out; omega) hj⟩⟩
        case pos =>
          obtain ⟨gn, rfl⟩ : ∃ gn, gk = gn + 1 := ⟨gk - 1, by have := HK.out; omega⟩
          obtain ⟨x, hx⟩ : ∃ x, l[k]? = some x := ⟨_, List.getElem?_eq_getElem (by rw [HL.out.1]; exact hkn)⟩
          obtain ⟨ad, hA, _⟩ := HL.out.2.2 (by omega)
          subst hA
          obtain ⟨e0, e1, _, _, _⟩ := rn_at (rows_below HL.out (HB1.out.trans (HAR.out.bel.mono HB1.out.size))) hx
          obtain ⟨m1, m2, m3, m4, m5⟩ := may_at HM.out hx
          have hpk := HPL.out k (by have := HL.out.1; omega)
          have k0 : (0 : Int) ≤ (k : Int) := by omega
          have k1 : (k : Int) < (n : Int) := by omega
          have hwk : IntKind.i64.wrap ((k : Int) + 1) = (k : Int) + 1 := IntWalk.i64_in _ (by omega)
          have hwa : IntKind.i64.wrap (x.a + x.n) = x.a + x.n := IntWalk.i64_in _ (by omega)
          have HX := Aside0.mk hx
          have HKN := Aside0.mk hkn
          obtain ⟨yF, hyF⟩ : ∃ y, F[k]? = some y := ⟨_, List.getElem?_eq_getElem (by rw [HAR.out.lF]; exact hkn)⟩
          obtain ⟨yT, hyT⟩ : ∃ y, T[k]? = some y := ⟨_, List.getElem?_eq_getElem (by rw [HAR.out.lT]; exact hkn)⟩
          have cf := HAR.out.cF hyF
          have ff := fun j => (HAR.out.frz j).1
          clear hx m1 m2 m3 m4 m5 hpk
          obtain ⟨wp, hwp⟩ : ∃ q, wr.setCell ⟨gF, k, none⟩ (.int .i64 x.a) = q := ⟨_, rfl⟩
          have HARp : Aside0 (AR w1 wp gF gT gB n cF cT cB (F.set k x.a) T (List.replicate n false) (.slice none 0 0) []) := ⟨by rw [← hwp]; exact HAR.out.setF HKN.out x.a⟩
          clear hyF hkn
          go_upto_region 11 with (fail)
          obtain ⟨f0, f1, _, _, _⟩ := rn_at (rows_below HL.out (HB1.out.trans (HARp.out.bel.mono HB1.out.size))) HX.out
          have ct : wp.drew.cell? ⟨gT, k, none⟩ = some (.int .i64 yT) := HARp.out.cT hyT
          have ft : ∀ j, wp.drew.frozen? ⟨gT, j, none⟩ = false := fun j => (HARp.out.frz j).2.1
          have ct0 : wp.cell? ⟨gT, k, none⟩ = some (.int .i64 yT) := HARp.out.cT hyT
          have ft0 : ∀ j, wp.frozen? ⟨gT, j, none⟩ = false := fun j => (HARp.out.frz j).2.1
          clear e0 e1 cf ff hwp hyT
          refine wp_region_noPanic ?_
          refine wp_region_last_drew (S := (fun w' => w'.cell? (ad.add (k * 5)) = some (.int .i64 x.a) ∧ w'.cell? ⟨(ad.add (k * 5)).block, (ad.add (k * 5)).off + 1, none⟩ = some (.int .i64 x.n))) (ds := [14]) (by kernel_rfl) ?_ (fun hHeld => ?_)
          · exact ⟨f0, f1⟩
          refine wpAnyLast_take (i := 0) (v := ?_) rfl (by kernel_rfl) (by kernel_rfl) (by kernel_rfl) (by kernel_rfl) (by kernel_rfl) (fun _ _ _ h => h) (Or.inl ⟨by rfl, ?_⟩) (by assumption) ?_
          rotate_left
          · intro w hSw
            go_simp
            try with_reducible rfl
          simp only [Act.put, List.getElem_toArray, List.getElem_cons_zero, List.getElem_cons_succ, List.setIfInBounds_toArray, List.set_cons_zero, List.set_cons_succ]
          refine wpAnyLast_take (i := 1) (v := ?_) rfl (by kernel_rfl) (by kernel_rfl) (by kernel_rfl) (by kernel_rfl) (by kernel_rfl) (fun _ _ _ h => h) (Or.inl ⟨by rfl, ?_⟩) (by assumption) ?_
          rotate_left
          · intro w hSw
            go_simp
            try with_reducible rfl
          simp only [Act.put, List.getElem_toArray, List.getElem_cons_zero, List.getElem_cons_succ, List.setIfInBounds_toArray, List.set_cons_zero, List.set_cons_succ]
          refine wpAnyLast_take (i := 2) (v := ?_) rfl (by kernel_rfl) (by kernel_rfl) (by kernel_rfl) (by kernel_rfl) (by kernel_rfl) (fun _ _ _ h => h) (Or.inl ⟨by rfl, ?_⟩) (by assumption) ?_
          rotate_left
          · intro w hSw
            go_simp
            try with_reducible rfl
          simp only [Act.put, List.getElem_toArray, List.getElem_cons_zero, List.getElem_cons_succ, List.setIfInBounds_toArray, List.set_cons_zero, List.set_cons_succ]
          refine wpAnyLast_take (i := 3) (v := ?_) rfl (by kernel_rfl) (by kernel_rfl) (by kernel_rfl) (by kernel_rfl) (by kernel_rfl) (fun _ _ _ h => h) (Or.inl ⟨by rfl, ?_⟩) (by assumption) ?_
          rotate_left
          · intro w hSw
            go_simp
            try with_reducible rfl
          simp only [Act.put, List.getElem_toArray, List.getElem_cons_zero, List.getElem_cons_succ, List.setIfInBounds_toArray, List.set_cons_zero, List.set_cons_succ]
          refine wpAnyLast_take (i := 4) (v := ?_) rfl (by kernel_rfl) (by kernel_rfl) (by kernel_rfl) (by kernel_rfl) (by kernel_rfl) (fun _ _ _ h => h) (Or.inl ⟨by rfl, ?_⟩) (by assumption) ?_
          rotate_left
          · intro w hSw
            go_simp
            try with_reducible rfl
          simp only [Act.put, List.getElem_toArray, List.getElem_cons_zero, List.getElem_cons_succ, List.setIfInBounds_toArray, List.set_cons_zero, List.set_cons_succ]
          refine wpAnyLast_take (i := 5) (v := ?_) rfl (by kernel_rfl) (by kernel_rfl) (by kernel_rfl) (by kernel_rfl) (by kernel_rfl) (fun _ _ _ h => h) (Or.inl ⟨by rfl, ?_⟩) (by assumption) ?_
          rotate_left
          · intro w hSw
            go_simp
            try with_reducible rfl
          simp only [Act.put, List.getElem_toArray, List.getElem_cons_zero, List.getElem_cons_succ, List.setIfInBounds_toArray, List.set_cons_zero, List.set_cons_succ]
          refine wpAnyLast_take (i := 6) (v := ?_) rfl (by kernel_rfl) (by kernel_rfl) (by kernel_rfl) (by kernel_rfl) (by kernel_rfl) (fun _ _ _ h => h) (Or.inl ⟨by rfl, ?_⟩) (by assumption) ?_
          rotate_left
          · intro w hSw
            go_simp
            try with_reducible rfl
          simp only [Act.put, List.getElem_toArray, List.getElem_cons_zero, List.getElem_cons_succ, List.setIfInBounds_toArray, List.set_cons_zero, List.set_cons_succ]
          refine wpAnyLast_take (i := 7) (v := ?_) rfl (by kernel_rfl) (by kernel_rfl) (by kernel_rfl) (by kernel_rfl) (by kernel_rfl) (fun _ _ _ h => h) (Or.inl ⟨by rfl, ?_⟩) (by assumption) ?_
          rotate_left
          · intro w hSw
            go_simp
            try with_reducible rfl
          simp only [Act.put, List.getElem_toArray, List.getElem_cons_zero, List.getElem_cons_succ, List.setIfInBounds_toArray, List.set_cons_zero, List.set_cons_succ]
          refine wpAnyLast_take (i := 8) (v := ?_) rfl (by kernel_rfl) (by kernel_rfl) (by kernel_rfl) (by kernel_rfl) (by kernel_rfl) (fun _ _ _ h => h) (Or.inl ⟨by rfl, ?_⟩) (by assumption) ?_
          rotate_left
          · intro w hSw
            go_simp
            try with_reducible rfl
          simp only [Act.put, List.getElem_toArray, List.getElem_cons_zero, List.getElem_cons_succ, List.setIfInBounds_toArray, List.set_cons_zero, List.set_cons_succ]
          refine wpAnyLast_take (i := 9) (v := ?_) rfl (by kernel_rfl) (by kernel_rfl) (by kernel_rfl) (by kernel_rfl) (by kernel_rfl) (fun _ _ _ h => h) (Or.inl ⟨by rfl, ?_⟩) (by assumption) ?_
          rotate_left
          · intro w hSw
            go_simp
            try with_reducible rfl
          simp only [Act.put, List.getElem_toArray, List.getElem_cons_zero, List.getElem_cons_succ, List.setIfInBounds_toArray, List.set_cons_zero, List.set_cons_succ]
          refine wpAnyLast_take (i := 10) (v := ?_) rfl (by kernel_rfl) (by kernel_rfl) (by kernel_rfl) (by kernel_rfl) (by kernel_rfl) (fun _ _ _ h => h) (Or.inl ⟨by rfl, ?_⟩) (by assumption) ?_
          rotate_left
          · intro w hSw
            go_simp
            try with_reducible rfl
          simp only [Act.put, List.getElem_toArray, List.getElem_cons_zero, List.getElem_cons_succ, List.setIfInBounds_toArray, List.set_cons_zero, List.set_cons_succ]
          refine wpAnyLast_take (i := 11) (v := ?_) rfl (by kernel_rfl) (by kernel_rfl) (by kernel_rfl) (by kernel_rfl) (by kernel_rfl) (fun _ _ _ h => h) (Or.inl ⟨by rfl, ?_⟩) (by assumption) ?_
          rotate_left
          · intro w hSw
            go_simp
            try with_reducible rfl
          simp only [Act.put, List.getElem_toArray, List.getElem_cons_zero, List.getElem_cons_succ, List.setIfInBounds_toArray, List.set_cons_zero, List.set_cons_succ]
          refine wpAnyLast_take (i := 12) (v := ?_) rfl (by kernel_rfl) (by kernel_rfl) (by kernel_rfl) (by kernel_rfl) (by kernel_rfl) (fun _ _ _ h => h) (Or.inl ⟨by rfl, ?_⟩) (by assumption) ?_
          rotate_left
          · intro w hSw
            go_simp
            try with_reducible rfl
          simp only [Act.put, List.getElem_toArray, List.getElem_cons_zero, List.getElem_cons_succ, List.setIfInBounds_toArray, List.set_cons_zero, List.set_cons_succ]
          refine wpAnyLast_take (i := 13) (v := ?_) rfl (by kernel_rfl) (by kernel_rfl) (by kernel_rfl) (by kernel_rfl) (by kernel_rfl) (fun _ _ _ h => h) (Or.inl ⟨by rfl, ?_⟩) (by assumption) ?_
          rotate_left
          · intro w hSw
            go_simp
            try with_reducible rfl
          simp only [Act.put, List.getElem_toArray, List.getElem_cons_zero, List.getElem_cons_succ, List.setIfInBounds_toArray, List.set_cons_zero, List.set_cons_succ]
          refine wpAnyLast_ready (rs := [14]) (by kernel_rfl) (by simp) ?_
          refine AllReadyL.cons_last rfl (by decide) (fun K hK => ?_) AllReadyL.nil
          go_simp
          refine hK.out _ _ ?_
          clear hK K hHeld
          try simp only [Act.put, List.getElem_toArray, List.getElem_cons_zero, List.getElem_cons_succ, List.setIfInBounds_toArray, List.set_cons_zero, List.set_cons_succ]
          refine wpAnyLast_done (by kernel_rfl) ?_ _
          refine NoPanic.normal ?_
          obtain ⟨wD, hwD⟩ : ∃ X, (wp.setCell ⟨gT, k, none⟩ (.int .i64 (x.a + x.n))).drew = X := ⟨_, rfl⟩
          rw [hwD]
          have HARD : Aside0 (AR w1 wD gF gT gB n cF cT cB (F.set k x.a) (T.set k (x.a + x.n)) (List.replicate n false) (.slice none 0 0) []) := ⟨by rw [← hwD]; exact (HARp.out.setT HKN.out (x.a + x.n)).below (below_drew (Below.refl _ _))⟩
          clear hwD f0 f1 ct ft ct0 ft0
          go_wp2_with (fail)
          go_roundg gn
          case measure => exact Nat.lt_succ_self _
          case rel => exact ⟨k + 1, _, _, by simp, ⟨by have := HK.out; omega⟩, HARD, ⟨fun j r hj hjr => by
            by_cases e : j = k
            · subst e
              rw [HX.out] at hjr
              injection hjr with hjr
              subst hjr
              rw [List.getElem?_set_self (by rw [HAR.out.lF]; exact HKN.out), List.getElem?_set_self (by rw [HAR.out.lT]; exact HKN.out)]
              exact ⟨rfl, rfl⟩
            · rw [List.getElem?_set_ne (fun h => e h.symm), List.getElem?_set_ne (fun h => e h.symm)]
              exact HFT.out j r (by omega) hjr⟩⟩
    case rest =>
      obtain ⟨F0, T0, HAR0, HFT0⟩ := hcut
      go_upto_block 2 with (fail)
      go_wp2_with (fail)
      go_loopg [8, 9] n (fun gk v8 v9 wr => ∃ (i : Nat) (A8 : Option Addr) (n8 c8 : Nat) (F T : List Int) (B : List Bool) (o : List Pr), v9 = .int .i64 (i : Int) ∧ v8 = .slice A8 n8 c8 ∧ Aside0 (i + gk = n) ∧ Aside0 (AR w1 wr gF gT gB n cF cT cB F T B (.slice A8 n8 c8) o) ∧ Aside0 (o.length = n8) ∧ Aside0 (RH l F T B i o))
      case atStart => exact ⟨0, none, 0, 0, F0, T0, List.replicate n false, [], rfl, rfl, ⟨by omega⟩, HAR0, ⟨rfl⟩, ⟨rfl, List.Perm.refl _, List.Pairwise.nil, fun j r _ hj => ⟨(HFT0.out j r hj).1, (HFT0.out j r hj).2, by
          have h1 := (List.getElem?_eq_some_iff.1 hj).1
          rw [List.getElem?_replicate, if_pos (by rw [← HL.out.1]; exact h1)]⟩, fun j hj => by omega, by simp [posI]⟩⟩
      case round =>
        clear HAR0 HFT0
        obtain ⟨i, A8, n8, c8, F, T, B, o, rfl, rfl, HK, HAR, HLO, HRH⟩ := hrel
        by_cases hin : i < n
        case neg =>
          have hii : ¬ ((i : Int) < (n : Int)) := by omega
          have HIN : Aside0 (l.take i = l) := ⟨List.take_of_length_le (by rw [HL.out.1]; omega)⟩
          go_wp2_with (fail)
          go_ret
          exact ⟨A8, n8, c8, o, rfl, by unfold pairsU; rw [if_pos HM.out]; have h := HRH.out.pe; rw [HIN.out] at h; exact h, HRH.out.so, by have h := (Kd.R_reads' HAR.out.rO).2.2; rw [HLO.out] at h; exact h, HB1.out.trans (HAR.out.bel.mono HB1.out.size)⟩
        case pos =>
          obtain ⟨gn, rfl⟩ : ∃ gn, gk = gn + 1 := ⟨gk - 1, by have := HK.out; omega⟩
          obtain ⟨r, hr⟩ : ∃ r, l[i]? = some r := ⟨_, List.getElem?_eq_getElem (by rw [HL.out.1]; exact hin)⟩
          obtain ⟨ad, hA, _⟩ := HL.out.2.2 (by omega)
          subst hA
          obtain ⟨m1, m2, m3, m4, m5⟩ := may_at HM.out hr
          have hpk := HPL.out i (by have := HL.out.1; omega)
          have i0 : (0 : Int) ≤ (i : Int) := by omega
          have i1 : (i : Int) < (n : Int) := by omega
          have hwi : IntKind.i64.wrap ((i : Int) + 1) = (i : Int) + 1 := IntWalk.i64_in _ (by omega)
          have hwm : IntKind.i64.wrap ((i : Int) - 1) = (i : Int) - 1 := IntWalk.i64_in _ (by omega)
          have HRR := Aside0.mk hr
          have HIN := Aside0.mk hin
          have HMM : Aside0 (1 ≤ r.n ∧ 0 ≤ r.a ∧ r.a + r.n ≤ 1048576 ∧ posI l i ≤ r.a) := ⟨by omega⟩
          obtain ⟨u1, u2, u3⟩ := HRH.out.up i r (Nat.le_refl _) hr
          have HRI : Aside0 (RI l F T B i r o (pairsL (l.take i)).2 r.a r.n.toNat) := ⟨⟨by rw [HRH.out.st], u1, u2, u3, HMM.out.2.1, by omega, by omega, HRH.out.pe, HRH.out.so, by have := HRH.out.lo; omega, fun j r' hj => HRH.out.up j r' (by omega), HRH.out.dn⟩⟩
          clear hr m1 m2 m3 m4 m5 hpk u1 u2 u3
          go_upto_block 4 with (fail)
          go_wp2_with (fail)
          go_loopg [8] r.n.toNat (fun gj v8 wj => ∃ (A8 : Option Addr) (n8 c8 : Nat) (F T : List Int) (B : List Bool) (o oc : List Pr) (f : Int), v8 = .slice A8 n8 c8 ∧ Aside0 (AR w1 wj gF gT gB n cF cT cB F T B (.slice A8 n8 c8) o) ∧ Aside0 (o.length = n8) ∧ Aside0 (RI l F T B i r o oc f gj))
          case atStart => exact ⟨A8, n8, c8, F, T, B, o, _, r.a, rfl, HAR, HLO, HRI⟩
          case round =>
            clear HAR HLO HRI HRH
            obtain ⟨A8, n8, c8, F, T, B, o, oc, f, rfl, HAR, HLO, HRI⟩ := hrel
            go_upto_region 16 with (fail)
            have cf := HAR.out.cF HRI.out.hF
            have ct := HAR.out.cT HRI.out.hT
            by_cases hft : f < r.a + r.n
            case neg =>
              have HNX : Aside0 (RH l F T B (i + 1) o) := ⟨RH.next HRR.out HRI.out.hF HRI.out.hT HRI.out.hB HRI.out.f0 HRI.out.ft HMM.out.2.2.1 rfl (HRI.out.cl.trans (closeX_stop (fun h => hft h.2))) HRI.out.pe HRI.out.so HRI.out.lo HRI.out.up HRI.out.dn⟩
              go_quiet (fail)
              have HAR2 : Aside0 (AR w1 (wr.drewN nq) gF gT gB n cF cT cB F T B (.slice A8 n8 c8) o) := ⟨HAR.out.below (pw_below_drewN (Below.refl _ wr) nq)⟩
              go_wp2_with (fail)
              go_roundg gn
              case measure => exact Nat.lt_succ_self _
              case rel => exact ⟨i + 1, A8, n8, c8, F, T, B, o, by simp, rfl, ⟨by have := HK.out; omega⟩, HAR2, HLO, HNX⟩
            case pos =>
              obtain ⟨gj, rfl⟩ : ∃ gj, gk = gj + 1 := ⟨gk - 1, by have := HRI.out.fu; omega⟩
              have HFTL := Aside0.mk hft
              go_quiet (fail)
              obtain ⟨wD, hwD⟩ : ∃ q, wr.drewN nq = q := ⟨_, rfl⟩
              rw [hwD]
              have HARD : Aside0 (AR w1 wD gF gT gB n cF cT cB F T B (.slice A8 n8 c8) o) := ⟨by rw [← hwD]; exact HAR.out.below (pw_below_drewN (Below.refl _ wr) nq)⟩
              clear hwD cf ct HAR hft
              go_upto_block 6 with (fail)
              go_cut [10] from 67 to 99 (fun v10 wc => v10 = .int .i64 (fitI (srch l F T B r i)) ∧ Aside0 (AR w1 wc gF gT gB n cF cT cB F T B (.slice A8 n8 c8) o))
              case first =>
                go_wp2_with (fail)
                go_loopg [10] i (fun gi v10 wi => ∃ z : Int, v10 = .int .i64 z ∧ Aside0 (z = (gi : Int) - 1) ∧ Aside0 (gi ≤ i) ∧ Aside0 (srch l F T B r i = srch l F T B r gi) ∧ Aside0 (AR w1 wi gF gT gB n cF cT cB F T B (.slice A8 n8 c8) o))
                case atStart => exact ⟨_, rfl, ⟨rfl⟩, ⟨Nat.le_refl _⟩, ⟨rfl⟩, HARD⟩
                case round =>
                  clear HARD
                  obtain ⟨z, rfl, HZ, HG, HS, HAR⟩ := hrel
                  go_upto_region 18 with (fail)
                  rcases Nat.eq_zero_or_pos gk with hz0 | hz0
                  case inl =>
                    subst hz0
                    have hz : ¬ (0 : Int) ≤ z := by have := HZ.out; omega
                    have HZ3 : Aside0 (z = fitI (srch l F T B r i)) := ⟨by
                      rw [HS.out, HZ.out]
                      unfold srch
                      split <;> rfl⟩
                    go_quiet (fail)
                    have HAR2 : Aside0 (AR w1 (wr.drewN nq) gF gT gB n cF cT cB F T B (.slice A8 n8 c8) o) := ⟨HAR.out.below (pw_below_drewN (Below.refl _ wr) nq)⟩
                    go_wp2_with (fail)
                    go_meet
                    case rel => exact ⟨by rw [HZ3.out], HAR2⟩
                  case inr =>
                    obtain ⟨j, rfl⟩ : ∃ j, gk = j + 1 := ⟨gk - 1, by omega⟩
                    clear hz0
                    obtain rfl : z = (j : Int) := by have := HZ.out; omega
                    have hji : j < i := by have := HG.out; omega
                    have j0 : (0 : Int) ≤ (j : Int) := by omega
                    have j1 : (j : Int) < (n : Int) := by omega
                    have hwj : IntKind.i64.wrap ((j : Int) - 1) = (j : Int) - 1 := IntWalk.i64_in _ (by omega)
                    obtain ⟨a, ha⟩ : ∃ a, l[j]? = some a := ⟨_, List.getElem?_eq_getElem (by rw [HL.out.1]; omega)⟩
                    obtain ⟨fj, tj, bj, d1, d2, d3, d4, d5, d6⟩ := HRI.out.dn j hji
                    have cBj := HAR.out.cB d3
                    have cFj := HAR.out.cF d1
                    have cTj := HAR.out.cT d2
                    have HSK := Aside0.mk (srch_skip (r := r) ha d1 d2 d3)
                    cases bj
                    case true =>
                      have HS2 : Aside0 (srch l F T B r i = srch l F T B r j) := ⟨HS.out.trans (HSK.out (.inl rfl))⟩
                      clear ha d1 d2 d3 d4 d5 d6 hji
                      go_quiet (fail)
                      have HAR2 : Aside0 (AR w1 (wr.drewN nq) gF gT gB n cF cT cB F T B (.slice A8 n8 c8) o) := ⟨HAR.out.below (pw_below_drewN (Below.refl _ wr) nq)⟩
                      go_wp2_with (fail)
                      go_roundg j
                      case measure => exact Nat.lt_succ_self _
                      case rel => exact ⟨_, rfl, ⟨rfl⟩, ⟨by have := HG.out; omega⟩, HS2, HAR2⟩
                    case false =>
                      by_cases hft2 : fj = tj
                      case pos =>
                        have HS2 : Aside0 (srch l F T B r i = srch l F T B r j) := ⟨HS.out.trans (HSK.out (.inr (.inl hft2)))⟩
                        rw [← hft2] at cTj
                        clear ha d1 d2 d3 d4 d5 d6 hji hft2
                        have q1 : (fj == fj) = true := by simp
                        go_quiet (fail)
                        have HAR2 : Aside0 (AR w1 (wr.drewN nq) gF gT gB n cF cT cB F T B (.slice A8 n8 c8) o) := ⟨HAR.out.below (pw_below_drewN (Below.refl _ wr) nq)⟩
                        go_wp2_with (fail)
                        go_roundg j
                        case measure => exact Nat.lt_succ_self _
                        case rel => exact ⟨_, rfl, ⟨rfl⟩, ⟨by have := HG.out; omega⟩, HS2, HAR2⟩
                      case neg =>
                        obtain ⟨a0, a1, a2, a3, a4⟩ := rn_at (rows_below HL.out (HB1.out.trans (HAR.out.bel.mono HB1.out.size))) ha
                        obtain ⟨b0, b1, b2, b3, b4⟩ := rn_at (rows_below HL.out (HB1.out.trans (HAR.out.bel.mono HB1.out.size))) HRR.out
                        obtain ⟨p1, _, p3, p4, p5⟩ := may_at HM.out ha
                        have hpj := HPL.out j (by have := HL.out.1; omega)
                        have hrf0 := rfit_c a r wr.drew ⟨by omega, by omega⟩ ⟨by have := HMM.out; omega, by have := HMM.out; omega⟩
                        have hne2 : (fj == tj) = false := by simpa using hft2
                        have hin2 : (i : Int) < (n : Int) := i1
                        cases hrf : rfitB a r
                        case true =>
                          rw [hrf] at hrf0
                          have HRF := Aside0.mk hrf0
                          have HHIT := Aside0.mk (srch_hit ha d1 d2 d3 hft2 hrf)
                          have HZ3 : Aside0 ((j : Int) = fitI (srch l F T B r i)) := ⟨by rw [HS.out, HHIT.out.1]; rfl⟩
                          clear ha d1 d2 d3 d4 d5 d6 hji hft2 hrf hrf0 p1 p3 p4 p5 hpj HSK
                          refine wp_region_noPanic ?_
                          refine wp_region_held_drew (S := (fun w' => w'.cell? ⟨gB, j, none⟩ = some (.bool false) ∧ w'.cell? ⟨gF, j, none⟩ = some (.int .i64 fj) ∧ w'.cell? ⟨gT, j, none⟩ = some (.int .i64 tj) ∧ w'.cell? (ad.add (j * 5)) = some (.int .i64 a.a) ∧ w'.cell? ⟨(ad.add (j * 5)).block, (ad.add (j * 5)).off + 1, none⟩ = some (.int .i64 a.n) ∧ w'.cell? ⟨(ad.add (j * 5)).block, (ad.add (j * 5)).off + 2, none⟩ = some (.int .u8 a.c) ∧ w'.cell? ⟨(ad.add (j * 5)).block, (ad.add (j * 5)).off + 3, none⟩ = some (.bool a.o) ∧ w'.cell? ⟨(ad.add (j * 5)).block, (ad.add (j * 5)).off + 4, none⟩ = some (.bool a.k) ∧ w'.cell? (ad.add (i * 5)) = some (.int .i64 r.a) ∧ w'.cell? ⟨(ad.add (i * 5)).block, (ad.add (i * 5)).off + 1, none⟩ = some (.int .i64 r.n) ∧ w'.cell? ⟨(ad.add (i * 5)).block, (ad.add (i * 5)).off + 2, none⟩ = some (.int .u8 r.c) ∧ w'.cell? ⟨(ad.add (i * 5)).block, (ad.add (i * 5)).off + 3, none⟩ = some (.bool r.o) ∧ w'.cell? ⟨(ad.add (i * 5)).block, (ad.add (i * 5)).off + 4, none⟩ = some (.bool r.k))) (by kernel_rfl) ?_ (fun hHeld => ?_)
                          · exact ⟨cBj, cFj, cTj, a0, a1, a2, a3, a4, b0, b1, b2, b3, b4⟩
                          refine wpAnyH_take (i := 0) (v := ?_) rfl (by kernel_rfl) (by kernel_rfl) (by kernel_rfl) (fun _ _ _ h => h) (Or.inl ⟨by rfl, ?_⟩) (by assumption) ?_
                          rotate_left
                          · intro w hSw
                            go_simp
                            try with_reducible rfl
                          simp only [Act.put, List.getElem_toArray, List.getElem_cons_zero, List.getElem_cons_succ, List.setIfInBounds_toArray, List.set_cons_zero, List.set_cons_succ]
                          refine wpAnyH_take (i := 1) (v := ?_) rfl (by kernel_rfl) (by kernel_rfl) (by kernel_rfl) (fun _ _ _ h => h) (Or.inl ⟨by rfl, ?_⟩) (by assumption) ?_
                          rotate_left
                          · intro w hSw
                            go_simp
                            try with_reducible rfl
                          simp only [Act.put, List.getElem_toArray, List.getElem_cons_zero, List.getElem_cons_succ, List.setIfInBounds_toArray, List.set_cons_zero, List.set_cons_succ]
                          refine wpAnyH_take (i := 2) (v := ?_) rfl (by kernel_rfl) (by kernel_rfl) (by kernel_rfl) (fun _ _ _ h => h) (Or.inl ⟨by rfl, ?_⟩) (by assumption) ?_
                          rotate_left
                          · intro w hSw
                            go_simp
                            try with_reducible rfl
                          simp only [Act.put, List.getElem_toArray, List.getElem_cons_zero, List.getElem_cons_succ, List.setIfInBounds_toArray, List.set_cons_zero, List.set_cons_succ]
                          refine wpAnyH_take (i := 3) (v := ?_) rfl (by kernel_rfl) (by kernel_rfl) (by kernel_rfl) (fun _ _ _ h => h) (Or.inl ⟨by rfl, ?_⟩) (by assumption) ?_
                          rotate_left
                          · intro w hSw
                            go_simp
                            try with_reducible rfl
                          simp only [Act.put, List.getElem_toArray, List.getElem_cons_zero, List.getElem_cons_succ, List.setIfInBounds_toArray, List.set_cons_zero, List.set_cons_succ]
                          refine wpAnyH_take (i := 4) (v := ?_) rfl (by kernel_rfl) (by kernel_rfl) (by kernel_rfl) (fun _ _ _ h => h) (Or.inl ⟨by rfl, ?_⟩) (by assumption) ?_
                          rotate_left
                          · intro w hSw
                            go_simp
                            try with_reducible rfl
                          simp only [Act.put, List.getElem_toArray, List.getElem_cons_zero, List.getElem_cons_succ, List.setIfInBounds_toArray, List.set_cons_zero, List.set_cons_succ]
                          refine wpAnyH_take (i := 5) (v := ?_) rfl (by kernel_rfl) (by kernel_rfl) (by kernel_rfl) (fun _ _ _ h => h) (Or.inl ⟨by rfl, ?_⟩) (by assumption) ?_
                          rotate_left
                          · intro w hSw
                            go_simp
                            try with_reducible rfl
                          simp only [Act.put, List.getElem_toArray, List.getElem_cons_zero, List.getElem_cons_succ, List.setIfInBounds_toArray, List.set_cons_zero, List.set_cons_succ]
                          refine wpAnyH_take (i := 6) (v := ?_) rfl (by kernel_rfl) (by kernel_rfl) (by kernel_rfl) (fun _ _ _ h => h) (Or.inl ⟨by rfl, ?_⟩) (by assumption) ?_
                          rotate_left
                          · intro w hSw
                            go_simp
                            try with_reducible rfl
                          simp only [Act.put, List.getElem_toArray, List.getElem_cons_zero, List.getElem_cons_succ, List.setIfInBounds_toArray, List.set_cons_zero, List.set_cons_succ]
                          refine wpAnyH_take (i := 7) (v := ?_) rfl (by kernel_rfl) (by kernel_rfl) (by kernel_rfl) (fun _ _ _ h => h) (Or.inl ⟨by rfl, ?_⟩) (by assumption) ?_
                          rotate_left
                          · intro w hSw
                            go_simp
                            try with_reducible rfl
                          simp only [Act.put, List.getElem_toArray, List.getElem_cons_zero, List.getElem_cons_succ, List.setIfInBounds_toArray, List.set_cons_zero, List.set_cons_succ]
                          refine wpAnyH_take (i := 8) (v := ?_) rfl (by kernel_rfl) (by kernel_rfl) (by kernel_rfl) (fun _ _ _ h => h) (Or.inl ⟨by rfl, ?_⟩) (by assumption) ?_
                          rotate_left
                          · intro w hSw
                            go_simp
                            try with_reducible rfl
                          simp only [Act.put, List.getElem_toArray, List.getElem_cons_zero, List.getElem_cons_succ, List.setIfInBounds_toArray, List.set_cons_zero, List.set_cons_succ]
                          refine wpAnyH_take (i := 9) (v := ?_) rfl (by kernel_rfl) (by kernel_rfl) (by kernel_rfl) (fun _ _ _ h => h) (Or.inl ⟨by rfl, ?_⟩) (by assumption) ?_
                          rotate_left
                          · intro w hSw
                            go_simp
                            try with_reducible rfl
                          simp only [Act.put, List.getElem_toArray, List.getElem_cons_zero, List.getElem_cons_succ, List.setIfInBounds_toArray, List.set_cons_zero, List.set_cons_succ]
                          refine wpAnyH_take (i := 10) (v := ?_) rfl (by kernel_rfl) (by kernel_rfl) (by kernel_rfl) (fun _ _ _ h => h) (Or.inl ⟨by rfl, ?_⟩) (by assumption) ?_
                          rotate_left
                          · intro w hSw
                            go_simp
                            try with_reducible rfl
                          simp only [Act.put, List.getElem_toArray, List.getElem_cons_zero, List.getElem_cons_succ, List.setIfInBounds_toArray, List.set_cons_zero, List.set_cons_succ]
                          refine wpAnyH_take (i := 11) (v := ?_) rfl (by kernel_rfl) (by kernel_rfl) (by kernel_rfl) (fun _ _ _ h => h) (Or.inl ⟨by rfl, ?_⟩) (by assumption) ?_
                          rotate_left
                          · intro w hSw
                            go_simp
                            try with_reducible rfl
                          simp only [Act.put, List.getElem_toArray, List.getElem_cons_zero, List.getElem_cons_succ, List.setIfInBounds_toArray, List.set_cons_zero, List.set_cons_succ]
                          refine wpAnyH_take (i := 12) (v := ?_) rfl (by kernel_rfl) (by kernel_rfl) (by kernel_rfl) (fun _ _ _ h => h) (Or.inl ⟨by rfl, ?_⟩) (by assumption) ?_
                          rotate_left
                          · intro w hSw
                            go_simp
                            try with_reducible rfl
                          simp only [Act.put, List.getElem_toArray, List.getElem_cons_zero, List.getElem_cons_succ, List.setIfInBounds_toArray, List.set_cons_zero, List.set_cons_succ]
                          refine wpAnyH_take (i := 13) (v := ?_) rfl (by kernel_rfl) (by kernel_rfl) (by kernel_rfl) (fun _ _ _ h => h) (Or.inl ⟨by rfl, ?_⟩) (by assumption) ?_
                          rotate_left
                          · intro w hSw
                            go_simp
                            try with_reducible rfl
                          simp only [Act.put, List.getElem_toArray, List.getElem_cons_zero, List.getElem_cons_succ, List.setIfInBounds_toArray, List.set_cons_zero, List.set_cons_succ]
                          refine wpAnyH_take (i := 14) (v := ?_) rfl (by kernel_rfl) (by kernel_rfl) (by kernel_rfl) (fun _ _ _ h => h) (Or.inl ⟨by rfl, ?_⟩) (by assumption) ?_
                          rotate_left
                          · intro w hSw
                            go_simp
                            try with_reducible rfl
                          simp only [Act.put, List.getElem_toArray, List.getElem_cons_zero, List.getElem_cons_succ, List.setIfInBounds_toArray, List.set_cons_zero, List.set_cons_succ]
                          refine wpAnyH_take (i := 15) (v := ?_) rfl (by kernel_rfl) (by kernel_rfl) (by kernel_rfl) (fun _ _ _ h => h) (Or.inl ⟨by rfl, ?_⟩) (by assumption) ?_
                          rotate_left
                          · intro w hSw
                            go_simp
                            try with_reducible rfl
                          simp only [Act.put, List.getElem_toArray, List.getElem_cons_zero, List.getElem_cons_succ, List.setIfInBounds_toArray, List.set_cons_zero, List.set_cons_succ]
                          refine wpAnyH_take (i := 16) (v := ?_) rfl (by kernel_rfl) (by kernel_rfl) (by kernel_rfl) (fun _ _ _ h => h) (Or.inl ⟨by rfl, ?_⟩) (by assumption) ?_
                          rotate_left
                          · intro w hSw
                            go_simp
                            try with_reducible rfl
                          simp only [Act.put, List.getElem_toArray, List.getElem_cons_zero, List.getElem_cons_succ, List.setIfInBounds_toArray, List.set_cons_zero, List.set_cons_succ]
                          refine wpAnyH_take (i := 17) (v := ?_) rfl (by kernel_rfl) (by kernel_rfl) (by kernel_rfl) (fun _ _ _ h => h) (Or.inl ⟨by rfl, ?_⟩) (by assumption) ?_
                          rotate_left
                          · intro w hSw
                            go_simp
                            try with_reducible rfl
                          simp only [Act.put, List.getElem_toArray, List.getElem_cons_zero, List.getElem_cons_succ, List.setIfInBounds_toArray, List.set_cons_zero, List.set_cons_succ]
                          refine wpAnyH_take (i := 18) (v := ?_) rfl (by kernel_rfl) (by kernel_rfl) (by kernel_rfl) (fun _ _ _ h => h) (Or.inl ⟨by rfl, ?_⟩) (by assumption) ?_
                          rotate_left
                          · intro w hSw
                            go_simp
                            try with_reducible rfl
                          simp only [Act.put, List.getElem_toArray, List.getElem_cons_zero, List.getElem_cons_succ, List.setIfInBounds_toArray, List.set_cons_zero, List.set_cons_succ]
                          refine wpAnyH_take (i := 19) (v := ?_) rfl (by kernel_rfl) (by kernel_rfl) (by kernel_rfl) (fun _ _ _ h => h) (Or.inl ⟨by rfl, ?_⟩) (by assumption) ?_
                          rotate_left
                          · intro w hSw
                            go_simp
                            try with_reducible rfl
                          simp only [Act.put, List.getElem_toArray, List.getElem_cons_zero, List.getElem_cons_succ, List.setIfInBounds_toArray, List.set_cons_zero, List.set_cons_succ]
                          refine wpAnyH_take (i := 20) (v := ?_) rfl (by kernel_rfl) (by kernel_rfl) (by kernel_rfl) (fun _ _ _ h => h) (Or.inl ⟨by rfl, ?_⟩) (by assumption) ?_
                          rotate_left
                          · intro w hSw
                            go_simp
                            try with_reducible rfl
                          simp only [Act.put, List.getElem_toArray, List.getElem_cons_zero, List.getElem_cons_succ, List.setIfInBounds_toArray, List.set_cons_zero, List.set_cons_succ]
                          refine wpAnyH_take (i := 21) (v := ?_) rfl (by kernel_rfl) (by kernel_rfl) (by kernel_rfl) (fun _ _ _ h => h) (Or.inl ⟨by rfl, ?_⟩) (by assumption) ?_
                          rotate_left
                          · intro w hSw
                            go_simp
                            try with_reducible rfl
                          simp only [Act.put, List.getElem_toArray, List.getElem_cons_zero, List.getElem_cons_succ, List.setIfInBounds_toArray, List.set_cons_zero, List.set_cons_succ]
                          refine wpAnyH_take (i := 22) (v := ?_) rfl (by kernel_rfl) (by kernel_rfl) (by kernel_rfl) (fun _ _ _ h => h) (Or.inl ⟨by rfl, ?_⟩) (by assumption) ?_
                          rotate_left
                          · intro w hSw
                            go_simp
                            try with_reducible rfl
                          simp only [Act.put, List.getElem_toArray, List.getElem_cons_zero, List.getElem_cons_succ, List.setIfInBounds_toArray, List.set_cons_zero, List.set_cons_succ]
                          refine wpAnyH_take (i := 23) (v := ?_) rfl (by kernel_rfl) (by kernel_rfl) (by kernel_rfl) (fun _ _ _ h => h) (Or.inl ⟨by rfl, ?_⟩) (by assumption) ?_
                          rotate_left
                          · intro w hSw
                            go_simp
                            try with_reducible rfl
                          simp only [Act.put, List.getElem_toArray, List.getElem_cons_zero, List.getElem_cons_succ, List.setIfInBounds_toArray, List.set_cons_zero, List.set_cons_succ]
                          refine wpAnyH_take (i := 24) (v := ?_) rfl (by kernel_rfl) (by kernel_rfl) (by kernel_rfl) (fun _ _ _ h => h) (Or.inl ⟨by rfl, ?_⟩) (by assumption) ?_
                          rotate_left
                          · intro w hSw
                            go_simp
                            try with_reducible rfl
                          simp only [Act.put, List.getElem_toArray, List.getElem_cons_zero, List.getElem_cons_succ, List.setIfInBounds_toArray, List.set_cons_zero, List.set_cons_succ]
                          refine wpAnyH_take (i := 25) (v := ?_) rfl (by kernel_rfl) (by kernel_rfl) (by kernel_rfl) (fun _ _ _ h => h) (Or.inl ⟨by rfl, ?_⟩) (by assumption) ?_
                          rotate_left
                          · intro w hSw
                            go_simp
                            try with_reducible rfl
                          simp only [Act.put, List.getElem_toArray, List.getElem_cons_zero, List.getElem_cons_succ, List.setIfInBounds_toArray, List.set_cons_zero, List.set_cons_succ]
                          refine wpAnyH_take (i := 26) (v := ?_) rfl (by kernel_rfl) (by kernel_rfl) (by kernel_rfl) (fun _ _ _ h => h) (Or.inl ⟨by rfl, ?_⟩) (by assumption) ?_
                          rotate_left
                          · intro w hSw
                            go_simp
                            try with_reducible rfl
                          simp only [Act.put, List.getElem_toArray, List.getElem_cons_zero, List.getElem_cons_succ, List.setIfInBounds_toArray, List.set_cons_zero, List.set_cons_succ]
                          refine wpAnyH_ready (rs := [27]) (by kernel_rfl) (by simp) ?_
                          refine AllReadyH.cons rfl (fun K hK => ?_) AllReadyH.nil
                          go_simp
                          refine HRF.out.mono ?_
                          rintro _ w9 ⟨rfl, hb9⟩
                          have HB9 := Aside0.mk hb9
                          clear hb9
                          refine hK.out _ _ ⟨pw_cell_below HB9.out cBj, pw_cell_below HB9.out cFj, pw_cell_below HB9.out cTj, pw_cell_below HB9.out a0, pw_cell_below HB9.out a1, pw_cell_below HB9.out a2, pw_cell_below HB9.out a3, pw_cell_below HB9.out a4, pw_cell_below HB9.out b0, pw_cell_below HB9.out b1, pw_cell_below HB9.out b2, pw_cell_below HB9.out b3, pw_cell_below HB9.out b4⟩ (fun hHeld2 => ?_)
                          clear hK K hHeld
                          have hHeld := hHeld2
                          clear hHeld2
                          try simp only [Act.put, List.getElem_toArray, List.getElem_cons_zero, List.getElem_cons_succ, List.setIfInBounds_toArray, List.set_cons_zero, List.set_cons_succ]
                          refine wpAnyH_take (i := 28) (v := ?_) rfl (by kernel_rfl) (by kernel_rfl) (by kernel_rfl) (fun _ _ _ h => h) (Or.inl ⟨by rfl, ?_⟩) (by assumption) ?_
                          rotate_left
                          · intro w hSw
                            go_simp
                            try with_reducible rfl
                          simp only [Act.put, List.getElem_toArray, List.getElem_cons_zero, List.getElem_cons_succ, List.setIfInBounds_toArray, List.set_cons_zero, List.set_cons_succ]
                          refine wpAnyH_take (i := 29) (v := ?_) rfl (by kernel_rfl) (by kernel_rfl) (by kernel_rfl) (fun _ _ _ h => h) (Or.inl ⟨by rfl, ?_⟩) (by assumption) ?_
                          rotate_left
                          · intro w hSw
                            go_simp
                            try with_reducible rfl
                          simp only [Act.put, List.getElem_toArray, List.getElem_cons_zero, List.getElem_cons_succ, List.setIfInBounds_toArray, List.set_cons_zero, List.set_cons_succ]
                          refine wpAnyH_take (i := 30) (v := ?_) rfl (by kernel_rfl) (by kernel_rfl) (by kernel_rfl) (fun _ _ _ h => h) (Or.inl ⟨by rfl, ?_⟩) (by assumption) ?_
                          rotate_left
                          · intro w hSw
                            go_simp
                            try with_reducible rfl
                          simp only [Act.put, List.getElem_toArray, List.getElem_cons_zero, List.getElem_cons_succ, List.setIfInBounds_toArray, List.set_cons_zero, List.set_cons_succ]
                          refine wpAnyH_done (by kernel_rfl) ?_ _
                          refine NoPanic.normal ?_
                          have HAR2 : Aside0 (AR w1 w9 gF gT gB n cF cT cB F T B (.slice A8 n8 c8) o) := ⟨(HAR.out.below (below_drew (Below.refl _ wr))).below HB9.out⟩
                          clear hHeld cBj cFj cTj a0 a1 a2 a3 a4 b0 b1 b2 b3 b4
                          go_wp2_with (fail)
                          go_meet
                          case rel => exact ⟨by rw [HZ3.out], HAR2⟩
                        case false =>
                          rw [hrf] at hrf0
                          have HRF := Aside0.mk hrf0
                          have HS2 : Aside0 (srch l F T B r i = srch l F T B r j) := ⟨HS.out.trans (HSK.out (.inr (.inr hrf)))⟩
                          clear ha d1 d2 d3 d4 d5 d6 hji hft2 hrf hrf0 p1 p3 p4 p5 hpj HSK
                          refine wp_region_noPanic ?_
                          refine wp_region_held_drew (S := (fun w' => w'.cell? ⟨gB, j, none⟩ = some (.bool false) ∧ w'.cell? ⟨gF, j, none⟩ = some (.int .i64 fj) ∧ w'.cell? ⟨gT, j, none⟩ = some (.int .i64 tj) ∧ w'.cell? (ad.add (j * 5)) = some (.int .i64 a.a) ∧ w'.cell? ⟨(ad.add (j * 5)).block, (ad.add (j * 5)).off + 1, none⟩ = some (.int .i64 a.n) ∧ w'.cell? ⟨(ad.add (j * 5)).block, (ad.add (j * 5)).off + 2, none⟩ = some (.int .u8 a.c) ∧ w'.cell? ⟨(ad.add (j * 5)).block, (ad.add (j * 5)).off + 3, none⟩ = some (.bool a.o) ∧ w'.cell? ⟨(ad.add (j * 5)).block, (ad.add (j * 5)).off + 4, none⟩ = some (.bool a.k) ∧ w'.cell? (ad.add (i * 5)) = some (.int .i64 r.a) ∧ w'.cell? ⟨(ad.add (i * 5)).block, (ad.add (i * 5)).off + 1, none⟩ = some (.int .i64 r.n) ∧ w'.cell? ⟨(ad.add (i * 5)).block, (ad.add (i * 5)).off + 2, none⟩ = some (.int .u8 r.c) ∧ w'.cell? ⟨(ad.add (i * 5)).block, (ad.add (i * 5)).off + 3, none⟩ = some (.bool r.o) ∧ w'.cell? ⟨(ad.add (i * 5)).block, (ad.add (i * 5)).off + 4, none⟩ = some (.bool r.k))) (by kernel_rfl) ?_ (fun hHeld => ?_)
                          · exact ⟨cBj, cFj, cTj, a0, a1, a2, a3, a4, b0, b1, b2, b3, b4⟩
                          refine wpAnyH_take (i := 0) (v := ?_) rfl (by kernel_rfl) (by kernel_rfl) (by kernel_rfl) (fun _ _ _ h => h) (Or.inl ⟨by rfl, ?_⟩) (by assumption) ?_
                          rotate_left
                          · intro w hSw
                            go_simp
                            try with_reducible rfl
                          simp only [Act.put, List.getElem_toArray, List.getElem_cons_zero, List.getElem_cons_succ, List.setIfInBounds_toArray, List.set_cons_zero, List.set_cons_succ]
                          refine wpAnyH_take (i := 1) (v := ?_) rfl (by kernel_rfl) (by kernel_rfl) (by kernel_rfl) (fun _ _ _ h => h) (Or.inl ⟨by rfl, ?_⟩) (by assumption) ?_
                          rotate_left
                          · intro w hSw
                            go_simp
                            try with_reducible rfl
                          simp only [Act.put, List.getElem_toArray, List.getElem_cons_zero, List.getElem_cons_succ, List.setIfInBounds_toArray, List.set_cons_zero, List.set_cons_succ]
                          refine wpAnyH_take (i := 2) (v := ?_) rfl (by kernel_rfl) (by kernel_rfl) (by kernel_rfl) (fun _ _ _ h => h) (Or.inl ⟨by rfl, ?_⟩) (by assumption) ?_
                          rotate_left
                          · intro w hSw
                            go_simp
                            try with_reducible rfl
                          simp only [Act.put, List.getElem_toArray, List.getElem_cons_zero, List.getElem_cons_succ, List.setIfInBounds_toArray, List.set_cons_zero, List.set_cons_succ]
                          refine wpAnyH_take (i := 3) (v := ?_) rfl (by kernel_rfl) (by kernel_rfl) (by kernel_rfl) (fun _ _ _ h => h) (Or.inl ⟨by rfl, ?_⟩) (by assumption) ?_
                          rotate_left
                          · intro w hSw
                            go_simp
                            try with_reducible rfl
                          simp only [Act.put, List.getElem_toArray, List.getElem_cons_zero, List.getElem_cons_succ, List.setIfInBounds_toArray, List.set_cons_zero, List.set_cons_succ]
                          refine wpAnyH_take (i := 4) (v := ?_) rfl (by kernel_rfl) (by kernel_rfl) (by kernel_rfl) (fun _ _ _ h => h) (Or.inl ⟨by rfl, ?_⟩) (by assumption) ?_
                          rotate_left
                          · intro w hSw
                            go_simp
                            try with_reducible rfl
                          simp only [Act.put, List.getElem_toArray, List.getElem_cons_zero, List.getElem_cons_succ, List.setIfInBounds_toArray, List.set_cons_zero, List.set_cons_succ]
                          refine wpAnyH_take (i := 5) (v := ?_) rfl (by kernel_rfl) (by kernel_rfl) (by kernel_rfl) (fun _ _ _ h => h) (Or.inl ⟨by rfl, ?_⟩) (by assumption) ?_
                          rotate_left
                          · intro w hSw
                            go_simp
                            try with_reducible rfl
                          simp only [Act.put, List.getElem_toArray, List.getElem_cons_zero, List.getElem_cons_succ, List.setIfInBounds_toArray, List.set_cons_zero, List.set_cons_succ]
                          refine wpAnyH_take (i := 6) (v := ?_) rfl (by kernel_rfl) (by kernel_rfl) (by kernel_rfl) (fun _ _ _ h => h) (Or.inl ⟨by rfl, ?_⟩) (by assumption) ?_
                          rotate_left
                          · intro w hSw
                            go_simp
                            try with_reducible rfl
                          simp only [Act.put, List.getElem_toArray, List.getElem_cons_zero, List.getElem_cons_succ, List.setIfInBounds_toArray, List.set_cons_zero, List.set_cons_succ]
                          refine wpAnyH_take (i := 7) (v := ?_) rfl (by kernel_rfl) (by kernel_rfl) (by kernel_rfl) (fun _ _ _ h => h) (Or.inl ⟨by rfl, ?_⟩) (by assumption) ?_
                          rotate_left
                          · intro w hSw
                            go_simp
                            try with_reducible rfl
                          simp only [Act.put, List.getElem_toArray, List.getElem_cons_zero, List.getElem_cons_succ, List.setIfInBounds_toArray, List.set_cons_zero, List.set_cons_succ]
                          refine wpAnyH_take (i := 8) (v := ?_) rfl (by kernel_rfl) (by kernel_rfl) (by kernel_rfl) (fun _ _ _ h => h) (Or.inl ⟨by rfl, ?_⟩) (by assumption) ?_
                          rotate_left
                          · intro w hSw
                            go_simp
                            try with_reducible rfl
                          simp only [Act.put, List.getElem_toArray, List.getElem_cons_zero, List.getElem_cons_succ, List.setIfInBounds_toArray, List.set_cons_zero, List.set_cons_succ]
                          refine wpAnyH_take (i := 9) (v := ?_) rfl (by kernel_rfl) (by kernel_rfl) (by kernel_rfl) (fun _ _ _ h => h) (Or.inl ⟨by rfl, ?_⟩) (by assumption) ?_
                          rotate_left
                          · intro w hSw
                            go_simp
                            try with_reducible rfl
                          simp only [Act.put, List.getElem_toArray, List.getElem_cons_zero, List.getElem_cons_succ, List.setIfInBounds_toArray, List.set_cons_zero, List.set_cons_succ]
                          refine wpAnyH_take (i := 10) (v := ?_) rfl (by kernel_rfl) (by kernel_rfl) (by kernel_rfl) (fun _ _ _ h => h) (Or.inl ⟨by rfl, ?_⟩) (by assumption) ?_
                          rotate_left
                          · intro w hSw
                            go_simp
                            try with_reducible rfl
                          simp only [Act.put, List.getElem_toArray, List.getElem_cons_zero, List.getElem_cons_succ, List.setIfInBounds_toArray, List.set_cons_zero, List.set_cons_succ]
                          refine wpAnyH_take (i := 11) (v := ?_) rfl (by kernel_rfl) (by kernel_rfl) (by kernel_rfl) (fun _ _ _ h => h) (Or.inl ⟨by rfl, ?_⟩) (by assumption) ?_
                          rotate_left
                          · intro w hSw
                            go_simp
                            try with_reducible rfl
                          simp only [Act.put, List.getElem_toArray, List.getElem_cons_zero, List.getElem_cons_succ, List.setIfInBounds_toArray, List.set_cons_zero, List.set_cons_succ]
                          refine wpAnyH_take (i := 12) (v := ?_) rfl (by kernel_rfl) (by kernel_rfl) (by kernel_rfl) (fun _ _ _ h => h) (Or.inl ⟨by rfl, ?_⟩) (by assumption) ?_
                          rotate_left
                          · intro w hSw
                            go_simp
                            try with_reducible rfl
                          simp only [Act.put, List.getElem_toArray, List.getElem_cons_zero, List.getElem_cons_succ, List.setIfInBounds_toArray, List.set_cons_zero, List.set_cons_succ]
                          refine wpAnyH_take (i := 13) (v := ?_) rfl (by kernel_rfl) (by kernel_rfl) (by kernel_rfl) (fun _ _ _ h => h) (Or.inl ⟨by rfl, ?_⟩) (by assumption) ?_
                          rotate_left
                          · intro w hSw
                            go_simp
                            try with_reducible rfl
                          simp only [Act.put, List.getElem_toArray, List.getElem_cons_zero, List.getElem_cons_succ, List.setIfInBounds_toArray, List.set_cons_zero, List.set_cons_succ]
                          refine wpAnyH_take (i := 14) (v := ?_) rfl (by kernel_rfl) (by kernel_rfl) (by kernel_rfl) (fun _ _ _ h => h) (Or.inl ⟨by rfl, ?_⟩) (by assumption) ?_
                          rotate_left
                          · intro w hSw
                            go_simp
                            try with_reducible rfl
                          simp only [Act.put, List.getElem_toArray, List.getElem_cons_zero, List.getElem_cons_succ, List.setIfInBounds_toArray, List.set_cons_zero, List.set_cons_succ]
                          refine wpAnyH_take (i := 15) (v := ?_) rfl (by kernel_rfl) (by kernel_rfl) (by kernel_rfl) (fun _ _ _ h => h) (Or.inl ⟨by rfl, ?_⟩) (by assumption) ?_
                          rotate_left
                          · intro w hSw
                            go_simp
                            try with_reducible rfl
                          simp only [Act.put, List.getElem_toArray, List.getElem_cons_zero, List.getElem_cons_succ, List.setIfInBounds_toArray, List.set_cons_zero, List.set_cons_succ]
                          refine wpAnyH_take (i := 16) (v := ?_) rfl (by kernel_rfl) (by kernel_rfl) (by kernel_rfl) (fun _ _ _ h => h) (Or.inl ⟨by rfl, ?_⟩) (by assumption) ?_
                          rotate_left
                          · intro w hSw
                            go_simp
                            try with_reducible rfl
                          simp only [Act.put, List.getElem_toArray, List.getElem_cons_zero, List.getElem_cons_succ, List.setIfInBounds_toArray, List.set_cons_zero, List.set_cons_succ]
                          refine wpAnyH_take (i := 17) (v := ?_) rfl (by kernel_rfl) (by kernel_rfl) (by kernel_rfl) (fun _ _ _ h => h) (Or.inl ⟨by rfl, ?_⟩) (by assumption) ?_
                          rotate_left
                          · intro w hSw
                            go_simp
                            try with_reducible rfl
                          simp only [Act.put, List.getElem_toArray, List.getElem_cons_zero, List.getElem_cons_succ, List.setIfInBounds_toArray, List.set_cons_zero, List.set_cons_succ]
                          refine wpAnyH_take (i := 18) (v := ?_) rfl (by kernel_rfl) (by kernel_rfl) (by kernel_rfl) (fun _ _ _ h => h) (Or.inl ⟨by rfl, ?_⟩) (by assumption) ?_
                          rotate_left
                          · intro w hSw
                            go_simp
                            try with_reducible rfl
                          simp only [Act.put, List.getElem_toArray, List.getElem_cons_zero, List.getElem_cons_succ, List.setIfInBounds_toArray, List.set_cons_zero, List.set_cons_succ]
                          refine wpAnyH_take (i := 19) (v := ?_) rfl (by kernel_rfl) (by kernel_rfl) (by kernel_rfl) (fun _ _ _ h => h) (Or.inl ⟨by rfl, ?_⟩) (by assumption) ?_
                          rotate_left
                          · intro w hSw
                            go_simp
                            try with_reducible rfl
                          simp only [Act.put, List.getElem_toArray, List.getElem_cons_zero, List.getElem_cons_succ, List.setIfInBounds_toArray, List.set_cons_zero, List.set_cons_succ]
                          refine wpAnyH_take (i := 20) (v := ?_) rfl (by kernel_rfl) (by kernel_rfl) (by kernel_rfl) (fun _ _ _ h => h) (Or.inl ⟨by rfl, ?_⟩) (by assumption) ?_
                          rotate_left
                          · intro w hSw
                            go_simp
                            try with_reducible rfl
                          simp only [Act.put, List.getElem_toArray, List.getElem_cons_zero, List.getElem_cons_succ, List.setIfInBounds_toArray, List.set_cons_zero, List.set_cons_succ]
                          refine wpAnyH_take (i := 21) (v := ?_) rfl (by kernel_rfl) (by kernel_rfl) (by kernel_rfl) (fun _ _ _ h => h) (Or.inl ⟨by rfl, ?_⟩) (by assumption) ?_
                          rotate_left
                          · intro w hSw
                            go_simp
                            try with_reducible rfl
                          simp only [Act.put, List.getElem_toArray, List.getElem_cons_zero, List.getElem_cons_succ, List.setIfInBounds_toArray, List.set_cons_zero, List.set_cons_succ]
                          refine wpAnyH_take (i := 22) (v := ?_) rfl (by kernel_rfl) (by kernel_rfl) (by kernel_rfl) (fun _ _ _ h => h) (Or.inl ⟨by rfl, ?_⟩) (by assumption) ?_
                          rotate_left
                          · intro w hSw
                            go_simp
                            try with_reducible rfl
                          simp only [Act.put, List.getElem_toArray, List.getElem_cons_zero, List.getElem_cons_succ, List.setIfInBounds_toArray, List.set_cons_zero, List.set_cons_succ]
                          refine wpAnyH_take (i := 23) (v := ?_) rfl (by kernel_rfl) (by kernel_rfl) (by kernel_rfl) (fun _ _ _ h => h) (Or.inl ⟨by rfl, ?_⟩) (by assumption) ?_
                          rotate_left
                          · intro w hSw
                            go_simp
                            try with_reducible rfl
                          simp only [Act.put, List.getElem_toArray, List.getElem_cons_zero, List.getElem_cons_succ, List.setIfInBounds_toArray, List.set_cons_zero, List.set_cons_succ]
                          refine wpAnyH_take (i := 24) (v := ?_) rfl (by kernel_rfl) (by kernel_rfl) (by kernel_rfl) (fun _ _ _ h => h) (Or.inl ⟨by rfl, ?_⟩) (by assumption) ?_
                          rotate_left
                          · intro w hSw
                            go_simp
                            try with_reducible rfl
                          simp only [Act.put, List.getElem_toArray, List.getElem_cons_zero, List.getElem_cons_succ, List.setIfInBounds_toArray, List.set_cons_zero, List.set_cons_succ]
                          refine wpAnyH_take (i := 25) (v := ?_) rfl (by kernel_rfl) (by kernel_rfl) (by kernel_rfl) (fun _ _ _ h => h) (Or.inl ⟨by rfl, ?_⟩) (by assumption) ?_
                          rotate_left
                          · intro w hSw
                            go_simp
                            try with_reducible rfl
                          simp only [Act.put, List.getElem_toArray, List.getElem_cons_zero, List.getElem_cons_succ, List.setIfInBounds_toArray, List.set_cons_zero, List.set_cons_succ]
                          refine wpAnyH_take (i := 26) (v := ?_) rfl (by kernel_rfl) (by kernel_rfl) (by kernel_rfl) (fun _ _ _ h => h) (Or.inl ⟨by rfl, ?_⟩) (by assumption) ?_
                          rotate_left
                          · intro w hSw
                            go_simp
                            try with_reducible rfl
                          simp only [Act.put, List.getElem_toArray, List.getElem_cons_zero, List.getElem_cons_succ, List.setIfInBounds_toArray, List.set_cons_zero, List.set_cons_succ]
                          refine wpAnyH_ready (rs := [27]) (by kernel_rfl) (by simp) ?_
                          refine AllReadyH.cons rfl (fun K hK => ?_) AllReadyH.nil
                          go_simp
                          refine HRF.out.mono ?_
                          rintro _ w9 ⟨rfl, hb9⟩
                          have HB9 := Aside0.mk hb9
                          clear hb9
                          refine hK.out _ _ ⟨pw_cell_below HB9.out cBj, pw_cell_below HB9.out cFj, pw_cell_below HB9.out cTj, pw_cell_below HB9.out a0, pw_cell_below HB9.out a1, pw_cell_below HB9.out a2, pw_cell_below HB9.out a3, pw_cell_below HB9.out a4, pw_cell_below HB9.out b0, pw_cell_below HB9.out b1, pw_cell_below HB9.out b2, pw_cell_below HB9.out b3, pw_cell_below HB9.out b4⟩ (fun hHeld2 => ?_)
                          clear hK K hHeld
                          have hHeld := hHeld2
                          clear hHeld2
                          try simp only [Act.put, List.getElem_toArray, List.getElem_cons_zero, List.getElem_cons_succ, List.setIfInBounds_toArray, List.set_cons_zero, List.set_cons_succ]
                          refine wpAnyH_take (i := 28) (v := ?_) rfl (by kernel_rfl) (by kernel_rfl) (by kernel_rfl) (fun _ _ _ h => h) (Or.inl ⟨by rfl, ?_⟩) (by assumption) ?_
                          rotate_left
                          · intro w hSw
                            go_simp
                            try with_reducible rfl
                          simp only [Act.put, List.getElem_toArray, List.getElem_cons_zero, List.getElem_cons_succ, List.setIfInBounds_toArray, List.set_cons_zero, List.set_cons_succ]
                          refine wpAnyH_take (i := 29) (v := ?_) rfl (by kernel_rfl) (by kernel_rfl) (by kernel_rfl) (fun _ _ _ h => h) (Or.inl ⟨by rfl, ?_⟩) (by assumption) ?_
                          rotate_left
                          · intro w hSw
                            go_simp
                            try with_reducible rfl
                          simp only [Act.put, List.getElem_toArray, List.getElem_cons_zero, List.getElem_cons_succ, List.setIfInBounds_toArray, List.set_cons_zero, List.set_cons_succ]
                          refine wpAnyH_take (i := 30) (v := ?_) rfl (by kernel_rfl) (by kernel_rfl) (by kernel_rfl) (fun _ _ _ h => h) (Or.inl ⟨by rfl, ?_⟩) (by assumption) ?_
                          rotate_left
                          · intro w hSw
                            go_simp
                            try with_reducible rfl
                          simp only [Act.put, List.getElem_toArray, List.getElem_cons_zero, List.getElem_cons_succ, List.setIfInBounds_toArray, List.set_cons_zero, List.set_cons_succ]
                          refine wpAnyH_done (by kernel_rfl) ?_ _
                          refine NoPanic.normal ?_
                          have HAR2 : Aside0 (AR w1 w9 gF gT gB n cF cT cB F T B (.slice A8 n8 c8) o) := ⟨(HAR.out.below (below_drew (Below.refl _ wr))).below HB9.out⟩
                          clear hHeld cBj cFj cTj a0 a1 a2 a3 a4 b0 b1 b2 b3 b4
                          go_wp2_with (fail)
                          go_roundg j
                          case measure => exact Nat.lt_succ_self _
                          case rel => exact ⟨_, rfl, ⟨rfl⟩, ⟨by have := HG.out; omega⟩, HS2, HAR2⟩

              case rest =>
                obtain ⟨rfl, HARc⟩ := hcut
                obtain ⟨wE, hwE⟩ : ∃ q, wc = q := ⟨_, rfl⟩
                rw [hwE] at HARc ⊢
                clear hwE HARD
                rcases hs : srch l F T B r i with _ | j
                case none =>
                  have HNX : Aside0 (RH l F T B (i + 1) o) := ⟨RH.next HRR.out HRI.out.hF HRI.out.hT HRI.out.hB HRI.out.f0 HRI.out.ft HMM.out.2.2.1 rfl (HRI.out.cl.trans (close_none hs)) HRI.out.pe HRI.out.so HRI.out.lo HRI.out.up HRI.out.dn⟩
                  clear hs
                  rw [show fitI none = -1 from rfl]
                  go_wp2_with (fail)
                  go_roundg gn
                  case measure => exact Nat.lt_succ_self _
                  case rel => exact ⟨i + 1, A8, n8, c8, F, T, B, o, by simp, rfl, ⟨by have := HK.out; omega⟩, HARc, HLO, HNX⟩
                case some =>
                  obtain ⟨hrk, hji, ⟨a, fj, tj⟩, hc⟩ := srch_inv hs
                  obtain ⟨c1, c2, c3, c4, c5, c6⟩ := cand_inv hc
                  have c1 : l[j]? = some a := c1
                  have c2 : F[j]? = some fj := c2
                  have c3 : T[j]? = some tj := c3
                  have c5 : fj ≠ tj := c5
                  have c6 : a.o = true := c6
                  obtain ⟨_, _, _, d1, d2, d3, d4, d5, d6⟩ := HRI.out.dn j hji
                  have e1 := c2.symm.trans d1
                  have e2 := c3.symm.trans d2
                  injection e1 with e1
                  injection e2 with e2
                  subst e1
                  subst e2
                  have hlt : fj < tj := by omega
                  have CJ : Aside0 (l[j]? = some a ∧ F[j]? = some fj ∧ T[j]? = some tj ∧ B[j]? = some false ∧ a.o = true ∧ r.k = true ∧ j < i ∧ candB l F T B j = some ⟨a, fj, tj⟩ ∧ srch l F T B r i = some j) := ⟨⟨c1, c2, c3, c4, c6, hrk, hji, hc, hs⟩⟩
                  have DJ : Aside0 (0 ≤ fj ∧ fj < tj ∧ tj ≤ 1048576) := ⟨⟨d4, hlt, d6⟩⟩
                  have j0 : (0 : Int) ≤ (j : Int) := by omega
                  have j1 : (j : Int) < (n : Int) := by have := HIN.out; omega
                  have j2 : ¬ (j : Int) < 0 := by omega
                  have hf0 := HRI.out.f0
                  have hfu := HFTL.out
                  have htu := HMM.out.2.2.1
                  have hw1 : IntKind.i64.wrap (tj - 1) = tj - 1 := IntWalk.i64_in _ (by omega)
                  have hw2 : IntKind.i64.wrap (f + 1) = f + 1 := IntWalk.i64_in _ (by omega)
                  have hw3 : IntKind.i64.wrap (tj - 2) = tj - 2 := IntWalk.i64_in _ (by omega)
                  have hw4 : IntKind.i64.wrap (f + 2) = f + 2 := IntWalk.i64_in _ (by omega)
                  have hw5 : IntKind.i64.wrap (tj - fj) = tj - fj := IntWalk.i64_in _ (by omega)
                  have hw6 : IntKind.i64.wrap (r.a + r.n - f) = r.a + r.n - f := IntWalk.i64_in _ (by have := HMM.out; omega)
                  have hw7 : IntKind.i64.wrap ((j : Int) + 1) = (j : Int) + 1 := IntWalk.i64_in _ (by omega)
                  rw [show fitI (some j) = (j : Int) from rfl]
                  clear hs hrk hji hc c1 c2 c3 c4 c5 c6 d1 d2 d3 d4 d5 d6 hlt hf0 hfu htu
                  go_upto_region 21 with (fail)
                  have t1 : wE.cell? ⟨gT, j, none⟩ = some (.int .i64 tj) := HARc.out.cT CJ.out.2.2.1
                  have t2 : wE.cell? ⟨gF, i, none⟩ = some (.int .i64 f) := HARc.out.cF HRI.out.hF
                  obtain ⟨d, hd⟩ : ∃ q, wE.heap.size = q := ⟨_, rfl⟩
                  obtain ⟨wy, hwy⟩ : ∃ q, wE.alloc (.cells #[.int .i64 0, .int .i64 0, .bool false] 40) = q := ⟨_, rfl⟩
                  have ny : wy.heap[d]? = some (.cells #[.int .i64 0, .int .i64 0, .bool false] 40 (0, 0)) := by rw [← hwy, ← hd]; exact heap_alloc_new _ _
                  have ly : Below wE.heap.size wE wy := by rw [← hwy]; exact below_alloc (Below.refl _ wE) _
                  have NY := Aside0.mk ny
                  have LY := Aside0.mk ly
                  have y0 : wy.cell? ⟨d, 0, none⟩ = some (.int .i64 0) := cell_of_row _ _ _ _ _ _ ny
                  have y1 : wy.cell? ⟨d, 1, none⟩ = some (.int .i64 0) := cell_of_row _ _ _ _ _ _ ny
                  have y2 : wy.cell? ⟨d, 2, none⟩ = some (.bool false) := cell_of_row _ _ _ _ _ _ ny
                  have fy := fun j => blk_frozen ny j
                  clear ny ly
                  refine wp_region_noPanic ?_
                  refine wp_region_last_drew (S := (fun w' => w'.cell? ⟨gT, j, none⟩ = some (.int .i64 tj) ∧ w'.cell? ⟨gF, i, none⟩ = some (.int .i64 f))) (ds := [12]) (by kernel_rfl) ?_ (fun hHeld => ?_)
                  · exact ⟨t1, t2⟩
                  refine wpAnyLast_take (i := 0) (v := ?_) rfl (by kernel_rfl) (by kernel_rfl) (by kernel_rfl) (by kernel_rfl) (by kernel_rfl) (fun _ _ _ h => h) (Or.inl ⟨by rfl, ?_⟩) (by assumption) ?_
                  rotate_left
                  · intro w hSw
                    go_simp
                    try with_reducible rfl
                  simp only [Act.put, List.getElem_toArray, List.getElem_cons_zero, List.getElem_cons_succ, List.setIfInBounds_toArray, List.set_cons_zero, List.set_cons_succ]
                  refine wpAnyLast_take (i := 1) (v := ?_) rfl (by kernel_rfl) (by kernel_rfl) (by kernel_rfl) (by kernel_rfl) (by kernel_rfl) (fun _ _ _ h => h) (Or.inl ⟨by rfl, ?_⟩) (by assumption) ?_
                  rotate_left
                  · intro w hSw
                    go_simp
                    try with_reducible rfl
                  simp only [Act.put, List.getElem_toArray, List.getElem_cons_zero, List.getElem_cons_succ, List.setIfInBounds_toArray, List.set_cons_zero, List.set_cons_succ]
                  refine wpAnyLast_take (i := 2) (v := ?_) rfl (by kernel_rfl) (by kernel_rfl) (by kernel_rfl) (by kernel_rfl) (by kernel_rfl) (fun _ _ _ h => h) (Or.inl ⟨by rfl, ?_⟩) (by assumption) ?_
                  rotate_left
                  · intro w hSw
                    go_simp
                    try with_reducible rfl
                  simp only [Act.put, List.getElem_toArray, List.getElem_cons_zero, List.getElem_cons_succ, List.setIfInBounds_toArray, List.set_cons_zero, List.set_cons_succ]
                  refine wpAnyLast_take (i := 3) (v := ?_) rfl (by kernel_rfl) (by kernel_rfl) (by kernel_rfl) (by kernel_rfl) (by kernel_rfl) (fun _ _ _ h => h) (Or.inl ⟨by rfl, ?_⟩) (by assumption) ?_
                  rotate_left
                  · intro w hSw
                    go_simp
                    try with_reducible rfl
                  simp only [Act.put, List.getElem_toArray, List.getElem_cons_zero, List.getElem_cons_succ, List.setIfInBounds_toArray, List.set_cons_zero, List.set_cons_succ]
                  refine wpAnyLast_take (i := 4) (v := ?_) rfl (by kernel_rfl) (by kernel_rfl) (by kernel_rfl) (by kernel_rfl) (by kernel_rfl) (fun _ _ _ h => h) (Or.inl ⟨by rfl, ?_⟩) (by assumption) ?_
                  rotate_left
                  · intro w hSw
                    go_simp
                    try with_reducible rfl
                  simp only [Act.put, List.getElem_toArray, List.getElem_cons_zero, List.getElem_cons_succ, List.setIfInBounds_toArray, List.set_cons_zero, List.set_cons_succ]
                  refine wpAnyLast_take (i := 5) (v := ?_) rfl (by kernel_rfl) (by kernel_rfl) (by kernel_rfl) (by kernel_rfl) (by kernel_rfl) (fun _ _ _ h => h) (Or.inl ⟨by rfl, ?_⟩) (by assumption) ?_
                  rotate_left
                  · intro w hSw
                    go_simp
                    try with_reducible rfl
                  simp only [Act.put, List.getElem_toArray, List.getElem_cons_zero, List.getElem_cons_succ, List.setIfInBounds_toArray, List.set_cons_zero, List.set_cons_succ]
                  refine wpAnyLast_take (i := 6) (v := ?_) rfl (by kernel_rfl) (by kernel_rfl) (by kernel_rfl) (by kernel_rfl) (by kernel_rfl) (fun _ _ _ h => h) (Or.inl ⟨by rfl, ?_⟩) (by assumption) ?_
                  rotate_left
                  · intro w hSw
                    go_simp
                    try with_reducible rfl
                  simp only [Act.put, List.getElem_toArray, List.getElem_cons_zero, List.getElem_cons_succ, List.setIfInBounds_toArray, List.set_cons_zero, List.set_cons_succ]
                  refine wpAnyLast_take (i := 7) (v := ?_) rfl (by kernel_rfl) (by kernel_rfl) (by kernel_rfl) (by kernel_rfl) (by kernel_rfl) (fun _ _ _ h => h) (Or.inl ⟨by rfl, ?_⟩) (by assumption) ?_
                  rotate_left
                  · intro w hSw
                    go_simp
                    try with_reducible rfl
                  simp only [Act.put, List.getElem_toArray, List.getElem_cons_zero, List.getElem_cons_succ, List.setIfInBounds_toArray, List.set_cons_zero, List.set_cons_succ]
                  refine wpAnyLast_take (i := 8) (v := ?_) rfl (by kernel_rfl) (by kernel_rfl) (by kernel_rfl) (by kernel_rfl) (by kernel_rfl) (fun _ _ _ h => h) (Or.inl ⟨by rfl, ?_⟩) (by assumption) ?_
                  rotate_left
                  · intro w hSw
                    go_simp
                    try with_reducible rfl
                  simp only [Act.put, List.getElem_toArray, List.getElem_cons_zero, List.getElem_cons_succ, List.setIfInBounds_toArray, List.set_cons_zero, List.set_cons_succ]
                  refine wpAnyLast_take (i := 9) (v := ?_) rfl (by kernel_rfl) (by kernel_rfl) (by kernel_rfl) (by kernel_rfl) (by kernel_rfl) (fun _ _ _ h => h) (Or.inl ⟨by rfl, ?_⟩) (by assumption) ?_
                  rotate_left
                  · intro w hSw
                    go_simp
                    try with_reducible rfl
                  simp only [Act.put, List.getElem_toArray, List.getElem_cons_zero, List.getElem_cons_succ, List.setIfInBounds_toArray, List.set_cons_zero, List.set_cons_succ]
                  refine wpAnyLast_take (i := 10) (v := ?_) rfl (by kernel_rfl) (by kernel_rfl) (by kernel_rfl) (by kernel_rfl) (by kernel_rfl) (fun _ _ _ h => h) (Or.inl ⟨by rfl, ?_⟩) (by assumption) ?_
                  rotate_left
                  · intro w hSw
                    go_simp
                    try with_reducible rfl
                  simp only [Act.put, List.getElem_toArray, List.getElem_cons_zero, List.getElem_cons_succ, List.setIfInBounds_toArray, List.set_cons_zero, List.set_cons_succ]
                  refine wpAnyLast_ready (rs := [11]) (by kernel_rfl) (by simp) ?_
                  refine AllReadyL.cons rfl (by decide) (fun K hK => ?_) AllReadyL.nil
                  go_simp
                  refine hK.out _ _ ⟨pw_cell_below LY.out t1, pw_cell_below LY.out t2⟩ (fun hHeld2 => ?_)
                  clear hK K hHeld
                  have hHeld := hHeld2
                  clear hHeld2
                  try simp only [Act.put, List.getElem_toArray, List.getElem_cons_zero, List.getElem_cons_succ, List.setIfInBounds_toArray, List.set_cons_zero, List.set_cons_succ]
                  refine wpAnyLast_ready (rs := [12]) (by kernel_rfl) (by simp) ?_
                  refine AllReadyL.cons_last rfl (by decide) (fun K hK => ?_) AllReadyL.nil
                  go_simp
                  refine hK.out _ _ ?_
                  clear hK K hHeld
                  try simp only [Act.put, List.getElem_toArray, List.getElem_cons_zero, List.getElem_cons_succ, List.setIfInBounds_toArray, List.set_cons_zero, List.set_cons_succ]
                  refine wpAnyLast_done (by kernel_rfl) ?_ _
                  refine NoPanic.normal ?_
                  obtain ⟨wz, hwz⟩ : ∃ q, (((wy.setCell ⟨d, 0, none⟩ (.int .i64 (tj - 1))).setCell ⟨d, 1, none⟩ (.int .i64 (f + 1))).setCell ⟨d, 2, none⟩ (.bool false)).drew = q := ⟨_, rfl⟩
                  rw [hwz]
                  have nz : wz.heap[d]? = some (.cells #[.int .i64 (tj - 1), .int .i64 (f + 1), .bool false] 40 (0, 0)) := by rw [← hwz]; exact three_row NY.out _ _ _
                  have lz : Below wE.heap.size wE wz := by rw [← hwz]; exact below_drew (((LY.out.setCell (p := ⟨d, 0, none⟩) (by rw [hd]; exact Nat.le_refl _) _).setCell (p := ⟨d, 1, none⟩) (by rw [hd]; exact Nat.le_refl _) _).setCell (p := ⟨d, 2, none⟩) (by rw [hd]; exact Nat.le_refl _) _)
                  have NZ := Aside0.mk nz
                  have LZ := Aside0.mk lz
                  have HARz := Aside0.mk (HARc.out.below lz)
                  have HDD := Aside0.mk hd
                  clear nz lz hwz hwy y0 y1 y2 fy t1 t2 hd
                  go_upto_region 22 with (fail)
                  have f1 := HARz.out.cF CJ.out.2.1
                  have t1 := HARz.out.cT CJ.out.2.2.1
                  have f2 := HARz.out.cF HRI.out.hF
                  have t2 := HARz.out.cT HRI.out.hT
                  go_cut [134] from 102 to 145 (fun v134 wc => v134 = .bool (decide (2 ≤ tj - fj ∧ 2 ≤ r.a + r.n - f)) ∧ Aside0 (∃ m, wc = wz.drewN m))
                  case first =>
                    by_cases q1 : 2 ≤ tj - fj
                    · by_cases q2 : 2 ≤ r.a + r.n - f
                      · have HD : Aside0 (decide (2 ≤ tj - fj ∧ 2 ≤ r.a + r.n - f) = true) := ⟨decide_eq_true ⟨q1, q2⟩⟩
                        go_quiet (fail)
                        go_wp2_with (fail)
                        go_meet
                        case rel => exact ⟨by rw [HD.out], ⟨_, rfl⟩⟩
                      · have HD : Aside0 (decide (2 ≤ tj - fj ∧ 2 ≤ r.a + r.n - f) = false) := ⟨decide_eq_false (fun h => q2 h.2)⟩
                        go_quiet (fail)
                        go_wp2_with (fail)
                        go_meet
                        case rel => exact ⟨by rw [HD.out], ⟨_, rfl⟩⟩
                    · have HD : Aside0 (decide (2 ≤ tj - fj ∧ 2 ≤ r.a + r.n - f) = false) := ⟨decide_eq_false (fun h => q1 h.1)⟩
                      go_quiet (fail)
                      go_wp2_with (fail)
                      go_meet
                      case rel => exact ⟨by rw [HD.out], ⟨_, rfl⟩⟩
                  case rest =>
                    obtain ⟨rfl, HMz⟩ := hcut
                    obtain ⟨m8, hm8⟩ := HMz.out
                    obtain ⟨wF, hwF⟩ : ∃ q, wc = q := ⟨_, rfl⟩
                    rw [hwF] at hm8 ⊢
                    have NF : Aside0 (wF.heap[d]? = some (.cells #[.int .i64 (tj - 1), .int .i64 (f + 1), .bool false] 40 (0, 0))) := ⟨by rw [hm8]; exact NZ.out⟩
                    have LF : Aside0 (Below wE.heap.size wE wF) := ⟨by rw [hm8]; exact pw_below_drewN LZ.out m8⟩
                    clear hm8 HMz hwF f1 t1 f2 t2 HARz
                    go_upto_if 134 with (fail)
                    go_cut [] from 102 to 145 (fun wG => Aside0 (Below wE.heap.size wE wG ∧ wG.heap[d]? = some (.cells #[.int .i64 (tj - twoB ⟨a, fj, tj⟩ ⟨r, f, r.a + r.n⟩), .int .i64 (f + twoB ⟨a, fj, tj⟩ ⟨r, f, r.a + r.n⟩), .bool (decide (twoB ⟨a, fj, tj⟩ ⟨r, f, r.a + r.n⟩ = 2))] 40 (0, 0))))
                    case first =>
                      by_cases q1 : 2 ≤ tj - fj ∧ 2 ≤ r.a + r.n - f
                      · have HT : Aside0 (twoB ⟨a, fj, tj⟩ ⟨r, f, r.a + r.n⟩ = 2) := ⟨if_pos q1⟩
                        rw [decide_eq_true q1]
                        clear q1
                        have HARf := HARc.out.below LF.out
                        have t1 := HARf.cT CJ.out.2.2.1
                        have t2 := HARf.cF HRI.out.hF
                        have y0 : wF.cell? ⟨d, 0, none⟩ = some (.int .i64 (tj - 1)) := cell_of_row _ _ _ _ _ _ NF.out
                        have y1 : wF.cell? ⟨d, 1, none⟩ = some (.int .i64 (f + 1)) := cell_of_row _ _ _ _ _ _ NF.out
                        have y2 : wF.cell? ⟨d, 2, none⟩ = some (.bool false) := cell_of_row _ _ _ _ _ _ NF.out
                        have fy := fun j => blk_frozen NF.out j
                        clear HARf
                        go_upto_region 23 with (fail)
                        refine wp_region_noPanic ?_
                        refine wp_region_last_drew (S := (fun w' => w'.cell? ⟨gT, j, none⟩ = some (.int .i64 tj) ∧ w'.cell? ⟨gF, i, none⟩ = some (.int .i64 f))) (ds := [11]) (by kernel_rfl) ?_ (fun hHeld => ?_)
                        · exact ⟨t1, t2⟩
                        refine wpAnyLast_take (i := 0) (v := ?_) rfl (by kernel_rfl) (by kernel_rfl) (by kernel_rfl) (by kernel_rfl) (by kernel_rfl) (fun _ _ _ h => h) (Or.inl ⟨by rfl, ?_⟩) (by assumption) ?_
                        rotate_left
                        · intro w hSw
                          go_simp
                          try with_reducible rfl
                        simp only [Act.put, List.getElem_toArray, List.getElem_cons_zero, List.getElem_cons_succ, List.setIfInBounds_toArray, List.set_cons_zero, List.set_cons_succ]
                        refine wpAnyLast_take (i := 1) (v := ?_) rfl (by kernel_rfl) (by kernel_rfl) (by kernel_rfl) (by kernel_rfl) (by kernel_rfl) (fun _ _ _ h => h) (Or.inl ⟨by rfl, ?_⟩) (by assumption) ?_
                        rotate_left
                        · intro w hSw
                          go_simp
                          try with_reducible rfl
                        simp only [Act.put, List.getElem_toArray, List.getElem_cons_zero, List.getElem_cons_succ, List.setIfInBounds_toArray, List.set_cons_zero, List.set_cons_succ]
                        refine wpAnyLast_take (i := 2) (v := ?_) rfl (by kernel_rfl) (by kernel_rfl) (by kernel_rfl) (by kernel_rfl) (by kernel_rfl) (fun _ _ _ h => h) (Or.inl ⟨by rfl, ?_⟩) (by assumption) ?_
                        rotate_left
                        · intro w hSw
                          go_simp
                          try with_reducible rfl
                        simp only [Act.put, List.getElem_toArray, List.getElem_cons_zero, List.getElem_cons_succ, List.setIfInBounds_toArray, List.set_cons_zero, List.set_cons_succ]
                        refine wpAnyLast_take (i := 3) (v := ?_) rfl (by kernel_rfl) (by kernel_rfl) (by kernel_rfl) (by kernel_rfl) (by kernel_rfl) (fun _ _ _ h => h) (Or.inl ⟨by rfl, ?_⟩) (by assumption) ?_
                        rotate_left
                        · intro w hSw
                          go_simp
                          try with_reducible rfl
                        simp only [Act.put, List.getElem_toArray, List.getElem_cons_zero, List.getElem_cons_succ, List.setIfInBounds_toArray, List.set_cons_zero, List.set_cons_succ]
                        refine wpAnyLast_take (i := 4) (v := ?_) rfl (by kernel_rfl) (by kernel_rfl) (by kernel_rfl) (by kernel_rfl) (by kernel_rfl) (fun _ _ _ h => h) (Or.inl ⟨by rfl, ?_⟩) (by assumption) ?_
                        rotate_left
                        · intro w hSw
                          go_simp
                          try with_reducible rfl
                        simp only [Act.put, List.getElem_toArray, List.getElem_cons_zero, List.getElem_cons_succ, List.setIfInBounds_toArray, List.set_cons_zero, List.set_cons_succ]
                        refine wpAnyLast_take (i := 5) (v := ?_) rfl (by kernel_rfl) (by kernel_rfl) (by kernel_rfl) (by kernel_rfl) (by kernel_rfl) (fun _ _ _ h => h) (Or.inl ⟨by rfl, ?_⟩) (by assumption) ?_
                        rotate_left
                        · intro w hSw
                          go_simp
                          try with_reducible rfl
                        simp only [Act.put, List.getElem_toArray, List.getElem_cons_zero, List.getElem_cons_succ, List.setIfInBounds_toArray, List.set_cons_zero, List.set_cons_succ]
                        refine wpAnyLast_take (i := 6) (v := ?_) rfl (by kernel_rfl) (by kernel_rfl) (by kernel_rfl) (by kernel_rfl) (by kernel_rfl) (fun _ _ _ h => h) (Or.inl ⟨by rfl, ?_⟩) (by assumption) ?_
                        rotate_left
                        · intro w hSw
                          go_simp
                          try with_reducible rfl
                        simp only [Act.put, List.getElem_toArray, List.getElem_cons_zero, List.getElem_cons_succ, List.setIfInBounds_toArray, List.set_cons_zero, List.set_cons_succ]
                        refine wpAnyLast_take (i := 7) (v := ?_) rfl (by kernel_rfl) (by kernel_rfl) (by kernel_rfl) (by kernel_rfl) (by kernel_rfl) (fun _ _ _ h => h) (Or.inl ⟨by rfl, ?_⟩) (by assumption) ?_
                        rotate_left
                        · intro w hSw
                          go_simp
                          try with_reducible rfl
                        simp only [Act.put, List.getElem_toArray, List.getElem_cons_zero, List.getElem_cons_succ, List.setIfInBounds_toArray, List.set_cons_zero, List.set_cons_succ]
                        refine wpAnyLast_take (i := 8) (v := ?_) rfl (by kernel_rfl) (by kernel_rfl) (by kernel_rfl) (by kernel_rfl) (by kernel_rfl) (fun _ _ _ h => h) (Or.inl ⟨by rfl, ?_⟩) (by assumption) ?_
                        rotate_left
                        · intro w hSw
                          go_simp
                          try with_reducible rfl
                        simp only [Act.put, List.getElem_toArray, List.getElem_cons_zero, List.getElem_cons_succ, List.setIfInBounds_toArray, List.set_cons_zero, List.set_cons_succ]
                        refine wpAnyLast_take (i := 9) (v := ?_) rfl (by kernel_rfl) (by kernel_rfl) (by kernel_rfl) (by kernel_rfl) (by kernel_rfl) (fun _ _ _ h => h) (Or.inl ⟨by rfl, ?_⟩) (by assumption) ?_
                        rotate_left
                        · intro w hSw
                          go_simp
                          try with_reducible rfl
                        simp only [Act.put, List.getElem_toArray, List.getElem_cons_zero, List.getElem_cons_succ, List.setIfInBounds_toArray, List.set_cons_zero, List.set_cons_succ]
                        refine wpAnyLast_take (i := 10) (v := ?_) rfl (by kernel_rfl) (by kernel_rfl) (by kernel_rfl) (by kernel_rfl) (by kernel_rfl) (fun _ _ _ h => h) (Or.inl ⟨by rfl, ?_⟩) (by assumption) ?_
                        rotate_left
                        · intro w hSw
                          go_simp
                          try with_reducible rfl
                        simp only [Act.put, List.getElem_toArray, List.getElem_cons_zero, List.getElem_cons_succ, List.setIfInBounds_toArray, List.set_cons_zero, List.set_cons_succ]
                        refine wpAnyLast_ready (rs := [11]) (by kernel_rfl) (by simp) ?_
                        refine AllReadyL.cons_last rfl (by decide) (fun K hK => ?_) AllReadyL.nil
                        go_simp
                        refine hK.out _ _ ?_
                        clear hK K hHeld
                        try simp only [Act.put, List.getElem_toArray, List.getElem_cons_zero, List.getElem_cons_succ, List.setIfInBounds_toArray, List.set_cons_zero, List.set_cons_succ]
                        refine wpAnyLast_done (by kernel_rfl) ?_ _
                        refine NoPanic.normal ?_
                        go_wp2_with (fail)
                        go_meet
                        case rel => exact ⟨below_drew (((LF.out.setCell (p := ⟨d, 0, none⟩) (by rw [HDD.out]; exact Nat.le_refl _) _).setCell (p := ⟨d, 1, none⟩) (by rw [HDD.out]; exact Nat.le_refl _) _).setCell (p := ⟨d, 2, none⟩) (by rw [HDD.out]; exact Nat.le_refl _) _), by rw [HT.out]; exact three_row NF.out _ _ _⟩
                      · have HT : Aside0 (twoB ⟨a, fj, tj⟩ ⟨r, f, r.a + r.n⟩ = 1) := ⟨if_neg q1⟩
                        rw [decide_eq_false q1]
                        clear q1
                        go_wp2_with (fail)
                        go_meet
                        case rel => exact ⟨LF.out, by rw [HT.out]; exact NF.out⟩
                    case rest =>
                      have hcc := hcut.out
                      obtain ⟨wG, hwG⟩ : ∃ q, wc = q := ⟨_, rfl⟩
                      rw [hwG] at hcc ⊢
                      obtain ⟨lg, ng⟩ := hcc
                      obtain ⟨tb, htb⟩ : ∃ q, twoB ⟨a, fj, tj⟩ ⟨r, f, r.a + r.n⟩ = q := ⟨_, rfl⟩
                      rw [htb] at ng
                      have HTB := Aside0.mk htb
                      have HTP : Aside0 (1 ≤ tb ∧ tb ≤ 2) := ⟨by rw [← htb]; exact twoB_pos _ _⟩
                      have HTI : Aside0 (fj ≤ tj - tb ∧ f + tb ≤ r.a + r.n) := ⟨by rw [← htb]; exact twoB_in' (y := ⟨a, fj, tj⟩) (X := ⟨r, f, r.a + r.n⟩) DJ.out.2.1 HFTL.out⟩
                      have HARg := HARc.out.below lg
                      have hjn : j < n := by have := CJ.out.2.2.2.2.2.2.1; have := HIN.out; omega
                      have hdT : d ≠ gT := fun e => by
                        obtain ⟨cs, hcs⟩ := one_block HARc.out.rT
                        have := blk_lt hcs
                        rw [HDD.out] at this
                        omega
                      have hdF : d ≠ gF := fun e => by
                        obtain ⟨cs, hcs⟩ := one_block HARc.out.rF
                        have := blk_lt hcs
                        rw [HDD.out] at this
                        omega
                      have g0 : wG.cell? ⟨d, 0, none⟩ = some (.int .i64 (tj - tb)) := cell_of_row _ _ _ _ _ _ ng
                      have ct := HARg.cT CJ.out.2.2.1
                      have ft := fun q => (HARg.frz q).2.1
                      obtain ⟨wH, hwH⟩ : ∃ q, wG.setCell ⟨gT, j, none⟩ (.int .i64 (tj - tb)) = q := ⟨_, rfl⟩
                      have HARh : AR w1 wH gF gT gB n cF cT cB F (T.set j (tj - tb)) B (.slice A8 n8 c8) o := by rw [← hwH]; exact HARg.setT hjn (tj - tb)
                      have nh : wH.heap[d]? = some (.cells #[.int .i64 (tj - tb), .int .i64 (f + tb), .bool (decide (tb = 2))] 40 (0, 0)) := by rw [← hwH]; exact blk_far ng hdT _
                      have h1 : wH.cell? ⟨d, 1, none⟩ = some (.int .i64 (f + tb)) := cell_of_row _ _ _ _ _ _ nh
                      have cf := HARh.cF HRI.out.hF
                      have ff := fun q => (HARh.frz q).1
                      obtain ⟨wI, hwI⟩ : ∃ q, wH.setCell ⟨gF, i, none⟩ (.int .i64 (f + tb)) = q := ⟨_, rfl⟩
                      have HARi : Aside0 (AR w1 wI gF gT gB n cF cT cB (F.set i (f + tb)) (T.set j (tj - tb)) B (.slice A8 n8 c8) o) := ⟨by rw [← hwI]; exact HARh.setF HIN.out (f + tb)⟩
                      have NI : Aside0 (wI.heap[d]? = some (.cells #[.int .i64 (tj - tb), .int .i64 (f + tb), .bool (decide (tb = 2))] 40 (0, 0))) := ⟨by rw [← hwI]; exact blk_far nh hdF _⟩
                      have HJI : Aside0 (j < i) := ⟨CJ.out.2.2.2.2.2.2.1⟩
                      clear hcut hwG lg ng htb HARg HARh hjn hdT hdF nh
                      go_upto_block 8 with (fail)
                      clear g0 ct ft hwH h1 cf ff hwI
                      go_cut [] from 158 to 162 (fun wc => ∃ B' : List Bool, Aside0 (AR w1 wc gF gT gB n cF cT cB (F.set i (f + tb)) (T.set j (tj - tb)) B' (.slice A8 n8 c8) o) ∧ Aside0 (wc.heap[d]? = some (.cells #[.int .i64 (tj - tb), .int .i64 (f + tb), .bool (decide (tb = 2))] 40 (0, 0))) ∧ Aside0 (∀ q, (q ≤ j ∨ i ≤ q → B'[q]? = B[q]?) ∧ (j < q → q < i → B'[q]? = some true)))
                      case first =>
                        go_wp2_with (fail)
                        go_loopg [12] (i - j - 1) (fun gk v12 wr => ∃ (m : Nat) (B' : List Bool), v12 = .int .i64 (m : Int) ∧ Aside0 (m + gk = i ∧ j < m) ∧ Aside0 (AR w1 wr gF gT gB n cF cT cB (F.set i (f + tb)) (T.set j (tj - tb)) B' (.slice A8 n8 c8) o) ∧ Aside0 (wr.heap[d]? = some (.cells #[.int .i64 (tj - tb), .int .i64 (f + tb), .bool (decide (tb = 2))] 40 (0, 0))) ∧ Aside0 (∀ q, (q ≤ j ∨ m ≤ q → B'[q]? = B[q]?) ∧ (j < q → q < m → B'[q]? = some true)))
                        case atStart => exact ⟨j + 1, B, by simp, ⟨by have := HJI.out; omega⟩, HARi, NI, ⟨fun q => ⟨fun _ => rfl, fun h1 h2 => by omega⟩⟩⟩
                        case round =>
                          clear HARi NI
                          obtain ⟨m, B', rfl, HM8, HARm, NM, HQ⟩ := hrel
                          by_cases hmi : m < i
                          case neg =>
                            have hmm : ¬ ((m : Int) < (i : Int)) := by omega
                            obtain rfl : m = i := by have := HM8.out; omega
                            go_wp2_with (fail)
                            go_meet
                            case rel => exact ⟨B', HARm, NM, HQ⟩
                          case pos =>
                            obtain ⟨gm, rfl⟩ : ∃ gm, gk = gm + 1 := ⟨gk - 1, by have := HM8.out; omega⟩
                            have m0 : (0 : Int) ≤ (m : Int) := by omega
                            have m1 : (m : Int) < (n : Int) := by have := HIN.out; omega
                            have m2 : (m : Int) < (i : Int) := by omega
                            have hwm2 : IntKind.i64.wrap ((m : Int) + 1) = (m : Int) + 1 := IntWalk.i64_in _ (by have := HIN.out; omega)
                            obtain ⟨bm, hbm⟩ : ∃ bm, B'[m]? = some bm := ⟨_, List.getElem?_eq_getElem (by rw [HARm.out.lB]; have := HIN.out; omega)⟩
                            have cb := HARm.out.cB hbm
                            have fb := fun q => (HARm.out.frz q).2.2
                            have HMN : Aside0 (m < n ∧ m < i) := ⟨by have := HIN.out; omega⟩
                            have hdB : d ≠ gB := fun e => by
                              obtain ⟨cs, hcs⟩ := one_block HARc.out.rB
                              have := blk_lt hcs
                              rw [HDD.out] at this
                              omega
                            have HDB := Aside0.mk hdB
                            clear hbm hdB hmi
                            go_wp2_with (fail)
                            go_roundg gm
                            case measure => exact Nat.lt_succ_self _
                            case rel => exact ⟨m + 1, B'.set m true, by simp, ⟨by have := HM8.out; omega⟩, ⟨HARm.out.setB HMN.out.1 true⟩, ⟨blk_far NM.out HDB.out _⟩, ⟨fun q => ⟨fun h => by
                              rw [List.getElem?_set_ne (by have := HM8.out; omega)]
                              exact (HQ.out q).1 (by omega), fun h1 h2 => by
                              by_cases e : q = m
                              · rw [e, List.getElem?_set_self (by rw [HARm.out.lB]; exact HMN.out.1)]
                              · rw [List.getElem?_set_ne (fun h => e h.symm)]
                                exact (HQ.out q).2 h1 (by omega)⟩⟩⟩
                      case rest =>
                        obtain ⟨B', HARj, NJ, HQ⟩ := hcut
                        obtain ⟨wJ, hwJ⟩ : ∃ q, wc = q := ⟨_, rfl⟩
                        rw [hwJ] at HARj NJ ⊢
                        clear hwJ HARi NI HARc NF NZ LZ LF NY LY
                        have z0 : wJ.cell? ⟨d, 0, none⟩ = some (.int .i64 (tj - tb)) := cell_of_row _ _ _ _ _ _ NJ.out
                        have z1 : wJ.cell? ⟨d, 1, none⟩ = some (.int .i64 (f + tb)) := cell_of_row _ _ _ _ _ _ NJ.out
                        have z2 : wJ.cell? ⟨d, 2, none⟩ = some (.bool (decide (tb = 2))) := cell_of_row _ _ _ _ _ _ NJ.out
                        go_upto_region 30 with (fail)
                        go_wp2_with (fail)
                        refine (put_c A8 n8 c8 o ⟨tj - tb, f + tb, decide (tb = 2)⟩ wJ _ HARj.out.rO (by have h1 := HRI.out.lo; have h2 := HLO.out; have h3 := HRI.out.ft; have h4 := HMM.out; omega)).mono ?_
                        rintro _ w9 ⟨A9, n9, c9, R, rfl, hR, hRn, hRp, hRs, hb9⟩
                        have HAR9 : Aside0 (AR w1 w9 gF gT gB n cF cT cB (F.set i (f + tb)) (T.set j (tj - tb)) B' (.slice A9 n9 c9) R) := ⟨by
                          have h := HARj.out.below hb9
                          exact ⟨h.rF, h.rT, h.rB, kd_mono hR (fun q hq => Nat.le_trans HARj.out.bel.size (hR.1 q hq)), h.ne, h.lF, h.lT, h.lB, h.bel⟩⟩
                        have HLO9 : Aside0 (R.length = n9) := ⟨hRn⟩
                        have HRI9 : Aside0 (RI l (F.set i (f + tb)) (T.set j (tj - tb)) B' i r R (oc ++ [⟨tj - tb, f + tb, decide (tb = 2)⟩]) (f + tb) gj) := ⟨by
                          have hln := HL.out.1
                          have hlF : F.length = l.length := by rw [hln]; have := HARj.out.lF; rw [List.length_set] at this; exact this
                          have hlT : T.length = l.length := by rw [hln]; have := HARj.out.lT; rw [List.length_set] at this; exact this
                          have hin := HIN.out
                          have hji := HJI.out
                          have htp := HTP.out
                          have hti := HTI.out
                          obtain ⟨q1, q2, q3, q4, q5, q6, q7, q8, q9⟩ := CJ.out
                          refine ⟨?_, ?_, ?_, ?_, ?_, hti.2, ?_, ?_, hRs HRI.out.so, ?_, ?_, ?_⟩
                          · exact HRI.out.cl.trans (close_hit q9 q7 q8 q6 HFTL.out HTB.out.symm q1 q2 q3 q4 q5 (by omega) hlF hlT (fun q hq => (HQ.out q).1 (.inl hq)) (fun q h1 h2 => (HQ.out q).2 h1 h2))
                          · exact List.getElem?_set_self (by omega)
                          · rw [List.getElem?_set_ne (by omega)]; exact HRI.out.hT
                          · rw [(HQ.out i).1 (.inr (Nat.le_refl _))]; exact HRI.out.hB
                          · have := HRI.out.f0; omega
                          · have := HRI.out.fu; omega
                          · exact hRp.trans (HRI.out.pe.append_right _)
                          · have h1 := hRp.length_eq
                            rw [List.length_append, List.length_singleton] at h1
                            have h2 := HRI.out.lo
                            omega
                          · intro q r' h1 h2
                            obtain ⟨u1, u2, u3⟩ := HRI.out.up q r' h1 h2
                            exact ⟨by rw [List.getElem?_set_ne (by omega)]; exact u1, by rw [List.getElem?_set_ne (by omega)]; exact u2, by rw [(HQ.out q).1 (.inr (by omega))]; exact u3⟩
                          · intro q hq
                            obtain ⟨f', t', b', u1, u2, u3, u4, u5, u6⟩ := HRI.out.dn q hq
                            by_cases e : q = j
                            · subst e
                              have hd := DJ.out
                              exact ⟨fj, tj - tb, false, by rw [List.getElem?_set_ne (by omega)]; exact q2, List.getElem?_set_self (by omega), by rw [(HQ.out q).1 (.inl (Nat.le_refl _))]; exact q4, hd.1, hti.1, by omega⟩
                            · rcases Nat.lt_or_ge q j with h1 | h1
                              · exact ⟨f', t', b', by rw [List.getElem?_set_ne (by omega)]; exact u1, by rw [List.getElem?_set_ne (by omega)]; exact u2, by rw [(HQ.out q).1 (.inl (by omega))]; exact u3, u4, u5, u6⟩
                              · exact ⟨f', t', true, by rw [List.getElem?_set_ne (by omega)]; exact u1, by rw [List.getElem?_set_ne (by omega)]; exact u2, (HQ.out q).2 (by omega) hq, u4, u5, u6⟩⟩
                        clear hR hRn hRp hRs hb9 z0 z1 z2 NJ HARj HQ
                        go_wp2_with (fail)
                        go_roundg gj
                        case measure => exact Nat.lt_succ_self _
                        case rel => exact ⟨A9, n9, c9, _, _, B', R, _, _, rfl, HAR9, HLO9, HRI9⟩
end Go.Proofs.Ytjfpkldknchnkaa.Me
