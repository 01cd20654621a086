/- The document's Move walked. -/
import Derived.Test.YtcbddmmoioggaaaMo
namespace Go.Proofs.Ytcbddmmoioggaaa.Sp
open Go.RowKit Go.Shelf Go.Proofs.YtcbddmmoioggaaaW.PrintWords Go.Proofs.YtcbddmmoioggaaaW.PrintLast Go.Proofs.YtcbddmmoioggaaaW.PrintMore
attribute [local go_sem] max2_int min2_int max_two min_two max_three min_three max_four min_four
set_option linter.unusedVariables false
set_option linter.unusedSimpArgs false
theorem Bx.grown {w w' : World} {b : Nat} {e : Ed} {o : Option Nat} (h : Bx w b e) (hg : w.grownBy w' o) (hl : b < w.heap.size) (hne : some b ≠ o) : Bx w' b e := by
  have k : ∀ i v, w.cell? ⟨b, i, none⟩ = some v → w'.cell? ⟨b, i, none⟩ = some v := fun i v hv => by
    unfold World.cell? at hv ⊢
    rw [show w'.heap[b]? = w.heap[b]? from hg.block b hl hne]
    exact hv
  exact ⟨k _ _ h.p, k _ _ h.d, k _ _ h.s⟩
theorem Bx.set {w : World} {b g i : Nat} {e : Ed} {u : Value} (h : Bx w b e) (hne : b ≠ g) : Bx (w.setCell ⟨g, i, none⟩ u) b e := by
  have k : ∀ j v, w.cell? ⟨b, j, none⟩ = some v → (w.setCell ⟨g, i, none⟩ u).cell? ⟨b, j, none⟩ = some v := fun j v hv => by
    unfold World.cell? at hv ⊢
    rw [show (w.setCell ⟨g, i, none⟩ u).heap[b]? = w.heap[b]? from Below.heap_setCell w ⟨g, i, none⟩ u b hne]
    exact hv
  exact ⟨k _ _ h.p, k _ _ h.d, k _ _ h.s⟩
theorem flat_take {l : List Rg} {k : Nat} {y : Rg} (f : Rg → List Rg) (hy : l[k]? = some y) : (l.take (k + 1)).flatMap f = (l.take k).flatMap f ++ f y := by
  rw [take_snoc hy, List.flatMap_append]
  simp
theorem cutL_len (e : Ed) (r : Rg) : (cutL e r).length ≤ 2 := by unfold cutL; split <;> simp
set_option maxRecDepth 100000 in
set_option maxHeartbeats 4000000 in
theorem rmove_ok (A : Option Addr) (n c : Nat) (l : List Rg) (e : Ed) (w : World) (ok : Ok e) (hA : ReadsRow RRg 2 w A n l) (hn : n ≤ 1000) : Calls Try.prog 23 #[.slice A n c, .agg (edc e)] w fun en w' => MvP w e l en w' := by
  obtain ⟨wx, hwx⟩ : ∃ q, w.alloc (.cells (edc e) 35) = q := ⟨_, rfl⟩
  obtain ⟨b, hb⟩ : ∃ q, w.heap.size = q := ⟨_, rfl⟩
  have hx : Bx wx b e := by rw [← hwx, ← hb]; exact Bx.of
  have hbx : Below w.heap.size w wx := by rw [← hwx]; exact below_alloc (Below.refl _ w) _
  have hbs : b < wx.heap.size := blk_lt (show wx.heap[b]? = some (.cells (edc e) 35 (0, 0)) by rw [← hwx, ← hb]; exact heap_alloc_new _ _)
  obtain ⟨e0, e1, e2⟩ := hx
  have HBX := Aside0.mk hbx
  have HBS := Aside0.mk hbs
  have HOK := Aside0.mk ok
  have okp := ok.p
  have okd := ok.d
  have oki := ok.i
  have hi : ((e.s.size : Nat) : Int) = e.i := rfl
  have HI := Aside0.mk hi
  have q0 : ¬ e.p < 0 := by omega
  have q1 : ¬ (1048576 : Int) < e.p := by omega
  have q2 : ¬ e.d < 0 := by omega
  have q3 : ¬ (1048576 : Int) < e.d := by omega
  have q4 : ¬ (1048576 : Int) < ((e.s.size : Nat) : Int) := by rw [hi]; omega
  have w1 : IntKind.i64.wrap (e.p + e.d) = e.p + e.d := IntWalk.i64_in _ (by omega)
  have w2 : IntKind.i64.wrap (e.p + ((e.s.size : Nat) : Int)) = e.p + ((e.s.size : Nat) : Int) := IntWalk.i64_in _ (by rw [hi]; omega)
  have w3 : IntKind.i64.wrap (e.p - 1) = e.p - 1 := IntWalk.i64_in _ (by omega)
  have HA := Aside0.mk (rgs_below hA hbx)
  have HLN := Aside0.mk hA.1
  clear ok hbx okp okd oki hi hA hbs
  go_enter Try.func23, Try.ntmps23
  go_wp2_with (refine (rof1_c A n c l (some ⟨wx.heap.size, 0, none⟩) 1 1 [⟨e.p, e.p + e.d⟩] _ (rgs_below HA.out (below_alloc (Below.refl _ wx) _)) (lit1 wx ⟨e.p, e.p + e.d⟩) (by omega)).mono ?_)
  rintro _ w4 ⟨v4, R1, rfl, hr1, hf1, hh1, hl1, hb4⟩
  obtain ⟨A4, c4, rfl, _, hC1⟩ := Kd.R_reads hr1
  obtain ⟨n4, hn4⟩ : ∃ q, R1.length = q := ⟨_, rfl⟩
  rw [hn4] at hC1 hl1 ⊢
  have hb04 : Below wx.heap.size wx w4 := by
    have h1 := below_alloc (Below.refl wx.heap.size wx) (.cells (rgc ⟨e.p, e.p + e.d⟩) 31)
    exact h1.trans (hb4.mono h1.size)
  have HR1 : Aside0 (ReadsRow RRg 2 w4 A4 n4 R1) := ⟨hC1⟩
  have HF1 := Aside0.mk hf1
  have HH1 := Aside0.mk hh1
  have HN4 := Aside0.mk hn4
  have hn48 : n4 ≤ 2002 := by have := HLN.out; simp only [List.length_cons, List.length_nil] at hl1; omega
  have HL1 : Aside0 (n4 ≤ 2 * n + 2) := ⟨by have := HLN.out; simp only [List.length_cons, List.length_nil] at hl1; omega⟩
  have HA4 := Aside0.mk (rgs_below HA.out hb04)
  have HX4 := Aside0.mk ((show Bx wx b e from ⟨e0, e1, e2⟩).keep hb04 HBS.out)
  have HB4 : Aside0 (Below w.heap.size w w4) := ⟨HBX.out.trans (hb04.mono HBX.out.size)⟩
  have HBS4 : Aside0 (b < w4.heap.size) := ⟨Nat.lt_of_lt_of_le HBS.out hb04.size⟩
  clear e0 e1 e2 hr1 hf1 hh1 hl1 hb4 hC1 hn4 hb04 HA HBS HBX hwx q0 q1 q2 q3 q4
  go_upto_block 0 with (fail)
  go_wp2_with (fail)
  go_loopg [7, 8] n4 (fun gk v7 v8 wr => ∃ (k n7 c7 : Nat) (A7 : Option Addr), v8 = .int .i64 (k : Int) ∧ v7 = .slice A7 n7 c7 ∧ Aside0 (k + gk = n4) ∧ Aside0 (Below w4.heap.size w4 wr) ∧ Aside0 (kR.R 31 wr 0 (fun j => w4.heap.size ≤ j) (.slice A7 n7 c7) ((R1.take k).flatMap (cutL e))) ∧ Aside0 (((R1.take k).flatMap (cutL e)).length = n7) ∧ Aside0 (n7 ≤ 2 * k))
  case atStart => exact ⟨0, 0, 0, none, rfl, rfl, ⟨by omega⟩, ⟨Below.refl _ _⟩, ⟨Kd.R_nil _ _ _ _ _⟩, ⟨rfl⟩, ⟨by omega⟩⟩
  case round =>
    obtain ⟨k, n7, c7, A7, rfl, rfl, HK, HB, HR, HL, HQ⟩ := hrel
    obtain ⟨LT, hLT⟩ : ∃ q, (R1.take k).flatMap (cutL e) = q := ⟨_, rfl⟩
    rw [hLT] at HR HL
    have HLT := Aside0.mk hLT
    clear hLT
    by_cases hkn : k < n4
    · obtain ⟨gn, rfl⟩ : ∃ gn, gk = gn + 1 := ⟨gk - 1, by have := HK.out; omega⟩
      obtain ⟨y, hy⟩ : ∃ y, R1[k]? = some y := ⟨_, List.getElem?_eq_getElem (by rw [HN4.out]; exact hkn)⟩
      obtain ⟨ad, hAd, _⟩ := HR1.out.2.2 (by omega)
      subst hAd
      obtain ⟨c0, c1⟩ := rg_at (rgs_below HR1.out HB.out) hy
      have p0 : (0 : Int) ≤ (k : Int) := by omega
      have p1 : (k : Int) < (n4 : Int) := by omega
      have hw1 : IntKind.i64.wrap ((k : Int) + 1) = (k : Int) + 1 := IntWalk.i64_in _ (by omega)
      have HY := Aside0.mk hy
      have hn78 : n7 ≤ 5000 := by have := HQ.out; omega
      clear hy
      go_upto_region 10 with (fail)
      obtain ⟨wy, hwy⟩ : ∃ q, wr.alloc (.cells #[.int .i64 y.f, .int .i64 y.t] 31) = q := ⟨_, rfl⟩
      rw [hwy]
      obtain ⟨bx, hbx⟩ : ∃ q, wr.heap.size = q := ⟨_, rfl⟩
      have hbxr : wy.heap[bx]? = some (.cells #[.int .i64 y.f, .int .i64 y.t] 31 (0, 0)) := by rw [← hwy, ← hbx]; exact heap_alloc_new _ _
      have hby : Below wr.heap.size wr wy := by rw [← hwy]; exact below_alloc (Below.refl _ wr) _
      have HRY := Aside0.mk (Kd.R_below HR.out hby)
      have HOW : Aside0 (∀ j, (Value.slice A7 n7 c7).ownBlock = some j → j ≠ bx) := ⟨fun j hj => by have := Kd.R_lt HR.out j hj; omega⟩
      have HXY := Aside0.mk ((HX4.out.keep HB.out HBS4.out).keep hby (Nat.lt_of_lt_of_le HBS4.out HB.out.size))
      have HBY : Aside0 (Below w4.heap.size w4 wy) := ⟨HB.out.trans (hby.mono HB.out.size)⟩
      have HBX4 : Aside0 (w4.heap.size ≤ bx) := ⟨by rw [← hbx]; exact HB.out.size⟩
      rw [hbx]
      obtain ⟨e0, e1, e2⟩ := HXY.out
      have y0 : wy.cell? ⟨bx, 0, none⟩ = some (.int .i64 y.f) := cell_of_row _ _ _ _ _ _ hbxr
      have y1 : wy.cell? ⟨bx, 1, none⟩ = some (.int .i64 y.t) := cell_of_row _ _ _ _ _ _ hbxr
      have HBXR := Aside0.mk hbxr
      have HYE := Aside0.mk (HF1.out.e y (List.mem_of_getElem? HY.out))
      have wt1 : IntKind.i64.wrap (y.t - 1) = y.t - 1 := IntWalk.i64_in _ (by have := HYE.out; unfold top at this; omega)
      have wm : IntKind.i64.wrap (mv e (y.t - 1) + 1) = mv e (y.t - 1) + 1 := IntWalk.i64_in _ (by have h1 := mv_in HOK.out (x := y.t - 1) (by have := HYE.out; omega) (by have := HYE.out; omega); unfold top at h1; omega)
      clear hbxr hby hwy c0 c1 hbx HR
      by_cases h1 : y.f < e.p
      · by_cases h2 : e.p < y.t
        · go_upto_region 13 with (at_builtin; refine Kd.R_append kR (w0 := wy) 0 rfl (.tmp 70) (.tmp 76) 22 31 (.agg #[.int .i64 0, .int .i64 0]) 16 rfl Try.underlying22 info31 rfl (by decide) (by decide) (.slice A7 n7 c7) LT ⟨y.f, e.p⟩ [.int .i64 y.f, .int .i64 e.p] (fun j => w4.heap.size ≤ j) (fun _ => False) rfl rfl rfl (fun _ h => h.elim) (fun j hj => Nat.le_trans HBY.out.size hj) HRY.out (Below.refl _ _) (Nat.zero_le _) (by rw [HL.out]; omega) ?_; intro v5 w5 hR5 _ hg5 hat5; obtain ⟨A5, c5, hv5, _, _⟩ := Kd.R_reads hR5; rw [show (LT ++ [(⟨y.f, e.p⟩ : Rg)]).length = n7 + 1 from (by rw [List.length_append, HL.out]; rfl)] at hv5; subst hv5; have hc5 := (hg5.block bx (blk_lt HBXR.out) (fun e => HOW.out bx e.symm rfl)).trans HBXR.out; have y0 := cell_of_row _ _ 0 _ _ _ hc5; have y1 := cell_of_row _ _ 1 _ _ _ hc5; have fb5 := fun j => blk_frozen hc5 j; obtain ⟨e0, e1, e2⟩ := HXY.out.grown hg5 (Nat.lt_of_lt_of_le HBS4.out HBY.out.size) (fun e => by have h3 := HRY.out.1 b e.symm; have h4 := HBS4.out; omega); have HC5 := Aside0.mk hc5; have HR5 := Aside0.mk hR5; have HG5 := Aside0.mk hg5; have HAT5 := Aside0.mk hat5; clear hc5 hR5 hg5 hat5)
          obtain ⟨wz, hwz⟩ : ∃ q, w5.setCell ⟨bx, 0, none⟩ (.int .i64 e.p) = q := ⟨_, rfl⟩
          rw [hwz]
          have hcz : wz.heap[bx]? = some (.cells #[.int .i64 e.p, .int .i64 y.t] 31 (0, 0)) := by rw [← hwz]; exact blk_set HC5.out 0 _
          have hb5 : Below w4.heap.size w4 w5 := HBY.out.grown HG5.out HBY.out.size (fun j e => HRY.out.1 j e)
          have HBZ : Aside0 (Below w4.heap.size w4 wz) := ⟨by rw [← hwz]; exact hb5.setCell (p := ⟨bx, 0, none⟩) HBX4.out _⟩
          have hbne : b ≠ bx := by have h3 := HBS4.out; have h4 := HBX4.out; omega
          have HXZ : Aside0 (Bx wz b e) := ⟨by rw [← hwz]; exact (show Bx w5 b e from ⟨e0, e1, e2⟩).set hbne⟩
          have HOZ : Aside0 (∀ j, (Value.slice A5 (n7 + 1) c5).ownBlock = some j → j ≠ bx) := ⟨fun j hj => by
            rcases HAT5.out with h | ⟨q, h, hq⟩
            · exact HOW.out j (by rw [← h]; exact hj)
            · rw [h] at hj
              injection hj with hj
              have := blk_lt HBXR.out
              omega⟩
          have HRZ : Aside0 (kR.R 31 wz 0 (fun j => w4.heap.size ≤ j) (.slice A5 (n7 + 1) c5) (LT ++ [⟨y.f, e.p⟩])) := ⟨kd_turn HR5.out (fun j hj hlt => by rw [← hwz]; exact Below.heap_setCell w5 ⟨bx, 0, none⟩ _ j (HOZ.out j hj))⟩
          have HLZ : Aside0 ((LT ++ [(⟨y.f, e.p⟩ : Rg)]).length = n7 + 1) := ⟨by rw [List.length_append, HL.out]; rfl⟩
          have HCZ := Aside0.mk hcz
          obtain ⟨e0, e1, e2⟩ := HXZ.out
          have y0 : wz.cell? ⟨bx, 0, none⟩ = some (.int .i64 e.p) := cell_of_row _ _ _ _ _ _ hcz
          have y1 : wz.cell? ⟨bx, 1, none⟩ = some (.int .i64 y.t) := cell_of_row _ _ _ _ _ _ hcz
          have HFU : Aside0 ((R1.take (k + 1)).flatMap (cutL e) = (LT ++ [⟨y.f, e.p⟩]) ++ [⟨mv e e.p, mv e (y.t - 1) + 1⟩]) := ⟨by
            rw [flat_take (cutL e) HY.out, HLT.out]
            unfold cutL
            rw [if_pos ⟨h1, h2⟩, List.append_assoc]
            rfl⟩
          clear hcz hb5 hbne hwz fb5
          refine wp_region_noPanic ?_
          refine wp_region_held_drew (S := (fun w' => w'.cell? ⟨b, 0, none⟩ = some (.int .i64 e.p) ∧ w'.cell? ⟨b, 1, none⟩ = some (.int .i64 e.d) ∧ w'.cell? ⟨b, 2, none⟩ = some (.string e.s) ∧ w'.cell? ⟨bx, 0, none⟩ = some (.int .i64 e.p) ∧ w'.cell? ⟨bx, 1, none⟩ = some (.int .i64 y.t))) (by kernel_rfl) ?_ (fun hHeld => ?_)
          · exact ⟨e0, e1, e2, y0, y1⟩
          refine wpAnyH_take (i := 0) (v := ?_) rfl (by kernel_rfl) (by kernel_rfl) (by kernel_rfl) (fun _ _ _ h => h) (Or.inl ⟨by rfl, ?_⟩) (by assumption) ?_
          rotate_left
          · intro w hSw
            go_simp
            try with_reducible rfl
          simp only [Act.put, List.getElem_toArray, List.getElem_cons_zero, List.getElem_cons_succ, List.setIfInBounds_toArray, List.set_cons_zero, List.set_cons_succ]
          refine wpAnyH_take (i := 1) (v := ?_) rfl (by kernel_rfl) (by kernel_rfl) (by kernel_rfl) (fun _ _ _ h => h) (Or.inl ⟨by rfl, ?_⟩) (by assumption) ?_
          rotate_left
          · intro w hSw
            go_simp
            try with_reducible rfl
          simp only [Act.put, List.getElem_toArray, List.getElem_cons_zero, List.getElem_cons_succ, List.setIfInBounds_toArray, List.set_cons_zero, List.set_cons_succ]
          refine wpAnyH_take (i := 2) (v := ?_) rfl (by kernel_rfl) (by kernel_rfl) (by kernel_rfl) (fun _ _ _ h => h) (Or.inl ⟨by rfl, ?_⟩) (by assumption) ?_
          rotate_left
          · intro w hSw
            go_simp
            try with_reducible rfl
          simp only [Act.put, List.getElem_toArray, List.getElem_cons_zero, List.getElem_cons_succ, List.setIfInBounds_toArray, List.set_cons_zero, List.set_cons_succ]
          refine wpAnyH_take (i := 3) (v := ?_) rfl (by kernel_rfl) (by kernel_rfl) (by kernel_rfl) (fun _ _ _ h => h) (Or.inl ⟨by rfl, ?_⟩) (by assumption) ?_
          rotate_left
          · intro w hSw
            go_simp
            try with_reducible rfl
          simp only [Act.put, List.getElem_toArray, List.getElem_cons_zero, List.getElem_cons_succ, List.setIfInBounds_toArray, List.set_cons_zero, List.set_cons_succ]
          refine wpAnyH_take (i := 5) (v := ?_) rfl (by kernel_rfl) (by kernel_rfl) (by kernel_rfl) (fun _ _ _ h => h) (Or.inl ⟨by rfl, ?_⟩) (by assumption) ?_
          rotate_left
          · intro w hSw
            go_simp
            try with_reducible rfl
          simp only [Act.put, List.getElem_toArray, List.getElem_cons_zero, List.getElem_cons_succ, List.setIfInBounds_toArray, List.set_cons_zero, List.set_cons_succ]
          refine wpAnyH_take (i := 6) (v := ?_) rfl (by kernel_rfl) (by kernel_rfl) (by kernel_rfl) (fun _ _ _ h => h) (Or.inl ⟨by rfl, ?_⟩) (by assumption) ?_
          rotate_left
          · intro w hSw
            go_simp
            try with_reducible rfl
          simp only [Act.put, List.getElem_toArray, List.getElem_cons_zero, List.getElem_cons_succ, List.setIfInBounds_toArray, List.set_cons_zero, List.set_cons_succ]
          refine wpAnyH_take (i := 7) (v := ?_) rfl (by kernel_rfl) (by kernel_rfl) (by kernel_rfl) (fun _ _ _ h => h) (Or.inl ⟨by rfl, ?_⟩) (by assumption) ?_
          rotate_left
          · intro w hSw
            go_simp
            try with_reducible rfl
          simp only [Act.put, List.getElem_toArray, List.getElem_cons_zero, List.getElem_cons_succ, List.setIfInBounds_toArray, List.set_cons_zero, List.set_cons_succ]
          refine wpAnyH_take (i := 8) (v := ?_) rfl (by kernel_rfl) (by kernel_rfl) (by kernel_rfl) (fun _ _ _ h => h) (Or.inl ⟨by rfl, ?_⟩) (by assumption) ?_
          rotate_left
          · intro w hSw
            go_simp
            try with_reducible rfl
          simp only [Act.put, List.getElem_toArray, List.getElem_cons_zero, List.getElem_cons_succ, List.setIfInBounds_toArray, List.set_cons_zero, List.set_cons_succ]
          refine wpAnyH_ready (rs := [4]) (by kernel_rfl) (by simp) ?_
          refine AllReadyH.cons rfl (fun K hK => ?_) AllReadyH.nil
          go_simp
          refine (mv35_c e e.p wz.drew HOK.out (by have := HOK.out.p; omega) (by have := HOK.out.p; omega)).mono ?_
          rintro _ w6 ⟨rfl, hb6⟩
          have hb6' : Below wz.heap.size wz w6 := (below_drew (Below.refl _ wz)).trans hb6
          have s0 := pw_cell_below hb6' e0
          have s1 := pw_cell_below hb6' e1
          have s2 := pw_cell_below hb6' e2
          have s3 := pw_cell_below hb6' y0
          have s4 := pw_cell_below hb6' y1
          refine hK.out _ _ ⟨s0, s1, s2, s3, s4⟩ (fun hHeld2 => ?_)
          clear hK K hHeld
          have hHeld := hHeld2
          clear hHeld2
          try simp only [Act.put, List.getElem_toArray, List.getElem_cons_zero, List.getElem_cons_succ, List.setIfInBounds_toArray, List.set_cons_zero, List.set_cons_succ]
          have HB6 := Aside0.mk hb6'
          clear s0 s1 s2 s3 s4 hb6 hb6'
          refine wpAnyH_ready (rs := [9]) (by kernel_rfl) (by simp) ?_
          refine AllReadyH.cons rfl (fun K hK => ?_) AllReadyH.nil
          go_simp
          refine (mv35_c e (y.t - 1) w6 HOK.out (by have := HYE.out; omega) (by have := HYE.out; unfold top at this; omega)).mono ?_
          rintro _ w7 ⟨rfl, hb6⟩
          have hb6' : Below wz.heap.size wz w7 := HB6.out.trans (hb6.mono HB6.out.size)
          have s0 := pw_cell_below hb6' e0
          have s1 := pw_cell_below hb6' e1
          have s2 := pw_cell_below hb6' e2
          have s3 := pw_cell_below hb6' y0
          have s4 := pw_cell_below hb6' y1
          refine hK.out _ _ ⟨s0, s1, s2, s3, s4⟩ (fun hHeld2 => ?_)
          clear hK K hHeld
          have hHeld := hHeld2
          clear hHeld2
          try simp only [Act.put, List.getElem_toArray, List.getElem_cons_zero, List.getElem_cons_succ, List.setIfInBounds_toArray, List.set_cons_zero, List.set_cons_succ]
          have HB6 := Aside0.mk hb6'
          clear s0 s1 s2 s3 s4 hb6 hb6'
          refine wpAnyH_take (i := 10) (v := ?_) rfl (by kernel_rfl) (by kernel_rfl) (by kernel_rfl) (fun _ _ _ h => h) (Or.inl ⟨by rfl, ?_⟩) (by assumption) ?_
          rotate_left
          · intro w hSw
            go_simp
            try with_reducible rfl
          simp only [Act.put, List.getElem_toArray, List.getElem_cons_zero, List.getElem_cons_succ, List.setIfInBounds_toArray, List.set_cons_zero, List.set_cons_succ]
          refine wpAnyH_take (i := 11) (v := ?_) rfl (by kernel_rfl) (by kernel_rfl) (by kernel_rfl) (fun _ _ _ h => h) (Or.inl ⟨by rfl, ?_⟩) (by assumption) ?_
          rotate_left
          · intro w hSw
            go_simp
            try with_reducible rfl
          simp only [Act.put, List.getElem_toArray, List.getElem_cons_zero, List.getElem_cons_succ, List.setIfInBounds_toArray, List.set_cons_zero, List.set_cons_succ]
          have hbz7 : Below wz.heap.size wz w7 := HB6.out
          have hba := below_alloc hbz7 (.cells (rgc ⟨mv e e.p, mv e (y.t - 1) + 1⟩) 31)
          have t0 := pw_cell_below hba e0
          have t1 := pw_cell_below hba e1
          have t2 := pw_cell_below hba e2
          have t3 := pw_cell_below hba y0
          have t4 := pw_cell_below hba y1
          refine wpAnyH_ready (rs := [12]) (by kernel_rfl) (by simp) ?_
          refine AllReadyH.cons rfl (fun K hK => ?_) AllReadyH.nil
          go_simp
          refine hK.out _ _ ⟨t0, t1, t2, t3, t4⟩ (fun hHeld2 => ?_)
          clear hK K hHeld
          have hHeld := hHeld2
          clear hHeld2
          try simp only [Act.put, List.getElem_toArray, List.getElem_cons_zero, List.getElem_cons_succ, List.setIfInBounds_toArray, List.set_cons_zero, List.set_cons_succ]
          refine wpAnyH_ready (rs := [13]) (by kernel_rfl) (by simp) ?_
          refine AllReadyH.cons rfl (fun K hK => ?_) AllReadyH.nil
          refine Kd.R_append_step (W := w7) kR (w0 := w7) 0 (by rfl) (.tmp 81) (.tmp 93) 22 31 (.agg #[.int .i64 0, .int .i64 0]) 16 rfl Try.underlying22 info31 rfl (by decide) (by decide) (.slice A5 (n7 + 1) c5) (LT ++ [⟨y.f, e.p⟩]) ⟨mv e e.p, mv e (y.t - 1) + 1⟩ [.int .i64 (mv e e.p), .int .i64 (mv e (y.t - 1) + 1)] (fun j => w4.heap.size ≤ j) (fun _ => False) rfl rfl rfl (fun _ h => h.elim) (fun j hj => Nat.le_trans HBZ.out.size (Nat.le_trans HB6.out.size hj)) (Kd.R_below HRZ.out HB6.out) (Below.refl _ _) (Nat.zero_le _) (by rw [HLZ.out]; omega) ?_
          intro v8 w8 hR8 _ hg8 hat8
          obtain ⟨A8, c8, hv8, _, _⟩ := Kd.R_reads hR8
          rw [show ((LT ++ [(⟨y.f, e.p⟩ : Rg)]) ++ [(⟨mv e e.p, mv e (y.t - 1) + 1⟩ : Rg)]).length = (n7 + 1) + 1 from (by rw [List.length_append, HLZ.out]; rfl)] at hv8
          subst hv8
          have hz8 : ∀ j, j < wz.heap.size → (∀ i, (Value.slice A5 (n7 + 1) c5).ownBlock = some i → i ≠ j) → w8.heap[j]? = wz.heap[j]? := fun j hj hne => (hg8.block j (Nat.lt_of_lt_of_le hj HB6.out.size) (fun e => hne j e.symm rfl)).trans (HB6.out.block j hj)
          have hown : ∀ j, (Value.slice A5 (n7 + 1) c5).ownBlock = some j → w4.heap.size ≤ j := fun j hj => HRZ.out.1 j hj
          have hbb : w8.heap[b]? = wz.heap[b]? := hz8 b (Nat.lt_of_lt_of_le HBS4.out HBZ.out.size) (fun i hi => by have := hown i hi; have := HBS4.out; omega)
          have hbxx : w8.heap[bx]? = wz.heap[bx]? := hz8 bx (blk_lt HCZ.out) HOZ.out
          have u0 : w8.cell? ⟨b, 0, none⟩ = some (.int .i64 e.p) := by unfold World.cell? at e0 ⊢; rw [hbb]; exact e0
          have u1 : w8.cell? ⟨b, 1, none⟩ = some (.int .i64 e.d) := by unfold World.cell? at e1 ⊢; rw [hbb]; exact e1
          have u2 : w8.cell? ⟨b, 2, none⟩ = some (.string e.s) := by unfold World.cell? at e2 ⊢; rw [hbb]; exact e2
          have u3 : w8.cell? ⟨bx, 0, none⟩ = some (.int .i64 e.p) := by unfold World.cell? at y0 ⊢; rw [hbxx]; exact y0
          have u4 : w8.cell? ⟨bx, 1, none⟩ = some (.int .i64 y.t) := by unfold World.cell? at y1 ⊢; rw [hbxx]; exact y1
          have h47 : Below w4.heap.size w4 w7 := HBZ.out.trans (HB6.out.mono HBZ.out.size)
          have HB8 : Aside0 (Below w4.heap.size w4 w8) := ⟨h47.grown hg8 h47.size (fun j e => hown j e)⟩
          have HR8 : Aside0 (kR.R 31 w8 0 (fun j => w4.heap.size ≤ j) (.slice A8 ((n7 + 1) + 1) c8) ((R1.take (k + 1)).flatMap (cutL e))) := ⟨by rw [HFU.out]; exact hR8⟩
          have HL8 : Aside0 (((R1.take (k + 1)).flatMap (cutL e)).length = (n7 + 1) + 1) := ⟨by rw [HFU.out, List.length_append, HLZ.out]; rfl⟩
          clear hR8 hg8 hat8 hz8 hown hbb hbxx h47
          refine hK.out _ _ ⟨u0, u1, u2, u3, u4⟩ (fun hHeld2 => ?_)
          clear hK K hHeld
          have hHeld := hHeld2
          clear hHeld2
          try simp only [Act.put, List.getElem_toArray, List.getElem_cons_zero, List.getElem_cons_succ, List.setIfInBounds_toArray, List.set_cons_zero, List.set_cons_succ]
          refine wpAnyH_take (i := 14) (v := ?_) rfl (by kernel_rfl) (by kernel_rfl) (by kernel_rfl) (fun _ _ _ h => h) (Or.inl ⟨by rfl, ?_⟩) (by assumption) ?_
          rotate_left
          · intro w hSw
            go_simp
            try with_reducible rfl
          simp only [Act.put, List.getElem_toArray, List.getElem_cons_zero, List.getElem_cons_succ, List.setIfInBounds_toArray, List.set_cons_zero, List.set_cons_succ]
          refine wpAnyH_done (by kernel_rfl) ?_ _
          refine NoPanic.normal ?_
          clear e0 e1 e2 y0 y1 u0 u1 u2 u3 u4 t0 t1 t2 t3 t4 hba hbz7 hHeld
          go_wp2_with (fail)
          go_roundg gn
          case measure => exact Nat.lt_succ_self _
          case rel => exact ⟨k + 1, (n7 + 1) + 1, c8, A8, by simp, rfl, ⟨by have := HK.out; omega⟩, HB8, HR8, HL8, ⟨by have := HQ.out; omega⟩⟩
        · have h3 : y.t ≤ e.p := by omega
          have HFU : Aside0 ((R1.take (k + 1)).flatMap (cutL e) = LT ++ [⟨mv e y.f, mv e (y.t - 1) + 1⟩]) := ⟨by
            rw [flat_take (cutL e) HY.out, HLT.out]
            unfold cutL
            rw [if_neg (by omega)]
            rfl⟩
          go_upto_region 13 with (fail)
          refine wp_region_noPanic ?_
          refine wp_region_held_drew (S := (fun w' => w'.cell? ⟨b, 0, none⟩ = some (.int .i64 e.p) ∧ w'.cell? ⟨b, 1, none⟩ = some (.int .i64 e.d) ∧ w'.cell? ⟨b, 2, none⟩ = some (.string e.s) ∧ w'.cell? ⟨bx, 0, none⟩ = some (.int .i64 y.f) ∧ w'.cell? ⟨bx, 1, none⟩ = some (.int .i64 y.t))) (by kernel_rfl) ?_ (fun hHeld => ?_)
          · exact ⟨e0, e1, e2, y0, y1⟩
          refine wpAnyH_take (i := 0) (v := ?_) rfl (by kernel_rfl) (by kernel_rfl) (by kernel_rfl) (fun _ _ _ h => h) (Or.inl ⟨by rfl, ?_⟩) (by assumption) ?_
          rotate_left
          · intro w hSw
            go_simp
            try with_reducible rfl
          simp only [Act.put, List.getElem_toArray, List.getElem_cons_zero, List.getElem_cons_succ, List.setIfInBounds_toArray, List.set_cons_zero, List.set_cons_succ]
          refine wpAnyH_take (i := 1) (v := ?_) rfl (by kernel_rfl) (by kernel_rfl) (by kernel_rfl) (fun _ _ _ h => h) (Or.inl ⟨by rfl, ?_⟩) (by assumption) ?_
          rotate_left
          · intro w hSw
            go_simp
            try with_reducible rfl
          simp only [Act.put, List.getElem_toArray, List.getElem_cons_zero, List.getElem_cons_succ, List.setIfInBounds_toArray, List.set_cons_zero, List.set_cons_succ]
          refine wpAnyH_take (i := 2) (v := ?_) rfl (by kernel_rfl) (by kernel_rfl) (by kernel_rfl) (fun _ _ _ h => h) (Or.inl ⟨by rfl, ?_⟩) (by assumption) ?_
          rotate_left
          · intro w hSw
            go_simp
            try with_reducible rfl
          simp only [Act.put, List.getElem_toArray, List.getElem_cons_zero, List.getElem_cons_succ, List.setIfInBounds_toArray, List.set_cons_zero, List.set_cons_succ]
          refine wpAnyH_take (i := 3) (v := ?_) rfl (by kernel_rfl) (by kernel_rfl) (by kernel_rfl) (fun _ _ _ h => h) (Or.inl ⟨by rfl, ?_⟩) (by assumption) ?_
          rotate_left
          · intro w hSw
            go_simp
            try with_reducible rfl
          simp only [Act.put, List.getElem_toArray, List.getElem_cons_zero, List.getElem_cons_succ, List.setIfInBounds_toArray, List.set_cons_zero, List.set_cons_succ]
          refine wpAnyH_take (i := 5) (v := ?_) rfl (by kernel_rfl) (by kernel_rfl) (by kernel_rfl) (fun _ _ _ h => h) (Or.inl ⟨by rfl, ?_⟩) (by assumption) ?_
          rotate_left
          · intro w hSw
            go_simp
            try with_reducible rfl
          simp only [Act.put, List.getElem_toArray, List.getElem_cons_zero, List.getElem_cons_succ, List.setIfInBounds_toArray, List.set_cons_zero, List.set_cons_succ]
          refine wpAnyH_take (i := 6) (v := ?_) rfl (by kernel_rfl) (by kernel_rfl) (by kernel_rfl) (fun _ _ _ h => h) (Or.inl ⟨by rfl, ?_⟩) (by assumption) ?_
          rotate_left
          · intro w hSw
            go_simp
            try with_reducible rfl
          simp only [Act.put, List.getElem_toArray, List.getElem_cons_zero, List.getElem_cons_succ, List.setIfInBounds_toArray, List.set_cons_zero, List.set_cons_succ]
          refine wpAnyH_take (i := 7) (v := ?_) rfl (by kernel_rfl) (by kernel_rfl) (by kernel_rfl) (fun _ _ _ h => h) (Or.inl ⟨by rfl, ?_⟩) (by assumption) ?_
          rotate_left
          · intro w hSw
            go_simp
            try with_reducible rfl
          simp only [Act.put, List.getElem_toArray, List.getElem_cons_zero, List.getElem_cons_succ, List.setIfInBounds_toArray, List.set_cons_zero, List.set_cons_succ]
          refine wpAnyH_take (i := 8) (v := ?_) rfl (by kernel_rfl) (by kernel_rfl) (by kernel_rfl) (fun _ _ _ h => h) (Or.inl ⟨by rfl, ?_⟩) (by assumption) ?_
          rotate_left
          · intro w hSw
            go_simp
            try with_reducible rfl
          simp only [Act.put, List.getElem_toArray, List.getElem_cons_zero, List.getElem_cons_succ, List.setIfInBounds_toArray, List.set_cons_zero, List.set_cons_succ]
          refine wpAnyH_ready (rs := [4]) (by kernel_rfl) (by simp) ?_
          refine AllReadyH.cons rfl (fun K hK => ?_) AllReadyH.nil
          go_simp
          refine (mv35_c e y.f wy.drew HOK.out HYE.out.1 (by have := HYE.out; unfold top at this; omega)).mono ?_
          rintro _ w6 ⟨rfl, hb6⟩
          have hb6' : Below wy.heap.size wy w6 := (below_drew (Below.refl _ wy)).trans hb6
          have s0 := pw_cell_below hb6' e0
          have s1 := pw_cell_below hb6' e1
          have s2 := pw_cell_below hb6' e2
          have s3 := pw_cell_below hb6' y0
          have s4 := pw_cell_below hb6' y1
          refine hK.out _ _ ⟨s0, s1, s2, s3, s4⟩ (fun hHeld2 => ?_)
          clear hK K hHeld
          have hHeld := hHeld2
          clear hHeld2
          try simp only [Act.put, List.getElem_toArray, List.getElem_cons_zero, List.getElem_cons_succ, List.setIfInBounds_toArray, List.set_cons_zero, List.set_cons_succ]
          have HB6 := Aside0.mk hb6'
          clear s0 s1 s2 s3 s4 hb6 hb6'
          refine wpAnyH_ready (rs := [9]) (by kernel_rfl) (by simp) ?_
          refine AllReadyH.cons rfl (fun K hK => ?_) AllReadyH.nil
          go_simp
          refine (mv35_c e (y.t - 1) w6 HOK.out (by have := HYE.out; omega) (by have := HYE.out; unfold top at this; omega)).mono ?_
          rintro _ w7 ⟨rfl, hb6⟩
          have hb6' : Below wy.heap.size wy w7 := HB6.out.trans (hb6.mono HB6.out.size)
          have s0 := pw_cell_below hb6' e0
          have s1 := pw_cell_below hb6' e1
          have s2 := pw_cell_below hb6' e2
          have s3 := pw_cell_below hb6' y0
          have s4 := pw_cell_below hb6' y1
          refine hK.out _ _ ⟨s0, s1, s2, s3, s4⟩ (fun hHeld2 => ?_)
          clear hK K hHeld
          have hHeld := hHeld2
          clear hHeld2
          try simp only [Act.put, List.getElem_toArray, List.getElem_cons_zero, List.getElem_cons_succ, List.setIfInBounds_toArray, List.set_cons_zero, List.set_cons_succ]
          have HB6 := Aside0.mk hb6'
          clear s0 s1 s2 s3 s4 hb6 hb6'
          refine wpAnyH_take (i := 10) (v := ?_) rfl (by kernel_rfl) (by kernel_rfl) (by kernel_rfl) (fun _ _ _ h => h) (Or.inl ⟨by rfl, ?_⟩) (by assumption) ?_
          rotate_left
          · intro w hSw
            go_simp
            try with_reducible rfl
          simp only [Act.put, List.getElem_toArray, List.getElem_cons_zero, List.getElem_cons_succ, List.setIfInBounds_toArray, List.set_cons_zero, List.set_cons_succ]
          refine wpAnyH_take (i := 11) (v := ?_) rfl (by kernel_rfl) (by kernel_rfl) (by kernel_rfl) (fun _ _ _ h => h) (Or.inl ⟨by rfl, ?_⟩) (by assumption) ?_
          rotate_left
          · intro w hSw
            go_simp
            try with_reducible rfl
          simp only [Act.put, List.getElem_toArray, List.getElem_cons_zero, List.getElem_cons_succ, List.setIfInBounds_toArray, List.set_cons_zero, List.set_cons_succ]
          have hbz7 : Below wy.heap.size wy w7 := HB6.out
          have hba := below_alloc hbz7 (.cells (rgc ⟨mv e y.f, mv e (y.t - 1) + 1⟩) 31)
          have t0 := pw_cell_below hba e0
          have t1 := pw_cell_below hba e1
          have t2 := pw_cell_below hba e2
          have t3 := pw_cell_below hba y0
          have t4 := pw_cell_below hba y1
          refine wpAnyH_ready (rs := [12]) (by kernel_rfl) (by simp) ?_
          refine AllReadyH.cons rfl (fun K hK => ?_) AllReadyH.nil
          go_simp
          refine hK.out _ _ ⟨t0, t1, t2, t3, t4⟩ (fun hHeld2 => ?_)
          clear hK K hHeld
          have hHeld := hHeld2
          clear hHeld2
          try simp only [Act.put, List.getElem_toArray, List.getElem_cons_zero, List.getElem_cons_succ, List.setIfInBounds_toArray, List.set_cons_zero, List.set_cons_succ]
          refine wpAnyH_ready (rs := [13]) (by kernel_rfl) (by simp) ?_
          refine AllReadyH.cons rfl (fun K hK => ?_) AllReadyH.nil
          refine Kd.R_append_step (W := w7) kR (w0 := w7) 0 (by rfl) (.tmp 81) (.tmp 93) 22 31 (.agg #[.int .i64 0, .int .i64 0]) 16 rfl Try.underlying22 info31 rfl (by decide) (by decide) (.slice A7 n7 c7) (LT) ⟨mv e y.f, mv e (y.t - 1) + 1⟩ [.int .i64 (mv e y.f), .int .i64 (mv e (y.t - 1) + 1)] (fun j => w4.heap.size ≤ j) (fun _ => False) rfl rfl rfl (fun _ h => h.elim) (fun j hj => Nat.le_trans HBY.out.size (Nat.le_trans HB6.out.size hj)) (Kd.R_below HRY.out HB6.out) (Below.refl _ _) (Nat.zero_le _) (by rw [HL.out]; omega) ?_
          intro v8 w8 hR8 _ hg8 hat8
          obtain ⟨A8, c8, hv8, _, _⟩ := Kd.R_reads hR8
          rw [show (LT ++ [(⟨mv e y.f, mv e (y.t - 1) + 1⟩ : Rg)]).length = n7 + 1 from (by rw [List.length_append, HL.out]; rfl)] at hv8
          subst hv8
          have hz8 : ∀ j, j < wy.heap.size → (∀ i, (Value.slice A7 n7 c7).ownBlock = some i → i ≠ j) → w8.heap[j]? = wy.heap[j]? := fun j hj hne => (hg8.block j (Nat.lt_of_lt_of_le hj HB6.out.size) (fun e => hne j e.symm rfl)).trans (HB6.out.block j hj)
          have hown : ∀ j, (Value.slice A7 n7 c7).ownBlock = some j → w4.heap.size ≤ j := fun j hj => HRY.out.1 j hj
          have hbb : w8.heap[b]? = wy.heap[b]? := hz8 b (Nat.lt_of_lt_of_le HBS4.out HBY.out.size) (fun i hi => by have := hown i hi; have := HBS4.out; omega)
          have hbxx : w8.heap[bx]? = wy.heap[bx]? := hz8 bx (blk_lt HBXR.out) HOW.out
          have u0 : w8.cell? ⟨b, 0, none⟩ = some (.int .i64 e.p) := by unfold World.cell? at e0 ⊢; rw [hbb]; exact e0
          have u1 : w8.cell? ⟨b, 1, none⟩ = some (.int .i64 e.d) := by unfold World.cell? at e1 ⊢; rw [hbb]; exact e1
          have u2 : w8.cell? ⟨b, 2, none⟩ = some (.string e.s) := by unfold World.cell? at e2 ⊢; rw [hbb]; exact e2
          have u3 : w8.cell? ⟨bx, 0, none⟩ = some (.int .i64 y.f) := by unfold World.cell? at y0 ⊢; rw [hbxx]; exact y0
          have u4 : w8.cell? ⟨bx, 1, none⟩ = some (.int .i64 y.t) := by unfold World.cell? at y1 ⊢; rw [hbxx]; exact y1
          have h47 : Below w4.heap.size w4 w7 := HBY.out.trans (HB6.out.mono HBY.out.size)
          have HB8 : Aside0 (Below w4.heap.size w4 w8) := ⟨h47.grown hg8 h47.size (fun j e => hown j e)⟩
          have HR8 : Aside0 (kR.R 31 w8 0 (fun j => w4.heap.size ≤ j) (.slice A8 (n7 + 1) c8) ((R1.take (k + 1)).flatMap (cutL e))) := ⟨by rw [HFU.out]; exact hR8⟩
          have HL8 : Aside0 (((R1.take (k + 1)).flatMap (cutL e)).length = n7 + 1) := ⟨by rw [HFU.out, List.length_append, HL.out]; rfl⟩
          clear hR8 hg8 hat8 hz8 hown hbb hbxx h47
          refine hK.out _ _ ⟨u0, u1, u2, u3, u4⟩ (fun hHeld2 => ?_)
          clear hK K hHeld
          have hHeld := hHeld2
          clear hHeld2
          try simp only [Act.put, List.getElem_toArray, List.getElem_cons_zero, List.getElem_cons_succ, List.setIfInBounds_toArray, List.set_cons_zero, List.set_cons_succ]
          refine wpAnyH_take (i := 14) (v := ?_) rfl (by kernel_rfl) (by kernel_rfl) (by kernel_rfl) (fun _ _ _ h => h) (Or.inl ⟨by rfl, ?_⟩) (by assumption) ?_
          rotate_left
          · intro w hSw
            go_simp
            try with_reducible rfl
          simp only [Act.put, List.getElem_toArray, List.getElem_cons_zero, List.getElem_cons_succ, List.setIfInBounds_toArray, List.set_cons_zero, List.set_cons_succ]
          refine wpAnyH_done (by kernel_rfl) ?_ _
          refine NoPanic.normal ?_
          clear e0 e1 e2 y0 y1 u0 u1 u2 u3 u4 t0 t1 t2 t3 t4 hba hbz7 hHeld
          go_wp2_with (fail)
          go_roundg gn
          case measure => exact Nat.lt_succ_self _
          case rel => exact ⟨k + 1, n7 + 1, c8, A8, by simp, rfl, ⟨by have := HK.out; omega⟩, HB8, HR8, HL8, ⟨by have := HQ.out; omega⟩⟩
      · 
        have HFU : Aside0 ((R1.take (k + 1)).flatMap (cutL e) = LT ++ [⟨mv e y.f, mv e (y.t - 1) + 1⟩]) := ⟨by
          rw [flat_take (cutL e) HY.out, HLT.out]
          unfold cutL
          rw [if_neg (by omega)]
          rfl⟩
        go_upto_region 13 with (fail)
        refine wp_region_noPanic ?_
        refine wp_region_held_drew (S := (fun w' => w'.cell? ⟨b, 0, none⟩ = some (.int .i64 e.p) ∧ w'.cell? ⟨b, 1, none⟩ = some (.int .i64 e.d) ∧ w'.cell? ⟨b, 2, none⟩ = some (.string e.s) ∧ w'.cell? ⟨bx, 0, none⟩ = some (.int .i64 y.f) ∧ w'.cell? ⟨bx, 1, none⟩ = some (.int .i64 y.t))) (by kernel_rfl) ?_ (fun hHeld => ?_)
        · exact ⟨e0, e1, e2, y0, y1⟩
        refine wpAnyH_take (i := 0) (v := ?_) rfl (by kernel_rfl) (by kernel_rfl) (by kernel_rfl) (fun _ _ _ h => h) (Or.inl ⟨by rfl, ?_⟩) (by assumption) ?_
        rotate_left
        · intro w hSw
          go_simp
          try with_reducible rfl
        simp only [Act.put, List.getElem_toArray, List.getElem_cons_zero, List.getElem_cons_succ, List.setIfInBounds_toArray, List.set_cons_zero, List.set_cons_succ]
        refine wpAnyH_take (i := 1) (v := ?_) rfl (by kernel_rfl) (by kernel_rfl) (by kernel_rfl) (fun _ _ _ h => h) (Or.inl ⟨by rfl, ?_⟩) (by assumption) ?_
        rotate_left
        · intro w hSw
          go_simp
          try with_reducible rfl
        simp only [Act.put, List.getElem_toArray, List.getElem_cons_zero, List.getElem_cons_succ, List.setIfInBounds_toArray, List.set_cons_zero, List.set_cons_succ]
        refine wpAnyH_take (i := 2) (v := ?_) rfl (by kernel_rfl) (by kernel_rfl) (by kernel_rfl) (fun _ _ _ h => h) (Or.inl ⟨by rfl, ?_⟩) (by assumption) ?_
        rotate_left
        · intro w hSw
          go_simp
          try with_reducible rfl
        simp only [Act.put, List.getElem_toArray, List.getElem_cons_zero, List.getElem_cons_succ, List.setIfInBounds_toArray, List.set_cons_zero, List.set_cons_succ]
        refine wpAnyH_take (i := 3) (v := ?_) rfl (by kernel_rfl) (by kernel_rfl) (by kernel_rfl) (fun _ _ _ h => h) (Or.inl ⟨by rfl, ?_⟩) (by assumption) ?_
        rotate_left
        · intro w hSw
          go_simp
          try with_reducible rfl
        simp only [Act.put, List.getElem_toArray, List.getElem_cons_zero, List.getElem_cons_succ, List.setIfInBounds_toArray, List.set_cons_zero, List.set_cons_succ]
        refine wpAnyH_take (i := 5) (v := ?_) rfl (by kernel_rfl) (by kernel_rfl) (by kernel_rfl) (fun _ _ _ h => h) (Or.inl ⟨by rfl, ?_⟩) (by assumption) ?_
        rotate_left
        · intro w hSw
          go_simp
          try with_reducible rfl
        simp only [Act.put, List.getElem_toArray, List.getElem_cons_zero, List.getElem_cons_succ, List.setIfInBounds_toArray, List.set_cons_zero, List.set_cons_succ]
        refine wpAnyH_take (i := 6) (v := ?_) rfl (by kernel_rfl) (by kernel_rfl) (by kernel_rfl) (fun _ _ _ h => h) (Or.inl ⟨by rfl, ?_⟩) (by assumption) ?_
        rotate_left
        · intro w hSw
          go_simp
          try with_reducible rfl
        simp only [Act.put, List.getElem_toArray, List.getElem_cons_zero, List.getElem_cons_succ, List.setIfInBounds_toArray, List.set_cons_zero, List.set_cons_succ]
        refine wpAnyH_take (i := 7) (v := ?_) rfl (by kernel_rfl) (by kernel_rfl) (by kernel_rfl) (fun _ _ _ h => h) (Or.inl ⟨by rfl, ?_⟩) (by assumption) ?_
        rotate_left
        · intro w hSw
          go_simp
          try with_reducible rfl
        simp only [Act.put, List.getElem_toArray, List.getElem_cons_zero, List.getElem_cons_succ, List.setIfInBounds_toArray, List.set_cons_zero, List.set_cons_succ]
        refine wpAnyH_take (i := 8) (v := ?_) rfl (by kernel_rfl) (by kernel_rfl) (by kernel_rfl) (fun _ _ _ h => h) (Or.inl ⟨by rfl, ?_⟩) (by assumption) ?_
        rotate_left
        · intro w hSw
          go_simp
          try with_reducible rfl
        simp only [Act.put, List.getElem_toArray, List.getElem_cons_zero, List.getElem_cons_succ, List.setIfInBounds_toArray, List.set_cons_zero, List.set_cons_succ]
        refine wpAnyH_ready (rs := [4]) (by kernel_rfl) (by simp) ?_
        refine AllReadyH.cons rfl (fun K hK => ?_) AllReadyH.nil
        go_simp
        refine (mv35_c e y.f wy.drew HOK.out HYE.out.1 (by have := HYE.out; unfold top at this; omega)).mono ?_
        rintro _ w6 ⟨rfl, hb6⟩
        have hb6' : Below wy.heap.size wy w6 := (below_drew (Below.refl _ wy)).trans hb6
        have s0 := pw_cell_below hb6' e0
        have s1 := pw_cell_below hb6' e1
        have s2 := pw_cell_below hb6' e2
        have s3 := pw_cell_below hb6' y0
        have s4 := pw_cell_below hb6' y1
        refine hK.out _ _ ⟨s0, s1, s2, s3, s4⟩ (fun hHeld2 => ?_)
        clear hK K hHeld
        have hHeld := hHeld2
        clear hHeld2
        try simp only [Act.put, List.getElem_toArray, List.getElem_cons_zero, List.getElem_cons_succ, List.setIfInBounds_toArray, List.set_cons_zero, List.set_cons_succ]
        have HB6 := Aside0.mk hb6'
        clear s0 s1 s2 s3 s4 hb6 hb6'
        refine wpAnyH_ready (rs := [9]) (by kernel_rfl) (by simp) ?_
        refine AllReadyH.cons rfl (fun K hK => ?_) AllReadyH.nil
        go_simp
        refine (mv35_c e (y.t - 1) w6 HOK.out (by have := HYE.out; omega) (by have := HYE.out; unfold top at this; omega)).mono ?_
        rintro _ w7 ⟨rfl, hb6⟩
        have hb6' : Below wy.heap.size wy w7 := HB6.out.trans (hb6.mono HB6.out.size)
        have s0 := pw_cell_below hb6' e0
        have s1 := pw_cell_below hb6' e1
        have s2 := pw_cell_below hb6' e2
        have s3 := pw_cell_below hb6' y0
        have s4 := pw_cell_below hb6' y1
        refine hK.out _ _ ⟨s0, s1, s2, s3, s4⟩ (fun hHeld2 => ?_)
        clear hK K hHeld
        have hHeld := hHeld2
        clear hHeld2
        try simp only [Act.put, List.getElem_toArray, List.getElem_cons_zero, List.getElem_cons_succ, List.setIfInBounds_toArray, List.set_cons_zero, List.set_cons_succ]
        have HB6 := Aside0.mk hb6'
        clear s0 s1 s2 s3 s4 hb6 hb6'
        refine wpAnyH_take (i := 10) (v := ?_) rfl (by kernel_rfl) (by kernel_rfl) (by kernel_rfl) (fun _ _ _ h => h) (Or.inl ⟨by rfl, ?_⟩) (by assumption) ?_
        rotate_left
        · intro w hSw
          go_simp
          try with_reducible rfl
        simp only [Act.put, List.getElem_toArray, List.getElem_cons_zero, List.getElem_cons_succ, List.setIfInBounds_toArray, List.set_cons_zero, List.set_cons_succ]
        refine wpAnyH_take (i := 11) (v := ?_) rfl (by kernel_rfl) (by kernel_rfl) (by kernel_rfl) (fun _ _ _ h => h) (Or.inl ⟨by rfl, ?_⟩) (by assumption) ?_
        rotate_left
        · intro w hSw
          go_simp
          try with_reducible rfl
        simp only [Act.put, List.getElem_toArray, List.getElem_cons_zero, List.getElem_cons_succ, List.setIfInBounds_toArray, List.set_cons_zero, List.set_cons_succ]
        have hbz7 : Below wy.heap.size wy w7 := HB6.out
        have hba := below_alloc hbz7 (.cells (rgc ⟨mv e y.f, mv e (y.t - 1) + 1⟩) 31)
        have t0 := pw_cell_below hba e0
        have t1 := pw_cell_below hba e1
        have t2 := pw_cell_below hba e2
        have t3 := pw_cell_below hba y0
        have t4 := pw_cell_below hba y1
        refine wpAnyH_ready (rs := [12]) (by kernel_rfl) (by simp) ?_
        refine AllReadyH.cons rfl (fun K hK => ?_) AllReadyH.nil
        go_simp
        refine hK.out _ _ ⟨t0, t1, t2, t3, t4⟩ (fun hHeld2 => ?_)
        clear hK K hHeld
        have hHeld := hHeld2
        clear hHeld2
        try simp only [Act.put, List.getElem_toArray, List.getElem_cons_zero, List.getElem_cons_succ, List.setIfInBounds_toArray, List.set_cons_zero, List.set_cons_succ]
        refine wpAnyH_ready (rs := [13]) (by kernel_rfl) (by simp) ?_
        refine AllReadyH.cons rfl (fun K hK => ?_) AllReadyH.nil
        refine Kd.R_append_step (W := w7) kR (w0 := w7) 0 (by rfl) (.tmp 81) (.tmp 93) 22 31 (.agg #[.int .i64 0, .int .i64 0]) 16 rfl Try.underlying22 info31 rfl (by decide) (by decide) (.slice A7 n7 c7) (LT) ⟨mv e y.f, mv e (y.t - 1) + 1⟩ [.int .i64 (mv e y.f), .int .i64 (mv e (y.t - 1) + 1)] (fun j => w4.heap.size ≤ j) (fun _ => False) rfl rfl rfl (fun _ h => h.elim) (fun j hj => Nat.le_trans HBY.out.size (Nat.le_trans HB6.out.size hj)) (Kd.R_below HRY.out HB6.out) (Below.refl _ _) (Nat.zero_le _) (by rw [HL.out]; omega) ?_
        intro v8 w8 hR8 _ hg8 hat8
        obtain ⟨A8, c8, hv8, _, _⟩ := Kd.R_reads hR8
        rw [show (LT ++ [(⟨mv e y.f, mv e (y.t - 1) + 1⟩ : Rg)]).length = n7 + 1 from (by rw [List.length_append, HL.out]; rfl)] at hv8
        subst hv8
        have hz8 : ∀ j, j < wy.heap.size → (∀ i, (Value.slice A7 n7 c7).ownBlock = some i → i ≠ j) → w8.heap[j]? = wy.heap[j]? := fun j hj hne => (hg8.block j (Nat.lt_of_lt_of_le hj HB6.out.size) (fun e => hne j e.symm rfl)).trans (HB6.out.block j hj)
        have hown : ∀ j, (Value.slice A7 n7 c7).ownBlock = some j → w4.heap.size ≤ j := fun j hj => HRY.out.1 j hj
        have hbb : w8.heap[b]? = wy.heap[b]? := hz8 b (Nat.lt_of_lt_of_le HBS4.out HBY.out.size) (fun i hi => by have := hown i hi; have := HBS4.out; omega)
        have hbxx : w8.heap[bx]? = wy.heap[bx]? := hz8 bx (blk_lt HBXR.out) HOW.out
        have u0 : w8.cell? ⟨b, 0, none⟩ = some (.int .i64 e.p) := by unfold World.cell? at e0 ⊢; rw [hbb]; exact e0
        have u1 : w8.cell? ⟨b, 1, none⟩ = some (.int .i64 e.d) := by unfold World.cell? at e1 ⊢; rw [hbb]; exact e1
        have u2 : w8.cell? ⟨b, 2, none⟩ = some (.string e.s) := by unfold World.cell? at e2 ⊢; rw [hbb]; exact e2
        have u3 : w8.cell? ⟨bx, 0, none⟩ = some (.int .i64 y.f) := by unfold World.cell? at y0 ⊢; rw [hbxx]; exact y0
        have u4 : w8.cell? ⟨bx, 1, none⟩ = some (.int .i64 y.t) := by unfold World.cell? at y1 ⊢; rw [hbxx]; exact y1
        have h47 : Below w4.heap.size w4 w7 := HBY.out.trans (HB6.out.mono HBY.out.size)
        have HB8 : Aside0 (Below w4.heap.size w4 w8) := ⟨h47.grown hg8 h47.size (fun j e => hown j e)⟩
        have HR8 : Aside0 (kR.R 31 w8 0 (fun j => w4.heap.size ≤ j) (.slice A8 (n7 + 1) c8) ((R1.take (k + 1)).flatMap (cutL e))) := ⟨by rw [HFU.out]; exact hR8⟩
        have HL8 : Aside0 (((R1.take (k + 1)).flatMap (cutL e)).length = n7 + 1) := ⟨by rw [HFU.out, List.length_append, HL.out]; rfl⟩
        clear hR8 hg8 hat8 hz8 hown hbb hbxx h47
        refine hK.out _ _ ⟨u0, u1, u2, u3, u4⟩ (fun hHeld2 => ?_)
        clear hK K hHeld
        have hHeld := hHeld2
        clear hHeld2
        try simp only [Act.put, List.getElem_toArray, List.getElem_cons_zero, List.getElem_cons_succ, List.setIfInBounds_toArray, List.set_cons_zero, List.set_cons_succ]
        refine wpAnyH_take (i := 14) (v := ?_) rfl (by kernel_rfl) (by kernel_rfl) (by kernel_rfl) (fun _ _ _ h => h) (Or.inl ⟨by rfl, ?_⟩) (by assumption) ?_
        rotate_left
        · intro w hSw
          go_simp
          try with_reducible rfl
        simp only [Act.put, List.getElem_toArray, List.getElem_cons_zero, List.getElem_cons_succ, List.setIfInBounds_toArray, List.set_cons_zero, List.set_cons_succ]
        refine wpAnyH_done (by kernel_rfl) ?_ _
        refine NoPanic.normal ?_
        clear e0 e1 e2 y0 y1 u0 u1 u2 u3 u4 t0 t1 t2 t3 t4 hba hbz7 hHeld
        go_wp2_with (fail)
        go_roundg gn
        case measure => exact Nat.lt_succ_self _
        case rel => exact ⟨k + 1, n7 + 1, c8, A8, by simp, rfl, ⟨by have := HK.out; omega⟩, HB8, HR8, HL8, ⟨by have := HQ.out; omega⟩⟩
    · have q : ¬ ((k : Int) < (n4 : Int)) := by omega
      have hk : LT = R1.flatMap (cutL e) := by
        rw [← HLT.out, List.take_of_length_le (by rw [HN4.out]; omega)]
      have HRM : Aside0 (kR.R 31 wr 0 (fun j => w4.heap.size ≤ j) (.slice A7 n7 c7) (R1.flatMap (cutL e))) := ⟨by rw [← hk]; exact HR.out⟩
      have HLM : Aside0 ((R1.flatMap (cutL e)).length = n7) := ⟨by rw [← hk]; exact HL.out⟩
      have HAr := Aside0.mk (rgs_below HA4.out HB.out)
      have HXr := Aside0.mk (HX4.out.keep HB.out HBS4.out)
      have HBr : Aside0 (Below w.heap.size w wr) := ⟨HB4.out.trans (HB.out.mono HB4.out.size)⟩
      have hn78 : n7 ≤ 4004 := by have h1 := HQ.out; have h2 := HK.out; omega
      have HQ7 : Aside0 (n7 ≤ 2 * n4) := ⟨by have h1 := HQ.out; have h2 := HK.out; omega⟩
      obtain ⟨e0, e1, e2⟩ := HXr.out
      obtain ⟨b1, hb1⟩ : ∃ q, has l (e.p - 1) = q := ⟨_, rfl⟩
      obtain ⟨b2, hb2⟩ : ∃ q, has l (e.p + e.d) = q := ⟨_, rfl⟩
      have H1 := Aside0.mk hb1
      have H2 := Aside0.mk hb2
      clear hk hb1 hb2 HK HR HQ HL
      cases b1
      case false =>
        have HU := Aside0.mk (rof0_c A7 n7 c7 (R1.flatMap (cutL e) ++ jn e false) none 0 0 [] wr (by
          rw [show R1.flatMap (cutL e) ++ jn e false = R1.flatMap (cutL e) from (by simp [jn])]
          have h := (Kd.R_reads' HRM.out).2.2
          rw [HLM.out] at h
          exact h) (no_rows wr) (by omega))
        go_wp2_with (first | (refine (rhas_c A n c l _ wr HAr.out).mono ?_; rintro _ w9 ⟨rfl, h9⟩; rw [h9]; clear h9 w9; first | rw [H1.out] | rw [H2.out]) | (refine HU.out.mono ?_))
        rintro _ wF ⟨vF, RF, rfl, hrF, hfF, hhF, hlF, hbF⟩
        have HRF := Aside0.mk hrF
        have HFF := Aside0.mk hfF
        have HHF := Aside0.mk hhF
        have HLF := Aside0.mk hlF
        have HBF := Aside0.mk hbF
        clear hrF hfF hhF hlF hbF e0 e1 e2
        go_wp2_with (fail)
        go_ret
        have hWz : Below w.heap.size w wr := HBr.out
        refine ⟨vF, RF, rfl, kd_mono HRF.out (fun j hj => Nat.le_trans hWz.size (HRF.out.1 j hj)), HFF.out, fun x => ?_, ?_, hWz.trans (HBF.out.mono hWz.size)⟩
        · rw [HHF.out x, has_nil, Bool.or_false]
          have h := ref_moves HOK.out HH1.out HF1.out (b := false) (by rw [H1.out, H2.out]; rfl) x
          exact h
        · have h1 := HLF.out
          rw [show (R1.flatMap (cutL e) ++ jn e false).length = n7 from (by rw [List.length_append, HLM.out]; rfl), List.length_nil] at h1
          have h2 := HL1.out
          have h3 := HQ7.out
          have h4 := HLN.out
          omega
      case true =>
        cases b2
        case false =>
          have HU := Aside0.mk (rof0_c A7 n7 c7 (R1.flatMap (cutL e) ++ jn e false) none 0 0 [] wr (by
            rw [show R1.flatMap (cutL e) ++ jn e false = R1.flatMap (cutL e) from (by simp [jn])]
            have h := (Kd.R_reads' HRM.out).2.2
            rw [HLM.out] at h
            exact h) (no_rows wr) (by omega))
          go_wp2_with (first | (refine (rhas_c A n c l _ wr HAr.out).mono ?_; rintro _ w9 ⟨rfl, h9⟩; rw [h9]; clear h9 w9; first | rw [H1.out] | rw [H2.out]) | (refine HU.out.mono ?_))
          rintro _ wF ⟨vF, RF, rfl, hrF, hfF, hhF, hlF, hbF⟩
          have HRF := Aside0.mk hrF
          have HFF := Aside0.mk hfF
          have HHF := Aside0.mk hhF
          have HLF := Aside0.mk hlF
          have HBF := Aside0.mk hbF
          clear hrF hfF hhF hlF hbF e0 e1 e2
          go_wp2_with (fail)
          go_ret
          have hWz : Below w.heap.size w wr := HBr.out
          refine ⟨vF, RF, rfl, kd_mono HRF.out (fun j hj => Nat.le_trans hWz.size (HRF.out.1 j hj)), HFF.out, fun x => ?_, ?_, hWz.trans (HBF.out.mono hWz.size)⟩
          · rw [HHF.out x, has_nil, Bool.or_false]
            have h := ref_moves HOK.out HH1.out HF1.out (b := false) (by rw [H1.out, H2.out]; rfl) x
            exact h
          · have h1 := HLF.out
            rw [show (R1.flatMap (cutL e) ++ jn e false).length = n7 from (by rw [List.length_append, HLM.out]; rfl), List.length_nil] at h1
            have h2 := HL1.out
            have h3 := HQ7.out
            have h4 := HLN.out
            omega
        case true =>
          go_wp2_with (first | (refine (rhas_c A n c l _ wr HAr.out).mono ?_; rintro _ w9 ⟨rfl, h9⟩; rw [h9]; clear h9 w9; first | rw [H1.out] | rw [H2.out]) | (at_builtin; refine Kd.R_append kR (w0 := wr) 0 rfl (.tmp 109) (.tmp 119) 22 31 (.agg #[.int .i64 0, .int .i64 0]) 16 rfl Try.underlying22 info31 rfl (by decide) (by decide) (.slice A7 n7 c7) (R1.flatMap (cutL e)) ⟨e.p, e.p + ((e.s.size : Nat) : Int)⟩ [.int .i64 e.p, .int .i64 (e.p + ((e.s.size : Nat) : Int))] (fun j => w4.heap.size ≤ j) (fun _ => False) rfl rfl rfl (fun _ h => h.elim) (fun j hj => Nat.le_trans HB.out.size hj) HRM.out (Below.refl _ _) (Nat.zero_le _) (by rw [HLM.out]; omega) ?_; intro v8 w8 hR8 _ hg8 hat8; obtain ⟨A8, c8, hv8, _, _⟩ := Kd.R_reads hR8; rw [show (R1.flatMap (cutL e) ++ [(⟨e.p, e.p + ((e.s.size : Nat) : Int)⟩ : Rg)]).length = n7 + 1 from (by rw [List.length_append, HLM.out]; rfl)] at hv8; subst hv8; have HR8 := Aside0.mk hR8; have HG8 := Aside0.mk hg8; clear hR8 hg8 hat8))
          have HU := Aside0.mk (rof0_c A8 (n7 + 1) c8 (R1.flatMap (cutL e) ++ jn e true) none 0 0 [] w8 (by
            have h := (Kd.R_reads' HR8.out).2.2
            rw [show (R1.flatMap (cutL e) ++ [(⟨e.p, e.p + ((e.s.size : Nat) : Int)⟩ : Rg)]).length = n7 + 1 from (by rw [List.length_append, HLM.out]; rfl)] at h
            exact h) (no_rows w8) (by omega))
          have HB8 : Aside0 (Below w.heap.size w w8) := ⟨HBr.out.grown HG8.out HBr.out.size (fun j e => Nat.le_trans HB4.out.size (HRM.out.1 j e))⟩
          refine HU.out.mono ?_
          rintro _ wF ⟨vF, RF, rfl, hrF, hfF, hhF, hlF, hbF⟩
          have HRF := Aside0.mk hrF
          have HFF := Aside0.mk hfF
          have HHF := Aside0.mk hhF
          have HLF := Aside0.mk hlF
          have HBF := Aside0.mk hbF
          clear hrF hfF hhF hlF hbF e0 e1 e2
          go_wp2_with (fail)
          go_ret
          have hWz : Below w.heap.size w w8 := HB8.out
          refine ⟨vF, RF, rfl, kd_mono HRF.out (fun j hj => Nat.le_trans hWz.size (HRF.out.1 j hj)), HFF.out, fun x => ?_, ?_, hWz.trans (HBF.out.mono hWz.size)⟩
          · rw [HHF.out x, has_nil, Bool.or_false]
            have h := ref_moves HOK.out HH1.out HF1.out (b := true) (by rw [H1.out, H2.out]; rfl) x
            exact h
          · have h1 := HLF.out
            rw [show (R1.flatMap (cutL e) ++ jn e true).length = n7 + 1 from (by rw [List.length_append, HLM.out]; rfl), List.length_nil] at h1
            have h2 := HL1.out
            have h3 := HQ7.out
            have h4 := HLN.out
            omega
end Go.Proofs.Ytcbddmmoioggaaa.Sp
