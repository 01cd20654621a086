/- span.Move walked. -/
import Derived.Test.YtcbddmmoioggaaaMv
namespace Go.Proofs.Ytcbddmmoioggaaa.Sp
open Go.RowKit Go.Shelf Go.Proofs.YtcbddmmoioggaaaW.PrintWords Go.Proofs.YtcbddmmoioggaaaW.PrintLast Go.Proofs.YtcbddmmoioggaaaW.PrintMore
attribute [local go_sem] max2_int min2_int max_two min_two max_three min_three max_four min_four
set_option linter.unusedVariables false
set_option linter.unusedSimpArgs false
theorem lit1 (w : World) (r : Rg) : ReadsRow RRg 2 (w.alloc (.cells (rgc r) 31)) (some ⟨w.heap.size, 0, none⟩) 1 [r] := ⟨rfl, by decide, fun _ => ⟨_, rfl, fun k a ha => by
  have hx : (w.alloc (.cells (rgc r) 31)).heap[w.heap.size]? = some (.cells (rgc r) 31 (0, 0)) := heap_alloc_new _ _
  obtain ⟨hk, hk2⟩ := List.getElem?_eq_some_iff.1 ha
  simp at hk
  subst hk
  have hk2 : r = a := hk2
  subst hk2
  refine ⟨(rgc r).toList, rfl, rfl, fun j u hu => ?_⟩
  match j, hu with
  | 0, hu => exact (cell_of_row _ _ _ _ _ _ hx).trans hu
  | 1, hu => exact (cell_of_row _ _ _ _ _ _ hx).trans hu
  | j + 2, hu => simp at hu⟩⟩
theorem mv_in {e : Ed} (ok : Ok e) {x : Int} (h0 : 0 ≤ x) (h1 : x ≤ top) : 0 ≤ mv e x ∧ mv e x ≤ top + 1048576 := by
  have := ok.p
  have := ok.d
  have := ok.i
  unfold mv top at *
  split <;> (try split) <;> omega
theorem set_mid {l : List Rg} (f : Rg → Rg) {k : Nat} {y : Rg} (hk : k < l.length) (hy : l[k]? = some y) : ((l.take k).map f ++ l.drop k).set k (f y) = (l.take (k + 1)).map f ++ l.drop (k + 1) := by
  have hlen : ((l.take k).map f).length = k := by rw [List.length_map, List.length_take]; omega
  rw [List.set_append_right _ _ (by omega), hlen, Nat.sub_self, List.drop_eq_getElem_cons hk, List.set_cons_zero, take_snoc hy, List.map_append, List.append_assoc]
  rfl
/-- What Move gives, for an edit that is not odd. -/
def MvP (w : World) (e : Ed) (l : List Rg) (en : Ending) (w' : World) : Prop :=
  ∃ v R, en = .returned v ∧ kR.R 31 w' 0 (fun j => w.heap.size ≤ j) v R ∧ Form R ∧ (∀ x, has R x = true ↔ TT e l x) ∧ R.length ≤ 16 * l.length + 64 ∧ Below w.heap.size w w'
set_option maxRecDepth 100000 in
set_option maxHeartbeats 4000000 in
theorem move_ok (A : Option Addr) (n c : Nat) (l : List Rg) (e : Ed) (w : World) (ok : Ok e) (hA : ReadsRow RRg 2 w A n l) (hn : n ≤ 1000) : Calls Try.prog 22 #[.slice A n c, .agg (edc e)] w fun en w' => MvP w e l en w' := by
  obtain ⟨wx, hwx⟩ : ∃ q, w.alloc (.cells (edc e) 35) = q := ⟨_, rfl⟩
  obtain ⟨b, hb⟩ : ∃ q, w.heap.size = q := ⟨_, rfl⟩
  have hx : Bx wx b e := by rw [← hwx, ← hb]; exact Bx.of
  have hbx : Below w.heap.size w wx := by rw [← hwx]; exact below_alloc (Below.refl _ w) _
  have hbs : b < wx.heap.size := blk_lt (show wx.heap[b]? = some (.cells (edc e) 35 (0, 0)) by rw [← hwx, ← hb]; exact heap_alloc_new _ _)
  obtain ⟨e0, e1, e2⟩ := hx
  have HBX := Aside0.mk hbx
  have HBS := Aside0.mk hbs
  have HOK := Aside0.mk ok
  have okp := ok.p
  have okd := ok.d
  have oki := ok.i
  have hi : ((e.s.size : Nat) : Int) = e.i := rfl
  have HI := Aside0.mk hi
  have HO1 := Aside0.mk (odd_ok okp)
  have HO2 := Aside0.mk (odd_ok okd)
  have HO3 : Aside0 (odd ((e.s.size : Nat) : Int) = false) := ⟨odd_ok (by rw [hi]; exact oki)⟩
  have w1 : IntKind.i64.wrap (e.p + e.d) = e.p + e.d := IntWalk.i64_in _ (by omega)
  have w2 : IntKind.i64.wrap (e.p + ((e.s.size : Nat) : Int)) = e.p + ((e.s.size : Nat) : Int) := IntWalk.i64_in _ (by rw [hi]; omega)
  have w3 : IntKind.i64.wrap (e.p - 1) = e.p - 1 := IntWalk.i64_in _ (by omega)
  have HA := Aside0.mk (rgs_below hA hbx)
  have HLN := Aside0.mk hA.1
  have HBW := Aside0.mk hb
  clear ok hbx okp okd oki hi hA hbs
  go_enter Try.func22, Try.ntmps22
  go_wp2_with (first | (refine (odd34_c _ _).mono ?_; rintro _ w9 ⟨rfl, h9⟩; rw [h9]; clear h9 w9; first | rw [HO1.out] | rw [HO2.out] | rw [HO3.out]) | (refine (both_c A n c l (some ⟨wx.heap.size, 0, none⟩) 1 1 [⟨0, e.p⟩] _ (rgs_below HA.out (below_alloc (Below.refl _ wx) _)) (lit1 wx ⟨0, e.p⟩) (by omega)).mono ?_))
  rintro _ w4 ⟨v4, R1, rfl, hr1, hf1, hh1, hl1, hb4⟩
  obtain ⟨A4, c4, rfl, _, hC1⟩ := Kd.R_reads hr1
  obtain ⟨n4, hn4⟩ : ∃ q, R1.length = q := ⟨_, rfl⟩
  rw [hn4] at hr1 hl1 ⊢
  have hb04 : Below wx.heap.size wx w4 := by
    have h1 := below_alloc (Below.refl wx.heap.size wx) (.cells (rgc ⟨0, e.p⟩) 31)
    exact h1.trans (hb4.mono h1.size)
  have hs14 : wx.heap.size ≤ w4.heap.size := hb04.size
  have HR1 : Aside0 (kR.R 31 w4 0 (fun j => w.heap.size ≤ j) (.slice A4 n4 c4) R1) := ⟨kd_mono hr1 (fun j hk => by
    have hj := hr1.1 j hk
    have h1 : (wx.alloc (.cells (rgc ⟨0, e.p⟩) 31)).heap.size ≤ j := hj
    have h2 := (below_alloc (Below.refl wx.heap.size wx) (.cells (rgc ⟨0, e.p⟩) 31)).size
    have h3 := HBX.out.size
    show w.heap.size ≤ j
    omega)⟩
  have HF1 := Aside0.mk hf1
  have HH1 := Aside0.mk hh1
  have HN4 := Aside0.mk hn4
  have hn48 : n4 ≤ 2002 := by have := HLN.out; simp only [List.length_cons, List.length_nil] at hl1; omega
  have HL1 : Aside0 (n4 ≤ 2 * n + 2) := ⟨by have := HLN.out; simp only [List.length_cons, List.length_nil] at hl1; omega⟩
  have HA4 := Aside0.mk (rgs_below HA.out hb04)
  have HX4 := Aside0.mk ((show Bx wx b e from ⟨e0, e1, e2⟩).keep hb04 HBS.out)
  have HB4 : Aside0 (Below w.heap.size w w4) := ⟨HBX.out.trans (hb04.mono HBX.out.size)⟩
  have HBS4 : Aside0 (b < w4.heap.size) := ⟨Nat.lt_of_lt_of_le HBS.out hs14⟩
  clear e0 e1 e2 hr1 hf1 hh1 hl1 hb4 hC1 hn4 hb04 hs14 HA HBS HBX
  obtain ⟨e0, e1, e2⟩ := HX4.out
  go_wp2_with (refine (minus_c A n c l (some ⟨w4.heap.size, 0, none⟩) 1 1 [⟨0, e.p + e.d⟩] _ (rgs_below HA4.out (below_alloc (Below.refl _ w4) _)) (lit1 w4 ⟨0, e.p + e.d⟩) (by omega)).mono ?_)
  rintro _ w5 ⟨v5, R2, rfl, hr2, hf2, hh2, hl2, hb5⟩
  obtain ⟨A5, c5, rfl, _, _⟩ := Kd.R_reads hr2
  obtain ⟨n5, hn5⟩ : ∃ q, R2.length = q := ⟨_, rfl⟩
  rw [hn5] at hr2 hl2 ⊢
  have hb45 : Below w4.heap.size w4 w5 := by
    have h1 := below_alloc (Below.refl w4.heap.size w4) (.cells (rgc ⟨0, e.p + e.d⟩) 31)
    exact h1.trans (hb5.mono h1.size)
  have HR2 : Aside0 (kR.R 31 w5 0 (fun j => w4.heap.size ≤ j) (.slice A5 n5 c5) R2) := ⟨kd_mono hr2 (fun j hk => Nat.le_trans (below_alloc (Below.refl w4.heap.size w4) (.cells (rgc ⟨0, e.p + e.d⟩) 31)).size (hr2.1 j hk))⟩
  have HF2 := Aside0.mk hf2
  have HH2 := Aside0.mk hh2
  have HN5 := Aside0.mk hn5
  have hn58 : n5 ≤ 2002 := by have := HLN.out; simp only [List.length_cons, List.length_nil] at hl2; omega
  have HL2 : Aside0 (n5 ≤ 2 * n + 2) := ⟨by have := HLN.out; simp only [List.length_cons, List.length_nil] at hl2; omega⟩
  have HB45 := Aside0.mk hb45
  clear e0 e1 e2 hr2 hf2 hh2 hl2 hb5 hn5 hb45 hwx
  go_upto_block 0 with (fail)
  go_wp2_with (fail)
  go_loopg [48] n5 (fun gk v48 wr => ∃ (k : Nat), v48 = .int .i64 (k : Int) ∧ Aside0 (k + gk = n5) ∧ Aside0 (Below w4.heap.size w4 wr) ∧ Aside0 (kR.R 31 wr 0 (fun j => w4.heap.size ≤ j) (.slice A5 n5 c5) ((R2.take k).map (sh e) ++ R2.drop k)))
  case atStart => exact ⟨0, rfl, ⟨by omega⟩, HB45, HR2⟩
  case round =>
    obtain ⟨k, rfl, HK, HB, HR⟩ := hrel
    by_cases hkn : k < n5
    · obtain ⟨gn, rfl⟩ : ∃ gn, gk = gn + 1 := ⟨gk - 1, by have := HK.out; omega⟩
      obtain ⟨y, hy⟩ : ∃ y, R2[k]? = some y := ⟨_, List.getElem?_eq_getElem (by rw [HN5.out]; exact hkn)⟩
      have hlr : ((R2.take k).map (sh e) ++ R2.drop k).length = n5 := by rw [List.length_append, List.length_map, List.length_take, List.length_drop, HN5.out]; omega
      have hyr : ((R2.take k).map (sh e) ++ R2.drop k)[k]? = some y := by
        rw [List.getElem?_append_right (by rw [List.length_map, List.length_take]; omega), List.length_map, List.length_take, Nat.min_eq_left (by rw [HN5.out]; omega), Nat.sub_self, List.getElem?_drop]
        exact hy
      obtain ⟨g, cap, hv, hcap⟩ := formR HR.out (by rw [hlr]; omega)
      injection hv with hv1 hv2 hv3
      subst hv1 hv3
      have hc := atR HR.out hyr
      have c0 : wr.cell? ⟨g, k * 2, none⟩ = some (.int .i64 y.f) := hc 0 _ rfl
      have c1 : wr.cell? ⟨g, k * 2 + 1, none⟩ = some (.int .i64 y.t) := hc 1 _ rfl
      have p0 : (0 : Int) ≤ (k : Int) := by omega
      have p1 : (k : Int) < (n5 : Int) := by omega
      have hw1 : IntKind.i64.wrap ((k : Int) + 1) = (k : Int) + 1 := IntWalk.i64_in _ (by omega)
      have HY := Aside0.mk hy
      have HYR := Aside0.mk hyr
      have HLR := Aside0.mk hlr
      clear hy hlr hyr hv2 hc
      go_upto_region 10 with (fail)
      obtain ⟨wy, hwy⟩ : ∃ q, wr.alloc (.cells #[.int .i64 y.f, .int .i64 y.t] 31) = q := ⟨_, rfl⟩
      rw [hwy]
      obtain ⟨bx, hbx⟩ : ∃ q, wr.heap.size = q := ⟨_, rfl⟩
      have hbxr : wy.heap[bx]? = some (.cells #[.int .i64 y.f, .int .i64 y.t] 31 (0, 0)) := by rw [← hwy, ← hbx]; exact heap_alloc_new _ _
      have hby : Below wr.heap.size wr wy := by rw [← hwy]; exact below_alloc (Below.refl _ wr) _
      rw [hbx]
      have HBY := Aside0.mk hby
      have HX6 := Aside0.mk ((HX4.out.keep HB.out HBS4.out).keep hby (Nat.lt_of_lt_of_le HBS4.out HB.out.size))
      obtain ⟨e0, e1, e2⟩ := HX6.out
      have y0 : wy.cell? ⟨bx, 0, none⟩ = some (.int .i64 y.f) := cell_of_row _ _ _ _ _ _ hbxr
      have y1 : wy.cell? ⟨bx, 1, none⟩ = some (.int .i64 y.t) := cell_of_row _ _ _ _ _ _ hbxr
      have HBXR := Aside0.mk hbxr
      have HRY := Aside0.mk (Kd.R_below HR.out hby)
      have HYE := Aside0.mk (HF2.out.e y (List.mem_of_getElem? HY.out))
      have wt1 : IntKind.i64.wrap (y.t - 1) = y.t - 1 := IntWalk.i64_in _ (by have := HYE.out; unfold top at this; omega)
      clear hbxr hby hwy c0 c1
      refine wp_region_noPanic ?_
      refine wp_region_last_drew (S := (fun w' => w'.cell? ⟨b, 0, none⟩ = some (.int .i64 e.p) ∧ w'.cell? ⟨b, 1, none⟩ = some (.int .i64 e.d) ∧ w'.cell? ⟨b, 2, none⟩ = some (.string e.s) ∧ w'.cell? ⟨bx, 0, none⟩ = some (.int .i64 y.f) ∧ w'.cell? ⟨bx, 1, none⟩ = some (.int .i64 y.t))) (ds := [14]) (by kernel_rfl) ?_ (fun hHeld => ?_)
      · exact ⟨e0, e1, e2, y0, y1⟩
      refine wpAnyLast_take (i := 0) (v := ?_) rfl (by kernel_rfl) (by kernel_rfl) (by kernel_rfl) (by kernel_rfl) (by kernel_rfl) (fun _ _ _ h => h) (Or.inl ⟨by rfl, ?_⟩) (by assumption) ?_
      rotate_left
      · intro w hSw
        go_simp
        try with_reducible rfl
      simp only [Act.put, List.getElem_toArray, List.getElem_cons_zero, List.getElem_cons_succ, List.setIfInBounds_toArray, List.set_cons_zero, List.set_cons_succ]
      refine wpAnyLast_take (i := 1) (v := ?_) rfl (by kernel_rfl) (by kernel_rfl) (by kernel_rfl) (by kernel_rfl) (by kernel_rfl) (fun _ _ _ h => h) (Or.inl ⟨by rfl, ?_⟩) (by assumption) ?_
      rotate_left
      · intro w hSw
        go_simp
        try with_reducible rfl
      simp only [Act.put, List.getElem_toArray, List.getElem_cons_zero, List.getElem_cons_succ, List.setIfInBounds_toArray, List.set_cons_zero, List.set_cons_succ]
      refine wpAnyLast_take (i := 2) (v := ?_) rfl (by kernel_rfl) (by kernel_rfl) (by kernel_rfl) (by kernel_rfl) (by kernel_rfl) (fun _ _ _ h => h) (Or.inl ⟨by rfl, ?_⟩) (by assumption) ?_
      rotate_left
      · intro w hSw
        go_simp
        try with_reducible rfl
      simp only [Act.put, List.getElem_toArray, List.getElem_cons_zero, List.getElem_cons_succ, List.setIfInBounds_toArray, List.set_cons_zero, List.set_cons_succ]
      refine wpAnyLast_take (i := 3) (v := ?_) rfl (by kernel_rfl) (by kernel_rfl) (by kernel_rfl) (by kernel_rfl) (by kernel_rfl) (fun _ _ _ h => h) (Or.inl ⟨by rfl, ?_⟩) (by assumption) ?_
      rotate_left
      · intro w hSw
        go_simp
        try with_reducible rfl
      simp only [Act.put, List.getElem_toArray, List.getElem_cons_zero, List.getElem_cons_succ, List.setIfInBounds_toArray, List.set_cons_zero, List.set_cons_succ]
      refine wpAnyLast_take (i := 4) (v := ?_) rfl (by kernel_rfl) (by kernel_rfl) (by kernel_rfl) (by kernel_rfl) (by kernel_rfl) (fun _ _ _ h => h) (Or.inl ⟨by rfl, ?_⟩) (by assumption) ?_
      rotate_left
      · intro w hSw
        go_simp
        try with_reducible rfl
      simp only [Act.put, List.getElem_toArray, List.getElem_cons_zero, List.getElem_cons_succ, List.setIfInBounds_toArray, List.set_cons_zero, List.set_cons_succ]
      refine wpAnyLast_take (i := 6) (v := ?_) rfl (by kernel_rfl) (by kernel_rfl) (by kernel_rfl) (by kernel_rfl) (by kernel_rfl) (fun _ _ _ h => h) (Or.inl ⟨by rfl, ?_⟩) (by assumption) ?_
      rotate_left
      · intro w hSw
        go_simp
        try with_reducible rfl
      simp only [Act.put, List.getElem_toArray, List.getElem_cons_zero, List.getElem_cons_succ, List.setIfInBounds_toArray, List.set_cons_zero, List.set_cons_succ]
      refine wpAnyLast_take (i := 7) (v := ?_) rfl (by kernel_rfl) (by kernel_rfl) (by kernel_rfl) (by kernel_rfl) (by kernel_rfl) (fun _ _ _ h => h) (Or.inl ⟨by rfl, ?_⟩) (by assumption) ?_
      rotate_left
      · intro w hSw
        go_simp
        try with_reducible rfl
      simp only [Act.put, List.getElem_toArray, List.getElem_cons_zero, List.getElem_cons_succ, List.setIfInBounds_toArray, List.set_cons_zero, List.set_cons_succ]
      refine wpAnyLast_take (i := 8) (v := ?_) rfl (by kernel_rfl) (by kernel_rfl) (by kernel_rfl) (by kernel_rfl) (by kernel_rfl) (fun _ _ _ h => h) (Or.inl ⟨by rfl, ?_⟩) (by assumption) ?_
      rotate_left
      · intro w hSw
        go_simp
        try with_reducible rfl
      simp only [Act.put, List.getElem_toArray, List.getElem_cons_zero, List.getElem_cons_succ, List.setIfInBounds_toArray, List.set_cons_zero, List.set_cons_succ]
      refine wpAnyLast_take (i := 9) (v := ?_) rfl (by kernel_rfl) (by kernel_rfl) (by kernel_rfl) (by kernel_rfl) (by kernel_rfl) (fun _ _ _ h => h) (Or.inl ⟨by rfl, ?_⟩) (by assumption) ?_
      rotate_left
      · intro w hSw
        go_simp
        try with_reducible rfl
      simp only [Act.put, List.getElem_toArray, List.getElem_cons_zero, List.getElem_cons_succ, List.setIfInBounds_toArray, List.set_cons_zero, List.set_cons_succ]
      refine wpAnyLast_ready (rs := [5]) (by kernel_rfl) (by simp) ?_
      refine AllReadyL.cons rfl (by decide) (fun K hK => ?_) AllReadyL.nil
      go_simp
      refine (mv24_c e y.f wy.drew HOK.out HYE.out.1 (by have := HYE.out; unfold top at this; omega)).mono ?_
      rintro _ w6 ⟨rfl, hb6⟩
      have hb6' : Below wy.heap.size wy w6 := (below_drew (Below.refl _ wy)).trans hb6
      have s0 := pw_cell_below hb6' e0
      have s1 := pw_cell_below hb6' e1
      have s2 := pw_cell_below hb6' e2
      have s3 := pw_cell_below hb6' y0
      have s4 := pw_cell_below hb6' y1
      refine hK.out _ _ ⟨s0, s1, s2, s3, s4⟩ (fun hHeld2 => ?_)
      clear hK K hHeld
      have hHeld := hHeld2
      clear hHeld2
      try simp only [Act.put, List.getElem_toArray, List.getElem_cons_zero, List.getElem_cons_succ, List.setIfInBounds_toArray, List.set_cons_zero, List.set_cons_succ]
      have HB6 := Aside0.mk hb6'
      clear s0 s1 s2 s3 s4 hb6 hb6'
      refine wpAnyLast_ready (rs := [10]) (by kernel_rfl) (by simp) ?_
      refine AllReadyL.cons rfl (by decide) (fun K hK => ?_) AllReadyL.nil
      go_simp
      refine (mv24_c e (y.t - 1) w6 HOK.out (by have := HYE.out; omega) (by have := HYE.out; unfold top at this; omega)).mono ?_
      rintro _ w7 ⟨rfl, hb6⟩
      have hb6' : Below wy.heap.size wy w7 := HB6.out.trans (hb6.mono HB6.out.size)
      have s0 := pw_cell_below hb6' e0
      have s1 := pw_cell_below hb6' e1
      have s2 := pw_cell_below hb6' e2
      have s3 := pw_cell_below hb6' y0
      have s4 := pw_cell_below hb6' y1
      refine hK.out _ _ ⟨s0, s1, s2, s3, s4⟩ (fun hHeld2 => ?_)
      clear hK K hHeld
      have hHeld := hHeld2
      clear hHeld2
      try simp only [Act.put, List.getElem_toArray, List.getElem_cons_zero, List.getElem_cons_succ, List.setIfInBounds_toArray, List.set_cons_zero, List.set_cons_succ]
      have HB6 := Aside0.mk hb6'
      clear s0 s1 s2 s3 s4 hb6 hb6'
      have wm : IntKind.i64.wrap (mv e (y.t - 1) + 1) = mv e (y.t - 1) + 1 := IntWalk.i64_in _ (by have h1 := mv_in HOK.out (x := y.t - 1) (by have := HYE.out; omega) (by have := HYE.out; omega); unfold top at h1; omega)
      have HR7 := Aside0.mk (Kd.R_below HRY.out HB6.out)
      have hc := atR HR7.out HYR.out
      have HC7 := Aside0.mk hc
      have c0 : w7.cell? ⟨g, k * 2, none⟩ = some (.int .i64 y.f) := hc 0 _ rfl
      have c1 : w7.cell? ⟨g, k * 2 + 1, none⟩ = some (.int .i64 y.t) := hc 1 _ rfl
      obtain ⟨cs, hcs⟩ : ∃ cs, w7.heap[g]? = some (.cells cs 31 (0, 0)) := by
        obtain ⟨_, _, _, q, hq, cs, hcs⟩ := (Kd.R_bound HR7.out).1 g rfl
        rcases List.mem_cons.1 hq with h | h
        · exact ⟨cs, by rw [← h]; exact hcs⟩
        · cases h
      have fL := fun j => blk_frozen hcs j
      clear hc hcs
      refine wpAnyLast_take (i := 11) (v := ?_) rfl (by kernel_rfl) (by kernel_rfl) (by kernel_rfl) (by kernel_rfl) (by kernel_rfl) (fun _ _ _ h => h) (Or.inl ⟨by rfl, ?_⟩) (by assumption) ?_
      rotate_left
      · intro w hSw
        go_simp
        try with_reducible rfl
      simp only [Act.put, List.getElem_toArray, List.getElem_cons_zero, List.getElem_cons_succ, List.setIfInBounds_toArray, List.set_cons_zero, List.set_cons_succ]
      refine wpAnyLast_take (i := 12) (v := ?_) rfl (by kernel_rfl) (by kernel_rfl) (by kernel_rfl) (by kernel_rfl) (by kernel_rfl) (fun _ _ _ h => h) (Or.inl ⟨by rfl, ?_⟩) (by assumption) ?_
      rotate_left
      · intro w hSw
        go_simp
        try with_reducible rfl
      simp only [Act.put, List.getElem_toArray, List.getElem_cons_zero, List.getElem_cons_succ, List.setIfInBounds_toArray, List.set_cons_zero, List.set_cons_succ]
      refine wpAnyLast_take (i := 13) (v := ?_) rfl (by kernel_rfl) (by kernel_rfl) (by kernel_rfl) (by kernel_rfl) (by kernel_rfl) (fun _ _ _ h => h) (Or.inl ⟨by rfl, ?_⟩) (by assumption) ?_
      rotate_left
      · intro w hSw
        go_simp
        try with_reducible rfl
      simp only [Act.put, List.getElem_toArray, List.getElem_cons_zero, List.getElem_cons_succ, List.setIfInBounds_toArray, List.set_cons_zero, List.set_cons_succ]
      refine wpAnyLast_ready (rs := [14]) (by kernel_rfl) (by simp) ?_
      refine AllReadyL.cons_last rfl (by decide) (fun K hK => ?_) AllReadyL.nil
      go_simp
      refine hK.out _ _ ?_
      clear hK K hHeld
      try simp only [Act.put, List.getElem_toArray, List.getElem_cons_zero, List.getElem_cons_succ, List.setIfInBounds_toArray, List.set_cons_zero, List.set_cons_succ]
      refine wpAnyLast_done (by kernel_rfl) ?_ _
      refine NoPanic.normal ?_
      obtain ⟨wE, hwE⟩ : ∃ X, (w7.setCell ⟨g, k * 2, none⟩ (.int .i64 (mv e y.f))).setCell ⟨g, k * 2 + 1, none⟩ (.int .i64 (mv e (y.t - 1) + 1)) = X := ⟨_, rfl⟩
      rw [hwE]
      obtain ⟨hs1, hs2⟩ := Kd.R_seg HR7.out (k : Int) p0 p1 (c := (rgc y).toList) (seg := [.int .i64 (mv e y.f), .int .i64 (mv e (y.t - 1) + 1)]) (j := 0) (x' := sh e y) (okp := fun _ => False) rfl (by intro j u hu; rw [Int.toNat_natCast]; exact HC7.out j u hu) (Nat.le_refl 2) rfl (fun _ h => h.elim)
      have hset : w7.setCells g ((k : Int).toNat * kR.sz + 0) [.int .i64 (mv e y.f), .int .i64 (mv e (y.t - 1) + 1)] = wE := by
        rw [Int.toNat_natCast, ← hwE]
        rfl
      rw [hset] at hs1 hs2
      rw [Int.toNat_natCast, set_mid (sh e) (by have := HY.out; exact (List.getElem?_eq_some_iff.1 this).1) HY.out] at hs1
      have HRE := Aside0.mk hs1
      have hb47 : Below w4.heap.size w4 w7 := (HB.out.trans (HBY.out.mono HB.out.size)).trans (HB6.out.mono (Nat.le_trans HB.out.size HBY.out.size))
      have HBE : Aside0 (Below w4.heap.size w4 wE) := ⟨hb47.grown hs2 hb47.size (fun j e => HRE.out.1 j e)⟩
      clear hs1 hs2 hset hwE fL c0 c1 e0 e1 e2 y0 y1 hb47
      go_wp2_with (fail)
      go_roundg gn
      case measure => exact Nat.lt_succ_self _
      case rel => exact ⟨k + 1, by simp, ⟨by have := HK.out; omega⟩, HBE, HRE⟩
    · have q : ¬ ((k : Int) < (n5 : Int)) := by omega
      have hk : ((R2.take k).map (sh e) ++ R2.drop k) = R2.map (sh e) := by
        rw [List.take_of_length_le (by rw [HN5.out]; omega), List.drop_of_length_le (by rw [HN5.out]; omega), List.append_nil]
      have HRM : Aside0 (kR.R 31 wr 0 (fun j => w4.heap.size ≤ j) (.slice A5 n5 c5) (R2.map (sh e))) := ⟨by rw [← hk]; exact HR.out⟩
      have HR1r := Aside0.mk (Kd.R_below HR1.out HB.out)
      have HAr := Aside0.mk (rgs_below HA4.out HB.out)
      have HXr := Aside0.mk (HX4.out.keep HB.out HBS4.out)
      obtain ⟨e0, e1, e2⟩ := HXr.out
      obtain ⟨b1, hb1⟩ : ∃ q, has l (e.p - 1) = q := ⟨_, rfl⟩
      obtain ⟨b2, hb2⟩ : ∃ q, has l (e.p + e.d) = q := ⟨_, rfl⟩
      have H1 := Aside0.mk hb1
      have H2 := Aside0.mk hb2
      clear hk hb1 hb2 HK HR
      go_wp2_with (refine (has_c A n c l (e.p - 1) _ HAr.out).mono ?_)
      rintro _ w6 ⟨rfl, h6⟩
      have HX6 := Aside0.mk (HXr.out.keep h6 (Nat.lt_of_lt_of_le HBS4.out HB.out.size))
      have HRM6 := Aside0.mk (Kd.R_below HRM.out h6)
      have HR16 := Aside0.mk (Kd.R_below HR1r.out h6)
      have HA6 := Aside0.mk (rgs_below HAr.out h6)
      have HB6 : Aside0 (Below w4.heap.size w4 w6) := ⟨HB.out.trans (h6.mono HB.out.size)⟩
      rw [H1.out]
      clear e0 e1 e2 h6 HXr HRM HR1r HAr
      obtain ⟨e0, e1, e2⟩ := HX6.out
      cases b1
      case false =>
        have HRMz := HRM6
        have HLLz : Aside0 ((R1 ++ jn e false).length ≤ n4 + 1) := ⟨by simp [jn, HN4.out]⟩
        have HR1c := Aside0.mk (show ReadsRow RRg 2 w6 A4 n4 (R1 ++ jn e false) by
          have h := (Kd.R_reads' HR16.out).2.2
          rw [show R1 ++ jn e false = R1 from (by simp [jn])]
          rw [HN4.out] at h
          exact h)
        have HBWz : Aside0 (Below w.heap.size w w6) := ⟨HB4.out.trans (HB6.out.mono HB4.out.size)⟩
        have HU := Aside0.mk (union_c A4 n4 c4 (R1 ++ jn e false) A5 n5 c5 (R2.map (sh e)) w6 HR1c.out (by rw [show n5 = (R2.map (sh e)).length from (by rw [List.length_map, HN5.out])]; exact (Kd.R_reads' HRMz.out).2.2) (by omega))
        go_wp2_with (refine HU.out.mono ?_)
        rintro _ wF ⟨vF, RF, rfl, hrF, hfF, hhF, hlF, hbF⟩
        have HRF := Aside0.mk hrF
        have HFF := Aside0.mk hfF
        have HHF := Aside0.mk hhF
        have HLF := Aside0.mk hlF
        have HBF := Aside0.mk hbF
        clear hrF hfF hhF hlF hbF e0 e1 e2
        go_wp2_with (fail)
        go_ret
        have hWz : Below w.heap.size w w6 := HBWz.out
        refine ⟨vF, RF, rfl, kd_mono HRF.out (fun j hj => Nat.le_trans hWz.size (HRF.out.1 j hj)), HFF.out, fun x => ?_, ?_, hWz.trans (HBF.out.mono hWz.size)⟩
        · rw [HHF.out x]
          exact prog_moves HOK.out HH1.out HH2.out HF2.out (b := false) (by rw [H1.out, H2.out]; rfl) x
        · have h1 := HLF.out
          rw [List.length_map, HN5.out] at h1
          have h2 := HL1.out
          have h3 := HL2.out
          have h4 := HLN.out
          have h5 := HLLz.out
          omega
      case true =>
        go_wp2_with (refine (has_c A n c l (e.p + e.d) _ HA6.out).mono ?_)
        rintro _ w7 ⟨rfl, h7⟩
        have HX7 := Aside0.mk (HX6.out.keep h7 (Nat.lt_of_lt_of_le HBS4.out HB6.out.size))
        have HRM7 := Aside0.mk (Kd.R_below HRM6.out h7)
        have HR17 := Aside0.mk (Kd.R_below HR16.out h7)
        have HB7 : Aside0 (Below w4.heap.size w4 w7) := ⟨HB6.out.trans (h7.mono HB6.out.size)⟩
        rw [H2.out]
        clear e0 e1 e2 h7 HX6 HRM6 HR16 HA6
        obtain ⟨e0, e1, e2⟩ := HX7.out
        cases b2
        case false =>
          have HRMz := HRM7
          have HLLz : Aside0 ((R1 ++ jn e false).length ≤ n4 + 1) := ⟨by simp [jn, HN4.out]⟩
          have HR1c := Aside0.mk (show ReadsRow RRg 2 w7 A4 n4 (R1 ++ jn e false) by
            have h := (Kd.R_reads' HR17.out).2.2
            rw [show R1 ++ jn e false = R1 from (by simp [jn])]
            rw [HN4.out] at h
            exact h)
          have HBWz : Aside0 (Below w.heap.size w w7) := ⟨HB4.out.trans (HB7.out.mono HB4.out.size)⟩
          have HU := Aside0.mk (union_c A4 n4 c4 (R1 ++ jn e false) A5 n5 c5 (R2.map (sh e)) w7 HR1c.out (by rw [show n5 = (R2.map (sh e)).length from (by rw [List.length_map, HN5.out])]; exact (Kd.R_reads' HRMz.out).2.2) (by omega))
          go_wp2_with (refine HU.out.mono ?_)
          rintro _ wF ⟨vF, RF, rfl, hrF, hfF, hhF, hlF, hbF⟩
          have HRF := Aside0.mk hrF
          have HFF := Aside0.mk hfF
          have HHF := Aside0.mk hhF
          have HLF := Aside0.mk hlF
          have HBF := Aside0.mk hbF
          clear hrF hfF hhF hlF hbF e0 e1 e2
          go_wp2_with (fail)
          go_ret
          have hWz : Below w.heap.size w w7 := HBWz.out
          refine ⟨vF, RF, rfl, kd_mono HRF.out (fun j hj => Nat.le_trans hWz.size (HRF.out.1 j hj)), HFF.out, fun x => ?_, ?_, hWz.trans (HBF.out.mono hWz.size)⟩
          · rw [HHF.out x]
            exact prog_moves HOK.out HH1.out HH2.out HF2.out (b := false) (by rw [H1.out, H2.out]; rfl) x
          · have h1 := HLF.out
            rw [List.length_map, HN5.out] at h1
            have h2 := HL1.out
            have h3 := HL2.out
            have h4 := HLN.out
            have h5 := HLLz.out
            omega
        case true =>
          go_wp2_with (at_builtin; refine Kd.R_append kR (w0 := w7) 0 rfl (.tmp 78) (.tmp 88) 22 31 (.agg #[.int .i64 0, .int .i64 0]) 16 rfl Try.underlying22 info31 rfl (by decide) (by decide) (.slice A4 n4 c4) R1 ⟨e.p, e.p + ((e.s.size : Nat) : Int)⟩ [.int .i64 e.p, .int .i64 (e.p + ((e.s.size : Nat) : Int))] (fun j => w.heap.size ≤ j) (fun _ => False) rfl rfl rfl (fun _ h => h.elim) (fun j hj => Nat.le_trans HB4.out.size (Nat.le_trans HB7.out.size hj)) HR17.out (Below.refl _ _) (Nat.zero_le _) (by rw [HN4.out]; omega) ?_; intro v8 w8 hR8 _ hg8 hat8; obtain ⟨A8, c8, hv8, _, _⟩ := Kd.R_reads hR8; rw [show (R1 ++ [(⟨e.p, e.p + ((e.s.size : Nat) : Int)⟩ : Rg)]).length = n4 + 1 from (by rw [List.length_append, HN4.out]; rfl)] at hv8; subst hv8; have HR8 := Aside0.mk hR8; have HG8 := Aside0.mk hg8; have HRMz := Aside0.mk (kd_turn (w1 := w8) HRM7.out (fun j hj hlt => hg8.block j hlt (fun e => by have h1 := HRM7.out.1 j hj; have h2 := Kd.R_lt HR1.out j e.symm; omega))); clear hR8 hg8 hat8)
          have HLLz : Aside0 ((R1 ++ jn e true).length ≤ n4 + 1) := ⟨by simp [jn, HN4.out]⟩
          have HR1c := Aside0.mk (show ReadsRow RRg 2 w8 A8 (n4 + 1) (R1 ++ jn e true) by
            have h := (Kd.R_reads' HR8.out).2.2
            rw [show (R1 ++ [(⟨e.p, e.p + ((e.s.size : Nat) : Int)⟩ : Rg)]).length = n4 + 1 from (by rw [List.length_append, HN4.out]; rfl)] at h
            exact h)
          have HBWz : Aside0 (Below w.heap.size w w8) := ⟨by
            have h47 := HB4.out.trans (HB7.out.mono HB4.out.size)
            exact h47.grown HG8.out h47.size (fun j e => HR17.out.1 j e)⟩
          have HU := Aside0.mk (union_c A8 (n4 + 1) c8 (R1 ++ jn e true) A5 n5 c5 (R2.map (sh e)) w8 HR1c.out (by rw [show n5 = (R2.map (sh e)).length from (by rw [List.length_map, HN5.out])]; exact (Kd.R_reads' HRMz.out).2.2) (by omega))
          refine HU.out.mono ?_
          rintro _ wF ⟨vF, RF, rfl, hrF, hfF, hhF, hlF, hbF⟩
          have HRF := Aside0.mk hrF
          have HFF := Aside0.mk hfF
          have HHF := Aside0.mk hhF
          have HLF := Aside0.mk hlF
          have HBF := Aside0.mk hbF
          clear hrF hfF hhF hlF hbF e0 e1 e2
          go_wp2_with (fail)
          go_ret
          have hWz : Below w.heap.size w w8 := HBWz.out
          refine ⟨vF, RF, rfl, kd_mono HRF.out (fun j hj => Nat.le_trans hWz.size (HRF.out.1 j hj)), HFF.out, fun x => ?_, ?_, hWz.trans (HBF.out.mono hWz.size)⟩
          · rw [HHF.out x]
            exact prog_moves HOK.out HH1.out HH2.out HF2.out (b := true) (by rw [H1.out, H2.out]; rfl) x
          · have h1 := HLF.out
            rw [List.length_map, HN5.out] at h1
            have h2 := HL1.out
            have h3 := HL2.out
            have h4 := HLN.out
            have h5 := HLLz.out
            omega
end Go.Proofs.Ytcbddmmoioggaaa.Sp
