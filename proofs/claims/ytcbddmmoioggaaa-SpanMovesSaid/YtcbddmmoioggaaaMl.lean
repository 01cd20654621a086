/- SpanMoves, SpanMoved walked. -/
import Derived.Test.YtcbddmmoioggaaaMd
import Derived.Test.YtcbddmmoioggaaaRm
import Derived.Test.YtcbddmmoioggaaaFo
namespace Go.Proofs.Ytcbddmmoioggaaa.Sp
open Go.RowKit Go.Shelf Go.Proofs.YtcbddmmoioggaaaW.PrintWords Go.Proofs.YtcbddmmoioggaaaW.PrintLast Go.Proofs.YtcbddmmoioggaaaW.PrintMore
attribute [local go_sem] max2_int min2_int max_two min_two max_three min_three max_four min_four
set_option linter.unusedVariables false
set_option linter.unusedSimpArgs false
/-- Just what is moved. -/
def MQ (e : Ed) (l R : List Rg) : Prop := Form R ∧ ∀ x, has R x = true ↔ (Ok e ∧ TT e l x) ∨ (¬ Ok e ∧ has l x = true)
theorem MQ.uniq {e : Ed} {l R R' : List Rg} (h : MQ e l R) (h' : MQ e l R') : R = R' := Form.uniq h.1 h'.1 (fun x => Bool.eq_iff_iff.2 ((h.2 x).trans (h'.2 x).symm))
def MvQ (w : World) (e : Ed) (l : List Rg) (en : Ending) (w' : World) : Prop :=
  ∃ v R, en = .returned v ∧ kR.R 31 w' 0 (fun j => w.heap.size ≤ j) v R ∧ MQ e l R ∧ R.length ≤ 20000 ∧ Below w.heap.size w w'
theorem MvQ.of_ok {w : World} {e : Ed} {l : List Rg} {en : Ending} {w' : World} (ok : Ok e) (hl : l.length ≤ 1000) (h : MvP w e l en w') : MvQ w e l en w' := by
  obtain ⟨v, R, h1, h2, h3, h4, h5, h6⟩ := h
  refine ⟨v, R, h1, h2, ⟨h3, fun x => ?_⟩, by omega, h6⟩
  rw [h4 x]
  exact ⟨fun h => .inl ⟨ok, h⟩, fun h => h.elim (fun h => h.2) (fun h => absurd ok h.1)⟩
theorem MvQ.of_odd {w : World} {e : Ed} {l : List Rg} {en : Ending} {w' : World} (ok : ¬ Ok e) (hl : l.length ≤ 1000) (h : OfP w (fun x y => x || y) l [] en w') : MvQ w e l en w' := by
  obtain ⟨v, R, h1, h2, h3, h4, h5, h6⟩ := h
  refine ⟨v, R, h1, h2, ⟨h3, fun x => ?_⟩, by rw [List.length_nil] at h5; omega, h6⟩
  rw [h4 x, has_nil]
  show (has l x || false) = true ↔ _
  rw [Bool.or_false]
  exact ⟨fun h => .inr ⟨ok, h⟩, fun h => h.elim (fun h => absurd h.1 ok) (fun h => h.2)⟩
theorem move_any (A : Option Addr) (n c : Nat) (l : List Rg) (e : Ed) (w : World) (hA : ReadsRow RRg 2 w A n l) (hn : n ≤ 1000) : Calls Try.prog 22 #[.slice A n c, .agg (edc e)] w fun en w' => MvQ w e l en w' := by
  by_cases ok : Ok e
  · exact (move_ok A n c l e w ok hA hn).mono (fun _ _ h => MvQ.of_ok ok (by rw [hA.1]; exact hn) h)
  · exact (move_odd A n c l e w ok hA hn).mono (fun _ _ h => MvQ.of_odd ok (by rw [hA.1]; exact hn) h)
theorem rmove_any (A : Option Addr) (n c : Nat) (l : List Rg) (e : Ed) (w : World) (hA : ReadsRow RRg 2 w A n l) (hn : n ≤ 1000) : Calls Try.prog 23 #[.slice A n c, .agg (edc e)] w fun en w' => MvQ w e l en w' := by
  by_cases ok : Ok e
  · exact (rmove_ok A n c l e w ok hA hn).mono (fun _ _ h => MvQ.of_ok ok (by rw [hA.1]; exact hn) h)
  · exact (rmove_odd A n c l e w ok hA hn).mono (fun _ _ h => MvQ.of_odd ok (by rw [hA.1]; exact hn) h)
set_option maxRecDepth 100000 in
set_option maxHeartbeats 4000000 in
theorem moves_c (A : Option Addr) (n c : Nat) (l : List Rg) (e : Ed) (w : World) (hA : ReadsRow RRg 2 w A n l) : Calls Try.prog 6 #[.slice A n c, .agg (edc e)] w fun en w' => BoolP w true en w' := by
  obtain ⟨wx, hwx⟩ : ∃ q, w.alloc (.cells (edc e) 35) = q := ⟨_, rfl⟩
  obtain ⟨b, hb⟩ : ∃ q, w.heap.size = q := ⟨_, rfl⟩
  have hx : Bx wx b e := by rw [← hwx, ← hb]; exact Bx.of
  have hbx : Below w.heap.size w wx := by rw [← hwx]; exact below_alloc (Below.refl _ w) _
  have hbs : b < wx.heap.size := blk_lt (show wx.heap[b]? = some (.cells (edc e) 35 (0, 0)) by rw [← hwx, ← hb]; exact heap_alloc_new _ _)
  obtain ⟨e0, e1, e2⟩ := hx
  have HXX : Aside0 (Bx wx b e) := ⟨⟨e0, e1, e2⟩⟩
  have HBX := Aside0.mk hbx
  have HBS := Aside0.mk hbs
  have HR0 := Aside0.mk (rgs_below hA hbx)
  have HLN := Aside0.mk hA.1
  clear hbx hA hbs
  by_cases h200 : (200 : Int) < (n : Int)
  · go_enter Try.func6, Try.ntmps6
    go_wp2_with (refine (wakes_c _).mono ?_; rintro _ w1 ⟨rfl, hb⟩; have HB := Aside0.mk hb; clear hb)
    go_ret
    exact ⟨rfl, HBX.out.trans (HB.out.mono HBX.out.size)⟩
  have hn : n ≤ 200 := by omega
  go_enter Try.func6, Try.ntmps6
  have HC_ := Aside0.mk (own_c A n c l wx HR0.out (by omega))
  go_upto_region 4 with (refine HC_.out.mono ?_; rintro _ w5 ⟨v5, rfl, hr5, hb5⟩; obtain ⟨A5, c5, rfl, _, hC5⟩ := Kd.R_reads hr5; rw [HLN.out] at hC5; rw [HLN.out]; have HR5 := Aside0.mk hC5; have HX5 := Aside0.mk (HXX.out.keep hb5 HBS.out); have HA5 := Aside0.mk (rgs_below HR0.out hb5); have HB5 := Aside0.mk hb5; clear hr5 hb5 hC5)
  clear e0 e1 e2
  obtain ⟨e0, e1, e2⟩ := HX5.out
  refine wp_region_noPanic ?_
  refine wp_region_held_drew (S := (fun w' => w'.cell? ⟨b, 0, none⟩ = some (.int .i64 e.p) ∧ w'.cell? ⟨b, 1, none⟩ = some (.int .i64 e.d) ∧ w'.cell? ⟨b, 2, none⟩ = some (.string e.s))) (by kernel_rfl) ?_ (fun hHeld => ?_)
  · exact ⟨e0, e1, e2⟩
  refine wpAnyH_take (i := 0) (v := ?_) rfl (by kernel_rfl) (by kernel_rfl) (by kernel_rfl) (fun _ _ _ h => h) (Or.inl ⟨by rfl, ?_⟩) (by assumption) ?_
  rotate_left
  · intro w hSw
    go_simp
    try with_reducible rfl
  simp only [Act.put, List.getElem_toArray, List.getElem_cons_zero, List.getElem_cons_succ, List.setIfInBounds_toArray, List.set_cons_zero, List.set_cons_succ]
  refine wpAnyH_take (i := 1) (v := ?_) rfl (by kernel_rfl) (by kernel_rfl) (by kernel_rfl) (fun _ _ _ h => h) (Or.inl ⟨by rfl, ?_⟩) (by assumption) ?_
  rotate_left
  · intro w hSw
    go_simp
    try with_reducible rfl
  simp only [Act.put, List.getElem_toArray, List.getElem_cons_zero, List.getElem_cons_succ, List.setIfInBounds_toArray, List.set_cons_zero, List.set_cons_succ]
  refine wpAnyH_take (i := 3) (v := ?_) rfl (by kernel_rfl) (by kernel_rfl) (by kernel_rfl) (fun _ _ _ h => h) (Or.inl ⟨by rfl, ?_⟩) (by assumption) ?_
  rotate_left
  · intro w hSw
    go_simp
    try with_reducible rfl
  simp only [Act.put, List.getElem_toArray, List.getElem_cons_zero, List.getElem_cons_succ, List.setIfInBounds_toArray, List.set_cons_zero, List.set_cons_succ]
  refine wpAnyH_take (i := 4) (v := ?_) rfl (by kernel_rfl) (by kernel_rfl) (by kernel_rfl) (fun _ _ _ h => h) (Or.inl ⟨by rfl, ?_⟩) (by assumption) ?_
  rotate_left
  · intro w hSw
    go_simp
    try with_reducible rfl
  simp only [Act.put, List.getElem_toArray, List.getElem_cons_zero, List.getElem_cons_succ, List.setIfInBounds_toArray, List.set_cons_zero, List.set_cons_succ]
  have HA5d : Aside0 (ReadsRow RRg 2 w5.drew A n l) := ⟨rgs_below HA5.out (below_drew (Below.refl _ w5))⟩
  have HR5d : Aside0 (ReadsRow RRg 2 w5.drew A5 n l) := ⟨rgs_below HR5.out (below_drew (Below.refl _ w5))⟩
  refine wpAnyH_ready (rs := [2]) (by kernel_rfl) (by simp) ?_
  refine AllReadyH.cons rfl (fun K hK => ?_) AllReadyH.nil
  go_simp
  refine (move_any A5 n c5 l e w5.drew HR5d.out (by omega)).mono ?_
  rintro _ w6 ⟨v6, R, rfl, hr6, hq6, hl6, hb6⟩
  obtain ⟨A6, c6, rfl, _, hC6⟩ := Kd.R_reads hr6
  have HQ6 := Aside0.mk hq6
  have HR6 := Aside0.mk hC6
  obtain ⟨n6, hn6⟩ : ∃ q, R.length = q := ⟨_, rfl⟩
  rw [hn6] at HR6 ⊢
  have HN6 := Aside0.mk hn6
  have HRb6 := Aside0.mk (rgs_below HR5d.out hb6)
  have HA6 := Aside0.mk (rgs_below HA5d.out hb6)
  have hb56 : Below w5.heap.size w5 w6 := (below_drew (Below.refl _ w5)).trans hb6
  have HB6 := Aside0.mk hb56
  have s0 := pw_cell_below hb56 e0
  have s1 := pw_cell_below hb56 e1
  have s2 := pw_cell_below hb56 e2
  clear hr6 hq6 hl6 hb6 hC6 hn6 hb56
  refine hK.out _ _ ⟨s0, s1, s2⟩ (fun hHeld2 => ?_)
  clear hK K hHeld
  have hHeld := hHeld2
  clear hHeld2
  try simp only [Act.put, List.getElem_toArray, List.getElem_cons_zero, List.getElem_cons_succ, List.setIfInBounds_toArray, List.set_cons_zero, List.set_cons_succ]
  clear s0 s1 s2
  refine wpAnyH_ready (rs := [5]) (by kernel_rfl) (by simp) ?_
  refine AllReadyH.cons rfl (fun K hK => ?_) AllReadyH.nil
  go_simp
  refine (rmove_any A n c l e w6 HA6.out (by omega)).mono ?_
  rintro _ w7 ⟨v7, R', rfl, hr7, hq7, hl7, hb7⟩
  obtain ⟨A7, c7, rfl, _, hC7⟩ := Kd.R_reads hr7
  obtain rfl := HQ6.out.uniq hq7
  rw [HN6.out] at hC7
  rw [HN6.out]
  have HS7 := Aside0.mk hC7
  have h57 : Below w5.heap.size w5 w7 := HB6.out.trans (hb7.mono HB6.out.size)
  have HB7 := Aside0.mk h57
  have s0 := pw_cell_below h57 e0
  have s1 := pw_cell_below h57 e1
  have s2 := pw_cell_below h57 e2
  have HR7 := Aside0.mk (rgs_below HR6.out hb7)
  have HRb7 := Aside0.mk (rgs_below HRb6.out hb7)
  have HA7 := Aside0.mk (rgs_below HA6.out hb7)
  clear hr7 hq7 hl7 hC7 hb7 h57
  refine hK.out _ _ ⟨s0, s1, s2⟩ (fun hHeld2 => ?_)
  clear hK K hHeld
  have hHeld := hHeld2
  clear hHeld2
  try simp only [Act.put, List.getElem_toArray, List.getElem_cons_zero, List.getElem_cons_succ, List.setIfInBounds_toArray, List.set_cons_zero, List.set_cons_succ]
  clear s0 s1 s2
  refine wpAnyH_ready (rs := [6]) (by kernel_rfl) (by simp) ?_
  refine AllReadyH.cons rfl (fun K hK => ?_) AllReadyH.nil
  go_simp
  refine (same_c A6 A7 n6 c6 c7 R w7 HR7.out HS7.out).mono ?_
  rintro _ w8 ⟨rfl, hb8⟩
  have h58 : Below w5.heap.size w5 w8 := HB7.out.trans (hb8.mono HB7.out.size)
  have HB8 := Aside0.mk h58
  have s0 := pw_cell_below h58 e0
  have s1 := pw_cell_below h58 e1
  have s2 := pw_cell_below h58 e2
  have HRb8 := Aside0.mk (rgs_below HRb7.out hb8)
  have HA8 := Aside0.mk (rgs_below HA7.out hb8)
  clear hb8 h58
  refine hK.out _ _ ⟨s0, s1, s2⟩ (fun hHeld2 => ?_)
  clear hK K hHeld
  have hHeld := hHeld2
  clear hHeld2
  try simp only [Act.put, List.getElem_toArray, List.getElem_cons_zero, List.getElem_cons_succ, List.setIfInBounds_toArray, List.set_cons_zero, List.set_cons_succ]
  clear s0 s1 s2
  refine wpAnyH_take (i := 7) (v := ?_) rfl (by kernel_rfl) (by kernel_rfl) (by kernel_rfl) (fun _ _ _ h => h) (Or.inl ⟨by rfl, ?_⟩) (by assumption) ?_
  rotate_left
  · intro w hSw
    go_simp
    try with_reducible rfl
  simp only [Act.put, List.getElem_toArray, List.getElem_cons_zero, List.getElem_cons_succ, List.setIfInBounds_toArray, List.set_cons_zero, List.set_cons_succ]
  refine wpAnyH_take (i := 8) (v := ?_) rfl (by kernel_rfl) (by kernel_rfl) (by kernel_rfl) (fun _ _ _ h => h) (Or.inl ⟨by rfl, ?_⟩) (by assumption) ?_
  rotate_left
  · intro w hSw
    go_simp
    try with_reducible rfl
  simp only [Act.put, List.getElem_toArray, List.getElem_cons_zero, List.getElem_cons_succ, List.setIfInBounds_toArray, List.set_cons_zero, List.set_cons_succ]
  refine wpAnyH_take (i := 9) (v := ?_) rfl (by kernel_rfl) (by kernel_rfl) (by kernel_rfl) (fun _ _ _ h => h) (Or.inl ⟨by rfl, ?_⟩) (by assumption) ?_
  rotate_left
  · intro w hSw
    go_simp
    try with_reducible rfl
  simp only [Act.put, List.getElem_toArray, List.getElem_cons_zero, List.getElem_cons_succ, List.setIfInBounds_toArray, List.set_cons_zero, List.set_cons_succ]
  refine wpAnyH_ready (rs := [10]) (by kernel_rfl) (by simp) ?_
  refine AllReadyH.cons rfl (fun K hK => ?_) AllReadyH.nil
  go_simp
  refine (same_c A5 A n c5 c l w8 HRb8.out HA8.out).mono ?_
  rintro _ w9 ⟨rfl, hb9⟩
  have h59 : Below w5.heap.size w5 w9 := HB8.out.trans (hb9.mono HB8.out.size)
  have HB9 := Aside0.mk h59
  have s0 := pw_cell_below h59 e0
  have s1 := pw_cell_below h59 e1
  have s2 := pw_cell_below h59 e2
  clear hb9 h59
  refine hK.out _ _ ⟨s0, s1, s2⟩ (fun hHeld2 => ?_)
  clear hK K hHeld
  have hHeld := hHeld2
  clear hHeld2
  try simp only [Act.put, List.getElem_toArray, List.getElem_cons_zero, List.getElem_cons_succ, List.setIfInBounds_toArray, List.set_cons_zero, List.set_cons_succ]
  clear s0 s1 s2
  refine wpAnyH_take (i := 11) (v := ?_) rfl (by kernel_rfl) (by kernel_rfl) (by kernel_rfl) (fun _ _ _ h => h) (Or.inl ⟨by rfl, ?_⟩) (by assumption) ?_
  rotate_left
  · intro w hSw
    go_simp
    try with_reducible rfl
  simp only [Act.put, List.getElem_toArray, List.getElem_cons_zero, List.getElem_cons_succ, List.setIfInBounds_toArray, List.set_cons_zero, List.set_cons_succ]
  refine wpAnyH_take (i := 12) (v := ?_) rfl (by kernel_rfl) (by kernel_rfl) (by kernel_rfl) (fun _ _ _ h => h) (Or.inl ⟨by rfl, ?_⟩) (by assumption) ?_
  rotate_left
  · intro w hSw
    go_simp
    try with_reducible rfl
  simp only [Act.put, List.getElem_toArray, List.getElem_cons_zero, List.getElem_cons_succ, List.setIfInBounds_toArray, List.set_cons_zero, List.set_cons_succ]
  refine wpAnyH_ready (rs := [13]) (by kernel_rfl) (by simp) ?_
  refine AllReadyH.cons rfl (fun K hK => ?_) AllReadyH.nil
  go_simp
  refine (wakes_c _).mono ?_
  rintro _ w10 ⟨rfl, hb10⟩
  have h510 : Below w5.heap.size w5 w10 := HB9.out.trans (hb10.mono HB9.out.size)
  have HB10 := Aside0.mk h510
  have s0 := pw_cell_below h510 e0
  have s1 := pw_cell_below h510 e1
  have s2 := pw_cell_below h510 e2
  clear hb10 h510
  refine hK.out _ _ ⟨s0, s1, s2⟩ (fun hHeld2 => ?_)
  clear hK K hHeld
  have hHeld := hHeld2
  clear hHeld2
  try simp only [Act.put, List.getElem_toArray, List.getElem_cons_zero, List.getElem_cons_succ, List.setIfInBounds_toArray, List.set_cons_zero, List.set_cons_succ]
  clear s0 s1 s2
  refine wpAnyH_take (i := 14) (v := ?_) rfl (by kernel_rfl) (by kernel_rfl) (by kernel_rfl) (fun _ _ _ h => h) (Or.inl ⟨by rfl, ?_⟩) (by assumption) ?_
  rotate_left
  · intro w hSw
    go_simp
    try with_reducible rfl
  simp only [Act.put, List.getElem_toArray, List.getElem_cons_zero, List.getElem_cons_succ, List.setIfInBounds_toArray, List.set_cons_zero, List.set_cons_succ]
  refine wpAnyH_take (i := 15) (v := ?_) rfl (by kernel_rfl) (by kernel_rfl) (by kernel_rfl) (fun _ _ _ h => h) (Or.inl ⟨by rfl, ?_⟩) (by assumption) ?_
  rotate_left
  · intro w hSw
    go_simp
    try with_reducible rfl
  simp only [Act.put, List.getElem_toArray, List.getElem_cons_zero, List.getElem_cons_succ, List.setIfInBounds_toArray, List.set_cons_zero, List.set_cons_succ]
  refine wpAnyH_done (by kernel_rfl) ?_ _
  refine NoPanic.normal ?_
  clear e0 e1 e2 hHeld
  go_wp2_with (fail)
  go_ret
  exact ⟨rfl, (HBX.out.trans (HB5.out.mono HBX.out.size)).trans (HB10.out.mono (Nat.le_trans HBX.out.size HB5.out.size))⟩
theorem moved_has {e : Ed} {l R : List Rg} {x : Int} (ok : Ok e) (hq : MQ e l R) (h0 : 0 ≤ x) (h1 : x ≤ 549755813888) (hn : ¬ (e.p ≤ x ∧ x < e.p + e.d)) : has R (mv e x) = has l x := by
  refine Bool.eq_iff_iff.2 ?_
  rw [hq.2, ← moved_place ok h0 h1 hn]
  exact ⟨fun h => h.elim (fun h => h.2) (fun h => absurd ok h.1), fun h => .inl ⟨ok, h⟩⟩
set_option maxRecDepth 100000 in
set_option maxHeartbeats 4000000 in
theorem moved_c (A : Option Addr) (n c : Nat) (l : List Rg) (e : Ed) (at_ : Int) (w : World) (hA : ReadsRow RRg 2 w A n l) : Calls Try.prog 7 #[.slice A n c, .agg (edc e), .int .i64 at_] w fun en w' => BoolP w true en w' := by
  obtain ⟨wx, hwx⟩ : ∃ q, w.alloc (.cells (edc e) 35) = q := ⟨_, rfl⟩
  obtain ⟨b, hb⟩ : ∃ q, w.heap.size = q := ⟨_, rfl⟩
  have hx : Bx wx b e := by rw [← hwx, ← hb]; exact Bx.of
  have hbx : Below w.heap.size w wx := by rw [← hwx]; exact below_alloc (Below.refl _ w) _
  have hbs : b < wx.heap.size := blk_lt (show wx.heap[b]? = some (.cells (edc e) 35 (0, 0)) by rw [← hwx, ← hb]; exact heap_alloc_new _ _)
  obtain ⟨e0, e1, e2⟩ := hx
  have HXX : Aside0 (Bx wx b e) := ⟨⟨e0, e1, e2⟩⟩
  have HBX := Aside0.mk hbx
  have HBS := Aside0.mk hbs
  have HR0 := Aside0.mk (rgs_below hA hbx)
  have HLN := Aside0.mk hA.1
  clear hbx hA hbs
  have HI : Aside0 (((e.s.size : Nat) : Int) = e.i) := ⟨rfl⟩
  by_cases c0 : (200 : Int) < (n : Int)
  · go_enter Try.func7, Try.ntmps7
    go_wp2_with (refine (wakes_c _).mono ?_; rintro _ w1 ⟨rfl, hb⟩; have HB := Aside0.mk hb; clear hb)
    go_ret
    exact ⟨rfl, HBX.out.trans (HB.out.mono HBX.out.size)⟩
  by_cases c1 : e.p < 0
  · go_enter Try.func7, Try.ntmps7
    go_wp2_with (refine (wakes_c _).mono ?_; rintro _ w1 ⟨rfl, hb⟩; have HB := Aside0.mk hb; clear hb)
    go_ret
    exact ⟨rfl, HBX.out.trans (HB.out.mono HBX.out.size)⟩
  by_cases c2 : (1048576 : Int) < e.p
  · go_enter Try.func7, Try.ntmps7
    go_wp2_with (refine (wakes_c _).mono ?_; rintro _ w1 ⟨rfl, hb⟩; have HB := Aside0.mk hb; clear hb)
    go_ret
    exact ⟨rfl, HBX.out.trans (HB.out.mono HBX.out.size)⟩
  by_cases c3 : e.d < 0
  · go_enter Try.func7, Try.ntmps7
    go_wp2_with (refine (wakes_c _).mono ?_; rintro _ w1 ⟨rfl, hb⟩; have HB := Aside0.mk hb; clear hb)
    go_ret
    exact ⟨rfl, HBX.out.trans (HB.out.mono HBX.out.size)⟩
  by_cases c4 : (1048576 : Int) < e.d
  · go_enter Try.func7, Try.ntmps7
    go_wp2_with (refine (wakes_c _).mono ?_; rintro _ w1 ⟨rfl, hb⟩; have HB := Aside0.mk hb; clear hb)
    go_ret
    exact ⟨rfl, HBX.out.trans (HB.out.mono HBX.out.size)⟩
  by_cases c5 : (1048576 : Int) < ((e.s.size : Nat) : Int)
  · go_enter Try.func7, Try.ntmps7
    go_wp2_with (refine (wakes_c _).mono ?_; rintro _ w1 ⟨rfl, hb⟩; have HB := Aside0.mk hb; clear hb)
    go_ret
    exact ⟨rfl, HBX.out.trans (HB.out.mono HBX.out.size)⟩
  by_cases c6 : at_ < 0
  · go_enter Try.func7, Try.ntmps7
    go_wp2_with (refine (wakes_c _).mono ?_; rintro _ w1 ⟨rfl, hb⟩; have HB := Aside0.mk hb; clear hb)
    go_ret
    exact ⟨rfl, HBX.out.trans (HB.out.mono HBX.out.size)⟩
  by_cases c7 : (549755813888 : Int) < at_
  · go_enter Try.func7, Try.ntmps7
    go_wp2_with (refine (wakes_c _).mono ?_; rintro _ w1 ⟨rfl, hb⟩; have HB := Aside0.mk hb; clear hb)
    go_ret
    exact ⟨rfl, HBX.out.trans (HB.out.mono HBX.out.size)⟩
  have hn : n ≤ 200 := by omega
  have HOK : Aside0 (Ok e) := ⟨⟨by omega, by omega, by rw [← HI.out]; omega⟩⟩
  have wq1 : IntKind.i64.wrap (e.p + e.d) = e.p + e.d := IntWalk.i64_in _ (by omega)
  have HAT : Aside0 (0 ≤ at_ ∧ at_ ≤ 549755813888) := ⟨by omega⟩
  go_enter Try.func7, Try.ntmps7
  go_upto_region 3 with (fail)
  refine wp_region_noPanic ?_
  refine wp_region_held_drew (S := (fun w' => w'.cell? ⟨b, 0, none⟩ = some (.int .i64 e.p) ∧ w'.cell? ⟨b, 1, none⟩ = some (.int .i64 e.d) ∧ w'.cell? ⟨b, 2, none⟩ = some (.string e.s))) (by kernel_rfl) ?_ (fun hHeld => ?_)
  · exact ⟨e0, e1, e2⟩
  refine wpAnyH_take (i := 0) (v := ?_) rfl (by kernel_rfl) (by kernel_rfl) (by kernel_rfl) (fun _ _ _ h => h) (Or.inl ⟨by rfl, ?_⟩) (by assumption) ?_
  rotate_left
  · intro w hSw
    go_simp
    try with_reducible rfl
  simp only [Act.put, List.getElem_toArray, List.getElem_cons_zero, List.getElem_cons_succ, List.setIfInBounds_toArray, List.set_cons_zero, List.set_cons_succ]
  refine wpAnyH_take (i := 2) (v := ?_) rfl (by kernel_rfl) (by kernel_rfl) (by kernel_rfl) (fun _ _ _ h => h) (Or.inl ⟨by rfl, ?_⟩) (by assumption) ?_
  rotate_left
  · intro w hSw
    go_simp
    try with_reducible rfl
  simp only [Act.put, List.getElem_toArray, List.getElem_cons_zero, List.getElem_cons_succ, List.setIfInBounds_toArray, List.set_cons_zero, List.set_cons_succ]
  have HR0d : Aside0 (ReadsRow RRg 2 wx.drew A n l) := ⟨rgs_below HR0.out (below_drew (Below.refl _ wx))⟩
  refine wpAnyH_ready (rs := [1]) (by kernel_rfl) (by simp) ?_
  refine AllReadyH.cons rfl (fun K hK => ?_) AllReadyH.nil
  go_simp
  refine (own_c A n c l wx.drew HR0d.out (by omega)).mono ?_
  rintro _ w5 ⟨v5, rfl, hr5, hb5⟩
  obtain ⟨A5, c5, rfl, _, hC5⟩ := Kd.R_reads hr5
  rw [HLN.out] at hC5
  rw [HLN.out]
  have HR5 := Aside0.mk hC5
  have hb15 : Below wx.heap.size wx w5 := (below_drew (Below.refl _ wx)).trans hb5
  have HB5 := Aside0.mk hb15
  have HA5 := Aside0.mk (rgs_below HR0.out hb15)
  have s0 := pw_cell_below hb15 e0
  have s1 := pw_cell_below hb15 e1
  have s2 := pw_cell_below hb15 e2
  clear hr5 hb5 hC5 hb15
  refine hK.out _ _ ⟨s0, s1, s2⟩ (fun hHeld2 => ?_)
  clear hK K hHeld
  have hHeld := hHeld2
  clear hHeld2
  try simp only [Act.put, List.getElem_toArray, List.getElem_cons_zero, List.getElem_cons_succ, List.setIfInBounds_toArray, List.set_cons_zero, List.set_cons_succ]
  clear s0 s1 s2
  refine wpAnyH_ready (rs := [3]) (by kernel_rfl) (by simp) ?_
  refine AllReadyH.cons rfl (fun K hK => ?_) AllReadyH.nil
  go_simp
  refine (move_any A5 n c5 l e w5 HR5.out (by omega)).mono ?_
  rintro _ w6 ⟨v6, R, rfl, hr6, hq6, hl6, hb6⟩
  obtain ⟨A6, c6, rfl, _, hC6⟩ := Kd.R_reads hr6
  have HQ6 := Aside0.mk hq6
  obtain ⟨n6, hn6⟩ : ∃ q, R.length = q := ⟨_, rfl⟩
  rw [hn6] at hC6 ⊢
  have HR6 := Aside0.mk hC6
  have hb16 : Below wx.heap.size wx w6 := HB5.out.trans (hb6.mono HB5.out.size)
  have HB6 := Aside0.mk hb16
  have HA6 := Aside0.mk (rgs_below HR0.out hb16)
  have s0 := pw_cell_below hb16 e0
  have s1 := pw_cell_below hb16 e1
  have s2 := pw_cell_below hb16 e2
  clear hr6 hq6 hl6 hb6 hC6 hn6
  refine hK.out _ _ ⟨s0, s1, s2⟩ (fun hHeld2 => ?_)
  clear hK K hHeld
  have hHeld := hHeld2
  clear hHeld2
  try simp only [Act.put, List.getElem_toArray, List.getElem_cons_zero, List.getElem_cons_succ, List.setIfInBounds_toArray, List.set_cons_zero, List.set_cons_succ]
  clear s0 s1 s2
  refine wpAnyH_take (i := 4) (v := ?_) rfl (by kernel_rfl) (by kernel_rfl) (by kernel_rfl) (fun _ _ _ h => h) (Or.inl ⟨by rfl, ?_⟩) (by assumption) ?_
  rotate_left
  · intro w hSw
    go_simp
    try with_reducible rfl
  simp only [Act.put, List.getElem_toArray, List.getElem_cons_zero, List.getElem_cons_succ, List.setIfInBounds_toArray, List.set_cons_zero, List.set_cons_succ]
  refine wpAnyH_done (by kernel_rfl) ?_ _
  refine NoPanic.normal ?_
  have HX6 := Aside0.mk (HXX.out.keep hb16 HBS.out)
  clear e0 e1 e2 hHeld hb16
  obtain ⟨e0, e1, e2⟩ := HX6.out
  have HFM := Aside0.mk (form_c A6 n6 c6 R w6 HQ6.out.1 HR6.out)
  go_wp2_with (refine HFM.out.mono ?_)
  rintro _ w7 ⟨rfl, hb7⟩
  have HR7 := Aside0.mk (rgs_below HR6.out hb7)
  have HA7 := Aside0.mk (rgs_below HA6.out hb7)
  have HX7 := Aside0.mk (HX6.out.keep hb7 (Nat.lt_of_lt_of_le HBS.out HB6.out.size))
  have HB7 : Aside0 (Below wx.heap.size wx w7) := ⟨HB6.out.trans (hb7.mono HB6.out.size)⟩
  clear e0 e1 e2 hb7 HFM
  obtain ⟨e0, e1, e2⟩ := HX7.out
  clear c0 c1 c2 c3 c4 c5 c6 c7
  by_cases d1 : e.p ≤ at_ ∧ at_ < e.p + e.d
  · obtain ⟨d2, d3⟩ := d1
    go_wp2_with (refine (wakes_c _).mono ?_; rintro _ w8 ⟨rfl, hb⟩; have HB := Aside0.mk hb; clear hb)
    go_ret
    exact ⟨rfl, (HBX.out.trans (HB7.out.mono HBX.out.size)).trans (HB.out.mono (Nat.le_trans HBX.out.size HB7.out.size))⟩
  have HEQ := Aside0.mk (moved_has HOK.out HQ6.out HAT.out.1 HAT.out.2 d1)
  by_cases d2 : e.p ≤ at_
  · have d3 : ¬ at_ < e.p + e.d := fun h => d1 ⟨d2, h⟩
    clear d1
    go_wp2_with (refine (mv24_c e at_ w7 HOK.out HAT.out.1 (by have := HAT.out.2; omega)).mono ?_; rintro _ w8 ⟨rfl, hb8⟩; have HR8 := Aside0.mk (rgs_below HR7.out hb8); have HA8 := Aside0.mk (rgs_below HA7.out hb8); have HB8 : Aside0 (Below wx.heap.size wx w8) := ⟨HB7.out.trans (hb8.mono HB7.out.size)⟩; clear hb8 e0 e1 e2)
    refine (has_c A6 n6 _ R (mv e at_) w8 HR8.out).mono ?_
    rintro _ w9 ⟨rfl, hb9⟩
    rw [HEQ.out]
    have HA9 := Aside0.mk (rgs_below HA8.out hb9)
    have HB9 : Aside0 (Below wx.heap.size wx w9) := ⟨HB8.out.trans (hb9.mono HB8.out.size)⟩
    clear hb9
    obtain ⟨q, hq⟩ : ∃ q, has l at_ = q := ⟨_, rfl⟩
    rw [hq]
    have HQ9 := Aside0.mk hq
    clear hq
    go_wp2_with (refine (has_c A n c l at_ w9 HA9.out).mono ?_; rintro _ w10 ⟨rfl, hb10⟩; rw [HQ9.out]; have HB10 : Aside0 (Below wx.heap.size wx w10) := ⟨HB9.out.trans (hb10.mono HB9.out.size)⟩; clear hb10)
    refine (wakes_c _).mono ?_
    rintro _ w11 ⟨rfl, hb11⟩
    have HB11 : Aside0 (Below wx.heap.size wx w11) := ⟨HB10.out.trans (hb11.mono HB10.out.size)⟩
    clear hb11
    go_wp2_with (fail)
    go_ret
    exact ⟨rfl, HBX.out.trans (HB11.out.mono HBX.out.size)⟩
  · clear d1
    go_wp2_with (refine (mv24_c e at_ w7 HOK.out HAT.out.1 (by have := HAT.out.2; omega)).mono ?_; rintro _ w8 ⟨rfl, hb8⟩; have HR8 := Aside0.mk (rgs_below HR7.out hb8); have HA8 := Aside0.mk (rgs_below HA7.out hb8); have HB8 : Aside0 (Below wx.heap.size wx w8) := ⟨HB7.out.trans (hb8.mono HB7.out.size)⟩; clear hb8 e0 e1 e2)
    refine (has_c A6 n6 _ R (mv e at_) w8 HR8.out).mono ?_
    rintro _ w9 ⟨rfl, hb9⟩
    rw [HEQ.out]
    have HA9 := Aside0.mk (rgs_below HA8.out hb9)
    have HB9 : Aside0 (Below wx.heap.size wx w9) := ⟨HB8.out.trans (hb9.mono HB8.out.size)⟩
    clear hb9
    obtain ⟨q, hq⟩ : ∃ q, has l at_ = q := ⟨_, rfl⟩
    rw [hq]
    have HQ9 := Aside0.mk hq
    clear hq
    go_wp2_with (refine (has_c A n c l at_ w9 HA9.out).mono ?_; rintro _ w10 ⟨rfl, hb10⟩; rw [HQ9.out]; have HB10 : Aside0 (Below wx.heap.size wx w10) := ⟨HB9.out.trans (hb10.mono HB9.out.size)⟩; clear hb10)
    refine (wakes_c _).mono ?_
    rintro _ w11 ⟨rfl, hb11⟩
    have HB11 : Aside0 (Below wx.heap.size wx w11) := ⟨HB10.out.trans (hb11.mono HB10.out.size)⟩
    clear hb11
    go_wp2_with (fail)
    go_ret
    exact ⟨rfl, HBX.out.trans (HB11.out.mono HBX.out.size)⟩
end Go.Proofs.Ytcbddmmoioggaaa.Sp
