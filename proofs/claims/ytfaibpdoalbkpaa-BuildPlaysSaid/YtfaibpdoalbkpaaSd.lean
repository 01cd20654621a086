/- sound walked. -/
import Derived.Test.YtfaibpdoalbkpaaSo
namespace Go.Proofs.Ytfaibpdoalbkpaa.Bu
open Go.RowKit Go.Proofs.YtfaibpdoalbkpaaW.PrintWords Go.Proofs.YtfaibpdoalbkpaaW.PrintLast Go.Proofs.YtfaibpdoalbkpaaW.PrintMore
attribute [local go_sem] max2_int min2_int max_two min_two max_three min_three max_four min_four
set_option linter.unusedVariables false
set_option linter.unusedSimpArgs false
/-- What sound tells. -/
def SouP (w : World) (r : Int) (e : Ending) (w' : World) : Prop := e = .returned (.int .i64 r) ∧ Below w.heap.size w w'
theorem soundB_cons {at_ far op : Int} {e : Ev} {r : List Ev} : soundB at_ far op (e :: r) = (if e.o < 1 ∨ 3 < e.o then 1
    else if Bad at_ far e.a then 70
    else if e.o = 3 then (if Bad at_ (at_ + e.a) e.t then 70 else soundB at_ (at_ + e.t) op r)
    else if e.o = 1 then soundB at_ (at_ + e.a) (op + 1) r
    else if op - 1 < 0 then 71 else soundB at_ (at_ + e.a) (op - 1) r) := rfl
theorem drop_cons {α : Type} {l : List α} {k : Nat} {x : α} (h : l[k]? = some x) : l.drop k = x :: l.drop (k + 1) := by
  obtain ⟨hk, h⟩ := List.getElem?_eq_some_iff.1 h
  rw [List.drop_eq_getElem_cons hk, h]

set_option maxRecDepth 100000 in
set_option maxHeartbeats 8000000 in
theorem sound_c (b : Nat) (ps : List Nat) (m : Bl) (vN vO : Value) (A : Option Addr) (N c : Nat) (l : List Ev) (at_ : Int) (w : World) (fp : Nat → Prop) (h0 : BT w fp b ps m vN vO) (hR : ReadsRow REv 4 w A N l) (hN : N ≤ 1000000) (ha : 0 ≤ at_ ∧ at_ ≤ 1048576) (hf : 0 ≤ m.far ∧ m.far ≤ 1048576) (hO : 1 ≤ m.O.length ∧ m.O.length ≤ 1000000) :
    Calls Try.prog 21 #[pv b, .slice A N c, .int .i64 at_] w fun e w' => SouP w (soundB at_ m.far ((m.O.length : Int) - 1) l) e w' := by
  obtain ⟨A2, c2, hvO, hc2, _⟩ := own_cells h0.rO
  obtain ⟨nO, hnO⟩ : ∃ D, m.O.length = D := ⟨_, rfl⟩
  obtain ⟨far, hfar⟩ : ∃ D, m.far = D := ⟨_, rfl⟩
  rw [hnO] at hvO
  have hln := hR.1
  obtain ⟨W, hW⟩ : ∃ W, w.alloc (.cells #[.int .i64 at_] 3) = W := ⟨_, rfl⟩
  have hbw : Below w.heap.size w W := by rw [← hW]; exact below_alloc (Below.refl _ w) _
  have hsz : W.heap.size = w.heap.size + 1 := by rw [← hW]; simp
  have r5 : W.heap[w.heap.size]? = some (.cells #[.int .i64 at_] 3 (0, 0)) := by rw [← hW]; exact heap_alloc_new _ _
  have g1 := (h0.below hbw).cO
  have g2 := (h0.below hbw).cF
  rw [hvO] at g1
  rw [hfar] at g2 hf
  rw [hnO] at hO
  rw [hnO, hfar]
  have HR := Aside0.mk hR
  have HLN := Aside0.mk hln
  have HBW := Aside0.mk hbw
  have H5 := Aside0.mk r5
  have hw0 : IntKind.i64.wrap ((nO : Int) - 1) = (nO : Int) - 1 := IntWalk.i64_in _ (by omega)
  clear h0 hR hln hbw r5 hvO hnO hfar
  go_enter Try.func21, Try.ntmps21
  go_upto_region 1 with (fail)
  refine wp_region_noPanic ?_
  refine wp_region_held_drew (S := (fun w' => w'.cell? ⟨b, 1, none⟩ = some (.slice A2 nO c2) ∧ w'.cell? ⟨b, 2, none⟩ = some (.int .i64 far))) (by kernel_rfl) ?_ (fun hHeld => ?_)
  · exact ⟨g1, g2⟩
  refine wpAnyH_take (i := 0) (v := ?_) rfl (by kernel_rfl) (by kernel_rfl) (by kernel_rfl) (fun _ _ _ h => h) (Or.inl ⟨by rfl, ?_⟩) (by assumption) ?_
  rotate_left
  · intro w hSw
    go_simp
    try with_reducible rfl
  simp only [Act.put, List.getElem_toArray, List.getElem_cons_zero, List.getElem_cons_succ, List.setIfInBounds_toArray, List.set_cons_zero, List.set_cons_succ]
  refine wpAnyH_take (i := 1) (v := ?_) rfl (by kernel_rfl) (by kernel_rfl) (by kernel_rfl) (fun _ _ _ h => h) (Or.inl ⟨by rfl, ?_⟩) (by assumption) ?_
  rotate_left
  · intro w hSw
    go_simp
    try with_reducible rfl
  simp only [Act.put, List.getElem_toArray, List.getElem_cons_zero, List.getElem_cons_succ, List.setIfInBounds_toArray, List.set_cons_zero, List.set_cons_succ]
  refine wpAnyH_take (i := 2) (v := ?_) rfl (by kernel_rfl) (by kernel_rfl) (by kernel_rfl) (fun _ _ _ h => h) (Or.inl ⟨by rfl, ?_⟩) (by assumption) ?_
  rotate_left
  · intro w hSw
    go_simp
    try with_reducible rfl
  simp only [Act.put, List.getElem_toArray, List.getElem_cons_zero, List.getElem_cons_succ, List.setIfInBounds_toArray, List.set_cons_zero, List.set_cons_succ]
  refine wpAnyH_take (i := 3) (v := ?_) rfl (by kernel_rfl) (by kernel_rfl) (by kernel_rfl) (fun _ _ _ h => h) (Or.inl ⟨by rfl, ?_⟩) (by assumption) ?_
  rotate_left
  · intro w hSw
    go_simp
    try with_reducible rfl
  simp only [Act.put, List.getElem_toArray, List.getElem_cons_zero, List.getElem_cons_succ, List.setIfInBounds_toArray, List.set_cons_zero, List.set_cons_succ]
  refine wpAnyH_take (i := 4) (v := ?_) rfl (by kernel_rfl) (by kernel_rfl) (by kernel_rfl) (fun _ _ _ h => h) (Or.inl ⟨by rfl, ?_⟩) (by assumption) ?_
  rotate_left
  · intro w hSw
    go_simp
    try with_reducible rfl
  simp only [Act.put, List.getElem_toArray, List.getElem_cons_zero, List.getElem_cons_succ, List.setIfInBounds_toArray, List.set_cons_zero, List.set_cons_succ]
  refine wpAnyH_take (i := 5) (v := ?_) rfl (by kernel_rfl) (by kernel_rfl) (by kernel_rfl) (fun _ _ _ h => h) (Or.inl ⟨by rfl, ?_⟩) (by assumption) ?_
  rotate_left
  · intro w hSw
    go_simp
    try with_reducible rfl
  simp only [Act.put, List.getElem_toArray, List.getElem_cons_zero, List.getElem_cons_succ, List.setIfInBounds_toArray, List.set_cons_zero, List.set_cons_succ]
  refine wpAnyH_take (i := 6) (v := ?_) rfl (by kernel_rfl) (by kernel_rfl) (by kernel_rfl) (fun _ _ _ h => h) (Or.inl ⟨by rfl, ?_⟩) (by assumption) ?_
  rotate_left
  · intro w hSw
    go_simp
    try with_reducible rfl
  simp only [Act.put, List.getElem_toArray, List.getElem_cons_zero, List.getElem_cons_succ, List.setIfInBounds_toArray, List.set_cons_zero, List.set_cons_succ]
  refine wpAnyH_take (i := 7) (v := ?_) rfl (by kernel_rfl) (by kernel_rfl) (by kernel_rfl) (fun _ _ _ h => h) (Or.inl ⟨by rfl, ?_⟩) (by assumption) ?_
  rotate_left
  · intro w hSw
    go_simp
    try with_reducible rfl
  simp only [Act.put, List.getElem_toArray, List.getElem_cons_zero, List.getElem_cons_succ, List.setIfInBounds_toArray, List.set_cons_zero, List.set_cons_succ]
  refine wpAnyH_take (i := 8) (v := ?_) rfl (by kernel_rfl) (by kernel_rfl) (by kernel_rfl) (fun _ _ _ h => h) (Or.inl ⟨by rfl, ?_⟩) (by assumption) ?_
  rotate_left
  · intro w hSw
    go_simp
    try with_reducible rfl
  simp only [Act.put, List.getElem_toArray, List.getElem_cons_zero, List.getElem_cons_succ, List.setIfInBounds_toArray, List.set_cons_zero, List.set_cons_succ]
  refine wpAnyH_take (i := 9) (v := ?_) rfl (by kernel_rfl) (by kernel_rfl) (by kernel_rfl) (fun _ _ _ h => h) (Or.inl ⟨by rfl, ?_⟩) (by assumption) ?_
  rotate_left
  · intro w hSw
    go_simp
    try with_reducible rfl
  simp only [Act.put, List.getElem_toArray, List.getElem_cons_zero, List.getElem_cons_succ, List.setIfInBounds_toArray, List.set_cons_zero, List.set_cons_succ]
  refine wpAnyH_ready (rs := [10]) (by kernel_rfl) (by simp) ?_
  refine AllReadyH.cons rfl (fun K hK => ?_) AllReadyH.nil
  go_simp
  refine hK.out _ _ ⟨pw_cell_below (below_alloc (Below.refl _ W) _) g1, pw_cell_below (below_alloc (Below.refl _ W) _) g2⟩ (fun hHeld2 => ?_)
  clear hK K hHeld
  have hHeld := hHeld2
  clear hHeld2
  try simp only [Act.put, List.getElem_toArray, List.getElem_cons_zero, List.getElem_cons_succ, List.setIfInBounds_toArray, List.set_cons_zero, List.set_cons_succ]
  refine wpAnyH_ready (rs := [11]) (by kernel_rfl) (by simp) ?_
  refine AllReadyH.cons rfl (fun K hK => ?_) AllReadyH.nil
  go_simp
  refine hK.out _ _ ⟨pw_cell_below (below_drew (below_alloc (Below.refl _ W) _)) g1, pw_cell_below (below_drew (below_alloc (Below.refl _ W) _)) g2⟩ (fun hHeld2 => ?_)
  clear hK K hHeld
  have hHeld := hHeld2
  clear hHeld2
  try simp only [Act.put, List.getElem_toArray, List.getElem_cons_zero, List.getElem_cons_succ, List.setIfInBounds_toArray, List.set_cons_zero, List.set_cons_succ]
  refine wpAnyH_take (i := 12) (v := ?_) rfl (by kernel_rfl) (by kernel_rfl) (by kernel_rfl) (fun _ _ _ h => h) (Or.inl ⟨by rfl, ?_⟩) (by assumption) ?_
  rotate_left
  · intro w hSw
    go_simp
    try with_reducible rfl
  simp only [Act.put, List.getElem_toArray, List.getElem_cons_zero, List.getElem_cons_succ, List.setIfInBounds_toArray, List.set_cons_zero, List.set_cons_succ]
  refine wpAnyH_done (by kernel_rfl) ?_ _
  refine NoPanic.normal ?_
  obtain ⟨p7, hp7'⟩ : ∃ p, w.heap.size + 1 = p := ⟨_, rfl⟩
  have hp7 : W.heap.size = p7 := by omega
  obtain ⟨W2, hW2⟩ : ∃ X, (W.alloc (.cells #[.int .i64 far] 3)).drew = X := ⟨_, rfl⟩
  rw [hW2, hp7']
  have hb2 : Below w.heap.size w W2 := by rw [← hW2]; exact HBW.out.trans ((below_drew (below_alloc (Below.refl _ W) _)).mono HBW.out.size)
  have H7 : Aside0 (W2.heap[p7]? = some (.cells #[.int .i64 far] 3 (0, 0))) := ⟨by rw [← hW2, ← hp7]; exact heap_alloc_new W _⟩
  have H5' : Aside0 (W2.cell? ⟨w.heap.size, 0, none⟩ = some (.int .i64 at_)) := ⟨by rw [← hW2]; exact pw_cell_below (below_drew (below_alloc (Below.refl _ W) _)) (cell_of_row _ _ _ _ _ _ H5.out)⟩
  have HB2 := Aside0.mk hb2
  have hp57 : w.heap.size < p7 := by omega
  have hfin : Aside0 (∀ (w' : World) (r : Int), r = soundB at_ far ((nO : Int) - 1) l → Below w.heap.size w w' → SouP w (soundB at_ far ((nO : Int) - 1) l) (.returned (.int .i64 r)) w') := ⟨fun w' r hr hb => ⟨by rw [hr], hb⟩⟩
  clear hW2 hb2 hp7 hp7' hsz
  go_upto_block 0 with (fail)
  go_wp2_with (fail)
  go_loopg [8, 25] N (fun gk v8 v25 wr => ∃ (k : Nat) (fr op : Int), v8 = .int .i64 op ∧ v25 = .int .i64 (k : Int) ∧ Aside0 (k + gk = N) ∧ Aside0 (wr.heap[p7]? = some (.cells #[.int .i64 fr] 3 (0, 0))) ∧ Aside0 (wr.cell? ⟨w.heap.size, 0, none⟩ = some (.int .i64 at_)) ∧ Aside0 (Below w.heap.size w wr) ∧ Aside0 (soundB at_ far ((nO : Int) - 1) l = soundB at_ fr op (l.drop k)) ∧ Aside0 (0 ≤ fr ∧ fr ≤ 1048576) ∧ Aside0 (0 ≤ op ∧ op ≤ 1000000 + (k : Int)))
  case atStart => exact ⟨0, far, (nO : Int) - 1, rfl, rfl, ⟨by omega⟩, H7, H5', HB2, ⟨by rw [List.drop_zero]⟩, ⟨hf⟩, ⟨by omega⟩⟩
  case round =>
    clear H7 H5' HB2
    obtain ⟨k, fr, op, rfl, rfl, HK, H7, H5', HB, HE, HFR, HOP⟩ := hrel
    by_cases hkn : k < N
    · obtain ⟨gn, rfl⟩ : ∃ gn, gk = gn + 1 := ⟨gk - 1, by have := HK.out; omega⟩
      obtain ⟨e, he⟩ : ∃ e, l[k]? = some e := ⟨_, List.getElem?_eq_getElem (by rw [HLN.out]; exact hkn)⟩
      obtain ⟨ad, hA, _⟩ := HR.out.2.2 (by omega)
      subst hA
      obtain ⟨e0, e1, e2, e3⟩ := ev_at (evs_below HR.out HB.out) he
      have hdr := drop_cons he
      have hsb := HE.out
      rw [hdr, soundB_cons] at hsb
      have HSB := Aside0.mk hsb
      have p0 : (0 : Int) ≤ (k : Int) := by omega
      have p1 : (k : Int) < (N : Int) := by omega
      have hw1 : IntKind.i64.wrap ((k : Int) + 1) = (k : Int) + 1 := IntWalk.i64_in _ (by omega)
      have hop := HOP.out
      have hfr := HFR.out
      have hw2 : IntKind.i64.wrap (op + 1) = op + 1 := IntWalk.i64_in _ (by omega)
      have hw3 : IntKind.i64.wrap (op - 1) = op - 1 := IntWalk.i64_in _ (by omega)
      clear he hdr hsb
      go_upto_region 6 with (fail)
      obtain ⟨b11, hb11⟩ : ∃ p, wr.heap.size = p := ⟨_, rfl⟩
      obtain ⟨wa, hwa⟩ : ∃ X, wr.alloc (.cells #[.int .u8 e.o, .int .u8 e.k, .int .i64 e.a, .int .i64 e.t] 41) = X := ⟨_, rfl⟩
      rw [hwa, hb11]
      have hba : Below wr.heap.size wr wa := by rw [← hwa]; exact below_alloc (Below.refl _ wr) _
      have rE : wa.heap[b11]? = some (.cells (evc e) 41 (0, 0)) := by rw [← hwa, ← hb11]; exact heap_alloc_new _ _
      have f0 : wa.cell? ⟨b11, 0, none⟩ = some (.int .u8 e.o) := cell_of_row _ _ _ _ _ _ rE
      have f2 : wa.cell? ⟨b11, 2, none⟩ = some (.int .i64 e.a) := cell_of_row _ _ _ _ _ _ rE
      have HBA : Aside0 (Below w.heap.size w wa) := ⟨HB.out.trans (hba.mono HB.out.size)⟩
      have h7a := (hba.block _ (blk_lt H7.out)).trans H7.out
      have h5a := pw_cell_below hba H5'.out
      have HC := Aside0.mk (come_c w.heap.size p7 at_ fr e.a wa h5a h7a ha hfr)
      have H7A := Aside0.mk h7a
      have H5A := Aside0.mk h5a
      have HEA := Aside0.mk rE
      have hne7 : b11 ≠ p7 := by have := blk_lt H7.out; omega
      clear hwa hba rE h7a h5a e0 e1 e2 e3 HB H7 H5' hfr
      by_cases ho1 : e.o < 1
      · have HR1 := Aside0.mk (hfin.out wa 1 (by rw [HSB.out, if_pos (.inl ho1)]) HBA.out)
        clear HSB hfin
        go_wp2_with (fail)
        go_ret
        exact HR1.out
      by_cases ho3 : 3 < e.o
      · have HR1 := Aside0.mk (hfin.out wa 1 (by rw [HSB.out, if_pos (.inr ho3)]) HBA.out)
        clear HSB hfin
        go_wp2_with (fail)
        go_ret
        exact HR1.out
      have hsb := HSB.out
      rw [if_neg (by omega)] at hsb
      go_wp2_with (refine HC.out.mono ?_)
      rintro _ w3 (⟨hbad, rfl, rfl⟩ | ⟨hok, rfl, rfl⟩)
      · have HR1 := Aside0.mk (hfin.out w3 70 (by rw [hsb, if_pos hbad]) HBA.out)
        clear HSB hfin hsb HC
        go_wp2_with (fail)
        go_ret
        exact HR1.out
      rw [if_neg hok] at hsb
      have hbd : 0 ≤ e.a ∧ at_ + e.a ≤ 1048576 ∧ fr ≤ at_ + e.a := by
        unfold Bad at hok
        omega
      have h7b := blk_set H7A.out 0 (.int .i64 (at_ + e.a))
      have rEb : (wa.setCell ⟨p7, 0, none⟩ (.int .i64 (at_ + e.a))).heap[b11]? = _ := blk_far HEA.out hne7 _
      have h5b : (wa.setCell ⟨p7, 0, none⟩ (.int .i64 (at_ + e.a))).cell? ⟨w.heap.size, 0, none⟩ = some (.int .i64 at_) := (World.cell?_of_block (Below.heap_setCell wa ⟨p7, 0, none⟩ _ w.heap.size (by show w.heap.size ≠ p7; omega))).trans H5A.out
      have HBB : Aside0 (Below w.heap.size w (wa.setCell ⟨p7, 0, none⟩ (.int .i64 (at_ + e.a)))) := ⟨HBA.out.setCell (p := ⟨p7, 0, none⟩) (by show w.heap.size ≤ p7; omega) _⟩
      obtain ⟨wb, hwb⟩ : ∃ X, wa.setCell ⟨p7, 0, none⟩ (.int .i64 (at_ + e.a)) = X := ⟨_, rfl⟩
      rw [hwb] at h7b rEb h5b HBB
      rw [hwb]
      have f0b : wb.cell? ⟨b11, 0, none⟩ = some (.int .u8 e.o) := cell_of_row _ _ _ _ _ _ rEb
      have f3b : wb.cell? ⟨b11, 3, none⟩ = some (.int .i64 e.t) := cell_of_row _ _ _ _ _ _ rEb
      have hC2 := come_c w.heap.size p7 at_ (at_ + e.a) e.t wb h5b h7b ha (by omega)
      have HC2 := Aside0.mk hC2
      have H7B := Aside0.mk h7b
      have H5B := Aside0.mk h5b
      have HSB2 := Aside0.mk hsb
      clear hwb h7b rEb h5b hC2 hsb HC f0 f2 HSB hok
      by_cases ho : e.o = 3
      · have bo : (e.o == 3) = true := beq_iff_eq.mpr ho
        have hsb := HSB2.out
        rw [if_pos ho] at hsb
        have HSB3 := Aside0.mk hsb
        clear hsb HSB2
        go_wp2_with (refine HC2.out.mono ?_)
        rintro _ w3 (⟨hbad, rfl, rfl⟩ | ⟨hok, rfl, rfl⟩)
        · have HR1 := Aside0.mk (hfin.out w3 70 (by rw [HSB3.out, if_pos hbad]) HBB.out)
          clear HSB3 hfin HC2
          go_wp2_with (fail)
          go_ret
          exact HR1.out
        have hsb := HSB3.out
        rw [if_neg hok] at hsb
        have hbd2 : 0 ≤ e.t ∧ at_ + e.t ≤ 1048576 := by
          unfold Bad at hok
          omega
        have h7c := blk_set H7B.out 0 (.int .i64 (at_ + e.t))
        have h5c : (wb.setCell ⟨p7, 0, none⟩ (.int .i64 (at_ + e.t))).cell? ⟨w.heap.size, 0, none⟩ = some (.int .i64 at_) := (World.cell?_of_block (Below.heap_setCell wb ⟨p7, 0, none⟩ _ w.heap.size (by show w.heap.size ≠ p7; omega))).trans H5B.out
        have HBC : Aside0 (Below w.heap.size w (wb.setCell ⟨p7, 0, none⟩ (.int .i64 (at_ + e.t)))) := ⟨HBB.out.setCell (p := ⟨p7, 0, none⟩) (by show w.heap.size ≤ p7; omega) _⟩
        have f0c : (wb.setCell ⟨p7, 0, none⟩ (.int .i64 (at_ + e.t))).cell? ⟨b11, 0, none⟩ = some (.int .u8 e.o) := (World.cell?_of_block (Below.heap_setCell wb ⟨p7, 0, none⟩ _ b11 (by show b11 ≠ p7; exact hne7))).trans f0b
        have bo1 : (e.o == 1) = false := beq_eq_false_iff_ne.mpr (by omega)
        have bo2 : (e.o == 2) = false := beq_eq_false_iff_ne.mpr (by omega)
        have H7C := Aside0.mk h7c
        have H5C := Aside0.mk h5c
        have HS4 := Aside0.mk hsb
        clear h7c h5c hsb HSB3 f0b f3b HC2 hok
        go_wp2_with (fail)
        go_roundg gn
        case measure => exact Nat.lt_succ_self _
        case rel => exact ⟨k + 1, at_ + e.t, op, rfl, by simp, ⟨by have := HK.out; omega⟩, H7C, H5C, HBC, HS4, ⟨by omega⟩, ⟨by have := HOP.out; omega⟩⟩
      have bo : (e.o == 3) = false := beq_eq_false_iff_ne.mpr ho
      have hsb := HSB2.out
      rw [if_neg ho] at hsb
      by_cases hoo : e.o = 1
      · have bo1 : (e.o == 1) = true := beq_iff_eq.mpr hoo
        rw [if_pos hoo] at hsb
        have HS4 := Aside0.mk hsb
        clear hsb HSB2 HC2
        go_wp2_with (fail)
        go_roundg gn
        case measure => exact Nat.lt_succ_self _
        case rel => exact ⟨k + 1, at_ + e.a, op + 1, rfl, by simp, ⟨by have := HK.out; omega⟩, H7B, H5B, HBB, HS4, ⟨by omega⟩, ⟨by have := HOP.out; omega⟩⟩
      have bo1 : (e.o == 1) = false := beq_eq_false_iff_ne.mpr hoo
      have bo2 : (e.o == 2) = true := beq_iff_eq.mpr (by omega)
      rw [if_neg hoo] at hsb
      by_cases hneg : op - 1 < 0
      · have HR1 := Aside0.mk (hfin.out wb 71 (by rw [hsb, if_pos hneg]) HBB.out)
        clear hsb HSB2 HC2 hfin
        go_wp2_with (fail)
        go_ret
        exact HR1.out
      · rw [if_neg hneg] at hsb
        have HS4 := Aside0.mk hsb
        clear hsb HSB2 HC2
        go_wp2_with (fail)
        go_roundg gn
        case measure => exact Nat.lt_succ_self _
        case rel => exact ⟨k + 1, at_ + e.a, op - 1, rfl, by simp, ⟨by have := HK.out; omega⟩, H7B, H5B, HBB, HS4, ⟨by omega⟩, ⟨by have := HOP.out; omega⟩⟩
    · have HR1 := Aside0.mk (hfin.out wr 0 (by rw [HE.out, List.drop_eq_nil_of_le (by rw [HLN.out]; omega)]; rfl) HB.out)
      have b1 : ¬ ((k : Int) < (N : Int)) := by omega
      clear HE HK hfin HOP
      go_wp2_with (fail)
      go_ret
      exact HR1.out
end Go.Proofs.Ytfaibpdoalbkpaa.Bu
