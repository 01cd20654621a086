/- Done walked. -/
import Derived.Test.YtfaibpdoalbkpaaDn
import Derived.LaidEqlPtr
namespace Go.Proofs.Ytfaibpdoalbkpaa.Bu
open Go.RowKit Go.Proofs.YtfaibpdoalbkpaaW.PrintWords Go.Proofs.YtfaibpdoalbkpaaW.PrintLast Go.Proofs.YtfaibpdoalbkpaaW.PrintMore
attribute [local go_sem] max2_int min2_int max_two min_two max_three min_three max_four min_four
set_option linter.unusedVariables false
set_option linter.unusedSimpArgs false
def toN (n : Int) (x : Nd) : Nd := ⟨x.k, x.f, n, x.d⟩
/-- The tree: what is open ends at n. -/
def doneL (m : Bl) (n : Int) : List Nd := m.L.mapIdx fun i x => if i ∈ m.O then toN n x else x
theorem len_doneL (m : Bl) (n : Int) : (doneL m n).length = m.L.length := by simp [doneL]
theorem get_doneL {m : Bl} {n : Int} {i : Nat} {x : Nd} (h : m.L[i]? = some x) : (doneL m n)[i]? = some (if i ∈ m.O then toN n x else x) := by simp [doneL, h]
def z0 : Nd := ⟨0, 0, 0, 0⟩
def fillL (D : List Nd) (i : Nat) : List Nd := D.take i ++ List.replicate (D.length - i) z0
theorem len_fillL (D : List Nd) (i : Nat) (hi : i ≤ D.length) : (fillL D i).length = D.length := by simp [fillL]; omega
theorem fill_set {D : List Nd} {i : Nat} {x : Nd} (h : D[i]? = some x) : (fillL D i).set i x = fillL D (i + 1) := by
  obtain ⟨hi, hx⟩ := List.getElem?_eq_some_iff.1 h
  unfold fillL
  rw [List.set_append_right _ _ (by rw [List.length_take]; omega), List.take_add_one, h]
  have hmin : min i D.length = i := Nat.min_eq_left (Nat.le_of_lt hi)
  rw [List.length_take, hmin, Nat.sub_self, show D.length - i = (D.length - (i + 1)) + 1 from by omega, List.replicate_succ, List.set_cons_zero]
  simp
structure Srt (m : Bl) : Prop where
  s : m.O.Pairwise (· < ·)
  o : ∀ i ∈ m.O, i < m.L.length
theorem Srt.begin {m : Bl} (h : Srt m) (e : Ev) : Srt (beginB m e) := by
  refine ⟨?_, ?_⟩
  · simp only [beginB]
    rw [List.pairwise_append]
    exact ⟨h.s, by simp, fun a ha b hb => by simp at hb; subst hb; exact h.o a ha⟩
  · intro i hi
    simp [beginB] at hi ⊢
    rcases hi with hi | hi
    · have := h.o i hi; omega
    · omega
theorem Srt.leaf {m : Bl} (h : Srt m) (e : Ev) : Srt (leafB m e) := ⟨h.s, fun i hi => by have := h.o i hi; simp [leafB]; omega⟩
theorem Srt.ends {m : Bl} (h : Srt m) (e : Ev) : Srt (endB m e) := ⟨h.s.sublist (List.dropLast_sublist _), fun i hi => by simpa [endB] using h.o i ((List.dropLast_sublist _).subset hi)⟩
theorem Srt.step {m : Bl} (h : Srt m) (e : Ev) : Srt (stepB m e) := by
  unfold stepB
  split
  · exact h.begin e
  · split
    · exact h.ends e
    · exact h.leaf e
theorem Srt.put {at_ : Int} : ∀ {l : List Ev} {m : Bl}, Srt m → Srt (putB at_ m l)
  | [], _, h => h
  | e :: r, m, h => Srt.put (l := r) (m := stepB m (shE at_ e)) (h.step _)
/-- What Done tells. -/
def DoneP (w : World) (m : Bl) (n : Int) (e : Ending) (w' : World) : Prop :=
  Below w.heap.size w w' ∧ (((n < m.far ∨ 1048576 < n) ∧ e = .returned (.tuple #[.slice none 0 0, .int .i64 70])) ∨ (¬ (n < m.far ∨ 1048576 < n) ∧ ∃ v, e = .returned (.tuple #[v, .int .i64 0]) ∧ kN.R 38 w' 0 (fun k => w.heap.size ≤ k) v (doneL m n)))

theorem row_at {w : World} {ok : Nat → Prop} {g NL cap : Nat} {xs : List Nd} (h : kN.R 38 w 0 ok (.slice (some ⟨g, 0, none⟩) NL cap) xs) {i : Nat} {y : Nd} (hy : xs[i]? = some y) : ∀ j u, (ndc y).toList[j]? = some u → w.cell? ⟨g, i * 4 + j, none⟩ = some u := by
  have hc := (Kd.R_reads' h).2.2
  have hil := (List.getElem?_eq_some_iff.1 hy).1
  obtain ⟨ad, hA, hr⟩ := hc.2.2 (by omega)
  injection hA with hA
  subst hA
  obtain ⟨c, _, hk, hcell⟩ := hr i y hy
  intro j u hu
  have := hcell j u (by rw [show c = (ndc y).toList from hk]; exact hu)
  rw [add_plain] at this
  exact this
set_option maxRecDepth 100000 in
set_option maxHeartbeats 8000000 in
theorem done_c (b : Nat) (ps : List Nat) (m : Bl) (vN vO : Value) (n : Int) (w : World) (fp : Nat → Prop) (h : BT w fp b ps m vN vO) (hs : Srt m) (hL : m.L.length ≤ 1000000) (hO : m.O.length ≤ 1000000) :
    Calls Try.prog 12 #[pv b, .int .i64 n] w fun e w' => DoneP w m n e w' := by
  obtain ⟨i38, hi38, hz38⟩ := Option.map_eq_some_iff.1 info38s
  have I38 : Aside0 (Try.prog.info? 38 = some i38 ∧ i38.size ≠ 0) := ⟨hi38, by omega⟩
  clear hi38 hz38
  obtain ⟨A1, c1, hvN, hc1, hcN⟩ := own_cells h.rN
  obtain ⟨A2, c2, hvO, hc2, hcO⟩ := own_cells h.rO
  have H := Aside0.mk h
  have g2 := h.cF
  obtain ⟨far, hfar⟩ : ∃ D, m.far = D := ⟨_, rfl⟩
  rw [hfar] at g2
  have HFAR := Aside0.mk hfar
  have hbad : Aside0 ((n < far ∨ 1048576 < n) → DoneP w m n (.returned (.tuple #[.slice none 0 0, .int .i64 70])) w) := ⟨fun hb => ⟨Below.refl _ _, .inl ⟨by rw [hfar]; exact hb, rfl⟩⟩⟩
  by_cases hn0 : n < far
  · have HF := Aside0.mk (hbad.out (.inl hn0))
    clear hbad h hvN hvO hcN hcO hfar
    go_enter Try.func12, Try.ntmps12
    go_wp2_with (fail)
    go_ret2
    exact HF.out
  by_cases hn1 : 1048576 < n
  · have HF := Aside0.mk (hbad.out (.inr hn1))
    clear hbad h hvN hvO hcN hcO hfar
    go_enter Try.func12, Try.ntmps12
    go_wp2_with (fail)
    go_ret2
    exact HF.out
  obtain ⟨NL, hNL⟩ : ∃ D, ps.length = D := ⟨_, rfl⟩
  obtain ⟨NO, hNO⟩ : ∃ D, m.O.length = D := ⟨_, rfl⟩
  have hLen : m.L.length = NL := by rw [← hNL, h.len]
  have g0 := h.cN
  have g1 := h.cO
  rw [hvN, hNL] at g0
  rw [hvO, hNO] at g1
  have hNL8 : NL ≤ 1000000 := by omega
  have hNO8 : NO ≤ 1000000 := by omega
  have hNL1 : (doneL m n).length = NL := by rw [len_doneL, hLen]
  have HCN := Aside0.mk hcN
  have HCO := Aside0.mk hcO
  have HNL := Aside0.mk hNL
  have HNO := Aside0.mk hNO
  have HS := Aside0.mk hs
  have HDL := Aside0.mk hNL1
  have HLEN := Aside0.mk hLen
  have hfin : Aside0 (∀ (w' : World) (v : Value), Below w.heap.size w w' → kN.R 38 w' 0 (fun k => w.heap.size ≤ k) v (doneL m n) → DoneP w m n (.returned (.tuple #[v, .int .i64 0])) w') := ⟨fun w' v hb hr => ⟨hb, .inr ⟨by rw [hfar]; omega, v, rfl, hr⟩⟩⟩
  clear hbad h hvN hvO hcN hcO hfar hNL hNO hs hNL1 hLen hL hO
  go_enter Try.func12, Try.ntmps12
  go_upto_region 6 with ((with_reducible refine gate_dst (N := 29) rfl ?_); refine Kd.R_make kN (w0 := w) 0 38 rfl rfl 32 (.tmp 28) (.tmp 28) rfl (NL : Int) rfl rfl Try.underlying32 (.agg #[.int .u8 0, .int .i64 0, .int .i64 0, .int .i64 0]) 32 info38 rfl (by decide) (by decide) z0 (ok := fun k => w.heap.size ≤ k) (okp := fun _ => False) rfl (fun _ h => h.elim) (Nat.le_refl _) (by omega) (by omega) (Below.refl _ _) (Nat.zero_le _) ?_; intro v1 w1 hR1 _ hg1 hat1)
  have hb1 : Below w.heap.size w w1 := ⟨hg1.os, hg1.tape, hg1.output, hg1.size, fun k hk => hg1.block k hk (by simp)⟩
  obtain ⟨g, cap, rfl⟩ : ∃ g cap, v1 = .slice (some ⟨g, 0, none⟩) NL cap := by
    obtain ⟨_, inner, hown, _⟩ := hR1
    rcases hown.2 with ⟨h1, _⟩ | ⟨g, cap, cur, h1, _⟩
    · obtain ⟨q, hq, _⟩ := hat1
      rw [h1] at hq
      simp [Value.ownBlock] at hq
    · exact ⟨g, cap, by simpa using h1⟩
  have hR1' : kN.R 38 w1 0 (fun k => w.heap.size ≤ k) (.slice (some ⟨g, 0, none⟩) NL cap) (fillL (doneL m n) 0) := by simpa [fillL, HDL.out] using hR1
  have HR1 := Aside0.mk hR1'
  have HB1 := Aside0.mk hb1
  have h1b := H.out.below hb1
  have g01 := pw_cell_below hb1 g0
  have g11 := pw_cell_below hb1 g1
  clear hR1 hR1' hb1 hg1 hat1 g2
  go_upto_block 1 with (fail)
  go_wp2_with (fail)
  go_loopg [7, 35] NL (fun gk v7 v35 wr => ∃ (k i : Nat), v7 = .int .i64 (k : Int) ∧ v35 = .int .i64 (i : Int) ∧ Aside0 (i + gk = NL) ∧ Aside0 (Below w.heap.size w wr) ∧ Aside0 (kN.R 38 wr 0 (fun k => w.heap.size ≤ k) (.slice (some ⟨g, 0, none⟩) NL cap) (fillL (doneL m n) i)) ∧ Aside0 (k ≤ NO) ∧ Aside0 (∀ j y, m.O[j]? = some y → (j < k → y < i) ∧ (k ≤ j → i ≤ y)))
  case atStart => exact ⟨0, 0, rfl, rfl, ⟨by omega⟩, HB1, HR1, ⟨Nat.zero_le _⟩, ⟨fun j y _ => ⟨fun h => by omega, fun _ => Nat.zero_le _⟩⟩⟩
  case round =>
    clear HR1 HB1 h1b g01 g11
    obtain ⟨k, i, rfl, rfl, HK, HB, HR, HKO, HSP⟩ := hrel
    have g01 := pw_cell_below HB.out g0
    have g11 := pw_cell_below HB.out g1
    by_cases hin : i < NL
    · obtain ⟨gn, rfl⟩ : ∃ gn, gk = gn + 1 := ⟨gk - 1, by have := HK.out; omega⟩
      obtain ⟨x, hx⟩ : ∃ x, ps[i]? = some x := ⟨_, List.getElem?_eq_getElem (by rw [HNL.out]; exact hin)⟩
      obtain ⟨y, hy⟩ : ∃ y, m.L[i]? = some y := ⟨_, List.getElem?_eq_getElem (by rw [HLEN.out]; exact hin)⟩
      obtain ⟨gN, hA1, _, _, hcx⟩ := HCN.out i (pv x) (by rw [List.getElem?_map, hx]; rfl)
      subst hA1
      have hxb := (HB.out.block _ (blk_lt (H.out.nodes i y x hy hx))).trans (H.out.nodes i y x hy hx)
      have hcx1 := pw_cell_below HB.out hcx
      have hcx2 : wr.cell? (Addr.add ⟨gN, 0, none⟩ i) = some (pv x) := by rw [add_plain]; exact hcx1
      have y0 : wr.cell? ⟨x, 0, none⟩ = some (.int .u8 y.k) := cell_of_row _ _ _ _ _ _ hxb
      have y1 : wr.cell? ⟨x, 1, none⟩ = some (.int .i64 y.f) := cell_of_row _ _ _ _ _ _ hxb
      have y2 : wr.cell? ⟨x, 2, none⟩ = some (.int .i64 y.t) := cell_of_row _ _ _ _ _ _ hxb
      have y3 : wr.cell? ⟨x, 3, none⟩ = some (.int .i64 y.d) := cell_of_row _ _ _ _ _ _ hxb
      have p0 : (0 : Int) ≤ (i : Int) := by omega
      have p1 : (i : Int) < (NL : Int) := by omega
      have hw1 : IntKind.i64.wrap ((i : Int) + 1) = (i : Int) + 1 := IntWalk.i64_in _ (by omega)
      have hw2 : IntKind.i64.wrap ((k : Int) + 1) = (k : Int) + 1 := IntWalk.i64_in _ (by have := HKO.out; omega)
      clear hcx hxb
      have hfz : (fillL (doneL m n) i)[i]? = some z0 := by
        unfold fillL
        rw [List.getElem?_append_right (by rw [List.length_take, HDL.out]; omega), List.length_take, HDL.out, Nat.min_eq_left (by omega), Nat.sub_self]
        rw [show NL - i = (NL - i - 1) + 1 from by omega, List.replicate_succ]
        rfl
      have HFZ := Aside0.mk (row_at HR.out hfz)
      have HX := Aside0.mk hx
      have HY := Aside0.mk hy
      clear hfz hx hy
      go_upto_region 11 with ((with_reducible refine gate_ (.store 38 (.tmp 45) (.tmp 44)) rfl ?_); refine Kd.R_store kN (w0 := wr) 0 rfl rfl 38 (.tmp 45) (.tmp 44) rfl 38 (g := g) (n := NL) (cap := cap) (o' := i * 4) (i : Int) 0 (fillL (doneL m n) i) y (.agg (ndc y)) (ndc y).toList (ndc z0).toList (fun k => w.heap.size ≤ k) (fun _ => False) rfl (by simp [kN, flat]) rfl rfl info38s (fun q hq => by simp [ndc] at hq; rcases hq with rfl | rfl | rfl | rfl <;> rfl) HR.out (by omega) (by omega) rfl HFZ.out (Nat.le_refl 4) rfl (fun _ h => h.elim) (Below.refl _ _) ?_; intro w2 hR2 _ hg2)
      have hbg : w.heap.size ≤ g := HR.out.1 g rfl
      have hb2 : Below w.heap.size w w2 := HB.out.grown hg2 HB.out.size (fun k e => by cases e; exact hbg)
      have g02 := pw_cell_below hb2 g0
      have g12 := pw_cell_below hb2 g1
      have HR2 := Aside0.mk hR2
      have HB2 := Aside0.mk hb2
      clear hR2 hg2 hb2 g01 g11 hcx1 hcx2 y0 y1 y2 y3 HFZ
      have hgd := get_doneL (n := n) HY.out
      have hfs1 : (fillL (doneL m n) i).set i (if i ∈ m.O then toN n y else y) = fillL (doneL m n) (i + 1) := fill_set hgd
      by_cases hkO : k < NO
      · obtain ⟨z, hz⟩ : ∃ z, m.O[k]? = some z := ⟨_, List.getElem?_eq_getElem (by rw [HNO.out]; exact hkO)⟩
        have hzl := H.out.op z (List.mem_of_getElem? hz)
        obtain ⟨xz, hxz⟩ : ∃ q, ps[z]? = some q := ⟨_, List.getElem?_eq_getElem (by rw [H.out.len]; exact hzl)⟩
        obtain ⟨gO, hA2, _, _, hcz⟩ := HCO.out k (pv xz) (by rw [List.getElem?_map, hz]; simp [hxz])
        subst hA2
        have hcz2 : w2.cell? (Addr.add ⟨gO, 0, none⟩ k) = some (pv xz) := by rw [add_plain]; exact pw_cell_below HB2.out hcz
        have hcz3 : w2.cell? ⟨gO, k, none⟩ = some (pv xz) := pw_cell_below HB2.out hcz
        have q0 : (0 : Int) ≤ (k : Int) := by omega
        have q1 : (k : Int) < (NO : Int) := by omega
        by_cases hzi : z = i
        · subst hzi
          have hmem : z ∈ m.O := List.mem_of_getElem? hz
          obtain rfl : xz = x := by
            have h1 := HX.out
            rw [hxz] at h1
            exact Option.some.inj h1
          rw [if_pos hmem] at hfs1
          have HFS := Aside0.mk hfs1
          have hfy : ((fillL (doneL m n) z).set z y)[z]? = some y := by
            rw [List.getElem?_set_self]
            rw [len_fillL _ _ (by rw [HDL.out]; omega), HDL.out]
            exact hin
          have HFY := Aside0.mk (row_at HR2.out hfy)
          have HSP2 : Aside0 (∀ j y, m.O[j]? = some y → (j < k + 1 → y < z + 1) ∧ (k + 1 ≤ j → z + 1 ≤ y)) := ⟨fun j y hj => by
            have h1 := HSP.out j y hj
            refine ⟨fun h => ?_, fun h => ?_⟩
            · rcases Nat.lt_or_ge j k with h' | h'
              · have := h1.1 h'; omega
              · have : j = k := by omega
                subst this
                rw [hz] at hj
                injection hj with hj
                omega
            · have hs := HS.out.s
              rw [List.pairwise_iff_getElem] at hs
              obtain ⟨hk1, hk2⟩ := List.getElem?_eq_some_iff.1 hz
              obtain ⟨hj1, hj2⟩ := List.getElem?_eq_some_iff.1 hj
              have := hs k j hk1 hj1 (by omega)
              omega⟩
          have hq1 := run_eql_ptr_same (P := Try.prog) w2 ⟨xz, 0, none⟩ Try.underlying54 I38.out.1
          clear hz hxz hcz hfs1 hgd hfy HSP
          go_wp2_with ((with_reducible refine gate_ (.store 3 (.tmp 68) (.tmp 66)) rfl ?_); refine Kd.R_store kN (w0 := w2) 0 rfl rfl 3 (.tmp 68) (.tmp 66) rfl 38 (g := g) (n := NL) (cap := cap) (o' := z * 4 + 2) (z : Int) 2 ((fillL (doneL m n) z).set z y) (toN n y) (.int .i64 n) [.int .i64 n] (ndc y).toList (fun k => w.heap.size ≤ k) (fun _ => False) rfl (by simp [kN, flat]) rfl rfl info3s (fun q hq => by simp at hq; subst hq; rfl) HR2.out (by omega) (by omega) rfl HFY.out (Nat.le_succ 3) rfl (fun _ h => h.elim) (Below.refl _ _) ?_; intro w3 hR3 _ hg3; have hb3 : Below w.heap.size w w3 := HB2.out.grown hg3 HB2.out.size (fun k e => by cases e; exact hbg); have HR3 := Aside0.mk hR3; have HB3 := Aside0.mk hb3; clear hR3 hg3 hb3)
          go_roundg gn
          case measure => exact Nat.lt_succ_self _
          case rel =>
            refine ⟨k + 1, z + 1, by simp, by simp, ⟨by have := HK.out; omega⟩, HB3, ⟨?_⟩, ⟨by omega⟩, HSP2⟩
            have h := HR3.out
            simp only [Int.toNat_natCast] at h
            rw [List.set_set, HFS.out] at h
            exact h
        · have hni : i ∉ m.O := fun hmem => by
            obtain ⟨j, hj⟩ := List.mem_iff_getElem?.1 hmem
            have h1 := HSP.out j i hj
            rcases Nat.lt_or_ge j k with h' | h'
            · have := h1.1 h'; omega
            · have hs := HS.out.s
              rw [List.pairwise_iff_getElem] at hs
              obtain ⟨hk1, hk2⟩ := List.getElem?_eq_some_iff.1 hz
              obtain ⟨hj1, hj2⟩ := List.getElem?_eq_some_iff.1 hj
              have h3 := (HSP.out k z hz).2 (Nat.le_refl _)
              rcases Nat.lt_or_ge k j with h4 | h4
              · have := hs k j hk1 hj1 h4; omega
              · have : j = k := by omega
                subst this
                rw [hz] at hj
                injection hj with hj
                omega
          have hxne : ¬ xz = x := fun e => hzi (by
            subst e
            have h1 := List.getElem?_eq_some_iff.1 hxz
            have h2 := List.getElem?_eq_some_iff.1 HX.out
            exact (List.getElem_inj H.out.nd).1 (h1.2.trans h2.2.symm))
          rw [if_neg hni] at hfs1
          have HFS := Aside0.mk hfs1
          have HSP2 : Aside0 (∀ j y, m.O[j]? = some y → (j < k → y < i + 1) ∧ (k ≤ j → i + 1 ≤ y)) := ⟨fun j y hj => by
            have h1 := HSP.out j y hj
            refine ⟨fun h => by have := h1.1 h; omega, fun h => ?_⟩
            have h2 := h1.2 h
            have : y ≠ i := fun e => hni (e ▸ List.mem_of_getElem? hj)
            omega⟩
          have hxb2 := (HB2.out.block _ (blk_lt (H.out.nodes i y x HY.out HX.out))).trans (H.out.nodes i y x HY.out HX.out)
          have hzb2 := (HB2.out.block _ (blk_lt (H.out.nodes z _ xz (List.getElem?_eq_getElem hzl) hxz))).trans (H.out.nodes z _ xz (List.getElem?_eq_getElem hzl) hxz)
          have hq1 : (binOp .eql 54 (pv xz) (pv x)).run Try.prog w2 = .ok (.bool false) w2 := by
            refine run_eql_ptr_other (P := Try.prog) w2 (a := ⟨xz, 0, none⟩) (b := ⟨x, 0, none⟩) Try.underlying54 I38.out.1 I38.out.2 ?_ hzb2 hxb2
            intro e
            simp at e
          clear hz hxz hcz hfs1 hgd HSP hni hxb2 hzb2
          go_wp2_with (fail)
          go_roundg gn
          case measure => exact Nat.lt_succ_self _
          case rel =>
            refine ⟨k, i + 1, by simp, by simp, ⟨by have := HK.out; omega⟩, HB2, ⟨?_⟩, HKO, HSP2⟩
            have h := HR2.out
            simp only [Int.toNat_natCast] at h
            rw [HFS.out] at h
            exact h
      · have hni : i ∉ m.O := fun hmem => by
          obtain ⟨j, hj⟩ := List.mem_iff_getElem?.1 hmem
          have := (HSP.out j i hj).1 (by have := (List.getElem?_eq_some_iff.1 hj).1; have := HNO.out; omega)
          omega
        rw [if_neg hni] at hfs1
        have HFS := Aside0.mk hfs1
        have HSP2 : Aside0 (∀ j y, m.O[j]? = some y → (j < k → y < i + 1) ∧ (k ≤ j → i + 1 ≤ y)) := ⟨fun j y hj => by
          have h1 := HSP.out j y hj
          refine ⟨fun h => by have := h1.1 h; omega, fun h => ?_⟩
          have h2 := h1.2 h
          have : y ≠ i := fun e => hni (e ▸ List.mem_of_getElem? hj)
          omega⟩
        have q2 : ¬ ((k : Int) < (NO : Int)) := by omega
        clear hfs1 hgd HSP hni
        go_wp2_with (fail)
        go_roundg gn
        case measure => exact Nat.lt_succ_self _
        case rel =>
          refine ⟨k, i + 1, by simp, by simp, ⟨by have := HK.out; omega⟩, HB2, ⟨?_⟩, HKO, HSP2⟩
          have h := HR2.out
          simp only [Int.toNat_natCast] at h
          rw [HFS.out] at h
          exact h
    · have hr := HR.out
      have hfe : fillL (doneL m n) i = doneL m n := by
        unfold fillL
        rw [List.take_of_length_le (by rw [HDL.out]; omega), HDL.out, show NL - i = 0 from by omega]
        simp
      rw [hfe] at hr
      have HF := Aside0.mk (hfin.out wr _ HB.out hr)
      have q2 : ¬ ((i : Int) < (NL : Int)) := by omega
      clear hr hfe HR HB HSP hfin
      go_wp2_with (fail)
      go_ret2
      exact HF.out
end Go.Proofs.Ytfaibpdoalbkpaa.Bu
