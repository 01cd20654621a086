/- The reference's Done. -/
import Derived.Test.YtfaibpdoalbkpaaRn
import Derived.Test.YtfaibpdoalbkpaaCk
namespace Go.Proofs.Ytfaibpdoalbkpaa.Bu
open Go.RowKit Go.Proofs.YtfaibpdoalbkpaaW.PrintWords Go.Proofs.YtfaibpdoalbkpaaW.PrintLast Go.Proofs.YtfaibpdoalbkpaaW.PrintMore
attribute [local go_sem] max2_int min2_int max_two min_two max_three min_three max_four min_four
set_option linter.unusedVariables false
set_option linter.unusedSimpArgs false
theorem formI {w : World} {ok : Nat → Prop} {v : Value} {xs : List Nat} (h : kI.R 3 w 0 ok v xs) (h1 : 1 ≤ xs.length) : ∃ g cap, v = .slice (some ⟨g, 0, none⟩) xs.length cap ∧ xs.length ≤ cap := by
  obtain ⟨_, inner, hown, _⟩ := h
  rcases hown.2 with ⟨_, h2⟩ | ⟨g, cap, cur, h2, _, _, h3, _⟩
  · omega
  · exact ⟨g, cap, h2, h3⟩
theorem atI {w : World} {ok : Nat → Prop} {g NL cap : Nat} {xs : List Nat} (h : kI.R 3 w 0 ok (.slice (some ⟨g, 0, none⟩) NL cap) xs) {i : Nat} {y : Nat} (hy : xs[i]? = some y) : w.cell? ⟨g, i, none⟩ = some (.int .i64 (y : Int)) := by
  have hc := (Kd.R_reads' h).2.2
  have hil := (List.getElem?_eq_some_iff.1 hy).1
  obtain ⟨ad, hA, hr⟩ := hc.2.2 (by omega)
  injection hA with hA
  subst hA
  obtain ⟨c, _, hk, hcell⟩ := hr i y hy
  have := hcell 0 (.int .i64 (y : Int)) (by rw [show c = [.int .i64 (y : Int)] from hk]; rfl)
  rw [add_plain] at this
  have e : i * kI.sz + 0 = i := by show i * 1 + 0 = i; omega
  rw [e] at this
  exact this
set_option maxRecDepth 100000 in
set_option maxHeartbeats 8000000 in
theorem rdone_c (b : Nat) (m : Bl) (vL vO : Value) (n : Int) (w : World) (fp : Nat → Prop) (h : RT w fp b m vL vO) (hs : Srt m) (hL : m.L.length ≤ 1000000) (hO : m.O.length ≤ 1000000) :
    Calls Try.prog 13 #[pv b, .int .i64 n] w fun e w' => DoneP w m n e w' := by
  have g0 := h.cL
  have g1 := h.cO
  have g2 := h.cF
  obtain ⟨far, hfar⟩ : ∃ D, m.far = D := ⟨_, rfl⟩
  rw [hfar] at g2
  by_cases hb0 : n < far
  · have HF : Aside0 (DoneP w m n (.returned (.tuple #[.slice none 0 0, .int .i64 70])) w) := ⟨Below.refl _ _, .inl ⟨by rw [hfar]; exact .inl hb0, rfl⟩⟩
    clear h g0 g1
    go_enter Try.func13, Try.ntmps13
    go_wp2_with (fail)
    go_ret2
    exact HF.out
  by_cases hb1 : 1048576 < n
  · have HF : Aside0 (DoneP w m n (.returned (.tuple #[.slice none 0 0, .int .i64 70])) w) := ⟨Below.refl _ _, .inl ⟨.inr hb1, rfl⟩⟩
    clear h g0 g1
    go_enter Try.func13, Try.ntmps13
    go_wp2_with (fail)
    go_ret2
    exact HF.out
  obtain ⟨AL, cL, hvL, hcL, hCL⟩ := Kd.R_reads h.rL
  obtain ⟨AO, cO, hvO, hcO, _⟩ := Kd.R_reads h.rO
  obtain ⟨NL, hNL⟩ : ∃ D, (doneL m (-1)).length = D := ⟨_, rfl⟩
  obtain ⟨NO, hNO⟩ : ∃ D, m.O.length = D := ⟨_, rfl⟩
  rw [hNL] at hvL hCL
  rw [hNO] at hvO
  rw [hvL] at g0
  rw [hvO] at g1
  have hNL8 : NL ≤ 1000000 := by rw [len_doneL] at hNL; omega
  have hNO8 : NO ≤ 1000000 := by omega
  have H := Aside0.mk h
  have HS := Aside0.mk hs
  have HVO := Aside0.mk hvO
  have HCL := Aside0.mk hCL
  have HNL := Aside0.mk hNL
  have HNO := Aside0.mk hNO
  have HLL : Aside0 (m.L.length = NL) := ⟨by rw [← hNL, len_doneL]⟩
  have hfin : Aside0 (∀ (w' : World) (v : Value), Below w.heap.size w w' → kN.R 38 w' 0 (fun k => w.heap.size ≤ k) v (doneL m n) → DoneP w m n (.returned (.tuple #[v, .int .i64 0])) w') := ⟨fun w' v hb hr => ⟨hb, .inr ⟨by rw [hfar]; omega, v, rfl, hr⟩⟩⟩
  clear h hs hvL hvO hcL hcO hCL hNL hNO hL hO hfar
  go_enter Try.func13, Try.ntmps13
  go_upto_block 0 with (at_builtin; refine Kd.R_append_rows kN (w0 := w) 0 rfl (.const (.slice none 0 0)) (.tmp 21) 32 38 (.agg #[.int .u8 0, .int .i64 0, .int .i64 0, .int .i64 0]) 32 rfl Try.underlying32 info38 rfl (by decide) (by decide) (.slice none 0 0) [] (doneL m (-1)) AL NL cL (fun k => w.heap.size ≤ k) (fun _ => False) rfl rfl (Kd.R_nil _ _ _ _ _) HCL.out (fun _ _ h => h) (fun _ h => h.elim) (fun _ h => h) (Below.refl _ _) (Nat.zero_le _) (by simp; omega) ?_; intro v1 w1 hR1 _ hg1 hat1; rw [List.nil_append] at hR1; obtain ⟨A1, c1, hv1, hle1, _⟩ := Kd.R_reads hR1; rw [HNL.out] at hv1 hle1; subst hv1; have hb1' : Below w.heap.size w w1 := ⟨hg1.os, hg1.tape, hg1.output, hg1.size, fun k hk => hg1.block k hk (by simp [Value.ownBlock])⟩; have g11 := pw_cell_below hb1' g1; have HR1 := Aside0.mk hR1; have HB1 := Aside0.mk hb1'; clear hR1 hg1 hat1 hb1')
  go_wp2_with (fail)
  clear g0 g1 g2 g11
  go_loopg [7] NO (fun gk v7 wr => ∃ (k : Nat) (D : List Nd), v7 = .int .i64 (k : Int) ∧ Aside0 (k + gk = NO) ∧ Aside0 (Below w.heap.size w wr) ∧ Aside0 (kN.R 38 wr 0 (fun j => w.heap.size ≤ j) (.slice A1 NL c1) D) ∧ Aside0 (D.length = NL) ∧ Aside0 (∀ (j : Nat) (x : Nd), m.L[j]? = some x → D[j]? = some (if j ∈ m.O.take k then toN n x else if j ∈ m.O then toN (-1) x else x)))
  case atStart => exact ⟨0, doneL m (-1), rfl, ⟨by omega⟩, HB1, HR1, HNL, ⟨fun j x hx => by rw [get_doneL hx]; simp⟩⟩
  case round =>
    clear HB1 HR1
    obtain ⟨k, D, rfl, HK, HB, HR, HDL, HD⟩ := hrel
    have g11 : wr.cell? ⟨b, 1, none⟩ = some (.slice AO NO cO) := by
      have h1 := pw_cell_below HB.out H.out.cO
      rw [HVO.out] at h1
      exact h1
    by_cases hkn : k < NO
    · obtain ⟨gn, rfl⟩ : ∃ gn, gk = gn + 1 := ⟨gk - 1, by have := HK.out; omega⟩
      obtain ⟨i, hi⟩ : ∃ i, m.O[k]? = some i := ⟨_, List.getElem?_eq_getElem (by rw [HNO.out]; exact hkn)⟩
      have hiL : i < NL := by rw [← HLL.out]; exact HS.out.o i (List.mem_of_getElem? hi)
      obtain ⟨x, hx⟩ : ∃ x, m.L[i]? = some x := ⟨_, List.getElem?_eq_getElem (by rw [HLL.out]; exact hiL)⟩
      obtain ⟨g, cap, hv, hcap⟩ := row_form HR.out (by rw [HDL.out]; omega)
      rw [HDL.out] at hv
      injection hv with hv1 hv2 hv3
      subst hv1
      obtain ⟨y, hy⟩ : ∃ y, D[i]? = some y := ⟨_, List.getElem?_eq_getElem (by rw [HDL.out]; exact hiL)⟩
      have hyx : toN n y = toN n x := by
        have h1 := HD.out i x hx
        rw [hy] at h1
        injection h1 with h1
        rw [h1]
        split
        · rfl
        · split <;> rfl
      have hRO := Kd.R_below H.out.rO HB.out
      rw [HVO.out] at hRO
      obtain ⟨gO, capO, hvo, _⟩ := formI hRO (by rw [HNO.out]; omega)
      rw [HNO.out] at hvo
      injection hvo with hvo1 hvo2 hvo3
      subst hvo1
      have ci := atI hRO hi
      have p0 : (0 : Int) ≤ (k : Int) := by omega
      have p1 : (k : Int) < (NO : Int) := by omega
      have i0 : (0 : Int) ≤ (i : Int) := by omega
      have i1 : (i : Int) < (NL : Int) := by omega
      have hw1 : IntKind.i64.wrap ((k : Int) + 1) = (k : Int) + 1 := IntWalk.i64_in _ (by omega)
      have HY := Aside0.mk (row_at HR.out hy)
      have HHY := Aside0.mk hy
      have HYX := Aside0.mk hyx
      have HI := Aside0.mk hi
      have HX := Aside0.mk hx
      have hgw : w.heap.size ≤ g := HR.out.1 g rfl
      have HGW := Aside0.mk hgw
      clear hy hyx hi hx hRO hv2 hv3 hvo2 hvo3 hcap hgw
      go_wp2_with ((with_reducible refine gate_ (.store 3 (.tmp 42) (.tmp 40)) rfl ?_); refine Kd.R_store kN (w0 := wr) 0 rfl rfl 3 (.tmp 42) (.tmp 40) rfl 38 (g := g) (n := NL) (cap := c1) (o' := i * 4 + 2) (i : Int) 2 D (toN n y) (.int .i64 n) [.int .i64 n] (ndc y).toList (fun k => w.heap.size ≤ k) (fun _ => False) rfl (by simp [kN, flat]) rfl rfl info3s (fun q hq => by simp at hq; subst hq; rfl) HR.out (by omega) (by omega) rfl HY.out (Nat.le_succ 3) rfl (fun _ h => h.elim) (Below.refl _ _) ?_; intro w3 hR3 _ hg3; have hb3 : Below w.heap.size w w3 := HB.out.grown hg3 HB.out.size (fun k e => by cases e; exact HGW.out); have HR3 := Aside0.mk hR3; have HB3 := Aside0.mk hb3; clear hR3 hg3 hb3)
      go_roundg gn
      case measure => exact Nat.lt_succ_self _
      case rel =>
        refine ⟨k + 1, D.set i (toN n x), by simp, ⟨by have := HK.out; omega⟩, HB3, ⟨?_⟩, ⟨by rw [List.length_set]; exact HDL.out⟩, ⟨?_⟩⟩
        · have h := HR3.out
          simp only [Int.toNat_natCast] at h
          rw [HYX.out] at h
          exact h
        · intro j z hz
          have htk : m.O.take (k + 1) = m.O.take k ++ [i] := take_snoc HI.out
          rw [htk]
          by_cases hij : i = j
          · subst hij
            rw [List.getElem?_set_self (by rw [HDL.out]; exact hiL)]
            rw [HX.out] at hz
            injection hz with hz
            subst hz
            simp
          · rw [List.getElem?_set_ne hij, HD.out j z hz]
            have hji : ¬ j = i := fun e => hij e.symm
            simp [hji]
    · have hk : k = NO := by have := HK.out; omega
      have hDe : D = doneL m n := by
        apply List.ext_getElem?
        intro j
        by_cases hj : j < m.L.length
        · have hlj := List.getElem?_eq_getElem hj
          rw [HD.out j _ hlj, get_doneL hlj, List.take_of_length_le (by rw [HNO.out]; omega)]
          by_cases hjo : j ∈ m.O
          · simp [hjo]
          · simp [hjo]
        · rw [List.getElem?_eq_none (by rw [HDL.out, ← HLL.out]; omega), List.getElem?_eq_none (by rw [len_doneL]; omega)]
      have hr := HR.out
      rw [hDe] at hr
      have HF := Aside0.mk (hfin.out wr _ HB.out hr)
      have q : ¬ ((k : Int) < (NO : Int)) := by omega
      clear hr hDe hk hfin
      go_wp2_with (fail)
      go_ret2
      exact HF.out
end Go.Proofs.Ytfaibpdoalbkpaa.Bu
