/- The example is read. -/
import Derived.Test.YtjfpkldknchnkaaLc
import Derived.Test.YtjfpkldknchnkaaPw
namespace Go.Proofs.Ytjfpkldknchnkaa.Me
open Go.RowKit Go.Proofs.YtjfpkldknchnkaaW.PrintWords Go.Proofs.YtjfpkldknchnkaaW.PrintLast Go.Proofs.YtjfpkldknchnkaaW.PrintMore
attribute [local go_sem] max2_int min2_int max_two min_two max_three min_three max_four min_four
set_option linter.unusedVariables false
set_option linter.unusedSimpArgs false
abbrev S0 : ByteArray := ⟨#[97, 32, 42, 42, 98]⟩
theorem bt_none {S : ByteArray} (h : ∀ k : Nat, k < S.size → bt S (k : Int) ≠ 10) : isEnd S (S.size : Int) :=
  .inl ⟨fun k h0 h1 => by
    obtain ⟨j, rfl⟩ : ∃ j : Nat, k = j := ⟨k.toNat, by omega⟩
    exact h j (by omega), rfl⟩
theorem look0 : LookR S0 0 2 9 ⟨2, 2, 42, true, false⟩ true := by
  have h0 : bt S0 0 = 97 := by kernel_rfl
  have h1 : bt S0 1 = 32 := by kernel_rfl
  have h2 : bt S0 2 = 42 := by kernel_rfl
  have h3 : bt S0 3 = 42 := by kernel_rfl
  have h4 : bt S0 4 = 98 := by kernel_rfl
  refine ⟨5, 5, bt_none (fun k hk => ?_), rfl, .inr ⟨⟨by omega, by omega, by omega, .inl h2, fun h => ?_⟩, rfl, 2, ⟨by omega, by omega, fun j j0 j1 => ?_, .inr ⟨by omega, ?_⟩⟩, ?_⟩⟩
  · have hk : k < 5 := hk
    match k, hk with
    | 0, _ => show bt S0 0 ≠ 10; rw [h0]; decide
    | 1, _ => show bt S0 1 ≠ 10; rw [h1]; decide
    | 2, _ => show bt S0 2 ≠ 10; rw [h2]; decide
    | 3, _ => show bt S0 3 ≠ 10; rw [h3]; decide
    | 4, _ => show bt S0 4 ≠ 10; rw [h4]; decide
  · have h5 := h.2
    rw [show (2 : Int) - 1 = 1 from rfl, h1, h2] at h5
    exact absurd h5 (by decide)
  · have h5 : j = 2 ∨ j = 3 := by omega
    rcases h5 with rfl | rfl
    · rfl
    · rw [h3, h2]
  · rw [show (2 : Int) + 2 = 4 from rfl, h4, h2]; decide
  · rw [show (2 : Int) + 2 = 4 from rfl, show (2 : Int) - 1 = 1 from rfl]
    have o1 : ofB (bt S0) 0 5 4 = 98 := by unfold ofB; rw [if_neg (by omega)]; exact h4
    have o2 : ofB (bt S0) 0 5 1 = 32 := by unfold ofB; rw [if_neg (by omega)]; exact h1
    rw [o1, o2, h2]
    decide
abbrev l0 : List Rn := [⟨0, 3, 42, true, false⟩, ⟨4, 3, 42, false, true⟩]
theorem pairs0 : pairsU l0 = [⟨1, 6, true⟩, ⟨0, 7, false⟩] := by decide
theorem srt_uniq : ∀ {l' l : List Pr}, l.Perm l' → Srt l → l'.Pairwise (fun x y => x.a < y.a) → l = l'
  | [], l, h, _, _ => List.Perm.eq_nil h
  | x :: t, l, h, hs, hs' => by
    match l, h, hs with
    | [], h, _ => exact absurd h.symm.eq_nil (by simp)
    | y :: s, h, hs =>
      have hxy : y = x := by
        by_cases e : y = x
        · exact e
        · have h1 : y ∈ x :: t := h.subset (List.mem_cons_self ..)
          have h2 : x ∈ y :: s := h.symm.subset (List.mem_cons_self ..)
          have h3 : y ∈ t := by
            rcases List.mem_cons.1 h1 with h3 | h3
            · exact absurd h3 e
            · exact h3
          have h4 : x ∈ s := by
            rcases List.mem_cons.1 h2 with h4 | h4
            · exact absurd h4.symm e
            · exact h4
          have h5 := (List.pairwise_cons.1 hs').1 y h3
          have h6 := (List.pairwise_cons.1 hs).1 x h4
          omega
      subst hxy
      have h1 : s.Perm t := h.cons_inv
      rw [srt_uniq h1 (List.pairwise_cons.1 hs).2 (List.pairwise_cons.1 hs').2]
theorem pr_at {w : World} {ad : Addr} {n : Nat} {l : List Pr} {k : Nat} {e : Pr} (h : ReadsRow RPr 3 w (some ad) n l) (ha : l[k]? = some e) :
    w.cell? (ad.add (k * 3)) = some (.int .i64 e.a) ∧ w.cell? ⟨(ad.add (k * 3)).block, (ad.add (k * 3)).off + 1, none⟩ = some (.int .i64 e.b) ∧ w.cell? ⟨(ad.add (k * 3)).block, (ad.add (k * 3)).off + 2, none⟩ = some (.bool e.s) := by
  have hl := (List.getElem?_eq_some_iff.1 ha).1
  obtain ⟨ad', hA, hr⟩ := h.2.2 (by have := h.1; omega)
  injection hA with hA
  subst hA
  obtain ⟨c, hc5, hc, hcell⟩ := hr k e ha
  have hc' : c = (prc e).toList := hc
  subst hc'
  have e' : ∀ j u, ((prc e).toList)[j]? = some u → w.cell? ((ad.add (k * 3)).add j) = some u := fun j u h => by
    rw [Go.Deep.add_add]
    exact hcell j u h
  exact ⟨e' 0 _ rfl, e' 1 _ rfl, e' 2 _ rfl⟩
/-- Some runs that lie in a row of their own. -/
theorem row_runs (w : World) (g : Nat) (l : List Rn) (hl : 1 ≤ l.length) (cs : Array Value) (h : ∀ k x, l[k]? = some x → ∀ j u, (rnc x).toList[j]? = some u → cs[k * 5 + j]? = some u) (hb : w.heap[g]? = some (.cells cs 23 (0, 0))) (hz : l.length < 9223372036854775807) : ReadsRow RRn 5 w (some ⟨g, 0, none⟩) l.length l :=
  ⟨rfl, by omega, fun _ => ⟨_, rfl, fun k a ha => ⟨(rnc a).toList, rfl, rfl, fun j u hu => by
    rw [add_plain, cell_of_row _ _ _ _ _ _ hb]
    exact h k a ha j u hu⟩⟩⟩
set_option maxRecDepth 100000 in
set_option maxHeartbeats 8000000 in
theorem reads_c (w : World) : Calls Try.prog 11 #[] w fun e w' => BoolP w true e w' := by
  go_enter Try.func11, Try.ntmps11
  go_upto_region 2 with (fail)
  refine (lookq_c S0 0 2 9 w (by decide)).mono ?_
  rintro _ w1 ⟨r, is, ⟨rfl, hb1⟩, hr⟩
  obtain ⟨rfl, rfl⟩ := hr.uniq look0
  have HB1 := Aside0.mk hb1
  clear hb1 hr
  obtain ⟨b, hb⟩ : ∃ q, w1.heap.size = q := ⟨_, rfl⟩
  obtain ⟨w2, hw2⟩ : ∃ q, w1.alloc (.cells zrun 23) = q := ⟨_, rfl⟩
  have hs2 : w2.heap.size = b + 1 := by rw [← hw2]; simp [hb]
  have hz : w2.heap[b]? = some (.cells zrun 23 (0, 0)) := by rw [← hw2, ← hb]; exact heap_alloc_new _ _
  have hb2 : Below w1.heap.size w1 w2 := by rw [← hw2]; exact below_alloc (Below.refl _ w1) _
  have fz := fun j => blk_frozen hz j
  have z0 : w2.cell? ⟨b, 0, none⟩ = some (.int .i64 0) := cell_of_row _ _ _ _ _ _ hz
  have z1 : w2.cell? ⟨b, 1, none⟩ = some (.int .i64 0) := cell_of_row _ _ _ _ _ _ hz
  have z2 : w2.cell? ⟨b, 2, none⟩ = some (.int .u8 0) := cell_of_row _ _ _ _ _ _ hz
  have z3 : w2.cell? ⟨b, 3, none⟩ = some (.bool false) := cell_of_row _ _ _ _ _ _ hz
  have z4 : w2.cell? ⟨b, 4, none⟩ = some (.bool false) := cell_of_row _ _ _ _ _ _ hz
  have HZ := Aside0.mk hz
  have HB2 := Aside0.mk hb2
  clear hz hb2
  go_upto_region 2 with (fail)
  obtain ⟨V, hV⟩ : ∃ q, ((((w2.setCell ⟨b, 0, none⟩ (.int .i64 2)).setCell ⟨b, 1, none⟩ (.int .i64 2)).setCell ⟨b, 2, none⟩ (.int .u8 42)).setCell ⟨b, 3, none⟩ (.bool true)).setCell ⟨b, 4, none⟩ (.bool false) = q := ⟨_, rfl⟩
  rw [hV]
  have HV : Aside0 (V.heap[b]? = some (.cells #[.int .i64 2, .int .i64 2, .int .u8 42, .bool true, .bool false] 23 (0, 0))) := ⟨by rw [← hV]; exact five_row HZ.out _ _ _ _ _⟩
  have HBV : Aside0 (Below w1.heap.size w1 V) := ⟨by rw [← hV]; exact five_below HB2.out (by omega) _ _ _ _ _⟩
  have hsV : V.heap.size = b + 1 := by rw [← hV]; simp [hs2]
  clear hV hw2 fz z0 z1 z2 z3 z4 hs2
  obtain ⟨W, hW⟩ : ∃ q, V.alloc (.cells #[.int .i64 0, .int .i64 3, .int .u8 42, .bool true, .bool false, .int .i64 4, .int .i64 3, .int .u8 42, .bool false, .bool true] 23) = q := ⟨_, rfl⟩
  have hWn : W.heap[b + 1]? = some (.cells #[.int .i64 0, .int .i64 3, .int .u8 42, .bool true, .bool false, .int .i64 4, .int .i64 3, .int .u8 42, .bool false, .bool true] 23 (0, 0)) := by rw [← hW, ← hsV]; exact heap_alloc_new _ _
  have hWb : Below V.heap.size V W := by rw [← hW]; exact below_alloc (Below.refl _ V) _
  have HWN := Aside0.mk hWn
  have HWB := Aside0.mk hWb
  clear hWn hWb
  go_upto_region 3 with (fail)
  refine (pairs_c (some ⟨b + 1, 0, none⟩) 2 2 l0 W (row_runs W (b + 1) l0 (by decide) _ (fun k x hx j u hu => ?_) HWN.out (by decide)) (by decide)).mono ?_
  · match k, hx with
    | 0, hx =>
      simp at hx
      subst hx
      match j, hu with
      | 0, hu => exact hu
      | 1, hu => exact hu
      | 2, hu => exact hu
      | 3, hu => exact hu
      | 4, hu => exact hu
    | 1, hx =>
      simp at hx
      subst hx
      match j, hu with
      | 0, hu => exact hu
      | 1, hu => exact hu
      | 2, hu => exact hu
      | 3, hu => exact hu
      | 4, hu => exact hu
  rintro _ w9 ⟨A, n, c, R, rfl, hp, hs, hr, hb9⟩
  rw [pairs0] at hp
  have hR : R = [⟨0, 7, false⟩, ⟨1, 6, true⟩] := srt_uniq (hp.trans (List.Perm.swap _ _ _)) hs (by decide)
  subst hR
  obtain rfl : n = 2 := hr.1.symm
  obtain ⟨ad, rfl, _⟩ := hr.2.2 (by decide)
  obtain ⟨a0, a1, a2⟩ := pr_at (k := 0) hr rfl
  obtain ⟨c0, c1, c2⟩ := pr_at (k := 1) hr rfl
  have HB9 : Aside0 (Below w.heap.size w w9) := ⟨(HB1.out.trans (HBV.out.mono HB1.out.size)).trans ((HWB.out.trans (hb9.mono HWB.out.size)).mono (Nat.le_trans HB1.out.size HBV.out.size))⟩
  have hV9 : w9.heap[b]? = some (.cells #[.int .i64 2, .int .i64 2, .int .u8 42, .bool true, .bool false] 23 (0, 0)) := ((HWB.out.trans (hb9.mono HWB.out.size)).block b (by omega)).trans HV.out
  have r0 : w9.cell? ⟨b, 0, none⟩ = some (.int .i64 2) := cell_of_row _ _ _ _ _ _ hV9
  have r1 : w9.cell? ⟨b, 1, none⟩ = some (.int .i64 2) := cell_of_row _ _ _ _ _ _ hV9
  have r2 : w9.cell? ⟨b, 2, none⟩ = some (.int .u8 42) := cell_of_row _ _ _ _ _ _ hV9
  have r3 : w9.cell? ⟨b, 3, none⟩ = some (.bool true) := cell_of_row _ _ _ _ _ _ hV9
  have r4 : w9.cell? ⟨b, 4, none⟩ = some (.bool false) := cell_of_row _ _ _ _ _ _ hV9
  simp only [Nat.zero_mul, Nat.one_mul] at a0 a1 a2 c0 c1 c2
  have ead : ad.add 0 = ad := by cases ad; simp [Addr.add]
  rw [ead] at a0 a1 a2
  clear ead
  have k0 : w9.cell? ⟨ad.block, ad.off + 3, none⟩ = some (.int .i64 1) := c0
  have k1 : w9.cell? ⟨ad.block, ad.off + 3 + 1, none⟩ = some (.int .i64 6) := c1
  have k2 : w9.cell? ⟨ad.block, ad.off + 3 + 2, none⟩ = some (.bool true) := c2
  clear c0 c1 c2
  clear hV9 hb9 hr hs hp hW
  go_wp2_with (fail)
  go_ret
  exact ⟨rfl, HB9.out⟩
end Go.Proofs.Ytjfpkldknchnkaa.Me
