/- A pair is put in its place. -/
import Derived.Test.YtjfpkldknchnkaaRf
import Derived.Test.YtjfpkldknchnkaaRd
namespace Go.Proofs.Ytjfpkldknchnkaa.Me
open Go.RowKit Go.Proofs.YtjfpkldknchnkaaW.PrintWords Go.Proofs.YtjfpkldknchnkaaW.PrintLast Go.Proofs.YtjfpkldknchnkaaW.PrintMore
attribute [local go_sem] max2_int min2_int max_two min_two max_three min_three max_four min_four
set_option linter.unusedVariables false
set_option linter.unusedSimpArgs false
theorem info40 : (Try.prog.info? 40).map (fun i => (i.zero, i.size, i.bytes)) = some (some (.agg #[.int .i64 0, .int .i64 0, .bool false]), 3, 24) := by kernel_rfl
theorem info40s : (Try.prog.info? 40).map (·.size) = some 3 := by kernel_rfl
theorem rows_take {α : Type} {R : α → List Value → Prop} {z : Nat} {w : World} {A : Option Addr} {n : Nat} {l : List α} (h : ReadsRow R z w A n l) {k : Nat} (hk : k ≤ n) : ReadsRow R z w A k (l.take k) :=
  ⟨by rw [List.length_take, h.1]; omega, Nat.le_trans hk h.2.1, fun hp => by
    obtain ⟨ad, hA, hr⟩ := h.2.2 (by omega)
    refine ⟨ad, hA, fun j a ha => ?_⟩
    rw [List.getElem?_take] at ha
    split at ha
    · exact hr j a ha
    · cases ha⟩
/-- What put tells. -/
def PutP (w : World) (l : List Pr) (p : Pr) (e : Ending) (w' : World) : Prop :=
  ∃ A n c R, e = .returned (.slice A n c) ∧ kV.R 40 w' 0 (fun j => w.heap.size ≤ j) (.slice A n c) R ∧ R.length = n ∧ R.Perm (l ++ [p]) ∧ (Srt l → Srt R) ∧ Below w.heap.size w w'
theorem ins_perm (l : List Pr) (p : Pr) (k : Nat) : (l.take k ++ [p] ++ l.drop k).Perm (l ++ [p]) := by
  have h1 : (l.take k ++ [p] ++ l.drop k).Perm (l.take k ++ (l.drop k ++ [p])) := by
    rw [List.append_assoc]
    exact List.Perm.append_left _ List.perm_append_comm
  rw [← List.append_assoc, List.take_append_drop] at h1
  exact h1
theorem ins_srt {l : List Pr} {p : Pr} {k : Nat} (hs : Srt l) (h1 : ∀ j x, j < k → l[j]? = some x → x.a < p.a) (h2 : ∀ x, l[k]? = some x → p.a ≤ x.a) : Srt (l.take k ++ [p] ++ l.drop k) := by
  unfold Srt at *
  rw [List.append_assoc, List.pairwise_append]
  have hd : ∀ y, y ∈ l.drop k → p.a ≤ y.a := fun y hy => by
    obtain ⟨j, hj⟩ := List.getElem?_of_mem hy
    rw [List.getElem?_drop] at hj
    obtain ⟨j1, j2⟩ := List.getElem?_eq_some_iff.1 hj
    have hk : k < l.length := by omega
    have h3 := h2 _ (List.getElem?_eq_getElem hk)
    by_cases e : j = 0
    · subst e
      simp only [Nat.add_zero] at j2
      rw [← j2]; exact h3
    · have := List.pairwise_iff_getElem.1 hs k (k + j) hk j1 (by omega)
      rw [j2] at this
      omega
  have ht : ∀ y, y ∈ l.take k → y.a < p.a := fun y hy => by
    obtain ⟨j, hj⟩ := List.getElem?_of_mem hy
    rw [List.getElem?_take] at hj
    split at hj
    · rename_i hjk
      exact h1 j y hjk hj
    · cases hj
  refine ⟨hs.sublist (List.take_sublist _ _), ?_, fun y hy z hz => ?_⟩
  · rw [List.singleton_append, List.pairwise_cons]
    exact ⟨hd, hs.sublist (List.drop_sublist _ _)⟩
  · rw [List.singleton_append] at hz
    have := ht y hy
    rcases List.mem_cons.1 hz with e | e
    · rw [e]; omega
    · have := hd z e; omega
set_option maxRecDepth 100000 in
set_option maxHeartbeats 8000000 in
theorem put_c (A : Option Addr) (n c : Nat) (l : List Pr) (p : Pr) (w : World) (ok : Nat → Prop) (hl : kV.R 40 w 0 ok (.slice A n c) l) (hn : n ≤ 10000000) : Calls Try.prog 32 #[.slice A n c, .agg (prc p)] w fun e w' => PutP w l p e w' := by
  have hRD : ReadsRow RPr 3 w A n l := by
    have h := (Kd.R_reads' hl).2.2
    have h2 := (Kd.R_reads' hl).1
    rw [← h2] at h
    exact h
  have hnc := (Kd.R_reads' hl).2.1
  have HRD := Aside0.mk hRD
  have HLN := Aside0.mk hRD.1
  have HNC := Aside0.mk hnc
  obtain ⟨i40, hi40, hz40⟩ := Option.map_eq_some_iff.1 info40s
  have I40 := Aside0.mk hi40
  have Z40 := Aside0.mk hz40
  clear hl hRD hnc hi40 hz40
  obtain ⟨d, hd⟩ : ∃ q, w.heap.size = q := ⟨_, rfl⟩
  obtain ⟨w1, hw1⟩ : ∃ q, w.alloc (.cells #[.int .i64 p.a, .int .i64 p.b, .bool p.s] 40) = q := ⟨_, rfl⟩
  have n1 : w1.heap[d]? = some (.cells (prc p) 40 (0, 0)) := by rw [← hw1, ← hd]; exact heap_alloc_new _ _
  have l1 : Below w.heap.size w w1 := by rw [← hw1]; exact below_alloc (Below.refl _ w) _
  have s1 : w1.heap.size = d + 1 := by rw [← hw1]; simp [hd]
  have N1 := Aside0.mk n1
  have L1 := Aside0.mk l1
  have S1 := Aside0.mk s1
  have HDD := Aside0.mk hd
  clear n1 l1
  go_enter Try.func32, Try.ntmps32
  go_upto_block 0 with (fail)
  clear hw1 hd s1
  go_cut [5] from 7 (fun v5 wc => ∃ k : Nat, v5 = .int .i64 (k : Int) ∧ Aside0 (k ≤ n) ∧ Aside0 (∀ j x, j < k → l[j]? = some x → x.a < p.a) ∧ Aside0 (∀ x, l[k]? = some x → p.a ≤ x.a) ∧ Aside0 (Below w1.heap.size w1 wc))
  case first =>
    go_wp2_with (fail)
    go_loopg [5] n (fun gk v5 wr => ∃ k : Nat, v5 = .int .i64 (k : Int) ∧ Aside0 (k + gk = n) ∧ Aside0 (∀ j x, j < k → l[j]? = some x → x.a < p.a) ∧ Aside0 (Below w1.heap.size w1 wr))
    case atStart => exact ⟨0, rfl, ⟨by omega⟩, ⟨fun j x h => by omega⟩, ⟨Below.refl _ w1⟩⟩
    case round =>
      obtain ⟨k, rfl, HK, HL, HB⟩ := hrel
      go_upto_region 2 with (fail)
      have b0 : wr.cell? ⟨d, 0, none⟩ = some (.int .i64 p.a) := pw_cell_below HB.out (cell_of_row _ _ _ _ _ _ N1.out)
      by_cases hkn : k < n
      case neg =>
        have hkk : ¬ ((k : Int) < (n : Int)) := by omega
        have HKN : Aside0 (k = n) := ⟨by have := HK.out; omega⟩
        go_quiet (fail)
        go_wp2_with (fail)
        go_meet
        case rel => exact ⟨k, rfl, ⟨by have := HKN.out; omega⟩, HL, ⟨fun x hx => by
          have h1 := (List.getElem?_eq_some_iff.1 hx).1
          have h2 := HLN.out
          have h3 := HKN.out
          omega⟩, ⟨pw_below_drewN HB.out nq⟩⟩
      case pos =>
        obtain ⟨gn, rfl⟩ : ∃ gn, gk = gn + 1 := ⟨gk - 1, by have := HK.out; omega⟩
        obtain ⟨x, hx⟩ : ∃ x, l[k]? = some x := ⟨_, List.getElem?_eq_getElem (by rw [HLN.out]; exact hkn)⟩
        obtain ⟨ad, hA, _⟩ := HRD.out.2.2 (by omega)
        subst hA
        obtain ⟨x0, _, _⟩ := pr_at (rows_below HRD.out (L1.out.trans (HB.out.mono L1.out.size))) hx
        have k0 : (0 : Int) ≤ (k : Int) := by omega
        have k1 : (k : Int) < (n : Int) := by omega
        have hwk : IntKind.i64.wrap ((k : Int) + 1) = (k : Int) + 1 := IntWalk.i64_in _ (by omega)
        have HX := Aside0.mk hx
        have HKN := Aside0.mk hkn
        clear hx hkn
        by_cases hlt : x.a < p.a
        · have HLT := Aside0.mk hlt
          go_quiet (fail)
          go_wp2_with (fail)
          go_roundg gn
          case measure => exact Nat.lt_succ_self _
          case rel => exact ⟨k + 1, by simp, ⟨by have := HK.out; omega⟩, ⟨fun j y hj hy => by
            by_cases e : j = k
            · subst e
              rw [HX.out] at hy
              injection hy with hy
              rw [← hy]
              exact HLT.out
            · exact HL.out j y (by omega) hy⟩, ⟨pw_below_drewN HB.out nq⟩⟩
        · have HLT := Aside0.mk hlt
          go_quiet (fail)
          go_wp2_with (fail)
          go_meet
          case rel => exact ⟨k, rfl, ⟨by have := HKN.out; omega⟩, HL, ⟨fun y hy => by
            rw [HX.out] at hy
            injection hy with hy
            rw [← hy]
            have := HLT.out
            omega⟩, ⟨pw_below_drewN HB.out nq⟩⟩
  case rest =>
    obtain ⟨k, rfl, HK, HL, HG, HB⟩ := hcut
    have k0 : (0 : Int) ≤ (k : Int) := by omega
    have k1 : (k : Int) ≤ (n : Int) := by have := HK.out; omega
    have hkn := HK.out
    have hnc := HNC.out
    have hct := cut_to (P := Try.prog) 36 40 .i64 Try.underlying36 I40.out A n c (k : Int) (by omega) (by omega) hnc
    have hcf := cut_from (P := Try.prog) 36 40 .i64 Try.underlying36 I40.out 3 Z40.out A n c (k : Int) (by omega) (by omega)
    rw [Int.toNat_natCast] at hct hcf
    have hBW : Below w.heap.size w wc := L1.out.trans (HB.out.mono L1.out.size)
    have HBW := Aside0.mk hBW
    have HTK := Aside0.mk (rows_take (rows_below HRD.out hBW) (k := k) HK.out)
    have hltk : (l.take k).length = k := by rw [List.length_take, HLN.out]; omega
    have HLTK := Aside0.mk hltk
    have b0 : wc.cell? ⟨d, 0, none⟩ = some (.int .i64 p.a) := pw_cell_below HB.out (cell_of_row _ _ _ _ _ _ N1.out)
    have HWS : Aside0 (d + 1 ≤ wc.heap.size) := ⟨by rw [← S1.out]; exact HB.out.size⟩
    have hdr := Kd.C_drop (k := kV) (m := k) (c := c) (xs := l) (A := A) (w := wc) (by have h := rows_below HRD.out hBW; rw [← HLN.out] at h; exact h) (by rw [HLN.out]; omega) (by rw [HLN.out]; exact hnc)
    rw [show k * kV.sz = k * 3 from rfl] at hdr
    obtain ⟨B', hB'⟩ : ∃ X, (if c = k then A else Option.map (fun a => a.add (k * 3)) A) = X := ⟨_, rfl⟩
    have hln2 : (l.drop k).length = n - k := by rw [List.length_drop, HLN.out]
    rw [hB', hln2] at hdr
    rw [hB'] at hcf
    have HDR : Aside0 (ReadsRow RPr 3 wc B' (n - k) (l.drop k)) := ⟨hdr⟩
    have HLN2 := Aside0.mk hln2
    have b1 : wc.cell? ⟨d, 1, none⟩ = some (.int .i64 p.b) := pw_cell_below HB.out (cell_of_row _ _ _ _ _ _ N1.out)
    have b2 : wc.cell? ⟨d, 2, none⟩ = some (.bool p.s) := pw_cell_below HB.out (cell_of_row _ _ _ _ _ _ N1.out)
    have hk6 : k ≤ 10000000 := by omega
    clear hkn hnc hBW hltk hdr hln2 hB'
    go_upto_region 6 with (at_builtin; refine Kd.R_append_rows kV (Rr := RPr) (w0 := wc) 0 rfl (.tmp 23) (.tmp 26) 36 40 (.agg #[.int .i64 0, .int .i64 0, .bool false]) 24 rfl Try.underlying36 info40 rfl (by decide) (by decide) (.slice none 0 0) [] (l.take k) A k c (fun j => wc.heap.size ≤ j) (fun _ => False) rfl rfl (Kd.R_nil _ _ _ _ _) HTK.out (fun _ _ h => h) (fun _ h => h.elim) (fun _ h => h) (Below.refl _ _) (Nat.zero_le _) (by simp; omega) ?_; intro v2 w2 hR2 _ hg2 _; rw [List.nil_append] at hR2; obtain ⟨A2, c2, hv2, hc2, hC2⟩ := Kd.R_reads hR2; rw [HLTK.out] at hv2 hC2; subst hv2; have hb2 : Below wc.heap.size wc w2 := ⟨hg2.os, hg2.tape, hg2.output, hg2.size, fun j hj => hg2.block j hj (by simp [Value.ownBlock])⟩; have HB2 := Aside0.mk hb2; have HR2 := Aside0.mk hR2; clear hR2 hg2 hb2 hC2 hc2)
    have d0 : w2.cell? ⟨d, 0, none⟩ = some (.int .i64 p.a) := pw_cell_below HB2.out b0
    have d1 : w2.cell? ⟨d, 1, none⟩ = some (.int .i64 p.b) := pw_cell_below HB2.out b1
    have d2 : w2.cell? ⟨d, 2, none⟩ = some (.bool p.s) := pw_cell_below HB2.out b2
    clear b0 b1 b2
    go_upto_region 7 with (at_builtin; refine Kd.R_append kV (w0 := w2) 0 rfl (.tmp 28) (.tmp 30) 36 40 (.agg #[.int .i64 0, .int .i64 0, .bool false]) 24 rfl Try.underlying36 info40 rfl (by decide) (by decide) (.slice A2 k c2) (l.take k) p [.int .i64 p.a, .int .i64 p.b, .bool p.s] (fun j => wc.heap.size ≤ j) (fun _ => False) rfl rfl rfl (fun _ h => h.elim) (fun j hj => Nat.le_trans HB2.out.size hj) HR2.out (Below.refl _ _) (Nat.zero_le _) (by rw [HLTK.out]; omega) ?_; intro v3 w3 hR3 _ hg3 hat3; obtain ⟨A3, c3, hv3, hc3, _⟩ := Kd.R_reads hR3; rw [show (l.take k ++ [p]).length = k + 1 from (by rw [List.length_append, HLTK.out]; rfl)] at hv3; subst hv3; have HR3 := Aside0.mk hR3; have HB3 : Aside0 (Below wc.heap.size wc w3) := ⟨HB2.out.grown hg3 HB2.out.size (fun j e => HR2.out.1 j e)⟩; clear hR3 hg3 hat3 hc3)
    clear d0 d1 d2
    go_wp2_with (at_builtin; refine Kd.R_append_rows kV (Rr := RPr) (w0 := w3) 0 rfl (.tmp 32) (.tmp 35) 36 40 (.agg #[.int .i64 0, .int .i64 0, .bool false]) 24 rfl Try.underlying36 info40 rfl (by decide) (by decide) (.slice A3 (k + 1) c3) (l.take k ++ [p]) (l.drop k) B' (n - k) (c - k) (fun j => wc.heap.size ≤ j) (fun _ => False) rfl rfl HR3.out (rows_below HDR.out HB3.out) (fun _ _ h => h) (fun _ h => h.elim) (fun j hj => Nat.le_trans HB3.out.size hj) (Below.refl _ _) (Nat.zero_le _) (by rw [List.length_append, HLTK.out]; simp; omega) ?_; intro v4 w4 hR4 _ hg4 hat4; obtain ⟨A4, c4, hv4, hc4, _⟩ := Kd.R_reads hR4; rw [show (l.take k ++ [p] ++ l.drop k).length = n + 1 from (by have := HK.out; rw [List.length_append, List.length_append, HLTK.out, HLN2.out]; simp; omega)] at hv4; subst hv4; have HR4 := Aside0.mk hR4; have HB4 : Aside0 (Below wc.heap.size wc w4) := ⟨HB3.out.grown hg4 HB3.out.size (fun j e => HR3.out.1 j e)⟩; clear hR4 hg4 hat4 hc4)
    go_ret
    exact ⟨A4, n + 1, c4, _, rfl, kd_mono HR4.out (fun j hj => Nat.le_trans HBW.out.size (HR4.out.1 j hj)), by have := HK.out; rw [List.length_append, List.length_append, HLTK.out, HLN2.out]; simp; omega, ins_perm l p k, fun hs => ins_srt hs HL.out HG.out, HBW.out.trans (HB4.out.mono HBW.out.size)⟩
end Go.Proofs.Ytjfpkldknchnkaa.Me
