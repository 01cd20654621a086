/- (*reader).leaf at a leaf that is a token: what it leaves in memory. -/
import Derived.Test.YtdknppomjcpihaaLeaf
import Derived.RegionTactic
import Derived.BigRegion
import Derived.BigQuiet
namespace Go.Proofs.Ytdknppomjcpihaa.PPy
open Go.RowKit Go.Proofs.YtdknppomjcpihaaW.PrintWords Go.Proofs.YtdknppomjcpihaaW.PrintLast Go.Proofs.YtdknppomjcpihaaW.PrintMore
attribute [local go_sem ↓] Go.wp_at_zero Go.wp_at_succ

set_option maxRecDepth 100000 in
set_option maxHeartbeats 800000 in
theorem leaf_tokA (B b : Nat) (w : World) (r : Rd) (k e : Int) (h : RdAt B w b r) (hl : r.ev.length ≤ 1000000) (hk : ¬ (k = 18 ∨ k = 19)) (hk7 : ¬ k = 17) :
    Calls Try.prog 37 #[.pointer (some ⟨b, 0, none⟩), .int .u8 k, .int .i64 e] w fun en w' => en = .returned (.tuple #[]) ∧ RdAt B w' b (r.leaf k e) ∧ Below B w w' := by
  have k1 : (k != 18) = true := bne_iff_ne.mpr (fun e => hk (.inl e))
  have k2 : (k != 19) = true := bne_iff_ne.mpr (fun e => hk (.inr e))
  have k4 : (k == 17) = false := beq_eq_false_iff_ne.mpr hk7
  have hd1 : decide (k = 17) = false := decide_eq_false hk7
  rw [leaf_tok_eq _ _ hk, hd1, Bool.false_and]
  clear hk hk7 hd1
  have hB := h.1
  have hlt := h.lt
  obtain ⟨A, c, hr, hh, c0, c1, c2, c3, c4, c5, c6, c7, hf⟩ := h.open
  have hne : some b ≠ (Value.slice A r.ev.length c).ownBlock := Kd.R_ne hr hh (by decide)
  have HR := Aside0.mk hr
  have HH := Aside0.mk hh
  have HN := Aside0.mk hne
  clear hr hh hne
  have hu33 := Try.underlying33
  have hu23 := Try.underlying23
  go_enter Try.func37, Try.ntmps37
  go_wp2_with (fail)
  go_region_law ((refine Kd.R_append_step k33 B (by rfl) (.tmp 11) (.tmp 19) 23 33 (.agg #[(.int .u8 0), (.int .u8 0), (.int .i64 0), (.int .i64 0)]) 24 (by rfl) hu23 info33 (by rfl) (by decide) (by decide) (.slice A r.ev.length c) r.ev ⟨3, k, r.pos, e⟩ [.int .u8 3, .int .u8 k, .int .i64 r.pos, .int .i64 e] (fun _ => True) (fun _ => False) (by rfl) (by rfl) (k33_mkM _ _ _ _) (fun _ h => h.elim) (fun _ _ => trivial) (Kd.R_drew HR.out) (below_drew (Below.refl B w)) (show B ≤ w.heap.size by omega) (by omega) ?_; intro v1 w1 hr1 hb1 hg1 _; obtain ⟨A1, d1, rfl⟩ := Kd.R_slice hr1; have hh1 := (hg1.block b hlt HN.out).trans HH.out; have g1 : w1.cell? ⟨b, 1, none⟩ = some (.int .i64 r.pos) := cell_of_row w1 b 1 _ _ _ hh1; have g2 : w1.cell? ⟨b, 2, none⟩ = some (.slice A r.ev.length c) := cell_of_row w1 b 2 _ _ _ hh1; have g0 : w1.cell? ⟨b, 0, none⟩ = some (.string r.s) := cell_of_row w1 b 0 _ _ _ hh1; have g4 : w1.cell? ⟨b, 4, none⟩ = some (.int .i64 r.depth) := cell_of_row w1 b 4 _ _ _ hh1; have g5 : w1.cell? ⟨b, 6, none⟩ = some (.bool r.any) := cell_of_row w1 b 6 _ _ _ hh1; have g6 : w1.cell? ⟨b, 7, none⟩ = some (.bool r.colon) := cell_of_row w1 b 7 _ _ _ hh1; have g3 : ∀ j, w1.frozen? ⟨b, j, none⟩ = false := fun j => frozen_of_row w1 b j _ _ hh1))
  all_goals
    rw [List.length_append, List.length_singleton] at hr1
    have HR1 := Aside0.mk hr1
    have HH1 := Aside0.mk hh1
    clear hr1 hh1 HR HH
    go_wp2_with (fail)
    go_big_region
    go_wp2_with (fail)
    go_end0
    have hq := R_put50 HH1.out HR1.out 2 (.slice A1 (r.ev.length + 1) d1)
    have hq2 := R_put50 hq.1 hq.2 6 (.bool true)
    have hq3 := R_put50 (w := (World.drew _)) hq2.1 (Kd.R_drew hq2.2) 7 (.bool (false))
    have hq4 := R_put50 hq3.1 hq3.2 1 (.int .i64 e)
    refine ⟨rfl, ⟨hB, _, hq4.1, hq4.2⟩, ?_⟩
    exact ((below_drew (((hb1.setCell (p := ⟨b, 2, none⟩) hB _).setCell (p := ⟨b, 6, none⟩) hB _))).setCell (p := ⟨b, 7, none⟩) hB _).setCell (p := ⟨b, 1, none⟩) hB _

set_option maxRecDepth 100000 in
set_option maxHeartbeats 800000 in
theorem leaf_tokB (B b : Nat) (w : World) (r : Rd) (e : Int) (h : RdAt B w b r) (hl : r.ev.length ≤ 1000000) (h0 : 0 ≤ r.pos) (h1 : r.pos ≤ e) (h2 : e ≤ (r.s.size : Int)) (hcb0 : isColon r.s r.pos e = false) :
    Calls Try.prog 37 #[.pointer (some ⟨b, 0, none⟩), .int .u8 17, .int .i64 e] w fun en w' => en = .returned (.tuple #[]) ∧ RdAt B w' b (r.leaf 17 e) ∧ Below B w w' := by
  have hcb : ((r.s.extract r.pos.toNat e.toNat).toList == ([58] : List UInt8)) = false := hcb0
  rw [leaf_tok_eq _ _ (by decide), hcb0, Bool.false_and, Bool.and_false]
  clear hcb0
  have hB := h.1
  have hlt := h.lt
  obtain ⟨A, c, hr, hh, c0, c1, c2, c3, c4, c5, c6, c7, hf⟩ := h.open
  have hne : some b ≠ (Value.slice A r.ev.length c).ownBlock := Kd.R_ne hr hh (by decide)
  have HR := Aside0.mk hr
  have HH := Aside0.mk hh
  have HN := Aside0.mk hne
  clear hr hh hne
  have hu33 := Try.underlying33
  have hu23 := Try.underlying23
  go_enter Try.func37, Try.ntmps37
  go_wp2_with (fail)
  go_region_law ((refine Kd.R_append_step k33 B (by rfl) (.tmp 11) (.tmp 19) 23 33 (.agg #[(.int .u8 0), (.int .u8 0), (.int .i64 0), (.int .i64 0)]) 24 (by rfl) hu23 info33 (by rfl) (by decide) (by decide) (.slice A r.ev.length c) r.ev ⟨3, 17, r.pos, e⟩ [.int .u8 3, .int .u8 17, .int .i64 r.pos, .int .i64 e] (fun _ => True) (fun _ => False) (by rfl) (by rfl) (k33_mkM _ _ _ _) (fun _ h => h.elim) (fun _ _ => trivial) (Kd.R_drew HR.out) (below_drew (Below.refl B w)) (show B ≤ w.heap.size by omega) (by omega) ?_; intro v1 w1 hr1 hb1 hg1 _; obtain ⟨A1, d1, rfl⟩ := Kd.R_slice hr1; have hh1 := (hg1.block b hlt HN.out).trans HH.out; have g1 : w1.cell? ⟨b, 1, none⟩ = some (.int .i64 r.pos) := cell_of_row w1 b 1 _ _ _ hh1; have g2 : w1.cell? ⟨b, 2, none⟩ = some (.slice A r.ev.length c) := cell_of_row w1 b 2 _ _ _ hh1; have g0 : w1.cell? ⟨b, 0, none⟩ = some (.string r.s) := cell_of_row w1 b 0 _ _ _ hh1; have g4 : w1.cell? ⟨b, 4, none⟩ = some (.int .i64 r.depth) := cell_of_row w1 b 4 _ _ _ hh1; have g5 : w1.cell? ⟨b, 6, none⟩ = some (.bool r.any) := cell_of_row w1 b 6 _ _ _ hh1; have g6 : w1.cell? ⟨b, 7, none⟩ = some (.bool r.colon) := cell_of_row w1 b 7 _ _ _ hh1; have g3 : ∀ j, w1.frozen? ⟨b, j, none⟩ = false := fun j => frozen_of_row w1 b j _ _ hh1))
  all_goals
    rw [List.length_append, List.length_singleton] at hr1
    have HR1 := Aside0.mk hr1
    have HH1 := Aside0.mk hh1
    clear hr1 hh1 HR HH
    go_wp2_with (fail)
    go_big_region
    go_wp2_with (fail)
    go_end0
    have hq := R_put50 HH1.out HR1.out 2 (.slice A1 (r.ev.length + 1) d1)
    have hq2 := R_put50 hq.1 hq.2 6 (.bool true)
    have hq3 := R_put50 (w := (World.drew _)) hq2.1 (Kd.R_drew hq2.2) 7 (.bool (false))
    have hq4 := R_put50 hq3.1 hq3.2 1 (.int .i64 e)
    refine ⟨rfl, ⟨hB, _, hq4.1, hq4.2⟩, ?_⟩
    exact ((below_drew (((hb1.setCell (p := ⟨b, 2, none⟩) hB _).setCell (p := ⟨b, 6, none⟩) hB _))).setCell (p := ⟨b, 7, none⟩) hB _).setCell (p := ⟨b, 1, none⟩) hB _

set_option maxRecDepth 100000 in
set_option maxHeartbeats 800000 in
theorem leaf_tokC (B b : Nat) (w : World) (r : Rd) (e : Int) (h : RdAt B w b r) (hl : r.ev.length ≤ 1000000) (h0 : 0 ≤ r.pos) (h1 : r.pos ≤ e) (h2 : e ≤ (r.s.size : Int)) (hcb0 : isColon r.s r.pos e = true) :
    Calls Try.prog 37 #[.pointer (some ⟨b, 0, none⟩), .int .u8 17, .int .i64 e] w fun en w' => en = .returned (.tuple #[]) ∧ RdAt B w' b (r.leaf 17 e) ∧ Below B w w' := by
  have hcb : ((r.s.extract r.pos.toNat e.toNat).toList == ([58] : List UInt8)) = true := hcb0
  have hde : decide (r.depth = 0) = (r.depth == 0) := by rw [Bool.eq_iff_iff]; simp
  rw [leaf_tok_eq _ _ (by decide), hcb0, Bool.true_and, hde]
  clear hcb0 hde
  have hB := h.1
  have hlt := h.lt
  obtain ⟨A, c, hr, hh, c0, c1, c2, c3, c4, c5, c6, c7, hf⟩ := h.open
  have hne : some b ≠ (Value.slice A r.ev.length c).ownBlock := Kd.R_ne hr hh (by decide)
  have HR := Aside0.mk hr
  have HH := Aside0.mk hh
  have HN := Aside0.mk hne
  clear hr hh hne
  have hu33 := Try.underlying33
  have hu23 := Try.underlying23
  go_enter Try.func37, Try.ntmps37
  go_wp2_with (fail)
  go_region_law ((refine Kd.R_append_step k33 B (by rfl) (.tmp 11) (.tmp 19) 23 33 (.agg #[(.int .u8 0), (.int .u8 0), (.int .i64 0), (.int .i64 0)]) 24 (by rfl) hu23 info33 (by rfl) (by decide) (by decide) (.slice A r.ev.length c) r.ev ⟨3, 17, r.pos, e⟩ [.int .u8 3, .int .u8 17, .int .i64 r.pos, .int .i64 e] (fun _ => True) (fun _ => False) (by rfl) (by rfl) (k33_mkM _ _ _ _) (fun _ h => h.elim) (fun _ _ => trivial) (Kd.R_drew HR.out) (below_drew (Below.refl B w)) (show B ≤ w.heap.size by omega) (by omega) ?_; intro v1 w1 hr1 hb1 hg1 _; obtain ⟨A1, d1, rfl⟩ := Kd.R_slice hr1; have hh1 := (hg1.block b hlt HN.out).trans HH.out; have g1 : w1.cell? ⟨b, 1, none⟩ = some (.int .i64 r.pos) := cell_of_row w1 b 1 _ _ _ hh1; have g2 : w1.cell? ⟨b, 2, none⟩ = some (.slice A r.ev.length c) := cell_of_row w1 b 2 _ _ _ hh1; have g0 : w1.cell? ⟨b, 0, none⟩ = some (.string r.s) := cell_of_row w1 b 0 _ _ _ hh1; have g4 : w1.cell? ⟨b, 4, none⟩ = some (.int .i64 r.depth) := cell_of_row w1 b 4 _ _ _ hh1; have g5 : w1.cell? ⟨b, 6, none⟩ = some (.bool r.any) := cell_of_row w1 b 6 _ _ _ hh1; have g6 : w1.cell? ⟨b, 7, none⟩ = some (.bool r.colon) := cell_of_row w1 b 7 _ _ _ hh1; have g3 : ∀ j, w1.frozen? ⟨b, j, none⟩ = false := fun j => frozen_of_row w1 b j _ _ hh1))
  all_goals
    rw [List.length_append, List.length_singleton] at hr1
    have HR1 := Aside0.mk hr1
    have HH1 := Aside0.mk hh1
    clear hr1 hh1 HR HH
    go_wp2_with (fail)
    go_big_region
    go_wp2_with (fail)
    go_end0
    have hq := R_put50 HH1.out HR1.out 2 (.slice A1 (r.ev.length + 1) d1)
    have hq2 := R_put50 hq.1 hq.2 6 (.bool true)
    have hq3 := R_put50 (w := (World.drew _)) hq2.1 (Kd.R_drew hq2.2) 7 (.bool (r.depth == 0))
    have hq4 := R_put50 hq3.1 hq3.2 1 (.int .i64 e)
    refine ⟨rfl, ⟨hB, _, hq4.1, hq4.2⟩, ?_⟩
    exact ((below_drew (((hb1.setCell (p := ⟨b, 2, none⟩) hB _).setCell (p := ⟨b, 6, none⟩) hB _))).setCell (p := ⟨b, 7, none⟩) hB _).setCell (p := ⟨b, 1, none⟩) hB _

end Go.Proofs.Ytdknppomjcpihaa.PPy
