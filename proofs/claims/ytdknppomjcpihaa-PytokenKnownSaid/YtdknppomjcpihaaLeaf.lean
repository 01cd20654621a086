/- (*reader).leaf: what it leaves in memory: the reader with one leaf more. -/
import Derived.Test.YtdknppomjcpihaaRd
import Derived.Deep.RegionLaw
namespace Go.Proofs.Ytdknppomjcpihaa.PPy
open Go.RowKit Go.Proofs.YtdknppomjcpihaaW.PrintWords Go.Proofs.YtdknppomjcpihaaW.PrintLast Go.Proofs.YtdknppomjcpihaaW.PrintMore
attribute [local go_sem ↓] Go.wp_at_zero Go.wp_at_succ

theorem leaf_skip_eq (r : Rd) {k : Int} (e : Int) (h : k = 18 ∨ k = 19) : r.leaf k e = { r with ev := r.ev ++ [⟨3, k, r.pos, e⟩], pos := e } := by unfold Rd.leaf; rw [if_pos h]
theorem leaf_tok_eq (r : Rd) {k : Int} (e : Int) (h : ¬ (k = 18 ∨ k = 19)) : r.leaf k e = { r with ev := r.ev ++ [⟨3, k, r.pos, e⟩], any := true, colon := decide (k = 17) && (isColon r.s r.pos e && decide (r.depth = 0)), pos := e } := by unfold Rd.leaf; rw [if_neg h]

set_option maxRecDepth 100000 in
set_option maxHeartbeats 2000000 in
theorem leaf_skip (B b : Nat) (w : World) (r : Rd) (k e : Int) (h : RdAt B w b r) (hl : r.ev.length ≤ 1000000) (hk : k = 18 ∨ k = 19) :
    Calls Try.prog 37 #[.pointer (some ⟨b, 0, none⟩), .int .u8 k, .int .i64 e] w fun en w' => en = .returned (.tuple #[]) ∧ RdAt B w' b (r.leaf k e) ∧ Below B w w' := by
  have hB := h.1
  have hlt := h.lt
  obtain ⟨A, c, hr, hh, c0, c1, c2, c3, c4, c5, c6, c7, hf⟩ := h.open
  have hne : some b ≠ (Value.slice A r.ev.length c).ownBlock := Kd.R_ne hr hh (by decide)
  have HR := Aside0.mk hr
  have HH := Aside0.mk hh
  have HN := Aside0.mk hne
  clear hr hh hne
  have hu33 := Try.underlying33
  have hu23 := Try.underlying23
  go_enter Try.func37, Try.ntmps37
  go_wp2_with (fail)
  go_region_law ((refine Kd.R_append_step k33 B (by rfl) (.tmp 11) (.tmp 19) 23 33 (.agg #[(.int .u8 0), (.int .u8 0), (.int .i64 0), (.int .i64 0)]) 24 (by rfl) hu23 info33 (by rfl) (by decide) (by decide) (.slice A r.ev.length c) r.ev ⟨3, k, r.pos, e⟩ [.int .u8 3, .int .u8 k, .int .i64 r.pos, .int .i64 e] (fun _ => True) (fun _ => False) (by rfl) (by rfl) (k33_mkM _ _ _ _) (fun _ h => h.elim) (fun _ _ => trivial) (Kd.R_drew HR.out) (below_drew (Below.refl B w)) (show B ≤ w.heap.size by omega) (by omega) ?_; intro v1 w1 hr1 hb1 hg1 _; obtain ⟨A1, d1, rfl⟩ := Kd.R_slice hr1; have hh1 := (hg1.block b hlt HN.out).trans HH.out; have g1 : w1.cell? ⟨b, 1, none⟩ = some (.int .i64 r.pos) := cell_of_row w1 b 1 _ _ _ hh1; have g2 : w1.cell? ⟨b, 2, none⟩ = some (.slice A r.ev.length c) := cell_of_row w1 b 2 _ _ _ hh1; have g3 : ∀ j, w1.frozen? ⟨b, j, none⟩ = false := fun j => frozen_of_row w1 b j _ _ hh1))
  all_goals
    rw [List.length_append, List.length_singleton] at hr1
    have HR1 := Aside0.mk hr1
    have HH1 := Aside0.mk hh1
    clear hr1 hh1 HR HH
    rcases hk with rfl | rfl
    all_goals
      go_wp2_with (fail)
      go_end0
      have hq := R_put50 HH1.out HR1.out 2 (.slice A1 (r.ev.length + 1) d1)
      have hq2 := R_put50 hq.1 hq.2 1 (.int .i64 e)
      rw [leaf_skip_eq _ _ (by decide)]
      refine ⟨rfl, ⟨hB, _, hq2.1, hq2.2⟩, (hb1.setCell (p := ⟨b, 2, none⟩) hB _).setCell (p := ⟨b, 1, none⟩) hB _⟩

end Go.Proofs.Ytdknppomjcpihaa.PPy
