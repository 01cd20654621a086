-- written by inject.py, a program of the session's, over the translation's print
import Derived.Test.YtdknppomjcpihaaPPyx0
import Derived.Test.YtdknppomjcpihaaQa
import Derived.Test.YtdknppomjcpihaaScanC
namespace Go.Proofs.Ytdknppomjcpihaa.PPy
open Go.RowKit Go.Proofs.YtdknppomjcpihaaW.PrintWords Go.Proofs.YtdknppomjcpihaaW.PrintLast Go.Proofs.YtdknppomjcpihaaW.PrintMore
attribute [local go_sem] max2_int min2_int max_two min_two max_three min_three max_four min_four   -- for this text's walks alone
set_option linter.unusedVariables false
set_option linter.unusedSimpArgs false

/-! ### indenturelaw11_PytokenCovers: function 4 -/
mutual
def indenturelaw11_PytokenCovers.l0 : Nat → ByteArray → Int → Int → Int → List (S33) → Int → Int → Bool → Bool → Bool → Option (Bool)
  | 0, _, _, _, _, _, _, _, _, _, _ => none
  | k + 1, x0, x8, x9, x10, x143000, x143001, x143002, x143003, x143004, x143005 => if x10 ≤ (x143000.length : Int) then (if x10 < (x143000.length : Int) then (if 0 ≤ x10 then (if ((rd_T33 x143000 x10).f0) = 3 then (if ((rd_T33 x143000 x10).f2) < x9 then (some false) else (if ((rd_T33 x143000 x10).f3) ≤ ((rd_T33 x143000 x10).f2) then (some false) else (if ((rd_T33 x143000 x10).f3) > x8 then (some false) else (if ((rd_T33 x143000 x10).f1) = 2 then (indenturelaw11_PytokenCovers.j1 k x0 x8 x9 x10 ((rd_T33 x143000 x10).f2) ((rd_T33 x143000 x10).f3) x143000 x143001 x143002 x143003 x143004 x143005) else (if ((rd_T33 x143000 x10).f1) < 13 then (some false) else (if ((rd_T33 x143000 x10).f1) > 19 then (some false) else (indenturelaw11_PytokenCovers.j1 k x0 x8 x9 x10 ((rd_T33 x143000 x10).f2) ((rd_T33 x143000 x10).f3) x143000 x143001 x143002 x143003 x143004 x143005))))))) else (some false)) else (none)) else (indenturelaw11_PytokenCovers.j1 k x0 x8 x9 x10 x8 x8 x143000 x143001 x143002 x143003 x143004 x143005)) else (if x143001 ≤ 4 then (if x143002 ≥ 0 then (if x143002 ≤ 1048576 then (if x143005 = true then (if x143004 = true then (if x143002 = 0 then ((indenturelaw11_reads.f).bind fun t144 => (some t144)) else (some false)) else (some false)) else ((indenturelaw11_reads.f).bind fun t145 => (some t145))) else (some false)) else (some false)) else (some false))
def indenturelaw11_PytokenCovers.j1 : Nat → ByteArray → Int → Int → Int → Int → Int → List (S33) → Int → Int → Bool → Bool → Bool → Option (Bool)
  | 0, _, _, _, _, _, _, _, _, _, _, _, _ => none
  | k + 1, x0, x8, x9, x10, x11, x12, x143000, x143001, x143002, x143003, x143004, x143005 => indenturelaw11_PytokenCovers.l1 k x0 x8 x10 x11 x12 x9 x143000 x143001 x143002 x143003 x143004 x143005
def indenturelaw11_PytokenCovers.l1 : Nat → ByteArray → Int → Int → Int → Int → Int → List (S33) → Int → Int → Bool → Bool → Bool → Option (Bool)
  | 0, _, _, _, _, _, _, _, _, _, _, _, _ => none
  | k + 1, x0, x8, x10, x11, x12, x14, x143000, x143001, x143002, x143003, x143004, x143005 => if x14 < x11 then (if 0 ≤ x14 then (if x14 < (x0.size : Int) then ((indenturelaw11_blank.f (bt x0 x14)).bind fun t148 => (if t148 = true then (indenturelaw11_PytokenCovers.l1 k x0 x8 x10 x11 x12 (wrap64 (x14 + 1)) x143000 x143001 x143002 x143003 x143004 x143005) else (some false))) else (none)) else (none)) else (indenturelaw11_PytokenCovers.l0 k x0 x8 x12 (wrap64 (x10 + 1)) x143000 x143001 x143002 x143003 x143004 x143005)
end
def indenturelaw11_PytokenCovers.f (k : Nat) (a0 : ByteArray) (a1 : Int) (a2 : Int) : Option (Bool) := if (a0.size : Int) > 20000 then (some true) else ((pytoken_Scan.f a0 0 a1 a2).bind fun bt134 => ((indentureref11_End.f k a0).bind fun t143 => (indenturelaw11_PytokenCovers.l0 k a0 t143 0 0 bt134.1 bt134.2.1 bt134.2.2.1 bt134.2.2.2.1 bt134.2.2.2.2.1 bt134.2.2.2.2.2)))
theorem indenturelaw11_PytokenCovers.mono_l : ∀ k, (∀ y0 y1 y2 y3 y4 y5 y6 y7 y8 y9, LeO (indenturelaw11_PytokenCovers.l0 k y0 y1 y2 y3 y4 y5 y6 y7 y8 y9) (indenturelaw11_PytokenCovers.l0 (k + 1) y0 y1 y2 y3 y4 y5 y6 y7 y8 y9)) ∧ (∀ y0 y1 y2 y3 y4 y5 y6 y7 y8 y9 y10 y11, LeO (indenturelaw11_PytokenCovers.j1 k y0 y1 y2 y3 y4 y5 y6 y7 y8 y9 y10 y11) (indenturelaw11_PytokenCovers.j1 (k + 1) y0 y1 y2 y3 y4 y5 y6 y7 y8 y9 y10 y11)) ∧ (∀ y0 y1 y2 y3 y4 y5 y6 y7 y8 y9 y10 y11, LeO (indenturelaw11_PytokenCovers.l1 k y0 y1 y2 y3 y4 y5 y6 y7 y8 y9 y10 y11) (indenturelaw11_PytokenCovers.l1 (k + 1) y0 y1 y2 y3 y4 y5 y6 y7 y8 y9 y10 y11))
  | 0 => ⟨fun _ _ _ _ _ _ _ _ _ _ r h => by simp [indenturelaw11_PytokenCovers.l0] at h, fun _ _ _ _ _ _ _ _ _ _ _ _ r h => by simp [indenturelaw11_PytokenCovers.j1] at h, fun _ _ _ _ _ _ _ _ _ _ _ _ r h => by simp [indenturelaw11_PytokenCovers.l1] at h⟩
  | k + 1 => by
    obtain ⟨ih0, ih1, ih2⟩ := indenturelaw11_PytokenCovers.mono_l k
    refine ⟨?_, ?_, ?_⟩
    · intro y0 y1 y2 y3 y4 y5 y6 y7 y8 y9
      unfold indenturelaw11_PytokenCovers.l0
      repeat' first
      | (with_reducible exact ih0 _ _ _ _ _ _ _ _ _ _)
      | (with_reducible exact ih1 _ _ _ _ _ _ _ _ _ _ _ _)
      | (with_reducible exact ih2 _ _ _ _ _ _ _ _ _ _ _ _)
      | (with_reducible exact indentureref11_End.mono _ _)
      | (with_reducible exact LeO.refl _)
      | (with_reducible exact LeO.none _)
      | (with_reducible refine LeO.ite ?_ ?_)
      | (with_reducible refine LeO.bind ?_ (fun _ => ?_))
      | exact ih0 _ _ _ _ _ _ _ _ _ _
      | exact ih1 _ _ _ _ _ _ _ _ _ _ _ _
      | exact ih2 _ _ _ _ _ _ _ _ _ _ _ _
      | exact indentureref11_End.mono _ _
      | exact LeO.none _
      | refine LeO.ite ?_ ?_
      | refine LeO.bind ?_ (fun _ => ?_)
    · intro y0 y1 y2 y3 y4 y5 y6 y7 y8 y9 y10 y11
      unfold indenturelaw11_PytokenCovers.j1
      repeat' first
      | (with_reducible exact ih0 _ _ _ _ _ _ _ _ _ _)
      | (with_reducible exact ih1 _ _ _ _ _ _ _ _ _ _ _ _)
      | (with_reducible exact ih2 _ _ _ _ _ _ _ _ _ _ _ _)
      | (with_reducible exact indentureref11_End.mono _ _)
      | (with_reducible exact LeO.refl _)
      | (with_reducible exact LeO.none _)
      | (with_reducible refine LeO.ite ?_ ?_)
      | (with_reducible refine LeO.bind ?_ (fun _ => ?_))
      | exact ih0 _ _ _ _ _ _ _ _ _ _
      | exact ih1 _ _ _ _ _ _ _ _ _ _ _ _
      | exact ih2 _ _ _ _ _ _ _ _ _ _ _ _
      | exact indentureref11_End.mono _ _
      | exact LeO.none _
      | refine LeO.ite ?_ ?_
      | refine LeO.bind ?_ (fun _ => ?_)
    · intro y0 y1 y2 y3 y4 y5 y6 y7 y8 y9 y10 y11
      unfold indenturelaw11_PytokenCovers.l1
      repeat' first
      | (with_reducible exact ih0 _ _ _ _ _ _ _ _ _ _)
      | (with_reducible exact ih1 _ _ _ _ _ _ _ _ _ _ _ _)
      | (with_reducible exact ih2 _ _ _ _ _ _ _ _ _ _ _ _)
      | (with_reducible exact indentureref11_End.mono _ _)
      | (with_reducible exact LeO.refl _)
      | (with_reducible exact LeO.none _)
      | (with_reducible refine LeO.ite ?_ ?_)
      | (with_reducible refine LeO.bind ?_ (fun _ => ?_))
      | exact ih0 _ _ _ _ _ _ _ _ _ _
      | exact ih1 _ _ _ _ _ _ _ _ _ _ _ _
      | exact ih2 _ _ _ _ _ _ _ _ _ _ _ _
      | exact indentureref11_End.mono _ _
      | exact LeO.none _
      | refine LeO.ite ?_ ?_
      | refine LeO.bind ?_ (fun _ => ?_)
theorem indenturelaw11_PytokenCovers.mono : ∀ a0 a1 a2 k, LeO (indenturelaw11_PytokenCovers.f k a0 a1 a2) (indenturelaw11_PytokenCovers.f (k + 1) a0 a1 a2) := by
  intro a0 a1 a2 k
  obtain ⟨ih0, ih1, ih2⟩ := indenturelaw11_PytokenCovers.mono_l k
  unfold indenturelaw11_PytokenCovers.f
  repeat' first
      | (with_reducible exact ih0 _ _ _ _ _ _ _ _ _ _)
      | (with_reducible exact ih1 _ _ _ _ _ _ _ _ _ _ _ _)
      | (with_reducible exact ih2 _ _ _ _ _ _ _ _ _ _ _ _)
      | (with_reducible exact indentureref11_End.mono _ _)
      | (with_reducible exact LeO.refl _)
      | (with_reducible exact LeO.none _)
      | (with_reducible refine LeO.ite ?_ ?_)
      | (with_reducible refine LeO.bind ?_ (fun _ => ?_))
      | exact ih0 _ _ _ _ _ _ _ _ _ _
      | exact ih1 _ _ _ _ _ _ _ _ _ _ _ _
      | exact ih2 _ _ _ _ _ _ _ _ _ _ _ _
      | exact indentureref11_End.mono _ _
      | exact LeO.none _
      | refine LeO.ite ?_ ?_
      | refine LeO.bind ?_ (fun _ => ?_)
set_option maxHeartbeats 8000000 in
set_option maxRecDepth 100000 in
theorem indenturelaw11_PytokenCovers.calls (k : Nat) (a0 : ByteArray) (a1 : Int) (a2 : Int) (r : Bool) (w : World) (h : indenturelaw11_PytokenCovers.f k a0 a1 a2 = some r) :
    Calls Try.prog 4 #[.string a0, .int .u8 a1, .int .i64 a2] w fun e w' => e = .returned (.bool r) ∧ Below w.heap.size w w' := by
  have hu25 := Try.underlying25
  have hu33 := Try.underlying33
  have HB := Aside0.mk (Below.refl w.heap.size w)
  have H : (if (a0.size : Int) > 20000 then (some true) else ((pytoken_Scan.f a0 0 a1 a2).bind fun bt134 => ((indentureref11_End.f k a0).bind fun t143 => (indenturelaw11_PytokenCovers.l0 k a0 t143 0 0 bt134.1 bt134.2.1 bt134.2.2.1 bt134.2.2.2.1 bt134.2.2.2.2.1 bt134.2.2.2.2.2)))) = some r := h
  clear h
  by_cases c4 : (a0.size : Int) > 20000
  · rw [if_pos c4] at H
    have c4b0 : decide (20000 < (a0.size : Int)) = true := decide_eq_true c4
    have c4b1 : decide (20000 < a0.size) = true := decide_eq_true (by omega)
    clear c4
    obtain rfl := Option.some.inj H
    go_enter Try.func4, Try.ntmps4
    go_wp2
    go_ret
    exact ⟨by first | rfl | (simp [errW_none, errW_some] <;> rfl) | (simp [*, errW_none, errW_some] <;> rfl), by repeat (first | (with_reducible first | exact HB.out | apply below_alloc | apply pw_below_drewN | apply below_drew1) | exact HB.out)⟩
  · rw [if_neg c4] at H
    have c4b0 : decide (20000 < (a0.size : Int)) = false := decide_eq_false c4
    have c4b1 : decide (20000 < a0.size) = false := decide_eq_false (by omega)
    clear c4
    replace H := Option.bind_eq_some_iff.mp H
    obtain ⟨⟨t134, t137, t138, t139, t140, t141⟩, A50, H⟩ := H
    replace H : ((indentureref11_End.f k a0).bind fun t143 => (indenturelaw11_PytokenCovers.l0 k a0 t143 0 0 t134 t137 t138 t139 t140 t141)) = some r := H
    have A5 := Aside0.mk A50
    clear A50
    replace H := Option.bind_eq_some_iff.mp H
    obtain ⟨t143, A60, H⟩ := H
    replace H : (indenturelaw11_PytokenCovers.l0 k a0 t143 0 0 t134 t137 t138 t139 t140 t141) = some r := H
    have A6 := Aside0.mk A60
    clear A60
    have H' := Aside0.mk H
    clear H
    go_enter Try.func4, Try.ntmps4
    go_wp2_with (first | ((with_reducible refine gate_callee (f := 10) rfl ?_); refine goesL_ (some 21) rfl rfl Try.func10 (by kernel_rfl) rfl #[.string a0, .int .i64 0, .int .u8 a1, .int .i64 a2] rfl (by (try simp only [List.map_toArray, List.map_cons, List.map_nil]); first | done | rfl | (simp only [List.length_drop, List.length_take]; rfl)) ?_; (with_reducible refine (pytoken_Scan.calls a0 0 a1 a2 t134 t137 t138 t139 t140 t141 _ A5.out).mono ?_); rintro e w7 ⟨v135, rfl, ho0, hb⟩; refine ⟨_, rfl, ?_⟩; have n0_ := Aside0.mk (Kd.R_lower ho0 (below_size (by repeat (first | (with_reducible first | exact HB.out | apply below_alloc | apply pw_below_drewN | apply below_drew1) | exact HB.out)))); have n1_ := Aside0.mk (below_step (by repeat (first | (with_reducible first | exact HB.out | apply below_alloc | apply pw_below_drewN | apply below_drew1) | exact HB.out)) hb); clear HB; have HO136 := n0_; have HB := n1_; clear n0_ n1_; (try clear hb); (try clear hb2); (try clear hk); (try clear hi); (try clear ho0)) | ((with_reducible refine gate_dst (N := 7) rfl ?_); refine box_event ?hg (N := 7) ?hd (cs := #[.slice none 0 0, .int .u8 0, .int .i64 0, .bool false, .bool false, .bool false]) (t := 25) ?hr ?_; (case hd => rfl); (case hg => rfl); (case hr => first | (go_simp; done) | (go_simp; rfl)); intro gb142 hg w8 hbox hb; have n0_ := Aside0.mk (Kd.R_below (by (with_reducible repeat (first | apply Kd.R_alloc | apply Kd.R_drewN | apply Kd.R_drew)); exact HO136.out) hb); have n1_ := Aside0.mk (below_step (by repeat (first | (with_reducible first | exact HB.out | apply below_alloc | apply pw_below_drewN | apply below_drew1) | exact HB.out)) hb); have n2_ := Aside0.mk (hbox); have n3_ := Aside0.mk ((by rw [hg]; exact (below_size (by repeat (first | (with_reducible first | exact HB.out | apply below_alloc | apply pw_below_drewN | apply below_drew1) | exact HB.out))) : w.heap.size ≤ gb142)); have n4_ := Aside0.mk ((by rw [hg]; exact (below_size (by repeat (first | (with_reducible first | exact HB.out | apply below_alloc | apply pw_below_drewN | apply below_drew1) | exact HB.out))) : w.heap.size ≤ gb142)); clear HO136; clear HB; have HO136 := n0_; have HB := n1_; have BK142 := n2_; have GW142 := n3_; have GE142 := n4_; clear n0_ n1_ n2_ n3_ n4_; clear hb hbox hg; obtain ⟨Ao9, co9, eo9⟩ := Kd.R_slice HO136.out; subst eo9; have hcz10_0 : w8.cell? ⟨gb142, 0, none⟩ = some (.slice none 0 0) := (blk_cell BK142.out 0).trans rfl; have hcz10_1 : w8.cell? ⟨gb142, 1, none⟩ = some (.int .u8 0) := (blk_cell BK142.out 1).trans rfl; have hcz10_2 : w8.cell? ⟨gb142, 2, none⟩ = some (.int .i64 0) := (blk_cell BK142.out 2).trans rfl; have hcz10_3 : w8.cell? ⟨gb142, 3, none⟩ = some (.bool false) := (blk_cell BK142.out 3).trans rfl; have hcz10_4 : w8.cell? ⟨gb142, 4, none⟩ = some (.bool false) := (blk_cell BK142.out 4).trans rfl; have hcz10_5 : w8.cell? ⟨gb142, 5, none⟩ = some (.bool false) := (blk_cell BK142.out 5).trans rfl; have hfz10_0 := blk_frozen BK142.out 0; have hfz10_1 := blk_frozen BK142.out 1; have hfz10_2 := blk_frozen BK142.out 2; have hfz10_3 := blk_frozen BK142.out 3; have hfz10_4 := blk_frozen BK142.out 4; have hfz10_5 := blk_frozen BK142.out 5) | ((with_reducible refine gate_callee (f := 13) rfl ?_); refine goesL_ (some 23) rfl rfl Try.func13 (by kernel_rfl) rfl #[.string a0] rfl (by (try simp only [List.map_toArray, List.map_cons, List.map_nil]); first | done | rfl | (simp only [List.length_drop, List.length_take]; rfl)) ?_; (with_reducible refine (indentureref11_End.calls k a0 t143 _ A6.out).mono ?_); rintro e w' ⟨rfl, ⟨nd, rfl⟩⟩; refine ⟨_, rfl, ?_⟩))
    go_loopg [9, 10] k (fun kq v9 v10 w' => ∃ (x9_1 : Int) (x10_1 : Int), v9 = .int .i64 x9_1 ∧ v10 = .int .i64 x10_1 ∧ Aside0 (indenturelaw11_PytokenCovers.l0 kq a0 t143 x9_1 x10_1 t134 t137 t138 t139 t140 t141 = some r) ∧ Aside0 (kq ≤ k) ∧ Aside0 (Kd.R k33 33 w' w.heap.size (fun _ => True) (.slice Ao9 t134.length co9) t134) ∧ Aside0 (w'.heap[gb142]? = some (.cells #[(.slice Ao9 t134.length co9), .int .u8 t137, .int .i64 t138, .bool t139, .bool t140, .bool t141] 25 (0, 0))) ∧ Aside0 (Below w.heap.size w w'))
    case atStart => exact ⟨(0), (0), (by first | rfl | (simp; done) | (simp [*]; done)), (by first | rfl | (simp; done) | (simp [*]; done)), H', ⟨Nat.le_refl _⟩, ⟨by (with_reducible repeat (first | apply Kd.R_alloc | apply Kd.R_drewN | apply Kd.R_drew)); exact Kd.R_mono (Kd.R_far (p := ⟨gb142, 5, none⟩) (Kd.R_far (p := ⟨gb142, 4, none⟩) (Kd.R_far (p := ⟨gb142, 3, none⟩) (Kd.R_far (p := ⟨gb142, 2, none⟩) (Kd.R_far (p := ⟨gb142, 1, none⟩) (Kd.R_far (p := ⟨gb142, 0, none⟩) (Kd.R_types HO136.out BK142.out (by decide)) (fun _ hk => hk.2) (.slice Ao9 t134.length co9)) (fun _ hk => hk.2) (.int .u8 t137)) (fun _ hk => hk.2) (.int .i64 t138)) (fun _ hk => hk.2) (.bool t139)) (fun _ hk => hk.2) (.bool t140)) (fun _ hk => hk.2) (.bool t141)) (fun _ hk => trivial)⟩, ⟨by (with_reducible repeat (first | refine blk_drewN ?_ _ | refine blk_drew ?_ | refine blk_alloc ?_ _)); refine blk_put (cs := #[.slice Ao9 t134.length co9, .int .u8 t137, .int .i64 t138, .bool t139, .bool t140, .bool false]) ?_ 5 _ rfl; (with_reducible repeat (first | refine blk_drewN ?_ _ | refine blk_drew ?_ | refine blk_alloc ?_ _)); refine blk_put (cs := #[.slice Ao9 t134.length co9, .int .u8 t137, .int .i64 t138, .bool t139, .bool false, .bool false]) ?_ 4 _ rfl; (with_reducible repeat (first | refine blk_drewN ?_ _ | refine blk_drew ?_ | refine blk_alloc ?_ _)); refine blk_put (cs := #[.slice Ao9 t134.length co9, .int .u8 t137, .int .i64 t138, .bool false, .bool false, .bool false]) ?_ 3 _ rfl; (with_reducible repeat (first | refine blk_drewN ?_ _ | refine blk_drew ?_ | refine blk_alloc ?_ _)); refine blk_put (cs := #[.slice Ao9 t134.length co9, .int .u8 t137, .int .i64 0, .bool false, .bool false, .bool false]) ?_ 2 _ rfl; (with_reducible repeat (first | refine blk_drewN ?_ _ | refine blk_drew ?_ | refine blk_alloc ?_ _)); refine blk_put (cs := #[.slice Ao9 t134.length co9, .int .u8 0, .int .i64 0, .bool false, .bool false, .bool false]) ?_ 1 _ rfl; (with_reducible repeat (first | refine blk_drewN ?_ _ | refine blk_drew ?_ | refine blk_alloc ?_ _)); refine blk_put (cs := #[.slice none 0 0, .int .u8 0, .int .i64 0, .bool false, .bool false, .bool false]) ?_ 0 _ rfl; (with_reducible repeat (first | refine blk_drewN ?_ _ | refine blk_drew ?_ | refine blk_alloc ?_ _)); exact BK142.out⟩, ⟨by repeat (first | (with_reducible first | exact HB.out | apply below_alloc | apply pw_below_drewN | apply below_drew1 | refine below_set ?_ GE142.out) | exact HB.out)⟩⟩
    case round =>
      clear H'
      try clear c1
      try clear p2
      try clear c4
      try clear c4b0
      try clear c4b1
      try clear c10
      try clear hcz10_0
      try clear hcz10_1
      try clear hcz10_2
      try clear hcz10_3
      try clear hcz10_4
      try clear hcz10_5
      try clear hfz10_0
      try clear hfz10_1
      try clear hfz10_2
      try clear hfz10_3
      try clear hfz10_4
      try clear hfz10_5
      obtain ⟨x9_1, x10_1, rfl, rfl, HA, HK1, HO_143000, BK142, HB⟩ := hrel
      cases gk with
      | zero => exact absurd HA.out (by simp [indenturelaw11_PytokenCovers.l0])
      | succ k1 =>
        have H := HA.out
        clear HA
        simp only [indenturelaw11_PytokenCovers.l0] at H
        by_cases c11 : x10_1 ≤ (t134.length : Int)
        · rw [if_pos c11] at H
          have c11b0 : decide (x10_1 ≤ (t134.length : Int)) = true := decide_eq_true c11
          clear c11
          have HC12 := Aside0.mk H
          clear H
          have hcz13_0 : wr.cell? ⟨gb142, 0, none⟩ = some (.slice Ao9 t134.length co9) := (blk_cell BK142.out 0).trans rfl
          have hcz13_1 : wr.cell? ⟨gb142, 1, none⟩ = some (.int .u8 t137) := (blk_cell BK142.out 1).trans rfl
          have hcz13_2 : wr.cell? ⟨gb142, 2, none⟩ = some (.int .i64 t138) := (blk_cell BK142.out 2).trans rfl
          have hcz13_3 : wr.cell? ⟨gb142, 3, none⟩ = some (.bool t139) := (blk_cell BK142.out 3).trans rfl
          have hcz13_4 : wr.cell? ⟨gb142, 4, none⟩ = some (.bool t140) := (blk_cell BK142.out 4).trans rfl
          have hcz13_5 : wr.cell? ⟨gb142, 5, none⟩ = some (.bool t141) := (blk_cell BK142.out 5).trans rfl
          have hfz13_0 := blk_frozen BK142.out 0
          have hfz13_1 := blk_frozen BK142.out 1
          have hfz13_2 := blk_frozen BK142.out 2
          have hfz13_3 := blk_frozen BK142.out 3
          have hfz13_4 := blk_frozen BK142.out 4
          have hfz13_5 := blk_frozen BK142.out 5
          go_upto_if 37 with (fail)
          go_cut [11, 12] (fun v11 v12 wc => ∃ (kq : Nat) (x11_11 : Int) (x12_11 : Int), v11 = .int .i64 x11_11 ∧ v12 = .int .i64 x12_11 ∧ Aside0 (indenturelaw11_PytokenCovers.j1 kq a0 t143 x9_1 x10_1 x11_11 x12_11 t134 t137 t138 t139 t140 t141 = some r) ∧ Aside0 (kq ≤ k1) ∧ Aside0 (Kd.R k33 33 wc w.heap.size (fun _ => True) (.slice Ao9 t134.length co9) t134) ∧ Aside0 (wc.heap[gb142]? = some (.cells #[(.slice Ao9 t134.length co9), .int .u8 t137, .int .i64 t138, .bool t139, .bool t140, .bool t141] 25 (0, 0))) ∧ Aside0 (Below w.heap.size w wc))
          case first =>
            have H := HC12.out
            clear HC12
            by_cases c14 : x10_1 < (t134.length : Int)
            · rw [if_pos c14] at H
              have c14b0 : decide (x10_1 < (t134.length : Int)) = true := decide_eq_true c14
              clear c14
              (first | rw [c14b0] | (simp only [i64_w, i32_w]; rw [c14b0]) | skip)
              by_cases c15 : 0 ≤ x10_1
              · rw [if_pos c15] at H
                have c15b0 : decide (0 ≤ x10_1) = true := decide_eq_true c15
                clear c15
                by_cases c16 : ((rd_T33 t134 x10_1).f0) = 3
                · rw [if_pos c16] at H
                  have c16b0 : (((rd_T33 t134 x10_1).f0) == 3) = true := beq_iff_eq.mpr c16
                  have c16b1 : (((rd_T33 t134 x10_1).f0) != 3) = false := bne_eq_false_iff_eq.mpr c16
                  clear c16
                  by_cases c17 : ((rd_T33 t134 x10_1).f2) < x9_1
                  · rw [if_pos c17] at H
                    have c17b0 : decide (((rd_T33 t134 x10_1).f2) < x9_1) = true := decide_eq_true c17
                    clear c17
                    obtain rfl := Option.some.inj H
                    have hcz18_0 : wr.cell? ⟨gb142, 0, none⟩ = some (.slice Ao9 t134.length co9) := (blk_cell BK142.out 0).trans rfl
                    have hcz18_1 : wr.cell? ⟨gb142, 1, none⟩ = some (.int .u8 t137) := (blk_cell BK142.out 1).trans rfl
                    have hcz18_2 : wr.cell? ⟨gb142, 2, none⟩ = some (.int .i64 t138) := (blk_cell BK142.out 2).trans rfl
                    have hcz18_3 : wr.cell? ⟨gb142, 3, none⟩ = some (.bool t139) := (blk_cell BK142.out 3).trans rfl
                    have hcz18_4 : wr.cell? ⟨gb142, 4, none⟩ = some (.bool t140) := (blk_cell BK142.out 4).trans rfl
                    have hcz18_5 : wr.cell? ⟨gb142, 5, none⟩ = some (.bool t141) := (blk_cell BK142.out 5).trans rfl
                    have hfz18_0 := blk_frozen BK142.out 0
                    have hfz18_1 := blk_frozen BK142.out 1
                    have hfz18_2 := blk_frozen BK142.out 2
                    have hfz18_3 := blk_frozen BK142.out 3
                    have hfz18_4 := blk_frozen BK142.out 4
                    have hfz18_5 := blk_frozen BK142.out 5
                    have p146 : 0 ≤ (x10_1 : Int) := of_decide_eq_true (by first | (with_reducible assumption) | assumption)
                    have q146 : x10_1 < (t134.length : Int) := of_decide_eq_true (by first | (with_reducible assumption) | assumption)
                    obtain ⟨ad146, e146, hx146_0, hx146_1, hx146_2, hx146_3⟩ := at_T33 (Kd.R_reads' HO_143000.out).2.2 x10_1 p146 q146
                    cases e146
                    replace p146 := eq_true p146
                    replace q146 := eq_true q146
                    go_wp2_with (first | ((with_reducible refine gate_dst (N := 13) rfl ?_); refine box_event ?hg (N := 13) ?hd (cs := #[.int .u8 0, .int .u8 0, .int .i64 0, .int .i64 0]) (t := 33) ?hr ?_; (case hd => rfl); (case hg => rfl); (case hr => first | (go_simp; done) | (go_simp; rfl)); intro gb147 hg w19 hbox hb; have n0_ := Aside0.mk (Kd.R_below (Kd.R_elderB (by (with_reducible repeat (first | apply Kd.R_alloc | apply Kd.R_drewN | apply Kd.R_drew)); exact HO_143000.out) gb147 (Nat.le_of_eq hg.symm)) hb); have n1_ := Aside0.mk (blk_below (g := gb142) (o := .cells #[.slice (some ad146) t134.length co9, .int .u8 t137, .int .i64 t138, .bool t139, .bool t140, .bool t141] 25 (0, 0)) (by (with_reducible repeat (first | refine blk_drewN ?_ _ | refine blk_drew ?_ | refine blk_alloc ?_ _)); exact BK142.out) hb); have n2_ := Aside0.mk (below_step (by repeat (first | (with_reducible first | exact HB.out | apply below_alloc | apply pw_below_drewN | apply below_drew1 | refine below_set ?_ GE142.out) | exact HB.out)) hb); have n3_ := Aside0.mk (hbox); have n4_ := Aside0.mk ((by rw [hg]; exact (below_size (by repeat (first | (with_reducible first | exact HB.out | apply below_alloc | apply pw_below_drewN | apply below_drew1 | refine below_set ?_ GE142.out) | exact HB.out))) : w.heap.size ≤ gb147)); have n5_ := Aside0.mk ((by rw [hg]; exact (below_size (by repeat (first | (with_reducible first | exact HB.out | apply below_alloc | apply pw_below_drewN | apply below_drew1 | refine below_set ?_ GE142.out) | exact HB.out))) : w.heap.size ≤ gb147)); have n6_ := Aside0.mk ((by rw [hg]; exact Nat.ne_of_lt (blk_lt (g := gb142) (o := .cells #[.slice (some ad146) t134.length co9, .int .u8 t137, .int .i64 t138, .bool t139, .bool t140, .bool t141] 25 (0, 0)) (by (with_reducible repeat (first | refine blk_drewN ?_ _ | refine blk_drew ?_ | refine blk_alloc ?_ _)); exact BK142.out)) : gb142 ≠ gb147)); have n7_ := Aside0.mk ((by rw [hg]; exact Nat.ne_of_gt (blk_lt (g := gb142) (o := .cells #[.slice (some ad146) t134.length co9, .int .u8 t137, .int .i64 t138, .bool t139, .bool t140, .bool t141] 25 (0, 0)) (by (with_reducible repeat (first | refine blk_drewN ?_ _ | refine blk_drew ?_ | refine blk_alloc ?_ _)); exact BK142.out)) : gb147 ≠ gb142)); clear HO_143000; clear BK142; clear HB; have HO_143000 := n0_; have BK142 := n1_; have HB := n2_; have BK147 := n3_; have GW147 := n4_; have GE147 := n5_; have NB142_147 := n6_; have NB147_142 := n7_; clear n0_ n1_ n2_ n3_ n4_ n5_ n6_ n7_; clear hb hbox hg; have hnb20 := NB147_142.out; have hnc20 := NB142_147.out; have hcz21_0 : w19.cell? ⟨gb147, 0, none⟩ = some (.int .u8 0) := (blk_cell BK147.out 0).trans rfl; have hcz21_1 : w19.cell? ⟨gb147, 1, none⟩ = some (.int .u8 0) := (blk_cell BK147.out 1).trans rfl; have hcz21_2 : w19.cell? ⟨gb147, 2, none⟩ = some (.int .i64 0) := (blk_cell BK147.out 2).trans rfl; have hcz21_3 : w19.cell? ⟨gb147, 3, none⟩ = some (.int .i64 0) := (blk_cell BK147.out 3).trans rfl; have hfz21_0 := blk_frozen BK147.out 0; have hfz21_1 := blk_frozen BK147.out 1; have hfz21_2 := blk_frozen BK147.out 2; have hfz21_3 := blk_frozen BK147.out 3))
                    go_ret
                    exact ⟨by first | rfl | (simp [errW_none, errW_some] <;> rfl) | (simp [*, errW_none, errW_some] <;> rfl), by repeat (first | (with_reducible first | exact HB.out | apply below_alloc | apply pw_below_drewN | apply below_drew1 | refine below_set ?_ GE142.out | refine below_set ?_ GE147.out) | exact HB.out)⟩
                  · rw [if_neg c17] at H
                    have c17b0 : decide (((rd_T33 t134 x10_1).f2) < x9_1) = false := decide_eq_false c17
                    clear c17
                    by_cases c22 : ((rd_T33 t134 x10_1).f3) ≤ ((rd_T33 t134 x10_1).f2)
                    · rw [if_pos c22] at H
                      have c22b0 : decide (((rd_T33 t134 x10_1).f3) ≤ ((rd_T33 t134 x10_1).f2)) = true := decide_eq_true c22
                      clear c22
                      obtain rfl := Option.some.inj H
                      have hcz23_0 : wr.cell? ⟨gb142, 0, none⟩ = some (.slice Ao9 t134.length co9) := (blk_cell BK142.out 0).trans rfl
                      have hcz23_1 : wr.cell? ⟨gb142, 1, none⟩ = some (.int .u8 t137) := (blk_cell BK142.out 1).trans rfl
                      have hcz23_2 : wr.cell? ⟨gb142, 2, none⟩ = some (.int .i64 t138) := (blk_cell BK142.out 2).trans rfl
                      have hcz23_3 : wr.cell? ⟨gb142, 3, none⟩ = some (.bool t139) := (blk_cell BK142.out 3).trans rfl
                      have hcz23_4 : wr.cell? ⟨gb142, 4, none⟩ = some (.bool t140) := (blk_cell BK142.out 4).trans rfl
                      have hcz23_5 : wr.cell? ⟨gb142, 5, none⟩ = some (.bool t141) := (blk_cell BK142.out 5).trans rfl
                      have hfz23_0 := blk_frozen BK142.out 0
                      have hfz23_1 := blk_frozen BK142.out 1
                      have hfz23_2 := blk_frozen BK142.out 2
                      have hfz23_3 := blk_frozen BK142.out 3
                      have hfz23_4 := blk_frozen BK142.out 4
                      have hfz23_5 := blk_frozen BK142.out 5
                      have p146 : 0 ≤ (x10_1 : Int) := of_decide_eq_true (by first | (with_reducible assumption) | assumption)
                      have q146 : x10_1 < (t134.length : Int) := of_decide_eq_true (by first | (with_reducible assumption) | assumption)
                      obtain ⟨ad146, e146, hx146_0, hx146_1, hx146_2, hx146_3⟩ := at_T33 (Kd.R_reads' HO_143000.out).2.2 x10_1 p146 q146
                      cases e146
                      replace p146 := eq_true p146
                      replace q146 := eq_true q146
                      go_wp2_with (first | ((with_reducible refine gate_dst (N := 13) rfl ?_); refine box_event ?hg (N := 13) ?hd (cs := #[.int .u8 0, .int .u8 0, .int .i64 0, .int .i64 0]) (t := 33) ?hr ?_; (case hd => rfl); (case hg => rfl); (case hr => first | (go_simp; done) | (go_simp; rfl)); intro gb147 hg w24 hbox hb; have n0_ := Aside0.mk (Kd.R_below (Kd.R_elderB (by (with_reducible repeat (first | apply Kd.R_alloc | apply Kd.R_drewN | apply Kd.R_drew)); exact HO_143000.out) gb147 (Nat.le_of_eq hg.symm)) hb); have n1_ := Aside0.mk (blk_below (g := gb142) (o := .cells #[.slice (some ad146) t134.length co9, .int .u8 t137, .int .i64 t138, .bool t139, .bool t140, .bool t141] 25 (0, 0)) (by (with_reducible repeat (first | refine blk_drewN ?_ _ | refine blk_drew ?_ | refine blk_alloc ?_ _)); exact BK142.out) hb); have n2_ := Aside0.mk (below_step (by repeat (first | (with_reducible first | exact HB.out | apply below_alloc | apply pw_below_drewN | apply below_drew1 | refine below_set ?_ GE142.out) | exact HB.out)) hb); have n3_ := Aside0.mk (hbox); have n4_ := Aside0.mk ((by rw [hg]; exact (below_size (by repeat (first | (with_reducible first | exact HB.out | apply below_alloc | apply pw_below_drewN | apply below_drew1 | refine below_set ?_ GE142.out) | exact HB.out))) : w.heap.size ≤ gb147)); have n5_ := Aside0.mk ((by rw [hg]; exact (below_size (by repeat (first | (with_reducible first | exact HB.out | apply below_alloc | apply pw_below_drewN | apply below_drew1 | refine below_set ?_ GE142.out) | exact HB.out))) : w.heap.size ≤ gb147)); have n6_ := Aside0.mk ((by rw [hg]; exact Nat.ne_of_lt (blk_lt (g := gb142) (o := .cells #[.slice (some ad146) t134.length co9, .int .u8 t137, .int .i64 t138, .bool t139, .bool t140, .bool t141] 25 (0, 0)) (by (with_reducible repeat (first | refine blk_drewN ?_ _ | refine blk_drew ?_ | refine blk_alloc ?_ _)); exact BK142.out)) : gb142 ≠ gb147)); have n7_ := Aside0.mk ((by rw [hg]; exact Nat.ne_of_gt (blk_lt (g := gb142) (o := .cells #[.slice (some ad146) t134.length co9, .int .u8 t137, .int .i64 t138, .bool t139, .bool t140, .bool t141] 25 (0, 0)) (by (with_reducible repeat (first | refine blk_drewN ?_ _ | refine blk_drew ?_ | refine blk_alloc ?_ _)); exact BK142.out)) : gb147 ≠ gb142)); clear HO_143000; clear BK142; clear HB; have HO_143000 := n0_; have BK142 := n1_; have HB := n2_; have BK147 := n3_; have GW147 := n4_; have GE147 := n5_; have NB142_147 := n6_; have NB147_142 := n7_; clear n0_ n1_ n2_ n3_ n4_ n5_ n6_ n7_; clear hb hbox hg; have hnb25 := NB147_142.out; have hnc25 := NB142_147.out; have hcz26_0 : w24.cell? ⟨gb147, 0, none⟩ = some (.int .u8 0) := (blk_cell BK147.out 0).trans rfl; have hcz26_1 : w24.cell? ⟨gb147, 1, none⟩ = some (.int .u8 0) := (blk_cell BK147.out 1).trans rfl; have hcz26_2 : w24.cell? ⟨gb147, 2, none⟩ = some (.int .i64 0) := (blk_cell BK147.out 2).trans rfl; have hcz26_3 : w24.cell? ⟨gb147, 3, none⟩ = some (.int .i64 0) := (blk_cell BK147.out 3).trans rfl; have hfz26_0 := blk_frozen BK147.out 0; have hfz26_1 := blk_frozen BK147.out 1; have hfz26_2 := blk_frozen BK147.out 2; have hfz26_3 := blk_frozen BK147.out 3))
                      go_ret
                      exact ⟨by first | rfl | (simp [errW_none, errW_some] <;> rfl) | (simp [*, errW_none, errW_some] <;> rfl), by repeat (first | (with_reducible first | exact HB.out | apply below_alloc | apply pw_below_drewN | apply below_drew1 | refine below_set ?_ GE142.out | refine below_set ?_ GE147.out) | exact HB.out)⟩
                    · rw [if_neg c22] at H
                      have c22b0 : decide (((rd_T33 t134 x10_1).f3) ≤ ((rd_T33 t134 x10_1).f2)) = false := decide_eq_false c22
                      clear c22
                      by_cases c27 : ((rd_T33 t134 x10_1).f3) > t143
                      · rw [if_pos c27] at H
                        have c27b0 : decide (t143 < ((rd_T33 t134 x10_1).f3)) = true := decide_eq_true c27
                        clear c27
                        obtain rfl := Option.some.inj H
                        have hcz28_0 : wr.cell? ⟨gb142, 0, none⟩ = some (.slice Ao9 t134.length co9) := (blk_cell BK142.out 0).trans rfl
                        have hcz28_1 : wr.cell? ⟨gb142, 1, none⟩ = some (.int .u8 t137) := (blk_cell BK142.out 1).trans rfl
                        have hcz28_2 : wr.cell? ⟨gb142, 2, none⟩ = some (.int .i64 t138) := (blk_cell BK142.out 2).trans rfl
                        have hcz28_3 : wr.cell? ⟨gb142, 3, none⟩ = some (.bool t139) := (blk_cell BK142.out 3).trans rfl
                        have hcz28_4 : wr.cell? ⟨gb142, 4, none⟩ = some (.bool t140) := (blk_cell BK142.out 4).trans rfl
                        have hcz28_5 : wr.cell? ⟨gb142, 5, none⟩ = some (.bool t141) := (blk_cell BK142.out 5).trans rfl
                        have hfz28_0 := blk_frozen BK142.out 0
                        have hfz28_1 := blk_frozen BK142.out 1
                        have hfz28_2 := blk_frozen BK142.out 2
                        have hfz28_3 := blk_frozen BK142.out 3
                        have hfz28_4 := blk_frozen BK142.out 4
                        have hfz28_5 := blk_frozen BK142.out 5
                        have p146 : 0 ≤ (x10_1 : Int) := of_decide_eq_true (by first | (with_reducible assumption) | assumption)
                        have q146 : x10_1 < (t134.length : Int) := of_decide_eq_true (by first | (with_reducible assumption) | assumption)
                        obtain ⟨ad146, e146, hx146_0, hx146_1, hx146_2, hx146_3⟩ := at_T33 (Kd.R_reads' HO_143000.out).2.2 x10_1 p146 q146
                        cases e146
                        replace p146 := eq_true p146
                        replace q146 := eq_true q146
                        go_wp2_with (first | ((with_reducible refine gate_dst (N := 13) rfl ?_); refine box_event ?hg (N := 13) ?hd (cs := #[.int .u8 0, .int .u8 0, .int .i64 0, .int .i64 0]) (t := 33) ?hr ?_; (case hd => rfl); (case hg => rfl); (case hr => first | (go_simp; done) | (go_simp; rfl)); intro gb147 hg w29 hbox hb; have n0_ := Aside0.mk (Kd.R_below (Kd.R_elderB (by (with_reducible repeat (first | apply Kd.R_alloc | apply Kd.R_drewN | apply Kd.R_drew)); exact HO_143000.out) gb147 (Nat.le_of_eq hg.symm)) hb); have n1_ := Aside0.mk (blk_below (g := gb142) (o := .cells #[.slice (some ad146) t134.length co9, .int .u8 t137, .int .i64 t138, .bool t139, .bool t140, .bool t141] 25 (0, 0)) (by (with_reducible repeat (first | refine blk_drewN ?_ _ | refine blk_drew ?_ | refine blk_alloc ?_ _)); exact BK142.out) hb); have n2_ := Aside0.mk (below_step (by repeat (first | (with_reducible first | exact HB.out | apply below_alloc | apply pw_below_drewN | apply below_drew1 | refine below_set ?_ GE142.out) | exact HB.out)) hb); have n3_ := Aside0.mk (hbox); have n4_ := Aside0.mk ((by rw [hg]; exact (below_size (by repeat (first | (with_reducible first | exact HB.out | apply below_alloc | apply pw_below_drewN | apply below_drew1 | refine below_set ?_ GE142.out) | exact HB.out))) : w.heap.size ≤ gb147)); have n5_ := Aside0.mk ((by rw [hg]; exact (below_size (by repeat (first | (with_reducible first | exact HB.out | apply below_alloc | apply pw_below_drewN | apply below_drew1 | refine below_set ?_ GE142.out) | exact HB.out))) : w.heap.size ≤ gb147)); have n6_ := Aside0.mk ((by rw [hg]; exact Nat.ne_of_lt (blk_lt (g := gb142) (o := .cells #[.slice (some ad146) t134.length co9, .int .u8 t137, .int .i64 t138, .bool t139, .bool t140, .bool t141] 25 (0, 0)) (by (with_reducible repeat (first | refine blk_drewN ?_ _ | refine blk_drew ?_ | refine blk_alloc ?_ _)); exact BK142.out)) : gb142 ≠ gb147)); have n7_ := Aside0.mk ((by rw [hg]; exact Nat.ne_of_gt (blk_lt (g := gb142) (o := .cells #[.slice (some ad146) t134.length co9, .int .u8 t137, .int .i64 t138, .bool t139, .bool t140, .bool t141] 25 (0, 0)) (by (with_reducible repeat (first | refine blk_drewN ?_ _ | refine blk_drew ?_ | refine blk_alloc ?_ _)); exact BK142.out)) : gb147 ≠ gb142)); clear HO_143000; clear BK142; clear HB; have HO_143000 := n0_; have BK142 := n1_; have HB := n2_; have BK147 := n3_; have GW147 := n4_; have GE147 := n5_; have NB142_147 := n6_; have NB147_142 := n7_; clear n0_ n1_ n2_ n3_ n4_ n5_ n6_ n7_; clear hb hbox hg; have hnb30 := NB147_142.out; have hnc30 := NB142_147.out; have hcz31_0 : w29.cell? ⟨gb147, 0, none⟩ = some (.int .u8 0) := (blk_cell BK147.out 0).trans rfl; have hcz31_1 : w29.cell? ⟨gb147, 1, none⟩ = some (.int .u8 0) := (blk_cell BK147.out 1).trans rfl; have hcz31_2 : w29.cell? ⟨gb147, 2, none⟩ = some (.int .i64 0) := (blk_cell BK147.out 2).trans rfl; have hcz31_3 : w29.cell? ⟨gb147, 3, none⟩ = some (.int .i64 0) := (blk_cell BK147.out 3).trans rfl; have hfz31_0 := blk_frozen BK147.out 0; have hfz31_1 := blk_frozen BK147.out 1; have hfz31_2 := blk_frozen BK147.out 2; have hfz31_3 := blk_frozen BK147.out 3))
                        go_ret
                        exact ⟨by first | rfl | (simp [errW_none, errW_some] <;> rfl) | (simp [*, errW_none, errW_some] <;> rfl), by repeat (first | (with_reducible first | exact HB.out | apply below_alloc | apply pw_below_drewN | apply below_drew1 | refine below_set ?_ GE142.out | refine below_set ?_ GE147.out) | exact HB.out)⟩
                      · rw [if_neg c27] at H
                        have c27b0 : decide (t143 < ((rd_T33 t134 x10_1).f3)) = false := decide_eq_false c27
                        clear c27
                        by_cases c32 : ((rd_T33 t134 x10_1).f1) = 2
                        · rw [if_pos c32] at H
                          have c32b0 : (((rd_T33 t134 x10_1).f1) == 2) = true := beq_iff_eq.mpr c32
                          have c32b1 : (((rd_T33 t134 x10_1).f1) != 2) = false := bne_eq_false_iff_eq.mpr c32
                          clear c32
                          have H' := Aside0.mk H
                          clear H
                          have hcz33_0 : wr.cell? ⟨gb142, 0, none⟩ = some (.slice Ao9 t134.length co9) := (blk_cell BK142.out 0).trans rfl
                          have hcz33_1 : wr.cell? ⟨gb142, 1, none⟩ = some (.int .u8 t137) := (blk_cell BK142.out 1).trans rfl
                          have hcz33_2 : wr.cell? ⟨gb142, 2, none⟩ = some (.int .i64 t138) := (blk_cell BK142.out 2).trans rfl
                          have hcz33_3 : wr.cell? ⟨gb142, 3, none⟩ = some (.bool t139) := (blk_cell BK142.out 3).trans rfl
                          have hcz33_4 : wr.cell? ⟨gb142, 4, none⟩ = some (.bool t140) := (blk_cell BK142.out 4).trans rfl
                          have hcz33_5 : wr.cell? ⟨gb142, 5, none⟩ = some (.bool t141) := (blk_cell BK142.out 5).trans rfl
                          have hfz33_0 := blk_frozen BK142.out 0
                          have hfz33_1 := blk_frozen BK142.out 1
                          have hfz33_2 := blk_frozen BK142.out 2
                          have hfz33_3 := blk_frozen BK142.out 3
                          have hfz33_4 := blk_frozen BK142.out 4
                          have hfz33_5 := blk_frozen BK142.out 5
                          have p146 : 0 ≤ (x10_1 : Int) := of_decide_eq_true (by first | (with_reducible assumption) | assumption)
                          have q146 : x10_1 < (t134.length : Int) := of_decide_eq_true (by first | (with_reducible assumption) | assumption)
                          obtain ⟨ad146, e146, hx146_0, hx146_1, hx146_2, hx146_3⟩ := at_T33 (Kd.R_reads' HO_143000.out).2.2 x10_1 p146 q146
                          cases e146
                          replace p146 := eq_true p146
                          replace q146 := eq_true q146
                          go_wp2_with (first | ((with_reducible refine gate_dst (N := 13) rfl ?_); refine box_event ?hg (N := 13) ?hd (cs := #[.int .u8 0, .int .u8 0, .int .i64 0, .int .i64 0]) (t := 33) ?hr ?_; (case hd => rfl); (case hg => rfl); (case hr => first | (go_simp; done) | (go_simp; rfl)); intro gb147 hg w34 hbox hb; have n0_ := Aside0.mk (Kd.R_below (Kd.R_elderB (by (with_reducible repeat (first | apply Kd.R_alloc | apply Kd.R_drewN | apply Kd.R_drew)); exact HO_143000.out) gb147 (Nat.le_of_eq hg.symm)) hb); have n1_ := Aside0.mk (blk_below (g := gb142) (o := .cells #[.slice (some ad146) t134.length co9, .int .u8 t137, .int .i64 t138, .bool t139, .bool t140, .bool t141] 25 (0, 0)) (by (with_reducible repeat (first | refine blk_drewN ?_ _ | refine blk_drew ?_ | refine blk_alloc ?_ _)); exact BK142.out) hb); have n2_ := Aside0.mk (below_step (by repeat (first | (with_reducible first | exact HB.out | apply below_alloc | apply pw_below_drewN | apply below_drew1 | refine below_set ?_ GE142.out) | exact HB.out)) hb); have n3_ := Aside0.mk (hbox); have n4_ := Aside0.mk ((by rw [hg]; exact (below_size (by repeat (first | (with_reducible first | exact HB.out | apply below_alloc | apply pw_below_drewN | apply below_drew1 | refine below_set ?_ GE142.out) | exact HB.out))) : w.heap.size ≤ gb147)); have n5_ := Aside0.mk ((by rw [hg]; exact (below_size (by repeat (first | (with_reducible first | exact HB.out | apply below_alloc | apply pw_below_drewN | apply below_drew1 | refine below_set ?_ GE142.out) | exact HB.out))) : w.heap.size ≤ gb147)); have n6_ := Aside0.mk ((by rw [hg]; exact Nat.ne_of_lt (blk_lt (g := gb142) (o := .cells #[.slice (some ad146) t134.length co9, .int .u8 t137, .int .i64 t138, .bool t139, .bool t140, .bool t141] 25 (0, 0)) (by (with_reducible repeat (first | refine blk_drewN ?_ _ | refine blk_drew ?_ | refine blk_alloc ?_ _)); exact BK142.out)) : gb142 ≠ gb147)); have n7_ := Aside0.mk ((by rw [hg]; exact Nat.ne_of_gt (blk_lt (g := gb142) (o := .cells #[.slice (some ad146) t134.length co9, .int .u8 t137, .int .i64 t138, .bool t139, .bool t140, .bool t141] 25 (0, 0)) (by (with_reducible repeat (first | refine blk_drewN ?_ _ | refine blk_drew ?_ | refine blk_alloc ?_ _)); exact BK142.out)) : gb147 ≠ gb142)); clear HO_143000; clear BK142; clear HB; have HO_143000 := n0_; have BK142 := n1_; have HB := n2_; have BK147 := n3_; have GW147 := n4_; have GE147 := n5_; have NB142_147 := n6_; have NB147_142 := n7_; clear n0_ n1_ n2_ n3_ n4_ n5_ n6_ n7_; clear hb hbox hg; have hnb35 := NB147_142.out; have hnc35 := NB142_147.out; have hcz36_0 : w34.cell? ⟨gb147, 0, none⟩ = some (.int .u8 0) := (blk_cell BK147.out 0).trans rfl; have hcz36_1 : w34.cell? ⟨gb147, 1, none⟩ = some (.int .u8 0) := (blk_cell BK147.out 1).trans rfl; have hcz36_2 : w34.cell? ⟨gb147, 2, none⟩ = some (.int .i64 0) := (blk_cell BK147.out 2).trans rfl; have hcz36_3 : w34.cell? ⟨gb147, 3, none⟩ = some (.int .i64 0) := (blk_cell BK147.out 3).trans rfl; have hfz36_0 := blk_frozen BK147.out 0; have hfz36_1 := blk_frozen BK147.out 1; have hfz36_2 := blk_frozen BK147.out 2; have hfz36_3 := blk_frozen BK147.out 3))
                          go_meet
                          case rel => exact ⟨_, ((rd_T33 t134 x10_1).f2), ((rd_T33 t134 x10_1).f3), (by first | rfl | (simp; done) | (simp [*]; done)), (by first | rfl | (simp; done) | (simp [*]; done)), H', ⟨by have := HK1.out; first | omega | exact Nat.le_refl _⟩, ⟨by (with_reducible repeat (first | apply Kd.R_alloc | apply Kd.R_drewN | apply Kd.R_drew)); exact Kd.R_mono (Kd.R_far (p := ⟨gb147, 3, none⟩) (Kd.R_far (p := ⟨gb147, 2, none⟩) (Kd.R_far (p := ⟨gb147, 1, none⟩) (Kd.R_far (p := ⟨gb147, 0, none⟩) (Kd.R_mono HO_143000.out (fun k_ hk => (⟨hk, hk.2⟩ : _ ∧ k_ ≠ gb147))) (fun _ hk => hk.2) (.int .u8 ((rd_T33 t134 x10_1).f0))) (fun _ hk => hk.2) (.int .u8 ((rd_T33 t134 x10_1).f1))) (fun _ hk => hk.2) (.int .i64 ((rd_T33 t134 x10_1).f2))) (fun _ hk => hk.2) (.int .i64 ((rd_T33 t134 x10_1).f3))) (fun _ hk => trivial)⟩, ⟨by (with_reducible repeat (first | refine blk_drewN ?_ _ | refine blk_drew ?_ | refine blk_alloc ?_ _)); refine blk_far ?_ NB142_147.out _; (with_reducible repeat (first | refine blk_drewN ?_ _ | refine blk_drew ?_ | refine blk_alloc ?_ _)); refine blk_far ?_ NB142_147.out _; (with_reducible repeat (first | refine blk_drewN ?_ _ | refine blk_drew ?_ | refine blk_alloc ?_ _)); refine blk_far ?_ NB142_147.out _; (with_reducible repeat (first | refine blk_drewN ?_ _ | refine blk_drew ?_ | refine blk_alloc ?_ _)); refine blk_far ?_ NB142_147.out _; (with_reducible repeat (first | refine blk_drewN ?_ _ | refine blk_drew ?_ | refine blk_alloc ?_ _)); exact BK142.out⟩, ⟨by repeat (first | (with_reducible first | exact HB.out | apply below_alloc | apply pw_below_drewN | apply below_drew1 | refine below_set ?_ GE142.out | refine below_set ?_ GE147.out) | exact HB.out)⟩⟩
                        · rw [if_neg c32] at H
                          have c32b0 : (((rd_T33 t134 x10_1).f1) == 2) = false := beq_eq_false_iff_ne.mpr c32
                          have c32b1 : (((rd_T33 t134 x10_1).f1) != 2) = true := bne_iff_ne.mpr c32
                          by_cases c37 : ((rd_T33 t134 x10_1).f1) < 13
                          · rw [if_pos c37] at H
                            have c37b0 : decide (((rd_T33 t134 x10_1).f1) < 13) = true := decide_eq_true c37
                            clear c37
                            obtain rfl := Option.some.inj H
                            have hcz38_0 : wr.cell? ⟨gb142, 0, none⟩ = some (.slice Ao9 t134.length co9) := (blk_cell BK142.out 0).trans rfl
                            have hcz38_1 : wr.cell? ⟨gb142, 1, none⟩ = some (.int .u8 t137) := (blk_cell BK142.out 1).trans rfl
                            have hcz38_2 : wr.cell? ⟨gb142, 2, none⟩ = some (.int .i64 t138) := (blk_cell BK142.out 2).trans rfl
                            have hcz38_3 : wr.cell? ⟨gb142, 3, none⟩ = some (.bool t139) := (blk_cell BK142.out 3).trans rfl
                            have hcz38_4 : wr.cell? ⟨gb142, 4, none⟩ = some (.bool t140) := (blk_cell BK142.out 4).trans rfl
                            have hcz38_5 : wr.cell? ⟨gb142, 5, none⟩ = some (.bool t141) := (blk_cell BK142.out 5).trans rfl
                            have hfz38_0 := blk_frozen BK142.out 0
                            have hfz38_1 := blk_frozen BK142.out 1
                            have hfz38_2 := blk_frozen BK142.out 2
                            have hfz38_3 := blk_frozen BK142.out 3
                            have hfz38_4 := blk_frozen BK142.out 4
                            have hfz38_5 := blk_frozen BK142.out 5
                            have p146 : 0 ≤ (x10_1 : Int) := of_decide_eq_true (by first | (with_reducible assumption) | assumption)
                            have q146 : x10_1 < (t134.length : Int) := of_decide_eq_true (by first | (with_reducible assumption) | assumption)
                            obtain ⟨ad146, e146, hx146_0, hx146_1, hx146_2, hx146_3⟩ := at_T33 (Kd.R_reads' HO_143000.out).2.2 x10_1 p146 q146
                            cases e146
                            replace p146 := eq_true p146
                            replace q146 := eq_true q146
                            go_wp2_with (first | ((with_reducible refine gate_dst (N := 13) rfl ?_); refine box_event ?hg (N := 13) ?hd (cs := #[.int .u8 0, .int .u8 0, .int .i64 0, .int .i64 0]) (t := 33) ?hr ?_; (case hd => rfl); (case hg => rfl); (case hr => first | (go_simp; done) | (go_simp; rfl)); intro gb147 hg w39 hbox hb; have n0_ := Aside0.mk (Kd.R_below (Kd.R_elderB (by (with_reducible repeat (first | apply Kd.R_alloc | apply Kd.R_drewN | apply Kd.R_drew)); exact HO_143000.out) gb147 (Nat.le_of_eq hg.symm)) hb); have n1_ := Aside0.mk (blk_below (g := gb142) (o := .cells #[.slice (some ad146) t134.length co9, .int .u8 t137, .int .i64 t138, .bool t139, .bool t140, .bool t141] 25 (0, 0)) (by (with_reducible repeat (first | refine blk_drewN ?_ _ | refine blk_drew ?_ | refine blk_alloc ?_ _)); exact BK142.out) hb); have n2_ := Aside0.mk (below_step (by repeat (first | (with_reducible first | exact HB.out | apply below_alloc | apply pw_below_drewN | apply below_drew1 | refine below_set ?_ GE142.out) | exact HB.out)) hb); have n3_ := Aside0.mk (hbox); have n4_ := Aside0.mk ((by rw [hg]; exact (below_size (by repeat (first | (with_reducible first | exact HB.out | apply below_alloc | apply pw_below_drewN | apply below_drew1 | refine below_set ?_ GE142.out) | exact HB.out))) : w.heap.size ≤ gb147)); have n5_ := Aside0.mk ((by rw [hg]; exact (below_size (by repeat (first | (with_reducible first | exact HB.out | apply below_alloc | apply pw_below_drewN | apply below_drew1 | refine below_set ?_ GE142.out) | exact HB.out))) : w.heap.size ≤ gb147)); have n6_ := Aside0.mk ((by rw [hg]; exact Nat.ne_of_lt (blk_lt (g := gb142) (o := .cells #[.slice (some ad146) t134.length co9, .int .u8 t137, .int .i64 t138, .bool t139, .bool t140, .bool t141] 25 (0, 0)) (by (with_reducible repeat (first | refine blk_drewN ?_ _ | refine blk_drew ?_ | refine blk_alloc ?_ _)); exact BK142.out)) : gb142 ≠ gb147)); have n7_ := Aside0.mk ((by rw [hg]; exact Nat.ne_of_gt (blk_lt (g := gb142) (o := .cells #[.slice (some ad146) t134.length co9, .int .u8 t137, .int .i64 t138, .bool t139, .bool t140, .bool t141] 25 (0, 0)) (by (with_reducible repeat (first | refine blk_drewN ?_ _ | refine blk_drew ?_ | refine blk_alloc ?_ _)); exact BK142.out)) : gb147 ≠ gb142)); clear HO_143000; clear BK142; clear HB; have HO_143000 := n0_; have BK142 := n1_; have HB := n2_; have BK147 := n3_; have GW147 := n4_; have GE147 := n5_; have NB142_147 := n6_; have NB147_142 := n7_; clear n0_ n1_ n2_ n3_ n4_ n5_ n6_ n7_; clear hb hbox hg; have hnb40 := NB147_142.out; have hnc40 := NB142_147.out; have hcz41_0 : w39.cell? ⟨gb147, 0, none⟩ = some (.int .u8 0) := (blk_cell BK147.out 0).trans rfl; have hcz41_1 : w39.cell? ⟨gb147, 1, none⟩ = some (.int .u8 0) := (blk_cell BK147.out 1).trans rfl; have hcz41_2 : w39.cell? ⟨gb147, 2, none⟩ = some (.int .i64 0) := (blk_cell BK147.out 2).trans rfl; have hcz41_3 : w39.cell? ⟨gb147, 3, none⟩ = some (.int .i64 0) := (blk_cell BK147.out 3).trans rfl; have hfz41_0 := blk_frozen BK147.out 0; have hfz41_1 := blk_frozen BK147.out 1; have hfz41_2 := blk_frozen BK147.out 2; have hfz41_3 := blk_frozen BK147.out 3))
                            go_ret
                            exact ⟨by first | rfl | (simp [errW_none, errW_some] <;> rfl) | (simp [*, errW_none, errW_some] <;> rfl), by repeat (first | (with_reducible first | exact HB.out | apply below_alloc | apply pw_below_drewN | apply below_drew1 | refine below_set ?_ GE142.out | refine below_set ?_ GE147.out) | exact HB.out)⟩
                          · rw [if_neg c37] at H
                            have c37b0 : decide (((rd_T33 t134 x10_1).f1) < 13) = false := decide_eq_false c37
                            clear c37
                            by_cases c42 : ((rd_T33 t134 x10_1).f1) > 19
                            · rw [if_pos c42] at H
                              have c42b0 : decide (19 < ((rd_T33 t134 x10_1).f1)) = true := decide_eq_true c42
                              clear c42
                              obtain rfl := Option.some.inj H
                              have hcz43_0 : wr.cell? ⟨gb142, 0, none⟩ = some (.slice Ao9 t134.length co9) := (blk_cell BK142.out 0).trans rfl
                              have hcz43_1 : wr.cell? ⟨gb142, 1, none⟩ = some (.int .u8 t137) := (blk_cell BK142.out 1).trans rfl
                              have hcz43_2 : wr.cell? ⟨gb142, 2, none⟩ = some (.int .i64 t138) := (blk_cell BK142.out 2).trans rfl
                              have hcz43_3 : wr.cell? ⟨gb142, 3, none⟩ = some (.bool t139) := (blk_cell BK142.out 3).trans rfl
                              have hcz43_4 : wr.cell? ⟨gb142, 4, none⟩ = some (.bool t140) := (blk_cell BK142.out 4).trans rfl
                              have hcz43_5 : wr.cell? ⟨gb142, 5, none⟩ = some (.bool t141) := (blk_cell BK142.out 5).trans rfl
                              have hfz43_0 := blk_frozen BK142.out 0
                              have hfz43_1 := blk_frozen BK142.out 1
                              have hfz43_2 := blk_frozen BK142.out 2
                              have hfz43_3 := blk_frozen BK142.out 3
                              have hfz43_4 := blk_frozen BK142.out 4
                              have hfz43_5 := blk_frozen BK142.out 5
                              have p146 : 0 ≤ (x10_1 : Int) := of_decide_eq_true (by first | (with_reducible assumption) | assumption)
                              have q146 : x10_1 < (t134.length : Int) := of_decide_eq_true (by first | (with_reducible assumption) | assumption)
                              obtain ⟨ad146, e146, hx146_0, hx146_1, hx146_2, hx146_3⟩ := at_T33 (Kd.R_reads' HO_143000.out).2.2 x10_1 p146 q146
                              cases e146
                              replace p146 := eq_true p146
                              replace q146 := eq_true q146
                              go_wp2_with (first | ((with_reducible refine gate_dst (N := 13) rfl ?_); refine box_event ?hg (N := 13) ?hd (cs := #[.int .u8 0, .int .u8 0, .int .i64 0, .int .i64 0]) (t := 33) ?hr ?_; (case hd => rfl); (case hg => rfl); (case hr => first | (go_simp; done) | (go_simp; rfl)); intro gb147 hg w44 hbox hb; have n0_ := Aside0.mk (Kd.R_below (Kd.R_elderB (by (with_reducible repeat (first | apply Kd.R_alloc | apply Kd.R_drewN | apply Kd.R_drew)); exact HO_143000.out) gb147 (Nat.le_of_eq hg.symm)) hb); have n1_ := Aside0.mk (blk_below (g := gb142) (o := .cells #[.slice (some ad146) t134.length co9, .int .u8 t137, .int .i64 t138, .bool t139, .bool t140, .bool t141] 25 (0, 0)) (by (with_reducible repeat (first | refine blk_drewN ?_ _ | refine blk_drew ?_ | refine blk_alloc ?_ _)); exact BK142.out) hb); have n2_ := Aside0.mk (below_step (by repeat (first | (with_reducible first | exact HB.out | apply below_alloc | apply pw_below_drewN | apply below_drew1 | refine below_set ?_ GE142.out) | exact HB.out)) hb); have n3_ := Aside0.mk (hbox); have n4_ := Aside0.mk ((by rw [hg]; exact (below_size (by repeat (first | (with_reducible first | exact HB.out | apply below_alloc | apply pw_below_drewN | apply below_drew1 | refine below_set ?_ GE142.out) | exact HB.out))) : w.heap.size ≤ gb147)); have n5_ := Aside0.mk ((by rw [hg]; exact (below_size (by repeat (first | (with_reducible first | exact HB.out | apply below_alloc | apply pw_below_drewN | apply below_drew1 | refine below_set ?_ GE142.out) | exact HB.out))) : w.heap.size ≤ gb147)); have n6_ := Aside0.mk ((by rw [hg]; exact Nat.ne_of_lt (blk_lt (g := gb142) (o := .cells #[.slice (some ad146) t134.length co9, .int .u8 t137, .int .i64 t138, .bool t139, .bool t140, .bool t141] 25 (0, 0)) (by (with_reducible repeat (first | refine blk_drewN ?_ _ | refine blk_drew ?_ | refine blk_alloc ?_ _)); exact BK142.out)) : gb142 ≠ gb147)); have n7_ := Aside0.mk ((by rw [hg]; exact Nat.ne_of_gt (blk_lt (g := gb142) (o := .cells #[.slice (some ad146) t134.length co9, .int .u8 t137, .int .i64 t138, .bool t139, .bool t140, .bool t141] 25 (0, 0)) (by (with_reducible repeat (first | refine blk_drewN ?_ _ | refine blk_drew ?_ | refine blk_alloc ?_ _)); exact BK142.out)) : gb147 ≠ gb142)); clear HO_143000; clear BK142; clear HB; have HO_143000 := n0_; have BK142 := n1_; have HB := n2_; have BK147 := n3_; have GW147 := n4_; have GE147 := n5_; have NB142_147 := n6_; have NB147_142 := n7_; clear n0_ n1_ n2_ n3_ n4_ n5_ n6_ n7_; clear hb hbox hg; have hnb45 := NB147_142.out; have hnc45 := NB142_147.out; have hcz46_0 : w44.cell? ⟨gb147, 0, none⟩ = some (.int .u8 0) := (blk_cell BK147.out 0).trans rfl; have hcz46_1 : w44.cell? ⟨gb147, 1, none⟩ = some (.int .u8 0) := (blk_cell BK147.out 1).trans rfl; have hcz46_2 : w44.cell? ⟨gb147, 2, none⟩ = some (.int .i64 0) := (blk_cell BK147.out 2).trans rfl; have hcz46_3 : w44.cell? ⟨gb147, 3, none⟩ = some (.int .i64 0) := (blk_cell BK147.out 3).trans rfl; have hfz46_0 := blk_frozen BK147.out 0; have hfz46_1 := blk_frozen BK147.out 1; have hfz46_2 := blk_frozen BK147.out 2; have hfz46_3 := blk_frozen BK147.out 3))
                              go_ret
                              exact ⟨by first | rfl | (simp [errW_none, errW_some] <;> rfl) | (simp [*, errW_none, errW_some] <;> rfl), by repeat (first | (with_reducible first | exact HB.out | apply below_alloc | apply pw_below_drewN | apply below_drew1 | refine below_set ?_ GE142.out | refine below_set ?_ GE147.out) | exact HB.out)⟩
                            · rw [if_neg c42] at H
                              have c42b0 : decide (19 < ((rd_T33 t134 x10_1).f1)) = false := decide_eq_false c42
                              clear c42
                              have H' := Aside0.mk H
                              clear H
                              have hcz47_0 : wr.cell? ⟨gb142, 0, none⟩ = some (.slice Ao9 t134.length co9) := (blk_cell BK142.out 0).trans rfl
                              have hcz47_1 : wr.cell? ⟨gb142, 1, none⟩ = some (.int .u8 t137) := (blk_cell BK142.out 1).trans rfl
                              have hcz47_2 : wr.cell? ⟨gb142, 2, none⟩ = some (.int .i64 t138) := (blk_cell BK142.out 2).trans rfl
                              have hcz47_3 : wr.cell? ⟨gb142, 3, none⟩ = some (.bool t139) := (blk_cell BK142.out 3).trans rfl
                              have hcz47_4 : wr.cell? ⟨gb142, 4, none⟩ = some (.bool t140) := (blk_cell BK142.out 4).trans rfl
                              have hcz47_5 : wr.cell? ⟨gb142, 5, none⟩ = some (.bool t141) := (blk_cell BK142.out 5).trans rfl
                              have hfz47_0 := blk_frozen BK142.out 0
                              have hfz47_1 := blk_frozen BK142.out 1
                              have hfz47_2 := blk_frozen BK142.out 2
                              have hfz47_3 := blk_frozen BK142.out 3
                              have hfz47_4 := blk_frozen BK142.out 4
                              have hfz47_5 := blk_frozen BK142.out 5
                              have p146 : 0 ≤ (x10_1 : Int) := of_decide_eq_true (by first | (with_reducible assumption) | assumption)
                              have q146 : x10_1 < (t134.length : Int) := of_decide_eq_true (by first | (with_reducible assumption) | assumption)
                              obtain ⟨ad146, e146, hx146_0, hx146_1, hx146_2, hx146_3⟩ := at_T33 (Kd.R_reads' HO_143000.out).2.2 x10_1 p146 q146
                              cases e146
                              replace p146 := eq_true p146
                              replace q146 := eq_true q146
                              go_wp2_with (first | ((with_reducible refine gate_dst (N := 13) rfl ?_); refine box_event ?hg (N := 13) ?hd (cs := #[.int .u8 0, .int .u8 0, .int .i64 0, .int .i64 0]) (t := 33) ?hr ?_; (case hd => rfl); (case hg => rfl); (case hr => first | (go_simp; done) | (go_simp; rfl)); intro gb147 hg w48 hbox hb; have n0_ := Aside0.mk (Kd.R_below (Kd.R_elderB (by (with_reducible repeat (first | apply Kd.R_alloc | apply Kd.R_drewN | apply Kd.R_drew)); exact HO_143000.out) gb147 (Nat.le_of_eq hg.symm)) hb); have n1_ := Aside0.mk (blk_below (g := gb142) (o := .cells #[.slice (some ad146) t134.length co9, .int .u8 t137, .int .i64 t138, .bool t139, .bool t140, .bool t141] 25 (0, 0)) (by (with_reducible repeat (first | refine blk_drewN ?_ _ | refine blk_drew ?_ | refine blk_alloc ?_ _)); exact BK142.out) hb); have n2_ := Aside0.mk (below_step (by repeat (first | (with_reducible first | exact HB.out | apply below_alloc | apply pw_below_drewN | apply below_drew1 | refine below_set ?_ GE142.out) | exact HB.out)) hb); have n3_ := Aside0.mk (hbox); have n4_ := Aside0.mk ((by rw [hg]; exact (below_size (by repeat (first | (with_reducible first | exact HB.out | apply below_alloc | apply pw_below_drewN | apply below_drew1 | refine below_set ?_ GE142.out) | exact HB.out))) : w.heap.size ≤ gb147)); have n5_ := Aside0.mk ((by rw [hg]; exact (below_size (by repeat (first | (with_reducible first | exact HB.out | apply below_alloc | apply pw_below_drewN | apply below_drew1 | refine below_set ?_ GE142.out) | exact HB.out))) : w.heap.size ≤ gb147)); have n6_ := Aside0.mk ((by rw [hg]; exact Nat.ne_of_lt (blk_lt (g := gb142) (o := .cells #[.slice (some ad146) t134.length co9, .int .u8 t137, .int .i64 t138, .bool t139, .bool t140, .bool t141] 25 (0, 0)) (by (with_reducible repeat (first | refine blk_drewN ?_ _ | refine blk_drew ?_ | refine blk_alloc ?_ _)); exact BK142.out)) : gb142 ≠ gb147)); have n7_ := Aside0.mk ((by rw [hg]; exact Nat.ne_of_gt (blk_lt (g := gb142) (o := .cells #[.slice (some ad146) t134.length co9, .int .u8 t137, .int .i64 t138, .bool t139, .bool t140, .bool t141] 25 (0, 0)) (by (with_reducible repeat (first | refine blk_drewN ?_ _ | refine blk_drew ?_ | refine blk_alloc ?_ _)); exact BK142.out)) : gb147 ≠ gb142)); clear HO_143000; clear BK142; clear HB; have HO_143000 := n0_; have BK142 := n1_; have HB := n2_; have BK147 := n3_; have GW147 := n4_; have GE147 := n5_; have NB142_147 := n6_; have NB147_142 := n7_; clear n0_ n1_ n2_ n3_ n4_ n5_ n6_ n7_; clear hb hbox hg; have hnb49 := NB147_142.out; have hnc49 := NB142_147.out; have hcz50_0 : w48.cell? ⟨gb147, 0, none⟩ = some (.int .u8 0) := (blk_cell BK147.out 0).trans rfl; have hcz50_1 : w48.cell? ⟨gb147, 1, none⟩ = some (.int .u8 0) := (blk_cell BK147.out 1).trans rfl; have hcz50_2 : w48.cell? ⟨gb147, 2, none⟩ = some (.int .i64 0) := (blk_cell BK147.out 2).trans rfl; have hcz50_3 : w48.cell? ⟨gb147, 3, none⟩ = some (.int .i64 0) := (blk_cell BK147.out 3).trans rfl; have hfz50_0 := blk_frozen BK147.out 0; have hfz50_1 := blk_frozen BK147.out 1; have hfz50_2 := blk_frozen BK147.out 2; have hfz50_3 := blk_frozen BK147.out 3))
                              go_meet
                              case rel => exact ⟨_, ((rd_T33 t134 x10_1).f2), ((rd_T33 t134 x10_1).f3), (by first | rfl | (simp; done) | (simp [*]; done)), (by first | rfl | (simp; done) | (simp [*]; done)), H', ⟨by have := HK1.out; first | omega | exact Nat.le_refl _⟩, ⟨by (with_reducible repeat (first | apply Kd.R_alloc | apply Kd.R_drewN | apply Kd.R_drew)); exact Kd.R_mono (Kd.R_far (p := ⟨gb147, 3, none⟩) (Kd.R_far (p := ⟨gb147, 2, none⟩) (Kd.R_far (p := ⟨gb147, 1, none⟩) (Kd.R_far (p := ⟨gb147, 0, none⟩) (Kd.R_mono HO_143000.out (fun k_ hk => (⟨hk, hk.2⟩ : _ ∧ k_ ≠ gb147))) (fun _ hk => hk.2) (.int .u8 ((rd_T33 t134 x10_1).f0))) (fun _ hk => hk.2) (.int .u8 ((rd_T33 t134 x10_1).f1))) (fun _ hk => hk.2) (.int .i64 ((rd_T33 t134 x10_1).f2))) (fun _ hk => hk.2) (.int .i64 ((rd_T33 t134 x10_1).f3))) (fun _ hk => trivial)⟩, ⟨by (with_reducible repeat (first | refine blk_drewN ?_ _ | refine blk_drew ?_ | refine blk_alloc ?_ _)); refine blk_far ?_ NB142_147.out _; (with_reducible repeat (first | refine blk_drewN ?_ _ | refine blk_drew ?_ | refine blk_alloc ?_ _)); refine blk_far ?_ NB142_147.out _; (with_reducible repeat (first | refine blk_drewN ?_ _ | refine blk_drew ?_ | refine blk_alloc ?_ _)); refine blk_far ?_ NB142_147.out _; (with_reducible repeat (first | refine blk_drewN ?_ _ | refine blk_drew ?_ | refine blk_alloc ?_ _)); refine blk_far ?_ NB142_147.out _; (with_reducible repeat (first | refine blk_drewN ?_ _ | refine blk_drew ?_ | refine blk_alloc ?_ _)); exact BK142.out⟩, ⟨by repeat (first | (with_reducible first | exact HB.out | apply below_alloc | apply pw_below_drewN | apply below_drew1 | refine below_set ?_ GE142.out | refine below_set ?_ GE147.out) | exact HB.out)⟩⟩
                · rw [if_neg c16] at H
                  have c16b0 : (((rd_T33 t134 x10_1).f0) == 3) = false := beq_eq_false_iff_ne.mpr c16
                  have c16b1 : (((rd_T33 t134 x10_1).f0) != 3) = true := bne_iff_ne.mpr c16
                  obtain rfl := Option.some.inj H
                  have hcz51_0 : wr.cell? ⟨gb142, 0, none⟩ = some (.slice Ao9 t134.length co9) := (blk_cell BK142.out 0).trans rfl
                  have hcz51_1 : wr.cell? ⟨gb142, 1, none⟩ = some (.int .u8 t137) := (blk_cell BK142.out 1).trans rfl
                  have hcz51_2 : wr.cell? ⟨gb142, 2, none⟩ = some (.int .i64 t138) := (blk_cell BK142.out 2).trans rfl
                  have hcz51_3 : wr.cell? ⟨gb142, 3, none⟩ = some (.bool t139) := (blk_cell BK142.out 3).trans rfl
                  have hcz51_4 : wr.cell? ⟨gb142, 4, none⟩ = some (.bool t140) := (blk_cell BK142.out 4).trans rfl
                  have hcz51_5 : wr.cell? ⟨gb142, 5, none⟩ = some (.bool t141) := (blk_cell BK142.out 5).trans rfl
                  have hfz51_0 := blk_frozen BK142.out 0
                  have hfz51_1 := blk_frozen BK142.out 1
                  have hfz51_2 := blk_frozen BK142.out 2
                  have hfz51_3 := blk_frozen BK142.out 3
                  have hfz51_4 := blk_frozen BK142.out 4
                  have hfz51_5 := blk_frozen BK142.out 5
                  have p146 : 0 ≤ (x10_1 : Int) := of_decide_eq_true (by first | (with_reducible assumption) | assumption)
                  have q146 : x10_1 < (t134.length : Int) := of_decide_eq_true (by first | (with_reducible assumption) | assumption)
                  obtain ⟨ad146, e146, hx146_0, hx146_1, hx146_2, hx146_3⟩ := at_T33 (Kd.R_reads' HO_143000.out).2.2 x10_1 p146 q146
                  cases e146
                  replace p146 := eq_true p146
                  replace q146 := eq_true q146
                  go_wp2_with (first | ((with_reducible refine gate_dst (N := 13) rfl ?_); refine box_event ?hg (N := 13) ?hd (cs := #[.int .u8 0, .int .u8 0, .int .i64 0, .int .i64 0]) (t := 33) ?hr ?_; (case hd => rfl); (case hg => rfl); (case hr => first | (go_simp; done) | (go_simp; rfl)); intro gb147 hg w52 hbox hb; have n0_ := Aside0.mk (Kd.R_below (Kd.R_elderB (by (with_reducible repeat (first | apply Kd.R_alloc | apply Kd.R_drewN | apply Kd.R_drew)); exact HO_143000.out) gb147 (Nat.le_of_eq hg.symm)) hb); have n1_ := Aside0.mk (blk_below (g := gb142) (o := .cells #[.slice (some ad146) t134.length co9, .int .u8 t137, .int .i64 t138, .bool t139, .bool t140, .bool t141] 25 (0, 0)) (by (with_reducible repeat (first | refine blk_drewN ?_ _ | refine blk_drew ?_ | refine blk_alloc ?_ _)); exact BK142.out) hb); have n2_ := Aside0.mk (below_step (by repeat (first | (with_reducible first | exact HB.out | apply below_alloc | apply pw_below_drewN | apply below_drew1 | refine below_set ?_ GE142.out) | exact HB.out)) hb); have n3_ := Aside0.mk (hbox); have n4_ := Aside0.mk ((by rw [hg]; exact (below_size (by repeat (first | (with_reducible first | exact HB.out | apply below_alloc | apply pw_below_drewN | apply below_drew1 | refine below_set ?_ GE142.out) | exact HB.out))) : w.heap.size ≤ gb147)); have n5_ := Aside0.mk ((by rw [hg]; exact (below_size (by repeat (first | (with_reducible first | exact HB.out | apply below_alloc | apply pw_below_drewN | apply below_drew1 | refine below_set ?_ GE142.out) | exact HB.out))) : w.heap.size ≤ gb147)); have n6_ := Aside0.mk ((by rw [hg]; exact Nat.ne_of_lt (blk_lt (g := gb142) (o := .cells #[.slice (some ad146) t134.length co9, .int .u8 t137, .int .i64 t138, .bool t139, .bool t140, .bool t141] 25 (0, 0)) (by (with_reducible repeat (first | refine blk_drewN ?_ _ | refine blk_drew ?_ | refine blk_alloc ?_ _)); exact BK142.out)) : gb142 ≠ gb147)); have n7_ := Aside0.mk ((by rw [hg]; exact Nat.ne_of_gt (blk_lt (g := gb142) (o := .cells #[.slice (some ad146) t134.length co9, .int .u8 t137, .int .i64 t138, .bool t139, .bool t140, .bool t141] 25 (0, 0)) (by (with_reducible repeat (first | refine blk_drewN ?_ _ | refine blk_drew ?_ | refine blk_alloc ?_ _)); exact BK142.out)) : gb147 ≠ gb142)); clear HO_143000; clear BK142; clear HB; have HO_143000 := n0_; have BK142 := n1_; have HB := n2_; have BK147 := n3_; have GW147 := n4_; have GE147 := n5_; have NB142_147 := n6_; have NB147_142 := n7_; clear n0_ n1_ n2_ n3_ n4_ n5_ n6_ n7_; clear hb hbox hg; have hnb53 := NB147_142.out; have hnc53 := NB142_147.out; have hcz54_0 : w52.cell? ⟨gb147, 0, none⟩ = some (.int .u8 0) := (blk_cell BK147.out 0).trans rfl; have hcz54_1 : w52.cell? ⟨gb147, 1, none⟩ = some (.int .u8 0) := (blk_cell BK147.out 1).trans rfl; have hcz54_2 : w52.cell? ⟨gb147, 2, none⟩ = some (.int .i64 0) := (blk_cell BK147.out 2).trans rfl; have hcz54_3 : w52.cell? ⟨gb147, 3, none⟩ = some (.int .i64 0) := (blk_cell BK147.out 3).trans rfl; have hfz54_0 := blk_frozen BK147.out 0; have hfz54_1 := blk_frozen BK147.out 1; have hfz54_2 := blk_frozen BK147.out 2; have hfz54_3 := blk_frozen BK147.out 3))
                  go_ret
                  exact ⟨by first | rfl | (simp [errW_none, errW_some] <;> rfl) | (simp [*, errW_none, errW_some] <;> rfl), by repeat (first | (with_reducible first | exact HB.out | apply below_alloc | apply pw_below_drewN | apply below_drew1 | refine below_set ?_ GE142.out | refine below_set ?_ GE147.out) | exact HB.out)⟩
              · rw [if_neg c15] at H
                exact absurd H (by simp)
            · rw [if_neg c14] at H
              have c14b0 : decide (x10_1 < (t134.length : Int)) = false := decide_eq_false c14
              clear c14
              (first | rw [c14b0] | (simp only [i64_w, i32_w]; rw [c14b0]) | skip)
              have H' := Aside0.mk H
              clear H
              go_wp2
              go_meet
              case rel => exact ⟨_, (t143), (t143), (by first | rfl | (simp; done) | (simp [*]; done)), (by first | rfl | (simp; done) | (simp [*]; done)), H', ⟨by have := HK1.out; first | omega | exact Nat.le_refl _⟩, ⟨by (with_reducible repeat (first | apply Kd.R_alloc | apply Kd.R_drewN | apply Kd.R_drew)); exact HO_143000.out⟩, ⟨by (with_reducible repeat (first | refine blk_drewN ?_ _ | refine blk_drew ?_ | refine blk_alloc ?_ _)); exact BK142.out⟩, ⟨by repeat (first | (with_reducible first | exact HB.out | apply below_alloc | apply pw_below_drewN | apply below_drew1 | refine below_set ?_ GE142.out) | exact HB.out)⟩⟩
          case rest =>
            clear HC12
            try clear c1
            try clear p1
            try clear q1
            try clear hx1
            try clear c2
            try clear p2
            try clear c3
            try clear c4
            try clear c4b0
            try clear c4b1
            try clear c5
            try clear c10
            try clear c11
            try clear c11b0
            try clear c13
            try clear c14
            try clear c14b0
            try clear p14
            try clear q14
            try clear hx14
            try clear c15
            try clear c15b0
            try clear c16
            try clear c16b0
            try clear c16b1
            try clear c17
            try clear c17b0
            try clear c20
            try clear c22
            try clear c22b0
            try clear c25
            try clear c27
            try clear c27b0
            try clear c30
            try clear c32
            try clear c32b0
            try clear c32b1
            try clear c35
            try clear c37
            try clear c37b0
            try clear c40
            try clear c42
            try clear c42b0
            try clear c45
            try clear c49
            try clear c53
            try clear hcz10_0
            try clear hcz10_1
            try clear hcz10_2
            try clear hcz10_3
            try clear hcz10_4
            try clear hcz10_5
            try clear hcz13_0
            try clear hcz13_1
            try clear hcz13_2
            try clear hcz13_3
            try clear hcz13_4
            try clear hcz13_5
            try clear hcz18_0
            try clear hcz18_1
            try clear hcz18_2
            try clear hcz18_3
            try clear hcz18_4
            try clear hcz18_5
            try clear hcz21_0
            try clear hcz21_1
            try clear hcz21_2
            try clear hcz21_3
            try clear hcz23_0
            try clear hcz23_1
            try clear hcz23_2
            try clear hcz23_3
            try clear hcz23_4
            try clear hcz23_5
            try clear hcz26_0
            try clear hcz26_1
            try clear hcz26_2
            try clear hcz26_3
            try clear hcz28_0
            try clear hcz28_1
            try clear hcz28_2
            try clear hcz28_3
            try clear hcz28_4
            try clear hcz28_5
            try clear hcz31_0
            try clear hcz31_1
            try clear hcz31_2
            try clear hcz31_3
            try clear hcz33_0
            try clear hcz33_1
            try clear hcz33_2
            try clear hcz33_3
            try clear hcz33_4
            try clear hcz33_5
            try clear hcz36_0
            try clear hcz36_1
            try clear hcz36_2
            try clear hcz36_3
            try clear hcz38_0
            try clear hcz38_1
            try clear hcz38_2
            try clear hcz38_3
            try clear hcz38_4
            try clear hcz38_5
            try clear hcz41_0
            try clear hcz41_1
            try clear hcz41_2
            try clear hcz41_3
            try clear hcz43_0
            try clear hcz43_1
            try clear hcz43_2
            try clear hcz43_3
            try clear hcz43_4
            try clear hcz43_5
            try clear hcz46_0
            try clear hcz46_1
            try clear hcz46_2
            try clear hcz46_3
            try clear hcz47_0
            try clear hcz47_1
            try clear hcz47_2
            try clear hcz47_3
            try clear hcz47_4
            try clear hcz47_5
            try clear hcz50_0
            try clear hcz50_1
            try clear hcz50_2
            try clear hcz50_3
            try clear hcz51_0
            try clear hcz51_1
            try clear hcz51_2
            try clear hcz51_3
            try clear hcz51_4
            try clear hcz51_5
            try clear hcz54_0
            try clear hcz54_1
            try clear hcz54_2
            try clear hcz54_3
            try clear hfz10_0
            try clear hfz10_1
            try clear hfz10_2
            try clear hfz10_3
            try clear hfz10_4
            try clear hfz10_5
            try clear hfz13_0
            try clear hfz13_1
            try clear hfz13_2
            try clear hfz13_3
            try clear hfz13_4
            try clear hfz13_5
            try clear hfz18_0
            try clear hfz18_1
            try clear hfz18_2
            try clear hfz18_3
            try clear hfz18_4
            try clear hfz18_5
            try clear hfz21_0
            try clear hfz21_1
            try clear hfz21_2
            try clear hfz21_3
            try clear hfz23_0
            try clear hfz23_1
            try clear hfz23_2
            try clear hfz23_3
            try clear hfz23_4
            try clear hfz23_5
            try clear hfz26_0
            try clear hfz26_1
            try clear hfz26_2
            try clear hfz26_3
            try clear hfz28_0
            try clear hfz28_1
            try clear hfz28_2
            try clear hfz28_3
            try clear hfz28_4
            try clear hfz28_5
            try clear hfz31_0
            try clear hfz31_1
            try clear hfz31_2
            try clear hfz31_3
            try clear hfz33_0
            try clear hfz33_1
            try clear hfz33_2
            try clear hfz33_3
            try clear hfz33_4
            try clear hfz33_5
            try clear hfz36_0
            try clear hfz36_1
            try clear hfz36_2
            try clear hfz36_3
            try clear hfz38_0
            try clear hfz38_1
            try clear hfz38_2
            try clear hfz38_3
            try clear hfz38_4
            try clear hfz38_5
            try clear hfz41_0
            try clear hfz41_1
            try clear hfz41_2
            try clear hfz41_3
            try clear hfz43_0
            try clear hfz43_1
            try clear hfz43_2
            try clear hfz43_3
            try clear hfz43_4
            try clear hfz43_5
            try clear hfz46_0
            try clear hfz46_1
            try clear hfz46_2
            try clear hfz46_3
            try clear hfz47_0
            try clear hfz47_1
            try clear hfz47_2
            try clear hfz47_3
            try clear hfz47_4
            try clear hfz47_5
            try clear hfz50_0
            try clear hfz50_1
            try clear hfz50_2
            try clear hfz50_3
            try clear hfz51_0
            try clear hfz51_1
            try clear hfz51_2
            try clear hfz51_3
            try clear hfz51_4
            try clear hfz51_5
            try clear hfz54_0
            try clear hfz54_1
            try clear hfz54_2
            try clear hfz54_3
            try clear hx146_0
            try clear hx146_1
            try clear hx146_2
            try clear hx146_3
            try clear p146
            try clear p2
            try clear q146
            obtain ⟨kq, x11_11, x12_11, rfl, rfl, HA, HJ11, HO_143000, BK142, HB⟩ := hcut
            cases kq with
            | zero => exact absurd HA.out (by simp [indenturelaw11_PytokenCovers.j1])
            | succ kj11 =>
              have H := HA.out
              clear HA
              simp only [indenturelaw11_PytokenCovers.j1] at H
              have H' := Aside0.mk H
              clear H
              go_wp2
              go_loopg [14] kj11 (fun kq v14 w' => ∃ (x14_3 : Int), v14 = .int .i64 x14_3 ∧ Aside0 (indenturelaw11_PytokenCovers.l1 kq a0 t143 x10_1 x11_11 x12_11 x14_3 t134 t137 t138 t139 t140 t141 = some r) ∧ Aside0 (kq ≤ kj11) ∧ Aside0 (Kd.R k33 33 w' w.heap.size (fun _ => True) (.slice Ao9 t134.length co9) t134) ∧ Aside0 (w'.heap[gb142]? = some (.cells #[(.slice Ao9 t134.length co9), .int .u8 t137, .int .i64 t138, .bool t139, .bool t140, .bool t141] 25 (0, 0))) ∧ Aside0 (Below w.heap.size w w'))
              case atStart => exact ⟨(x9_1), (by first | rfl | (simp; done) | (simp [*]; done)), H', ⟨Nat.le_refl _⟩, ⟨by (with_reducible repeat (first | apply Kd.R_alloc | apply Kd.R_drewN | apply Kd.R_drew)); exact HO_143000.out⟩, ⟨by (with_reducible repeat (first | refine blk_drewN ?_ _ | refine blk_drew ?_ | refine blk_alloc ?_ _)); exact BK142.out⟩, ⟨by repeat (first | (with_reducible first | exact HB.out | apply below_alloc | apply pw_below_drewN | apply below_drew1 | refine below_set ?_ GE142.out) | exact HB.out)⟩⟩
              case round =>
                clear H'
                try clear c1
                try clear p1
                try clear q1
                try clear hx1
                try clear c2
                try clear p2
                try clear c3
                try clear c4
                try clear c4b0
                try clear c4b1
                try clear c5
                try clear c10
                try clear c11
                try clear c11b0
                try clear c13
                try clear c14
                try clear c14b0
                try clear p14
                try clear q14
                try clear hx14
                try clear c15
                try clear c15b0
                try clear c16
                try clear c16b0
                try clear c16b1
                try clear c17
                try clear c17b0
                try clear c20
                try clear c22
                try clear c22b0
                try clear c25
                try clear c27
                try clear c27b0
                try clear c30
                try clear c32
                try clear c32b0
                try clear c32b1
                try clear c35
                try clear c37
                try clear c37b0
                try clear c40
                try clear c42
                try clear c42b0
                try clear c45
                try clear c49
                try clear c53
                try clear hcz10_0
                try clear hcz10_1
                try clear hcz10_2
                try clear hcz10_3
                try clear hcz10_4
                try clear hcz10_5
                try clear hcz13_0
                try clear hcz13_1
                try clear hcz13_2
                try clear hcz13_3
                try clear hcz13_4
                try clear hcz13_5
                try clear hcz18_0
                try clear hcz18_1
                try clear hcz18_2
                try clear hcz18_3
                try clear hcz18_4
                try clear hcz18_5
                try clear hcz21_0
                try clear hcz21_1
                try clear hcz21_2
                try clear hcz21_3
                try clear hcz23_0
                try clear hcz23_1
                try clear hcz23_2
                try clear hcz23_3
                try clear hcz23_4
                try clear hcz23_5
                try clear hcz26_0
                try clear hcz26_1
                try clear hcz26_2
                try clear hcz26_3
                try clear hcz28_0
                try clear hcz28_1
                try clear hcz28_2
                try clear hcz28_3
                try clear hcz28_4
                try clear hcz28_5
                try clear hcz31_0
                try clear hcz31_1
                try clear hcz31_2
                try clear hcz31_3
                try clear hcz33_0
                try clear hcz33_1
                try clear hcz33_2
                try clear hcz33_3
                try clear hcz33_4
                try clear hcz33_5
                try clear hcz36_0
                try clear hcz36_1
                try clear hcz36_2
                try clear hcz36_3
                try clear hcz38_0
                try clear hcz38_1
                try clear hcz38_2
                try clear hcz38_3
                try clear hcz38_4
                try clear hcz38_5
                try clear hcz41_0
                try clear hcz41_1
                try clear hcz41_2
                try clear hcz41_3
                try clear hcz43_0
                try clear hcz43_1
                try clear hcz43_2
                try clear hcz43_3
                try clear hcz43_4
                try clear hcz43_5
                try clear hcz46_0
                try clear hcz46_1
                try clear hcz46_2
                try clear hcz46_3
                try clear hcz47_0
                try clear hcz47_1
                try clear hcz47_2
                try clear hcz47_3
                try clear hcz47_4
                try clear hcz47_5
                try clear hcz50_0
                try clear hcz50_1
                try clear hcz50_2
                try clear hcz50_3
                try clear hcz51_0
                try clear hcz51_1
                try clear hcz51_2
                try clear hcz51_3
                try clear hcz51_4
                try clear hcz51_5
                try clear hcz54_0
                try clear hcz54_1
                try clear hcz54_2
                try clear hcz54_3
                try clear hfz10_0
                try clear hfz10_1
                try clear hfz10_2
                try clear hfz10_3
                try clear hfz10_4
                try clear hfz10_5
                try clear hfz13_0
                try clear hfz13_1
                try clear hfz13_2
                try clear hfz13_3
                try clear hfz13_4
                try clear hfz13_5
                try clear hfz18_0
                try clear hfz18_1
                try clear hfz18_2
                try clear hfz18_3
                try clear hfz18_4
                try clear hfz18_5
                try clear hfz21_0
                try clear hfz21_1
                try clear hfz21_2
                try clear hfz21_3
                try clear hfz23_0
                try clear hfz23_1
                try clear hfz23_2
                try clear hfz23_3
                try clear hfz23_4
                try clear hfz23_5
                try clear hfz26_0
                try clear hfz26_1
                try clear hfz26_2
                try clear hfz26_3
                try clear hfz28_0
                try clear hfz28_1
                try clear hfz28_2
                try clear hfz28_3
                try clear hfz28_4
                try clear hfz28_5
                try clear hfz31_0
                try clear hfz31_1
                try clear hfz31_2
                try clear hfz31_3
                try clear hfz33_0
                try clear hfz33_1
                try clear hfz33_2
                try clear hfz33_3
                try clear hfz33_4
                try clear hfz33_5
                try clear hfz36_0
                try clear hfz36_1
                try clear hfz36_2
                try clear hfz36_3
                try clear hfz38_0
                try clear hfz38_1
                try clear hfz38_2
                try clear hfz38_3
                try clear hfz38_4
                try clear hfz38_5
                try clear hfz41_0
                try clear hfz41_1
                try clear hfz41_2
                try clear hfz41_3
                try clear hfz43_0
                try clear hfz43_1
                try clear hfz43_2
                try clear hfz43_3
                try clear hfz43_4
                try clear hfz43_5
                try clear hfz46_0
                try clear hfz46_1
                try clear hfz46_2
                try clear hfz46_3
                try clear hfz47_0
                try clear hfz47_1
                try clear hfz47_2
                try clear hfz47_3
                try clear hfz47_4
                try clear hfz47_5
                try clear hfz50_0
                try clear hfz50_1
                try clear hfz50_2
                try clear hfz50_3
                try clear hfz51_0
                try clear hfz51_1
                try clear hfz51_2
                try clear hfz51_3
                try clear hfz51_4
                try clear hfz51_5
                try clear hfz54_0
                try clear hfz54_1
                try clear hfz54_2
                try clear hfz54_3
                try clear hx146_0
                try clear hx146_1
                try clear hx146_2
                try clear hx146_3
                try clear p1
                try clear p14
                try clear p146
                try clear p2
                try clear q1
                try clear q14
                try clear q146
                obtain ⟨x14_3, rfl, HA, HK3, HO_143000, BK142, HB⟩ := hrel
                cases gk with
                | zero => exact absurd HA.out (by simp [indenturelaw11_PytokenCovers.l1])
                | succ k3 =>
                  have H := HA.out
                  clear HA
                  simp only [indenturelaw11_PytokenCovers.l1] at H
                  by_cases c55 : x14_3 < x11_11
                  · rw [if_pos c55] at H
                    have c55b0 : decide (x14_3 < x11_11) = true := decide_eq_true c55
                    clear c55
                    by_cases c56 : 0 ≤ x14_3
                    · rw [if_pos c56] at H
                      have c56b0 : decide (0 ≤ x14_3) = true := decide_eq_true c56
                      clear c56
                      by_cases c57 : x14_3 < (a0.size : Int)
                      · rw [if_pos c57] at H
                        have c57b0 : decide (x14_3 < (a0.size : Int)) = true := decide_eq_true c57
                        clear c57
                        replace H := Option.bind_eq_some_iff.mp H
                        obtain ⟨t148, A590, H⟩ := H
                        replace H : (if t148 = true then (indenturelaw11_PytokenCovers.l1 k3 a0 t143 x10_1 x11_11 x12_11 (wrap64 (x14_3 + 1)) t134 t137 t138 t139 t140 t141) else (some false)) = some r := H
                        have A59 := Aside0.mk A590
                        clear A590
                        by_cases c60 : t148 = true
                        · subst c60
                          have H1 : (indenturelaw11_PytokenCovers.l1 k3 a0 t143 x10_1 x11_11 x12_11 (wrap64 (x14_3 + 1)) t134 t137 t138 t139 t140 t141) = some r := by rw [if_pos rfl] at H; exact H
                          clear H
                          have H := H1
                          clear H1
                          have H' := Aside0.mk H
                          clear H
                          have p58 : 0 ≤ (x14_3 : Int) := of_decide_eq_true (by first | (with_reducible assumption) | assumption)
                          have q58 : x14_3 < (a0.size : Int) := of_decide_eq_true (by first | (with_reducible assumption) | assumption)
                          have hx58 := bt_at a0 x14_3
                          replace p58 := eq_true p58
                          replace q58 := eq_true q58
                          go_wp2_with (first | ((with_reducible refine gate_callee (f := 14) rfl ?_); refine goesL_ (some 93) rfl rfl Try.func14 (by kernel_rfl) rfl #[.int .u8 (bt a0 x14_3)] rfl (by (try simp only [List.map_toArray, List.map_cons, List.map_nil]); first | done | rfl | (simp only [List.length_drop, List.length_take]; rfl)) ?_; (with_reducible refine (indenturelaw11_blank.calls (bt a0 x14_3) true _ A59.out).mono ?_); rintro e w' ⟨rfl, ⟨nd, rfl⟩⟩; refine ⟨_, rfl, ?_⟩))
                          go_roundg k3
                          case measure => have := HK1.out; have := HJ11.out; have := HK3.out; omega
                          case rel => exact ⟨(wrap64 (x14_3 + 1)), (by first | rfl | (simp; done) | (simp [*]; done)), H', ⟨by have := HK1.out; have := HJ11.out; have := HK3.out; omega⟩, ⟨by (with_reducible repeat (first | apply Kd.R_alloc | apply Kd.R_drewN | apply Kd.R_drew)); exact HO_143000.out⟩, ⟨by (with_reducible repeat (first | refine blk_drewN ?_ _ | refine blk_drew ?_ | refine blk_alloc ?_ _)); exact BK142.out⟩, ⟨by repeat (first | (with_reducible first | exact HB.out | apply below_alloc | apply pw_below_drewN | apply below_drew1 | refine below_set ?_ GE142.out) | exact HB.out)⟩⟩
                        · replace c60 := Bool.eq_false_iff.mpr c60
                          subst c60
                          have H1 : (some false) = some r := by rw [if_neg (show ¬ (false = true) by decide)] at H; exact H
                          clear H
                          have H := H1
                          clear H1
                          obtain rfl := Option.some.inj H
                          have p58 : 0 ≤ (x14_3 : Int) := of_decide_eq_true (by first | (with_reducible assumption) | assumption)
                          have q58 : x14_3 < (a0.size : Int) := of_decide_eq_true (by first | (with_reducible assumption) | assumption)
                          have hx58 := bt_at a0 x14_3
                          replace p58 := eq_true p58
                          replace q58 := eq_true q58
                          go_wp2_with (first | ((with_reducible refine gate_callee (f := 14) rfl ?_); refine goesL_ (some 93) rfl rfl Try.func14 (by kernel_rfl) rfl #[.int .u8 (bt a0 x14_3)] rfl (by (try simp only [List.map_toArray, List.map_cons, List.map_nil]); first | done | rfl | (simp only [List.length_drop, List.length_take]; rfl)) ?_; (with_reducible refine (indenturelaw11_blank.calls (bt a0 x14_3) false _ A59.out).mono ?_); rintro e w' ⟨rfl, ⟨nd, rfl⟩⟩; refine ⟨_, rfl, ?_⟩))
                          go_ret
                          exact ⟨by first | rfl | (simp [errW_none, errW_some] <;> rfl) | (simp [*, errW_none, errW_some] <;> rfl), by repeat (first | (with_reducible first | exact HB.out | apply below_alloc | apply pw_below_drewN | apply below_drew1 | refine below_set ?_ GE142.out) | exact HB.out)⟩
                      · rw [if_neg c57] at H
                        exact absurd H (by simp)
                    · rw [if_neg c56] at H
                      exact absurd H (by simp)
                  · rw [if_neg c55] at H
                    have c55b0 : decide (x14_3 < x11_11) = false := decide_eq_false c55
                    clear c55
                    have H' := Aside0.mk H
                    clear H
                    go_wp2
                    go_roundg k3
                    case measure => have := HK1.out; have := HJ11.out; have := HK3.out; omega
                    case rel => exact ⟨(x12_11), (wrap64 (x10_1 + 1)), (by first | rfl | (simp; done) | (simp [*]; done)), (by first | rfl | (simp; done) | (simp [*]; done)), H', ⟨by have := HK1.out; have := HJ11.out; have := HK3.out; omega⟩, ⟨by (with_reducible repeat (first | apply Kd.R_alloc | apply Kd.R_drewN | apply Kd.R_drew)); exact HO_143000.out⟩, ⟨by (with_reducible repeat (first | refine blk_drewN ?_ _ | refine blk_drew ?_ | refine blk_alloc ?_ _)); exact BK142.out⟩, ⟨by repeat (first | (with_reducible first | exact HB.out | apply below_alloc | apply pw_below_drewN | apply below_drew1 | refine below_set ?_ GE142.out) | exact HB.out)⟩⟩
        · rw [if_neg c11] at H
          have c11b0 : decide (x10_1 ≤ (t134.length : Int)) = false := decide_eq_false c11
          clear c11
          by_cases c61 : t137 ≤ 4
          · rw [if_pos c61] at H
            have c61b0 : decide (t137 ≤ 4) = true := decide_eq_true c61
            clear c61
            by_cases c62 : t138 ≥ 0
            · rw [if_pos c62] at H
              have c62b0 : decide (0 ≤ t138) = true := decide_eq_true c62
              clear c62
              by_cases c63 : t138 ≤ 1048576
              · rw [if_pos c63] at H
                have c63b0 : decide (t138 ≤ 1048576) = true := decide_eq_true c63
                clear c63
                by_cases c64 : t141 = true
                · subst c64
                  have H1 : (if t140 = true then (if t138 = 0 then ((indenturelaw11_reads.f).bind fun t144 => (some t144)) else (some false)) else (some false)) = some r := by rw [if_pos rfl] at H; exact H
                  clear H
                  have H := H1
                  clear H1
                  by_cases c65 : t140 = true
                  · subst c65
                    have H1 : (if t138 = 0 then ((indenturelaw11_reads.f).bind fun t144 => (some t144)) else (some false)) = some r := by rw [if_pos rfl] at H; exact H
                    clear H
                    have H := H1
                    clear H1
                    by_cases c66 : t138 = 0
                    · rw [if_pos c66] at H
                      have c66b0 : (t138 == 0) = true := beq_iff_eq.mpr c66
                      have c66b1 : (t138 != 0) = false := bne_eq_false_iff_eq.mpr c66
                      clear c66
                      replace H := Option.bind_eq_some_iff.mp H
                      obtain ⟨t144, A670, H⟩ := H
                      replace H : (some t144) = some r := H
                      have A67 := Aside0.mk A670
                      clear A670
                      obtain rfl := Option.some.inj H
                      have hcz68_0 : wr.cell? ⟨gb142, 0, none⟩ = some (.slice Ao9 t134.length co9) := (blk_cell BK142.out 0).trans rfl
                      have hcz68_1 : wr.cell? ⟨gb142, 1, none⟩ = some (.int .u8 t137) := (blk_cell BK142.out 1).trans rfl
                      have hcz68_2 : wr.cell? ⟨gb142, 2, none⟩ = some (.int .i64 t138) := (blk_cell BK142.out 2).trans rfl
                      have hcz68_3 : wr.cell? ⟨gb142, 3, none⟩ = some (.bool t139) := (blk_cell BK142.out 3).trans rfl
                      have hcz68_4 : wr.cell? ⟨gb142, 4, none⟩ = some (.bool true) := (blk_cell BK142.out 4).trans rfl
                      have hcz68_5 : wr.cell? ⟨gb142, 5, none⟩ = some (.bool true) := (blk_cell BK142.out 5).trans rfl
                      have hfz68_0 := blk_frozen BK142.out 0
                      have hfz68_1 := blk_frozen BK142.out 1
                      have hfz68_2 := blk_frozen BK142.out 2
                      have hfz68_3 := blk_frozen BK142.out 3
                      have hfz68_4 := blk_frozen BK142.out 4
                      have hfz68_5 := blk_frozen BK142.out 5
                      go_wp2_with (first | (go_at_call 12; (with_reducible refine (indenturelaw11_reads.calls  t144 _ A67.out).mono ?_); rintro e w69 ⟨rfl, hb⟩; have n0_ := Aside0.mk (Kd.R_below (by (with_reducible repeat (first | apply Kd.R_alloc | apply Kd.R_drewN | apply Kd.R_drew)); exact HO_143000.out) hb); have n1_ := Aside0.mk (blk_below (g := gb142) (o := .cells #[.slice Ao9 t134.length co9, .int .u8 t137, .int .i64 t138, .bool t139, .bool true, .bool true] 25 (0, 0)) (by (with_reducible repeat (first | refine blk_drewN ?_ _ | refine blk_drew ?_ | refine blk_alloc ?_ _)); exact BK142.out) hb); have n2_ := Aside0.mk (below_step (by repeat (first | (with_reducible first | exact HB.out | apply below_alloc | apply pw_below_drewN | apply below_drew1 | refine below_set ?_ GE142.out) | exact HB.out)) hb); clear HO_143000; clear BK142; clear HB; have HO_143000 := n0_; have BK142 := n1_; have HB := n2_; clear n0_ n1_ n2_; (try clear hb); (try clear hb2); (try clear hk); (try clear hi)))
                      go_ret
                      exact ⟨by first | rfl | (simp [errW_none, errW_some] <;> rfl) | (simp [*, errW_none, errW_some] <;> rfl), by repeat (first | (with_reducible first | exact HB.out | apply below_alloc | apply pw_below_drewN | apply below_drew1 | refine below_set ?_ GE142.out) | exact HB.out)⟩
                    · rw [if_neg c66] at H
                      have c66b0 : (t138 == 0) = false := beq_eq_false_iff_ne.mpr c66
                      have c66b1 : (t138 != 0) = true := bne_iff_ne.mpr c66
                      obtain rfl := Option.some.inj H
                      have hcz70_0 : wr.cell? ⟨gb142, 0, none⟩ = some (.slice Ao9 t134.length co9) := (blk_cell BK142.out 0).trans rfl
                      have hcz70_1 : wr.cell? ⟨gb142, 1, none⟩ = some (.int .u8 t137) := (blk_cell BK142.out 1).trans rfl
                      have hcz70_2 : wr.cell? ⟨gb142, 2, none⟩ = some (.int .i64 t138) := (blk_cell BK142.out 2).trans rfl
                      have hcz70_3 : wr.cell? ⟨gb142, 3, none⟩ = some (.bool t139) := (blk_cell BK142.out 3).trans rfl
                      have hcz70_4 : wr.cell? ⟨gb142, 4, none⟩ = some (.bool true) := (blk_cell BK142.out 4).trans rfl
                      have hcz70_5 : wr.cell? ⟨gb142, 5, none⟩ = some (.bool true) := (blk_cell BK142.out 5).trans rfl
                      have hfz70_0 := blk_frozen BK142.out 0
                      have hfz70_1 := blk_frozen BK142.out 1
                      have hfz70_2 := blk_frozen BK142.out 2
                      have hfz70_3 := blk_frozen BK142.out 3
                      have hfz70_4 := blk_frozen BK142.out 4
                      have hfz70_5 := blk_frozen BK142.out 5
                      go_wp2
                      go_ret
                      exact ⟨by first | rfl | (simp [errW_none, errW_some] <;> rfl) | (simp [*, errW_none, errW_some] <;> rfl), by repeat (first | (with_reducible first | exact HB.out | apply below_alloc | apply pw_below_drewN | apply below_drew1 | refine below_set ?_ GE142.out) | exact HB.out)⟩
                  · replace c65 := Bool.eq_false_iff.mpr c65
                    subst c65
                    have H1 : (some false) = some r := by rw [if_neg (show ¬ (false = true) by decide)] at H; exact H
                    clear H
                    have H := H1
                    clear H1
                    obtain rfl := Option.some.inj H
                    have hcz71_0 : wr.cell? ⟨gb142, 0, none⟩ = some (.slice Ao9 t134.length co9) := (blk_cell BK142.out 0).trans rfl
                    have hcz71_1 : wr.cell? ⟨gb142, 1, none⟩ = some (.int .u8 t137) := (blk_cell BK142.out 1).trans rfl
                    have hcz71_2 : wr.cell? ⟨gb142, 2, none⟩ = some (.int .i64 t138) := (blk_cell BK142.out 2).trans rfl
                    have hcz71_3 : wr.cell? ⟨gb142, 3, none⟩ = some (.bool t139) := (blk_cell BK142.out 3).trans rfl
                    have hcz71_4 : wr.cell? ⟨gb142, 4, none⟩ = some (.bool false) := (blk_cell BK142.out 4).trans rfl
                    have hcz71_5 : wr.cell? ⟨gb142, 5, none⟩ = some (.bool true) := (blk_cell BK142.out 5).trans rfl
                    have hfz71_0 := blk_frozen BK142.out 0
                    have hfz71_1 := blk_frozen BK142.out 1
                    have hfz71_2 := blk_frozen BK142.out 2
                    have hfz71_3 := blk_frozen BK142.out 3
                    have hfz71_4 := blk_frozen BK142.out 4
                    have hfz71_5 := blk_frozen BK142.out 5
                    go_wp2
                    go_ret
                    exact ⟨by first | rfl | (simp [errW_none, errW_some] <;> rfl) | (simp [*, errW_none, errW_some] <;> rfl), by repeat (first | (with_reducible first | exact HB.out | apply below_alloc | apply pw_below_drewN | apply below_drew1 | refine below_set ?_ GE142.out) | exact HB.out)⟩
                · replace c64 := Bool.eq_false_iff.mpr c64
                  subst c64
                  have H1 : ((indenturelaw11_reads.f).bind fun t145 => (some t145)) = some r := by rw [if_neg (show ¬ (false = true) by decide)] at H; exact H
                  clear H
                  have H := H1
                  clear H1
                  replace H := Option.bind_eq_some_iff.mp H
                  obtain ⟨t145, A720, H⟩ := H
                  replace H : (some t145) = some r := H
                  have A72 := Aside0.mk A720
                  clear A720
                  obtain rfl := Option.some.inj H
                  have hcz73_0 : wr.cell? ⟨gb142, 0, none⟩ = some (.slice Ao9 t134.length co9) := (blk_cell BK142.out 0).trans rfl
                  have hcz73_1 : wr.cell? ⟨gb142, 1, none⟩ = some (.int .u8 t137) := (blk_cell BK142.out 1).trans rfl
                  have hcz73_2 : wr.cell? ⟨gb142, 2, none⟩ = some (.int .i64 t138) := (blk_cell BK142.out 2).trans rfl
                  have hcz73_3 : wr.cell? ⟨gb142, 3, none⟩ = some (.bool t139) := (blk_cell BK142.out 3).trans rfl
                  have hcz73_4 : wr.cell? ⟨gb142, 4, none⟩ = some (.bool t140) := (blk_cell BK142.out 4).trans rfl
                  have hcz73_5 : wr.cell? ⟨gb142, 5, none⟩ = some (.bool false) := (blk_cell BK142.out 5).trans rfl
                  have hfz73_0 := blk_frozen BK142.out 0
                  have hfz73_1 := blk_frozen BK142.out 1
                  have hfz73_2 := blk_frozen BK142.out 2
                  have hfz73_3 := blk_frozen BK142.out 3
                  have hfz73_4 := blk_frozen BK142.out 4
                  have hfz73_5 := blk_frozen BK142.out 5
                  go_wp2_with (first | (go_at_call 12; (with_reducible refine (indenturelaw11_reads.calls  t145 _ A72.out).mono ?_); rintro e w74 ⟨rfl, hb⟩; have n0_ := Aside0.mk (Kd.R_below (by (with_reducible repeat (first | apply Kd.R_alloc | apply Kd.R_drewN | apply Kd.R_drew)); exact HO_143000.out) hb); have n1_ := Aside0.mk (blk_below (g := gb142) (o := .cells #[.slice Ao9 t134.length co9, .int .u8 t137, .int .i64 t138, .bool t139, .bool t140, .bool false] 25 (0, 0)) (by (with_reducible repeat (first | refine blk_drewN ?_ _ | refine blk_drew ?_ | refine blk_alloc ?_ _)); exact BK142.out) hb); have n2_ := Aside0.mk (below_step (by repeat (first | (with_reducible first | exact HB.out | apply below_alloc | apply pw_below_drewN | apply below_drew1 | refine below_set ?_ GE142.out) | exact HB.out)) hb); clear HO_143000; clear BK142; clear HB; have HO_143000 := n0_; have BK142 := n1_; have HB := n2_; clear n0_ n1_ n2_; (try clear hb); (try clear hb2); (try clear hk); (try clear hi)))
                  go_ret
                  exact ⟨by first | rfl | (simp [errW_none, errW_some] <;> rfl) | (simp [*, errW_none, errW_some] <;> rfl), by repeat (first | (with_reducible first | exact HB.out | apply below_alloc | apply pw_below_drewN | apply below_drew1 | refine below_set ?_ GE142.out) | exact HB.out)⟩
              · rw [if_neg c63] at H
                have c63b0 : decide (t138 ≤ 1048576) = false := decide_eq_false c63
                clear c63
                obtain rfl := Option.some.inj H
                have hcz75_0 : wr.cell? ⟨gb142, 0, none⟩ = some (.slice Ao9 t134.length co9) := (blk_cell BK142.out 0).trans rfl
                have hcz75_1 : wr.cell? ⟨gb142, 1, none⟩ = some (.int .u8 t137) := (blk_cell BK142.out 1).trans rfl
                have hcz75_2 : wr.cell? ⟨gb142, 2, none⟩ = some (.int .i64 t138) := (blk_cell BK142.out 2).trans rfl
                have hcz75_3 : wr.cell? ⟨gb142, 3, none⟩ = some (.bool t139) := (blk_cell BK142.out 3).trans rfl
                have hcz75_4 : wr.cell? ⟨gb142, 4, none⟩ = some (.bool t140) := (blk_cell BK142.out 4).trans rfl
                have hcz75_5 : wr.cell? ⟨gb142, 5, none⟩ = some (.bool t141) := (blk_cell BK142.out 5).trans rfl
                have hfz75_0 := blk_frozen BK142.out 0
                have hfz75_1 := blk_frozen BK142.out 1
                have hfz75_2 := blk_frozen BK142.out 2
                have hfz75_3 := blk_frozen BK142.out 3
                have hfz75_4 := blk_frozen BK142.out 4
                have hfz75_5 := blk_frozen BK142.out 5
                go_wp2
                go_ret
                exact ⟨by first | rfl | (simp [errW_none, errW_some] <;> rfl) | (simp [*, errW_none, errW_some] <;> rfl), by repeat (first | (with_reducible first | exact HB.out | apply below_alloc | apply pw_below_drewN | apply below_drew1 | refine below_set ?_ GE142.out) | exact HB.out)⟩
            · rw [if_neg c62] at H
              have c62b0 : decide (0 ≤ t138) = false := decide_eq_false c62
              clear c62
              obtain rfl := Option.some.inj H
              have hcz76_0 : wr.cell? ⟨gb142, 0, none⟩ = some (.slice Ao9 t134.length co9) := (blk_cell BK142.out 0).trans rfl
              have hcz76_1 : wr.cell? ⟨gb142, 1, none⟩ = some (.int .u8 t137) := (blk_cell BK142.out 1).trans rfl
              have hcz76_2 : wr.cell? ⟨gb142, 2, none⟩ = some (.int .i64 t138) := (blk_cell BK142.out 2).trans rfl
              have hcz76_3 : wr.cell? ⟨gb142, 3, none⟩ = some (.bool t139) := (blk_cell BK142.out 3).trans rfl
              have hcz76_4 : wr.cell? ⟨gb142, 4, none⟩ = some (.bool t140) := (blk_cell BK142.out 4).trans rfl
              have hcz76_5 : wr.cell? ⟨gb142, 5, none⟩ = some (.bool t141) := (blk_cell BK142.out 5).trans rfl
              have hfz76_0 := blk_frozen BK142.out 0
              have hfz76_1 := blk_frozen BK142.out 1
              have hfz76_2 := blk_frozen BK142.out 2
              have hfz76_3 := blk_frozen BK142.out 3
              have hfz76_4 := blk_frozen BK142.out 4
              have hfz76_5 := blk_frozen BK142.out 5
              go_wp2
              go_ret
              exact ⟨by first | rfl | (simp [errW_none, errW_some] <;> rfl) | (simp [*, errW_none, errW_some] <;> rfl), by repeat (first | (with_reducible first | exact HB.out | apply below_alloc | apply pw_below_drewN | apply below_drew1 | refine below_set ?_ GE142.out) | exact HB.out)⟩
          · rw [if_neg c61] at H
            have c61b0 : decide (t137 ≤ 4) = false := decide_eq_false c61
            clear c61
            obtain rfl := Option.some.inj H
            have hcz77_0 : wr.cell? ⟨gb142, 0, none⟩ = some (.slice Ao9 t134.length co9) := (blk_cell BK142.out 0).trans rfl
            have hcz77_1 : wr.cell? ⟨gb142, 1, none⟩ = some (.int .u8 t137) := (blk_cell BK142.out 1).trans rfl
            have hcz77_2 : wr.cell? ⟨gb142, 2, none⟩ = some (.int .i64 t138) := (blk_cell BK142.out 2).trans rfl
            have hcz77_3 : wr.cell? ⟨gb142, 3, none⟩ = some (.bool t139) := (blk_cell BK142.out 3).trans rfl
            have hcz77_4 : wr.cell? ⟨gb142, 4, none⟩ = some (.bool t140) := (blk_cell BK142.out 4).trans rfl
            have hcz77_5 : wr.cell? ⟨gb142, 5, none⟩ = some (.bool t141) := (blk_cell BK142.out 5).trans rfl
            have hfz77_0 := blk_frozen BK142.out 0
            have hfz77_1 := blk_frozen BK142.out 1
            have hfz77_2 := blk_frozen BK142.out 2
            have hfz77_3 := blk_frozen BK142.out 3
            have hfz77_4 := blk_frozen BK142.out 4
            have hfz77_5 := blk_frozen BK142.out 5
            go_wp2
            go_ret
            exact ⟨by first | rfl | (simp [errW_none, errW_some] <;> rfl) | (simp [*, errW_none, errW_some] <;> rfl), by repeat (first | (with_reducible first | exact HB.out | apply below_alloc | apply pw_below_drewN | apply below_drew1 | refine below_set ?_ GE142.out) | exact HB.out)⟩

/-- THE ONE PURE STATEMENT of indenturelaw11_PytokenCovers: yours. -/
def indenturelaw11_PytokenCovers.Pure : Prop := ∀ (a0 : ByteArray) (a1 : Int) (a2 : Int), a0.size ≤ 140737488351232 → (Lit.int .u8 a1).wf = true → (Lit.int .i64 a2).wf = true → ∃ k, indenturelaw11_PytokenCovers.f k a0 a1 a2 = some true
theorem indenturelaw11_PytokenCovers.walk (P : indenturelaw11_PytokenCovers.Pure) (a0 : ByteArray) (a1 : Int) (a2 : Int) (w : World) (w0 : a0.size ≤ 140737488351232) (w1 : (Lit.int .u8 a1).wf = true) (w2 : (Lit.int .i64 a2).wf = true) :
    Calls Try.prog 4 #[.string a0, .int .u8 a1, .int .i64 a2] w fun e w' => e = .returned (.bool true) ∧ Below w.heap.size w w' := by
  obtain ⟨k, h⟩ := P a0 a1 a2 w0 w1 w2
  refine (indenturelaw11_PytokenCovers.calls k a0 a1 a2 true w h).mono ?_
  rintro e w' ⟨rfl, hd⟩
  exact ⟨rfl, hd⟩

end Go.Proofs.Ytdknppomjcpihaa.PPy
