-- written by inject.py, a program of the session's, over the translation's print
import Derived.Test.YtdknppomjcpihaaPPyx0
import Derived.Test.YtdknppomjcpihaaQa
import Derived.Test.YtdknppomjcpihaaScanC
namespace Go.Proofs.Ytdknppomjcpihaa.PPy
open Go.RowKit Go.Proofs.YtdknppomjcpihaaW.PrintWords Go.Proofs.YtdknppomjcpihaaW.PrintLast Go.Proofs.YtdknppomjcpihaaW.PrintMore
attribute [local go_sem] max2_int min2_int max_two min_two max_three min_three max_four min_four   -- for this text's walks alone
set_option linter.unusedVariables false
set_option linter.unusedSimpArgs false

/-! ### indenturelaw11_PytokenOwn: function 7 -/
mutual
def indenturelaw11_PytokenOwn.j0 : Nat → ByteArray → Int → Int → Int → Bool → List (S33) → Int → Int → Bool → Bool → Bool → List (S33) → Int → Int → Bool → Bool → Bool → List (S33) → Int → Int → Bool → Bool → Bool → Option (Bool)
  | 0, _, _, _, _, _, _, _, _, _, _, _, _, _, _, _, _, _, _, _, _, _, _, _ => none
  | k + 1, x0, x1, x2, x9, x62, x213000, x213001, x213002, x213003, x213004, x213005, x222000, x222001, x222002, x222003, x222004, x222005, x232000, x232001, x232002, x232003, x232004, x232005 => if x62 = true then (some false) else (indenturelaw11_PytokenOwn.l0 k x0 x1 x2 x9 0 x213000 x213001 x213002 x213003 x213004 x213005 x222000 x222001 x222002 x222003 x222004 x222005 x232000 x232001 x232002 x232003 x232004 x232005)
def indenturelaw11_PytokenOwn.l0 : Nat → ByteArray → Int → Int → Int → Int → List (S33) → Int → Int → Bool → Bool → Bool → List (S33) → Int → Int → Bool → Bool → Bool → List (S33) → Int → Int → Bool → Bool → Bool → Option (Bool)
  | 0, _, _, _, _, _, _, _, _, _, _, _, _, _, _, _, _, _, _, _, _, _, _, _ => none
  | k + 1, x0, x1, x2, x9, x11, x213000, x213001, x213002, x213003, x213004, x213005, x222000, x222001, x222002, x222003, x222004, x222005, x232000, x232001, x232002, x232003, x232004, x232005 => if x11 < (x222000.length : Int) then (if 0 ≤ x11 then (if x11 < (x232000.length : Int) then (if (wrap64 (((rd_T33 x232000 x11).f2) + x9)) = ((rd_T33 x222000 x11).f2) then (if (wrap64 (((rd_T33 x232000 x11).f3) + x9)) = ((rd_T33 x222000 x11).f3) then (if ((rd_T33 x232000 x11).f1) = ((rd_T33 x222000 x11).f1) then (indenturelaw11_PytokenOwn.l0 k x0 x1 x2 x9 (wrap64 (x11 + 1)) x213000 x213001 x213002 x213003 x213004 x213005 x222000 x222001 x222002 x222003 x222004 x222005 x232000 x232001 x232002 x232003 x232004 x232005) else (some false)) else (some false)) else (some false)) else (none)) else (none)) else (indenturelaw11_PytokenOwn.l1 k x0 x1 x2 0 x213000 x213001 x213002 x213003 x213004 x213005 x222000 x222001 x222002 x222003 x222004 x222005)
def indenturelaw11_PytokenOwn.l1 : Nat → ByteArray → Int → Int → Int → List (S33) → Int → Int → Bool → Bool → Bool → List (S33) → Int → Int → Bool → Bool → Bool → Option (Bool)
  | 0, _, _, _, _, _, _, _, _, _, _, _, _, _, _, _, _ => none
  | k + 1, x0, x1, x2, x12, x213000, x213001, x213002, x213003, x213004, x213005, x222000, x222001, x222002, x222003, x222004, x222005 => if x12 < (x213000.length : Int) then (if 0 ≤ x12 then (indenturelaw11_PytokenOwn.l1 k x0 x1 x2 (wrap64 (x12 + 1)) (x213000.set (x12 : Int).toNat (⟨(rd_T33 x213000 x12).f0, 99, (rd_T33 x213000 x12).f2, (rd_T33 x213000 x12).f3⟩ : S33)) x213001 x213002 x213003 x213004 x213005 x222000 x222001 x222002 x222003 x222004 x222005) else (none)) else ((pytoken_Scan.f x0 x1 x2 0).bind fun bt239 => ((indentureref11_SameEvents.f k x222000 bt239.1).bind fun t248 => (if t248 = true then ((indenturelaw11_reads.f).bind fun t249 => (some t249)) else (some false))))
end
def indenturelaw11_PytokenOwn.f (k : Nat) (a0 : ByteArray) (a1 : Int) (a2 : Int) : Option (Bool) := if (a0.size : Int) > 3000 then (some true) else ((pytoken_Scan.f a0 a1 a2 0).bind fun bt204 => ((pytoken_Scan.f a0 a1 a2 0).bind fun bt213 => ((indentureref11_End.f k a0).bind fun t222 => (if 0 ≤ (mx 0 (mn a1 t222)) then (if (mx 0 (mn a1 t222)) ≤ (a0.size : Int) then ((pytoken_Scan.f (a0.extract ((mx 0 (mn a1 t222)) : Int).toNat a0.size) 0 a2 0).bind fun bt223 => (if (bt223.1.length : Int) = (bt213.1.length : Int) then (if bt223.2.1 = bt213.2.1 then (if bt223.2.2.1 = bt213.2.2.1 then (indenturelaw11_PytokenOwn.j0 k a0 a1 a2 (mx 0 (mn a1 t222)) (bt223.2.2.2.2.2 != bt213.2.2.2.2.2) bt204.1 bt204.2.1 bt204.2.2.1 bt204.2.2.2.1 bt204.2.2.2.2.1 bt204.2.2.2.2.2 bt213.1 bt213.2.1 bt213.2.2.1 bt213.2.2.2.1 bt213.2.2.2.2.1 bt213.2.2.2.2.2 bt223.1 bt223.2.1 bt223.2.2.1 bt223.2.2.2.1 bt223.2.2.2.2.1 bt223.2.2.2.2.2) else (indenturelaw11_PytokenOwn.j0 k a0 a1 a2 (mx 0 (mn a1 t222)) true bt204.1 bt204.2.1 bt204.2.2.1 bt204.2.2.2.1 bt204.2.2.2.2.1 bt204.2.2.2.2.2 bt213.1 bt213.2.1 bt213.2.2.1 bt213.2.2.2.1 bt213.2.2.2.2.1 bt213.2.2.2.2.2 bt223.1 bt223.2.1 bt223.2.2.1 bt223.2.2.2.1 bt223.2.2.2.2.1 bt223.2.2.2.2.2)) else (indenturelaw11_PytokenOwn.j0 k a0 a1 a2 (mx 0 (mn a1 t222)) true bt204.1 bt204.2.1 bt204.2.2.1 bt204.2.2.2.1 bt204.2.2.2.2.1 bt204.2.2.2.2.2 bt213.1 bt213.2.1 bt213.2.2.1 bt213.2.2.2.1 bt213.2.2.2.2.1 bt213.2.2.2.2.2 bt223.1 bt223.2.1 bt223.2.2.1 bt223.2.2.2.1 bt223.2.2.2.2.1 bt223.2.2.2.2.2)) else (indenturelaw11_PytokenOwn.j0 k a0 a1 a2 (mx 0 (mn a1 t222)) true bt204.1 bt204.2.1 bt204.2.2.1 bt204.2.2.2.1 bt204.2.2.2.2.1 bt204.2.2.2.2.2 bt213.1 bt213.2.1 bt213.2.2.1 bt213.2.2.2.1 bt213.2.2.2.2.1 bt213.2.2.2.2.2 bt223.1 bt223.2.1 bt223.2.2.1 bt223.2.2.2.1 bt223.2.2.2.2.1 bt223.2.2.2.2.2))) else (none)) else (none)))))
theorem indenturelaw11_PytokenOwn.mono_l : ∀ k, (∀ y0 y1 y2 y3 y4 y5 y6 y7 y8 y9 y10 y11 y12 y13 y14 y15 y16 y17 y18 y19 y20 y21 y22, LeO (indenturelaw11_PytokenOwn.j0 k y0 y1 y2 y3 y4 y5 y6 y7 y8 y9 y10 y11 y12 y13 y14 y15 y16 y17 y18 y19 y20 y21 y22) (indenturelaw11_PytokenOwn.j0 (k + 1) y0 y1 y2 y3 y4 y5 y6 y7 y8 y9 y10 y11 y12 y13 y14 y15 y16 y17 y18 y19 y20 y21 y22)) ∧ (∀ y0 y1 y2 y3 y4 y5 y6 y7 y8 y9 y10 y11 y12 y13 y14 y15 y16 y17 y18 y19 y20 y21 y22, LeO (indenturelaw11_PytokenOwn.l0 k y0 y1 y2 y3 y4 y5 y6 y7 y8 y9 y10 y11 y12 y13 y14 y15 y16 y17 y18 y19 y20 y21 y22) (indenturelaw11_PytokenOwn.l0 (k + 1) y0 y1 y2 y3 y4 y5 y6 y7 y8 y9 y10 y11 y12 y13 y14 y15 y16 y17 y18 y19 y20 y21 y22)) ∧ (∀ y0 y1 y2 y3 y4 y5 y6 y7 y8 y9 y10 y11 y12 y13 y14 y15, LeO (indenturelaw11_PytokenOwn.l1 k y0 y1 y2 y3 y4 y5 y6 y7 y8 y9 y10 y11 y12 y13 y14 y15) (indenturelaw11_PytokenOwn.l1 (k + 1) y0 y1 y2 y3 y4 y5 y6 y7 y8 y9 y10 y11 y12 y13 y14 y15))
  | 0 => ⟨fun _ _ _ _ _ _ _ _ _ _ _ _ _ _ _ _ _ _ _ _ _ _ _ r h => by simp [indenturelaw11_PytokenOwn.j0] at h, fun _ _ _ _ _ _ _ _ _ _ _ _ _ _ _ _ _ _ _ _ _ _ _ r h => by simp [indenturelaw11_PytokenOwn.l0] at h, fun _ _ _ _ _ _ _ _ _ _ _ _ _ _ _ _ r h => by simp [indenturelaw11_PytokenOwn.l1] at h⟩
  | k + 1 => by
    obtain ⟨ih0, ih1, ih2⟩ := indenturelaw11_PytokenOwn.mono_l k
    refine ⟨?_, ?_, ?_⟩
    · intro y0 y1 y2 y3 y4 y5 y6 y7 y8 y9 y10 y11 y12 y13 y14 y15 y16 y17 y18 y19 y20 y21 y22
      unfold indenturelaw11_PytokenOwn.j0
      repeat' first
      | (with_reducible exact ih0 _ _ _ _ _ _ _ _ _ _ _ _ _ _ _ _ _ _ _ _ _ _ _)
      | (with_reducible exact ih1 _ _ _ _ _ _ _ _ _ _ _ _ _ _ _ _ _ _ _ _ _ _ _)
      | (with_reducible exact ih2 _ _ _ _ _ _ _ _ _ _ _ _ _ _ _ _)
      | (with_reducible exact indentureref11_End.mono _ _)
      | (with_reducible exact indentureref11_SameEvents.mono _ _ _)
      | (with_reducible exact LeO.refl _)
      | (with_reducible exact LeO.none _)
      | (with_reducible refine LeO.ite ?_ ?_)
      | (with_reducible refine LeO.bind ?_ (fun _ => ?_))
      | exact ih0 _ _ _ _ _ _ _ _ _ _ _ _ _ _ _ _ _ _ _ _ _ _ _
      | exact ih1 _ _ _ _ _ _ _ _ _ _ _ _ _ _ _ _ _ _ _ _ _ _ _
      | exact ih2 _ _ _ _ _ _ _ _ _ _ _ _ _ _ _ _
      | exact indentureref11_End.mono _ _
      | exact indentureref11_SameEvents.mono _ _ _
      | exact LeO.none _
      | refine LeO.ite ?_ ?_
      | refine LeO.bind ?_ (fun _ => ?_)
    · intro y0 y1 y2 y3 y4 y5 y6 y7 y8 y9 y10 y11 y12 y13 y14 y15 y16 y17 y18 y19 y20 y21 y22
      unfold indenturelaw11_PytokenOwn.l0
      repeat' first
      | (with_reducible exact ih0 _ _ _ _ _ _ _ _ _ _ _ _ _ _ _ _ _ _ _ _ _ _ _)
      | (with_reducible exact ih1 _ _ _ _ _ _ _ _ _ _ _ _ _ _ _ _ _ _ _ _ _ _ _)
      | (with_reducible exact ih2 _ _ _ _ _ _ _ _ _ _ _ _ _ _ _ _)
      | (with_reducible exact indentureref11_End.mono _ _)
      | (with_reducible exact indentureref11_SameEvents.mono _ _ _)
      | (with_reducible exact LeO.refl _)
      | (with_reducible exact LeO.none _)
      | (with_reducible refine LeO.ite ?_ ?_)
      | (with_reducible refine LeO.bind ?_ (fun _ => ?_))
      | exact ih0 _ _ _ _ _ _ _ _ _ _ _ _ _ _ _ _ _ _ _ _ _ _ _
      | exact ih1 _ _ _ _ _ _ _ _ _ _ _ _ _ _ _ _ _ _ _ _ _ _ _
      | exact ih2 _ _ _ _ _ _ _ _ _ _ _ _ _ _ _ _
      | exact indentureref11_End.mono _ _
      | exact indentureref11_SameEvents.mono _ _ _
      | exact LeO.none _
      | refine LeO.ite ?_ ?_
      | refine LeO.bind ?_ (fun _ => ?_)
    · intro y0 y1 y2 y3 y4 y5 y6 y7 y8 y9 y10 y11 y12 y13 y14 y15
      unfold indenturelaw11_PytokenOwn.l1
      repeat' first
      | (with_reducible exact ih0 _ _ _ _ _ _ _ _ _ _ _ _ _ _ _ _ _ _ _ _ _ _ _)
      | (with_reducible exact ih1 _ _ _ _ _ _ _ _ _ _ _ _ _ _ _ _ _ _ _ _ _ _ _)
      | (with_reducible exact ih2 _ _ _ _ _ _ _ _ _ _ _ _ _ _ _ _)
      | (with_reducible exact indentureref11_End.mono _ _)
      | (with_reducible exact indentureref11_SameEvents.mono _ _ _)
      | (with_reducible exact LeO.refl _)
      | (with_reducible exact LeO.none _)
      | (with_reducible refine LeO.ite ?_ ?_)
      | (with_reducible refine LeO.bind ?_ (fun _ => ?_))
      | exact ih0 _ _ _ _ _ _ _ _ _ _ _ _ _ _ _ _ _ _ _ _ _ _ _
      | exact ih1 _ _ _ _ _ _ _ _ _ _ _ _ _ _ _ _ _ _ _ _ _ _ _
      | exact ih2 _ _ _ _ _ _ _ _ _ _ _ _ _ _ _ _
      | exact indentureref11_End.mono _ _
      | exact indentureref11_SameEvents.mono _ _ _
      | exact LeO.none _
      | refine LeO.ite ?_ ?_
      | refine LeO.bind ?_ (fun _ => ?_)
theorem indenturelaw11_PytokenOwn.mono : ∀ a0 a1 a2 k, LeO (indenturelaw11_PytokenOwn.f k a0 a1 a2) (indenturelaw11_PytokenOwn.f (k + 1) a0 a1 a2) := by
  intro a0 a1 a2 k
  obtain ⟨ih0, ih1, ih2⟩ := indenturelaw11_PytokenOwn.mono_l k
  unfold indenturelaw11_PytokenOwn.f
  repeat' first
      | (with_reducible exact ih0 _ _ _ _ _ _ _ _ _ _ _ _ _ _ _ _ _ _ _ _ _ _ _)
      | (with_reducible exact ih1 _ _ _ _ _ _ _ _ _ _ _ _ _ _ _ _ _ _ _ _ _ _ _)
      | (with_reducible exact ih2 _ _ _ _ _ _ _ _ _ _ _ _ _ _ _ _)
      | (with_reducible exact indentureref11_End.mono _ _)
      | (with_reducible exact indentureref11_SameEvents.mono _ _ _)
      | (with_reducible exact LeO.refl _)
      | (with_reducible exact LeO.none _)
      | (with_reducible refine LeO.ite ?_ ?_)
      | (with_reducible refine LeO.bind ?_ (fun _ => ?_))
      | exact ih0 _ _ _ _ _ _ _ _ _ _ _ _ _ _ _ _ _ _ _ _ _ _ _
      | exact ih1 _ _ _ _ _ _ _ _ _ _ _ _ _ _ _ _ _ _ _ _ _ _ _
      | exact ih2 _ _ _ _ _ _ _ _ _ _ _ _ _ _ _ _
      | exact indentureref11_End.mono _ _
      | exact indentureref11_SameEvents.mono _ _ _
      | exact LeO.none _
      | refine LeO.ite ?_ ?_
      | refine LeO.bind ?_ (fun _ => ?_)
set_option maxHeartbeats 8000000 in
set_option maxRecDepth 100000 in
theorem indenturelaw11_PytokenOwn.calls (k : Nat) (a0 : ByteArray) (a1 : Int) (a2 : Int) (r : Bool) (w : World) (h : indenturelaw11_PytokenOwn.f k a0 a1 a2 = some r) (hrt : Aside0 (r = true)) :
    Calls Try.prog 7 #[.string a0, .int .i64 a1, .int .u8 a2] w fun e w' => e = .returned (.bool r) ∧ Below w.heap.size w w' := by
  have hu25 := Try.underlying25
  have HB := Aside0.mk (Below.refl w.heap.size w)
  have H : (if (a0.size : Int) > 3000 then (some true) else ((pytoken_Scan.f a0 a1 a2 0).bind fun bt204 => ((pytoken_Scan.f a0 a1 a2 0).bind fun bt213 => ((indentureref11_End.f k a0).bind fun t222 => (if 0 ≤ (mx 0 (mn a1 t222)) then (if (mx 0 (mn a1 t222)) ≤ (a0.size : Int) then ((pytoken_Scan.f (a0.extract ((mx 0 (mn a1 t222)) : Int).toNat a0.size) 0 a2 0).bind fun bt223 => (if (bt223.1.length : Int) = (bt213.1.length : Int) then (if bt223.2.1 = bt213.2.1 then (if bt223.2.2.1 = bt213.2.2.1 then (indenturelaw11_PytokenOwn.j0 k a0 a1 a2 (mx 0 (mn a1 t222)) (bt223.2.2.2.2.2 != bt213.2.2.2.2.2) bt204.1 bt204.2.1 bt204.2.2.1 bt204.2.2.2.1 bt204.2.2.2.2.1 bt204.2.2.2.2.2 bt213.1 bt213.2.1 bt213.2.2.1 bt213.2.2.2.1 bt213.2.2.2.2.1 bt213.2.2.2.2.2 bt223.1 bt223.2.1 bt223.2.2.1 bt223.2.2.2.1 bt223.2.2.2.2.1 bt223.2.2.2.2.2) else (indenturelaw11_PytokenOwn.j0 k a0 a1 a2 (mx 0 (mn a1 t222)) true bt204.1 bt204.2.1 bt204.2.2.1 bt204.2.2.2.1 bt204.2.2.2.2.1 bt204.2.2.2.2.2 bt213.1 bt213.2.1 bt213.2.2.1 bt213.2.2.2.1 bt213.2.2.2.2.1 bt213.2.2.2.2.2 bt223.1 bt223.2.1 bt223.2.2.1 bt223.2.2.2.1 bt223.2.2.2.2.1 bt223.2.2.2.2.2)) else (indenturelaw11_PytokenOwn.j0 k a0 a1 a2 (mx 0 (mn a1 t222)) true bt204.1 bt204.2.1 bt204.2.2.1 bt204.2.2.2.1 bt204.2.2.2.2.1 bt204.2.2.2.2.2 bt213.1 bt213.2.1 bt213.2.2.1 bt213.2.2.2.1 bt213.2.2.2.2.1 bt213.2.2.2.2.2 bt223.1 bt223.2.1 bt223.2.2.1 bt223.2.2.2.1 bt223.2.2.2.2.1 bt223.2.2.2.2.2)) else (indenturelaw11_PytokenOwn.j0 k a0 a1 a2 (mx 0 (mn a1 t222)) true bt204.1 bt204.2.1 bt204.2.2.1 bt204.2.2.2.1 bt204.2.2.2.2.1 bt204.2.2.2.2.2 bt213.1 bt213.2.1 bt213.2.2.1 bt213.2.2.2.1 bt213.2.2.2.2.1 bt213.2.2.2.2.2 bt223.1 bt223.2.1 bt223.2.2.1 bt223.2.2.2.1 bt223.2.2.2.2.1 bt223.2.2.2.2.2))) else (none)) else (none)))))) = some r := h
  clear h
  by_cases c4 : (a0.size : Int) > 3000
  · rw [if_pos c4] at H
    have c4b0 : decide (3000 < (a0.size : Int)) = true := decide_eq_true c4
    have c4b1 : decide (3000 < a0.size) = true := decide_eq_true (by omega)
    clear c4
    obtain rfl := Option.some.inj H
    go_enter Try.func7, Try.ntmps7
    go_wp2
    repeat (go_quiet (fail); try go_wp2)
    go_ret
    exact ⟨by first | rfl | (simp [errW_none, errW_some] <;> rfl) | (simp [*, errW_none, errW_some] <;> rfl), by repeat (first | (with_reducible first | exact HB.out | apply below_alloc | apply pw_below_drewN | apply below_drew1) | exact HB.out)⟩
  · rw [if_neg c4] at H
    have c4b0 : decide (3000 < (a0.size : Int)) = false := decide_eq_false c4
    have c4b1 : decide (3000 < a0.size) = false := decide_eq_false (by omega)
    clear c4
    replace H := Option.bind_eq_some_iff.mp H
    obtain ⟨⟨t204, t207, t208, t209, t210, t211⟩, A50, H⟩ := H
    replace H : ((pytoken_Scan.f a0 a1 a2 0).bind fun bt213 => ((indentureref11_End.f k a0).bind fun t222 => (if 0 ≤ (mx 0 (mn a1 t222)) then (if (mx 0 (mn a1 t222)) ≤ (a0.size : Int) then ((pytoken_Scan.f (a0.extract ((mx 0 (mn a1 t222)) : Int).toNat a0.size) 0 a2 0).bind fun bt223 => (if (bt223.1.length : Int) = (bt213.1.length : Int) then (if bt223.2.1 = bt213.2.1 then (if bt223.2.2.1 = bt213.2.2.1 then (indenturelaw11_PytokenOwn.j0 k a0 a1 a2 (mx 0 (mn a1 t222)) (bt223.2.2.2.2.2 != bt213.2.2.2.2.2) t204 t207 t208 t209 t210 t211 bt213.1 bt213.2.1 bt213.2.2.1 bt213.2.2.2.1 bt213.2.2.2.2.1 bt213.2.2.2.2.2 bt223.1 bt223.2.1 bt223.2.2.1 bt223.2.2.2.1 bt223.2.2.2.2.1 bt223.2.2.2.2.2) else (indenturelaw11_PytokenOwn.j0 k a0 a1 a2 (mx 0 (mn a1 t222)) true t204 t207 t208 t209 t210 t211 bt213.1 bt213.2.1 bt213.2.2.1 bt213.2.2.2.1 bt213.2.2.2.2.1 bt213.2.2.2.2.2 bt223.1 bt223.2.1 bt223.2.2.1 bt223.2.2.2.1 bt223.2.2.2.2.1 bt223.2.2.2.2.2)) else (indenturelaw11_PytokenOwn.j0 k a0 a1 a2 (mx 0 (mn a1 t222)) true t204 t207 t208 t209 t210 t211 bt213.1 bt213.2.1 bt213.2.2.1 bt213.2.2.2.1 bt213.2.2.2.2.1 bt213.2.2.2.2.2 bt223.1 bt223.2.1 bt223.2.2.1 bt223.2.2.2.1 bt223.2.2.2.2.1 bt223.2.2.2.2.2)) else (indenturelaw11_PytokenOwn.j0 k a0 a1 a2 (mx 0 (mn a1 t222)) true t204 t207 t208 t209 t210 t211 bt213.1 bt213.2.1 bt213.2.2.1 bt213.2.2.2.1 bt213.2.2.2.2.1 bt213.2.2.2.2.2 bt223.1 bt223.2.1 bt223.2.2.1 bt223.2.2.2.1 bt223.2.2.2.2.1 bt223.2.2.2.2.2))) else (none)) else (none)))) = some r := H
    have A5 := Aside0.mk A50
    clear A50
    replace H := Option.bind_eq_some_iff.mp H
    obtain ⟨⟨t213, t216, t217, t218, t219, t220⟩, A60, H⟩ := H
    replace H : ((indentureref11_End.f k a0).bind fun t222 => (if 0 ≤ (mx 0 (mn a1 t222)) then (if (mx 0 (mn a1 t222)) ≤ (a0.size : Int) then ((pytoken_Scan.f (a0.extract ((mx 0 (mn a1 t222)) : Int).toNat a0.size) 0 a2 0).bind fun bt223 => (if (bt223.1.length : Int) = (t213.length : Int) then (if bt223.2.1 = t216 then (if bt223.2.2.1 = t217 then (indenturelaw11_PytokenOwn.j0 k a0 a1 a2 (mx 0 (mn a1 t222)) (bt223.2.2.2.2.2 != t220) t204 t207 t208 t209 t210 t211 t213 t216 t217 t218 t219 t220 bt223.1 bt223.2.1 bt223.2.2.1 bt223.2.2.2.1 bt223.2.2.2.2.1 bt223.2.2.2.2.2) else (indenturelaw11_PytokenOwn.j0 k a0 a1 a2 (mx 0 (mn a1 t222)) true t204 t207 t208 t209 t210 t211 t213 t216 t217 t218 t219 t220 bt223.1 bt223.2.1 bt223.2.2.1 bt223.2.2.2.1 bt223.2.2.2.2.1 bt223.2.2.2.2.2)) else (indenturelaw11_PytokenOwn.j0 k a0 a1 a2 (mx 0 (mn a1 t222)) true t204 t207 t208 t209 t210 t211 t213 t216 t217 t218 t219 t220 bt223.1 bt223.2.1 bt223.2.2.1 bt223.2.2.2.1 bt223.2.2.2.2.1 bt223.2.2.2.2.2)) else (indenturelaw11_PytokenOwn.j0 k a0 a1 a2 (mx 0 (mn a1 t222)) true t204 t207 t208 t209 t210 t211 t213 t216 t217 t218 t219 t220 bt223.1 bt223.2.1 bt223.2.2.1 bt223.2.2.2.1 bt223.2.2.2.2.1 bt223.2.2.2.2.2))) else (none)) else (none))) = some r := H
    have A6 := Aside0.mk A60
    clear A60
    replace H := Option.bind_eq_some_iff.mp H
    obtain ⟨t222, A70, H⟩ := H
    replace H : (if 0 ≤ (mx 0 (mn a1 t222)) then (if (mx 0 (mn a1 t222)) ≤ (a0.size : Int) then ((pytoken_Scan.f (a0.extract ((mx 0 (mn a1 t222)) : Int).toNat a0.size) 0 a2 0).bind fun bt223 => (if (bt223.1.length : Int) = (t213.length : Int) then (if bt223.2.1 = t216 then (if bt223.2.2.1 = t217 then (indenturelaw11_PytokenOwn.j0 k a0 a1 a2 (mx 0 (mn a1 t222)) (bt223.2.2.2.2.2 != t220) t204 t207 t208 t209 t210 t211 t213 t216 t217 t218 t219 t220 bt223.1 bt223.2.1 bt223.2.2.1 bt223.2.2.2.1 bt223.2.2.2.2.1 bt223.2.2.2.2.2) else (indenturelaw11_PytokenOwn.j0 k a0 a1 a2 (mx 0 (mn a1 t222)) true t204 t207 t208 t209 t210 t211 t213 t216 t217 t218 t219 t220 bt223.1 bt223.2.1 bt223.2.2.1 bt223.2.2.2.1 bt223.2.2.2.2.1 bt223.2.2.2.2.2)) else (indenturelaw11_PytokenOwn.j0 k a0 a1 a2 (mx 0 (mn a1 t222)) true t204 t207 t208 t209 t210 t211 t213 t216 t217 t218 t219 t220 bt223.1 bt223.2.1 bt223.2.2.1 bt223.2.2.2.1 bt223.2.2.2.2.1 bt223.2.2.2.2.2)) else (indenturelaw11_PytokenOwn.j0 k a0 a1 a2 (mx 0 (mn a1 t222)) true t204 t207 t208 t209 t210 t211 t213 t216 t217 t218 t219 t220 bt223.1 bt223.2.1 bt223.2.2.1 bt223.2.2.2.1 bt223.2.2.2.2.1 bt223.2.2.2.2.2))) else (none)) else (none)) = some r := H
    have A7 := Aside0.mk A70
    clear A70
    obtain ⟨ji8, hji8⟩ : ∃ j_ : Int, (mn a1 t222) = j_ := ⟨_, rfl⟩
    replace H : (if 0 ≤ (mx 0 (ji8)) then (if (mx 0 (ji8)) ≤ (a0.size : Int) then ((pytoken_Scan.f (a0.extract ((mx 0 (ji8)) : Int).toNat a0.size) 0 a2 0).bind fun bt223 => (if (bt223.1.length : Int) = (t213.length : Int) then (if bt223.2.1 = t216 then (if bt223.2.2.1 = t217 then (indenturelaw11_PytokenOwn.j0 k a0 a1 a2 (mx 0 (ji8)) (bt223.2.2.2.2.2 != t220) t204 t207 t208 t209 t210 t211 t213 t216 t217 t218 t219 t220 bt223.1 bt223.2.1 bt223.2.2.1 bt223.2.2.2.1 bt223.2.2.2.2.1 bt223.2.2.2.2.2) else (indenturelaw11_PytokenOwn.j0 k a0 a1 a2 (mx 0 (ji8)) true t204 t207 t208 t209 t210 t211 t213 t216 t217 t218 t219 t220 bt223.1 bt223.2.1 bt223.2.2.1 bt223.2.2.2.1 bt223.2.2.2.2.1 bt223.2.2.2.2.2)) else (indenturelaw11_PytokenOwn.j0 k a0 a1 a2 (mx 0 (ji8)) true t204 t207 t208 t209 t210 t211 t213 t216 t217 t218 t219 t220 bt223.1 bt223.2.1 bt223.2.2.1 bt223.2.2.2.1 bt223.2.2.2.2.1 bt223.2.2.2.2.2)) else (indenturelaw11_PytokenOwn.j0 k a0 a1 a2 (mx 0 (ji8)) true t204 t207 t208 t209 t210 t211 t213 t216 t217 t218 t219 t220 bt223.1 bt223.2.1 bt223.2.2.1 bt223.2.2.2.1 bt223.2.2.2.2.1 bt223.2.2.2.2.2))) else (none)) else (none)) = some r := by first | (rw [hji8] at H; exact H) | (simp only [hji8] at H ⊢; exact H)
    (try rw [hji8] at A5)
    (try rw [hji8] at A6)
    (try rw [hji8] at A7)
    have hji8_ : (if t222 < a1 then t222 else a1) = ji8 := hji8
    obtain ⟨ji9, hji9⟩ : ∃ j_ : Int, (mx 0 (ji8)) = j_ := ⟨_, rfl⟩
    replace H : (if 0 ≤ (ji9) then (if (ji9) ≤ (a0.size : Int) then ((pytoken_Scan.f (a0.extract ((ji9) : Int).toNat a0.size) 0 a2 0).bind fun bt223 => (if (bt223.1.length : Int) = (t213.length : Int) then (if bt223.2.1 = t216 then (if bt223.2.2.1 = t217 then (indenturelaw11_PytokenOwn.j0 k a0 a1 a2 ji9 (bt223.2.2.2.2.2 != t220) t204 t207 t208 t209 t210 t211 t213 t216 t217 t218 t219 t220 bt223.1 bt223.2.1 bt223.2.2.1 bt223.2.2.2.1 bt223.2.2.2.2.1 bt223.2.2.2.2.2) else (indenturelaw11_PytokenOwn.j0 k a0 a1 a2 ji9 true t204 t207 t208 t209 t210 t211 t213 t216 t217 t218 t219 t220 bt223.1 bt223.2.1 bt223.2.2.1 bt223.2.2.2.1 bt223.2.2.2.2.1 bt223.2.2.2.2.2)) else (indenturelaw11_PytokenOwn.j0 k a0 a1 a2 ji9 true t204 t207 t208 t209 t210 t211 t213 t216 t217 t218 t219 t220 bt223.1 bt223.2.1 bt223.2.2.1 bt223.2.2.2.1 bt223.2.2.2.2.1 bt223.2.2.2.2.2)) else (indenturelaw11_PytokenOwn.j0 k a0 a1 a2 ji9 true t204 t207 t208 t209 t210 t211 t213 t216 t217 t218 t219 t220 bt223.1 bt223.2.1 bt223.2.2.1 bt223.2.2.2.1 bt223.2.2.2.2.1 bt223.2.2.2.2.2))) else (none)) else (none)) = some r := by first | (rw [hji9] at H; exact H) | (simp only [hji9] at H ⊢; exact H)
    (try rw [hji9] at A5)
    (try rw [hji9] at A6)
    (try rw [hji9] at A7)
    have hji9_ : (if 0 < (ji8) then (ji8) else 0) = ji9 := hji9
    by_cases c10 : 0 ≤ (ji9)
    · rw [if_pos c10] at H
      have c10b0 := eq_true c10
      have c10b1 : decide (0 ≤ (ji9)) = true := decide_eq_true c10
      clear c10
      by_cases c11 : (ji9) ≤ (a0.size : Int)
      · rw [if_pos c11] at H
        have c11b0 := eq_true c11
        have c11b1 : decide ((ji9) ≤ (a0.size : Int)) = true := decide_eq_true c11
        clear c11
        replace H := Option.bind_eq_some_iff.mp H
        obtain ⟨⟨t223, t226, t227, t228, t229, t230⟩, A120, H⟩ := H
        replace H : (if (t223.length : Int) = (t213.length : Int) then (if t226 = t216 then (if t227 = t217 then (indenturelaw11_PytokenOwn.j0 k a0 a1 a2 ji9 (t230 != t220) t204 t207 t208 t209 t210 t211 t213 t216 t217 t218 t219 t220 t223 t226 t227 t228 t229 t230) else (indenturelaw11_PytokenOwn.j0 k a0 a1 a2 ji9 true t204 t207 t208 t209 t210 t211 t213 t216 t217 t218 t219 t220 t223 t226 t227 t228 t229 t230)) else (indenturelaw11_PytokenOwn.j0 k a0 a1 a2 ji9 true t204 t207 t208 t209 t210 t211 t213 t216 t217 t218 t219 t220 t223 t226 t227 t228 t229 t230)) else (indenturelaw11_PytokenOwn.j0 k a0 a1 a2 ji9 true t204 t207 t208 t209 t210 t211 t213 t216 t217 t218 t219 t220 t223 t226 t227 t228 t229 t230)) = some r := H
        have A12 := Aside0.mk A120
        clear A120
        have HC13 := Aside0.mk H
        clear H
        go_enter Try.func7, Try.ntmps7
        go_upto_region 7 with (first | (go_at_call 10; (with_reducible refine (pytoken_Scan.calls a0 a1 a2 0 t204 t207 t208 t209 t210 t211 _ A5.out).mono ?_); rintro e w14 ⟨v205, rfl, ho0, hb⟩; have n0_ := Aside0.mk (Kd.R_lower ho0 (below_size (by repeat (first | (with_reducible first | exact HB.out | apply below_alloc | apply pw_below_drewN | apply below_drew1) | exact HB.out)))); have n1_ := Aside0.mk (below_step (by repeat (first | (with_reducible first | exact HB.out | apply below_alloc | apply pw_below_drewN | apply below_drew1) | exact HB.out)) hb); clear HB; have HO206 := n0_; have HB := n1_; clear n0_ n1_; (try clear hb); (try clear hb2); (try clear hk); (try clear hi); (try clear ho0)) | ((with_reducible refine gate_dst (N := 7) rfl ?_); refine box_event ?hg (N := 7) ?hd (cs := #[.slice none 0 0, .int .u8 0, .int .i64 0, .bool false, .bool false, .bool false]) (t := 25) ?hr ?_; (case hd => rfl); (case hg => rfl); (case hr => first | (go_simp; done) | (go_simp; rfl)); intro gb212 hg w15 hbox hb; have n0_ := Aside0.mk (Kd.R_below (by (with_reducible repeat (first | apply Kd.R_alloc | apply Kd.R_drewN | apply Kd.R_drew)); exact HO206.out) hb); have n1_ := Aside0.mk (below_step (by repeat (first | (with_reducible first | exact HB.out | apply below_alloc | apply pw_below_drewN | apply below_drew1) | exact HB.out)) hb); have n2_ := Aside0.mk (hbox); have n3_ := Aside0.mk ((by rw [hg]; exact (below_size (by repeat (first | (with_reducible first | exact HB.out | apply below_alloc | apply pw_below_drewN | apply below_drew1) | exact HB.out))) : w.heap.size ≤ gb212)); have n4_ := Aside0.mk ((by rw [hg]; exact (below_size (by repeat (first | (with_reducible first | exact HB.out | apply below_alloc | apply pw_below_drewN | apply below_drew1) | exact HB.out))) : w.heap.size ≤ gb212)); clear HO206; clear HB; have HO206 := n0_; have HB := n1_; have BK212 := n2_; have GW212 := n3_; have GE212 := n4_; clear n0_ n1_ n2_ n3_ n4_; clear hb hbox hg; obtain ⟨Ao16, co16, eo16⟩ := Kd.R_slice HO206.out; subst eo16; have hcz17_0 : w15.cell? ⟨gb212, 0, none⟩ = some (.slice none 0 0) := (blk_cell BK212.out 0).trans rfl; have hcz17_1 : w15.cell? ⟨gb212, 1, none⟩ = some (.int .u8 0) := (blk_cell BK212.out 1).trans rfl; have hcz17_2 : w15.cell? ⟨gb212, 2, none⟩ = some (.int .i64 0) := (blk_cell BK212.out 2).trans rfl; have hcz17_3 : w15.cell? ⟨gb212, 3, none⟩ = some (.bool false) := (blk_cell BK212.out 3).trans rfl; have hcz17_4 : w15.cell? ⟨gb212, 4, none⟩ = some (.bool false) := (blk_cell BK212.out 4).trans rfl; have hcz17_5 : w15.cell? ⟨gb212, 5, none⟩ = some (.bool false) := (blk_cell BK212.out 5).trans rfl; have hfz17_0 := blk_frozen BK212.out 0; have hfz17_1 := blk_frozen BK212.out 1; have hfz17_2 := blk_frozen BK212.out 2; have hfz17_3 := blk_frozen BK212.out 3; have hfz17_4 := blk_frozen BK212.out 4; have hfz17_5 := blk_frozen BK212.out 5) | (go_at_call 10; (with_reducible refine (pytoken_Scan.calls a0 a1 a2 0 t213 t216 t217 t218 t219 t220 _ A6.out).mono ?_); rintro e w18 ⟨v214, rfl, ho0, hb⟩; have n0_ := Aside0.mk (Kd.R_elder' (by (with_reducible repeat (first | apply Kd.R_alloc | apply Kd.R_drewN | apply Kd.R_drew)); exact (Kd.R_mono (Kd.R_far (p := ⟨gb212, 5, none⟩) (Kd.R_far (p := ⟨gb212, 4, none⟩) (Kd.R_far (p := ⟨gb212, 3, none⟩) (Kd.R_far (p := ⟨gb212, 2, none⟩) (Kd.R_far (p := ⟨gb212, 1, none⟩) (Kd.R_far (p := ⟨gb212, 0, none⟩) (Kd.R_types HO206.out BK212.out (by decide)) (fun _ hk => hk.2) (.slice Ao16 t204.length co16)) (fun _ hk => hk.2) (.int .u8 t207)) (fun _ hk => hk.2) (.int .i64 t208)) (fun _ hk => hk.2) (.bool t209)) (fun _ hk => hk.2) (.bool t210)) (fun _ hk => hk.2) (.bool t211)) (fun _ h_ => h_.1))) (Kd.R_base ho0) hb); have n1_ := Aside0.mk (Kd.R_lower (Kd.R_new' ho0 (Kd.R_lt (by (with_reducible repeat (first | apply Kd.R_alloc | apply Kd.R_drewN | apply Kd.R_drew)); exact (Kd.R_mono (Kd.R_far (p := ⟨gb212, 5, none⟩) (Kd.R_far (p := ⟨gb212, 4, none⟩) (Kd.R_far (p := ⟨gb212, 3, none⟩) (Kd.R_far (p := ⟨gb212, 2, none⟩) (Kd.R_far (p := ⟨gb212, 1, none⟩) (Kd.R_far (p := ⟨gb212, 0, none⟩) (Kd.R_types HO206.out BK212.out (by decide)) (fun _ hk => hk.2) (.slice Ao16 t204.length co16)) (fun _ hk => hk.2) (.int .u8 t207)) (fun _ hk => hk.2) (.int .i64 t208)) (fun _ hk => hk.2) (.bool t209)) (fun _ hk => hk.2) (.bool t210)) (fun _ hk => hk.2) (.bool t211)) (fun _ h_ => h_.1))))) (below_size (by repeat (first | (with_reducible first | exact HB.out | apply below_alloc | apply pw_below_drewN | apply below_drew1 | refine below_set ?_ GE212.out) | exact HB.out)))); have n2_ := Aside0.mk (blk_below (g := gb212) (o := .cells #[.slice Ao16 t204.length co16, .int .u8 t207, .int .i64 t208, .bool t209, .bool t210, .bool t211] 25 (0, 0)) (by (with_reducible repeat (first | refine blk_drewN ?_ _ | refine blk_drew ?_ | refine blk_alloc ?_ _)); refine blk_put (cs := #[.slice Ao16 t204.length co16, .int .u8 t207, .int .i64 t208, .bool t209, .bool t210, .bool false]) ?_ 5 _ rfl; (with_reducible repeat (first | refine blk_drewN ?_ _ | refine blk_drew ?_ | refine blk_alloc ?_ _)); refine blk_put (cs := #[.slice Ao16 t204.length co16, .int .u8 t207, .int .i64 t208, .bool t209, .bool false, .bool false]) ?_ 4 _ rfl; (with_reducible repeat (first | refine blk_drewN ?_ _ | refine blk_drew ?_ | refine blk_alloc ?_ _)); refine blk_put (cs := #[.slice Ao16 t204.length co16, .int .u8 t207, .int .i64 t208, .bool false, .bool false, .bool false]) ?_ 3 _ rfl; (with_reducible repeat (first | refine blk_drewN ?_ _ | refine blk_drew ?_ | refine blk_alloc ?_ _)); refine blk_put (cs := #[.slice Ao16 t204.length co16, .int .u8 t207, .int .i64 0, .bool false, .bool false, .bool false]) ?_ 2 _ rfl; (with_reducible repeat (first | refine blk_drewN ?_ _ | refine blk_drew ?_ | refine blk_alloc ?_ _)); refine blk_put (cs := #[.slice Ao16 t204.length co16, .int .u8 0, .int .i64 0, .bool false, .bool false, .bool false]) ?_ 1 _ rfl; (with_reducible repeat (first | refine blk_drewN ?_ _ | refine blk_drew ?_ | refine blk_alloc ?_ _)); refine blk_put (cs := #[.slice none 0 0, .int .u8 0, .int .i64 0, .bool false, .bool false, .bool false]) ?_ 0 _ rfl; (with_reducible repeat (first | refine blk_drewN ?_ _ | refine blk_drew ?_ | refine blk_alloc ?_ _)); exact BK212.out) hb); have n3_ := Aside0.mk (below_step (by repeat (first | (with_reducible first | exact HB.out | apply below_alloc | apply pw_below_drewN | apply below_drew1 | refine below_set ?_ GE212.out) | exact HB.out)) hb); clear HO206; clear BK212; clear HB; have HO206 := n0_; have HO215 := n1_; have BK212 := n2_; have HB := n3_; clear n0_ n1_ n2_ n3_; (try clear hb); (try clear hb2); (try clear hk); (try clear hi); (try clear ho0)) | ((with_reducible refine gate_dst (N := 8) rfl ?_); refine box_event ?hg (N := 8) ?hd (cs := #[.slice none 0 0, .int .u8 0, .int .i64 0, .bool false, .bool false, .bool false]) (t := 25) ?hr ?_; (case hd => rfl); (case hg => rfl); (case hr => first | (go_simp; done) | (go_simp; rfl)); intro gb221 hg w19 hbox hb; have n0_ := Aside0.mk (Kd.R_below (by (with_reducible repeat (first | apply Kd.R_alloc | apply Kd.R_drewN | apply Kd.R_drew)); exact HO206.out) hb); have n1_ := Aside0.mk (Kd.R_below (by (with_reducible repeat (first | apply Kd.R_alloc | apply Kd.R_drewN | apply Kd.R_drew)); exact HO215.out) hb); have n2_ := Aside0.mk (blk_below (g := gb212) (o := .cells #[.slice Ao16 t204.length co16, .int .u8 t207, .int .i64 t208, .bool t209, .bool t210, .bool t211] 25 (0, 0)) (by (with_reducible repeat (first | refine blk_drewN ?_ _ | refine blk_drew ?_ | refine blk_alloc ?_ _)); exact BK212.out) hb); have n3_ := Aside0.mk (below_step (by repeat (first | (with_reducible first | exact HB.out | apply below_alloc | apply pw_below_drewN | apply below_drew1 | refine below_set ?_ GE212.out) | exact HB.out)) hb); have n4_ := Aside0.mk (hbox); have n5_ := Aside0.mk ((by rw [hg]; exact (below_size (by repeat (first | (with_reducible first | exact HB.out | apply below_alloc | apply pw_below_drewN | apply below_drew1 | refine below_set ?_ GE212.out) | exact HB.out))) : w.heap.size ≤ gb221)); have n6_ := Aside0.mk ((by rw [hg]; exact (below_size (by repeat (first | (with_reducible first | exact HB.out | apply below_alloc | apply pw_below_drewN | apply below_drew1 | refine below_set ?_ GE212.out) | exact HB.out))) : w.heap.size ≤ gb221)); have n7_ := Aside0.mk ((by rw [hg]; exact Nat.ne_of_lt (blk_lt (g := gb212) (o := .cells #[.slice Ao16 t204.length co16, .int .u8 t207, .int .i64 t208, .bool t209, .bool t210, .bool t211] 25 (0, 0)) (by (with_reducible repeat (first | refine blk_drewN ?_ _ | refine blk_drew ?_ | refine blk_alloc ?_ _)); exact BK212.out)) : gb212 ≠ gb221)); have n8_ := Aside0.mk ((by rw [hg]; exact Nat.ne_of_gt (blk_lt (g := gb212) (o := .cells #[.slice Ao16 t204.length co16, .int .u8 t207, .int .i64 t208, .bool t209, .bool t210, .bool t211] 25 (0, 0)) (by (with_reducible repeat (first | refine blk_drewN ?_ _ | refine blk_drew ?_ | refine blk_alloc ?_ _)); exact BK212.out)) : gb221 ≠ gb212)); clear HO206; clear HO215; clear BK212; clear HB; have HO206 := n0_; have HO215 := n1_; have BK212 := n2_; have HB := n3_; have BK221 := n4_; have GW221 := n5_; have GE221 := n6_; have NB212_221 := n7_; have NB221_212 := n8_; clear n0_ n1_ n2_ n3_ n4_ n5_ n6_ n7_ n8_; clear hb hbox hg; obtain ⟨Ao20, co20, eo20⟩ := Kd.R_slice HO215.out; subst eo20; have hnb21 := NB221_212.out; have hnc21 := NB212_221.out; have hcz22_0 : w19.cell? ⟨gb221, 0, none⟩ = some (.slice none 0 0) := (blk_cell BK221.out 0).trans rfl; have hcz22_1 : w19.cell? ⟨gb221, 1, none⟩ = some (.int .u8 0) := (blk_cell BK221.out 1).trans rfl; have hcz22_2 : w19.cell? ⟨gb221, 2, none⟩ = some (.int .i64 0) := (blk_cell BK221.out 2).trans rfl; have hcz22_3 : w19.cell? ⟨gb221, 3, none⟩ = some (.bool false) := (blk_cell BK221.out 3).trans rfl; have hcz22_4 : w19.cell? ⟨gb221, 4, none⟩ = some (.bool false) := (blk_cell BK221.out 4).trans rfl; have hcz22_5 : w19.cell? ⟨gb221, 5, none⟩ = some (.bool false) := (blk_cell BK221.out 5).trans rfl; have hfz22_0 := blk_frozen BK221.out 0; have hfz22_1 := blk_frozen BK221.out 1; have hfz22_2 := blk_frozen BK221.out 2; have hfz22_3 := blk_frozen BK221.out 3; have hfz22_4 := blk_frozen BK221.out 4; have hfz22_5 := blk_frozen BK221.out 5) | (go_at_call 13; (with_reducible refine (indentureref11_End.calls k a0 t222 _ A7.out).mono ?_); rintro e w' ⟨rfl, ⟨nd, rfl⟩⟩; (try first | exact ⟨rfl, _, World.drewN_drewN _ _ _⟩ | exact ⟨rfl, _, Eq.trans (World.drewN_drewN _ _ _) (congrArg (World.drewN _) (Nat.add_assoc _ _ _))⟩)) | (go_at_call 10; (with_reducible refine (pytoken_Scan.calls (a0.extract ((ji9) : Int).toNat a0.size) 0 a2 0 t223 t226 t227 t228 t229 t230 _ A12.out).mono ?_); rintro e w23 ⟨v224, rfl, ho0, hb⟩; have n0_ := Aside0.mk (Kd.R_elder' (by (with_reducible repeat (first | apply Kd.R_alloc | apply Kd.R_drewN | apply Kd.R_drew)); exact (Kd.R_mono (Kd.R_far (p := ⟨gb221, 5, none⟩) (Kd.R_far (p := ⟨gb221, 4, none⟩) (Kd.R_far (p := ⟨gb221, 3, none⟩) (Kd.R_far (p := ⟨gb221, 2, none⟩) (Kd.R_far (p := ⟨gb221, 1, none⟩) (Kd.R_far (p := ⟨gb221, 0, none⟩) (Kd.R_types HO206.out BK221.out (by decide)) (fun _ hk => hk.2) (.slice Ao20 t213.length co20)) (fun _ hk => hk.2) (.int .u8 t216)) (fun _ hk => hk.2) (.int .i64 t217)) (fun _ hk => hk.2) (.bool t218)) (fun _ hk => hk.2) (.bool t219)) (fun _ hk => hk.2) (.bool t220)) (fun _ h_ => h_.1))) (Kd.R_base ho0) hb); have n1_ := Aside0.mk (Kd.R_elder' (by (with_reducible repeat (first | apply Kd.R_alloc | apply Kd.R_drewN | apply Kd.R_drew)); exact (Kd.R_mono (Kd.R_far (p := ⟨gb221, 5, none⟩) (Kd.R_far (p := ⟨gb221, 4, none⟩) (Kd.R_far (p := ⟨gb221, 3, none⟩) (Kd.R_far (p := ⟨gb221, 2, none⟩) (Kd.R_far (p := ⟨gb221, 1, none⟩) (Kd.R_far (p := ⟨gb221, 0, none⟩) (Kd.R_types HO215.out BK221.out (by decide)) (fun _ hk => hk.2) (.slice Ao20 t213.length co20)) (fun _ hk => hk.2) (.int .u8 t216)) (fun _ hk => hk.2) (.int .i64 t217)) (fun _ hk => hk.2) (.bool t218)) (fun _ hk => hk.2) (.bool t219)) (fun _ hk => hk.2) (.bool t220)) (fun _ h_ => h_.1))) (Kd.R_base ho0) hb); have n2_ := Aside0.mk (Kd.R_lower (Kd.R_new' (Kd.R_new' ho0 (Kd.R_lt (by (with_reducible repeat (first | apply Kd.R_alloc | apply Kd.R_drewN | apply Kd.R_drew)); exact (Kd.R_mono (Kd.R_far (p := ⟨gb221, 5, none⟩) (Kd.R_far (p := ⟨gb221, 4, none⟩) (Kd.R_far (p := ⟨gb221, 3, none⟩) (Kd.R_far (p := ⟨gb221, 2, none⟩) (Kd.R_far (p := ⟨gb221, 1, none⟩) (Kd.R_far (p := ⟨gb221, 0, none⟩) (Kd.R_types HO206.out BK221.out (by decide)) (fun _ hk => hk.2) (.slice Ao20 t213.length co20)) (fun _ hk => hk.2) (.int .u8 t216)) (fun _ hk => hk.2) (.int .i64 t217)) (fun _ hk => hk.2) (.bool t218)) (fun _ hk => hk.2) (.bool t219)) (fun _ hk => hk.2) (.bool t220)) (fun _ h_ => h_.1))))) (Kd.R_lt (by (with_reducible repeat (first | apply Kd.R_alloc | apply Kd.R_drewN | apply Kd.R_drew)); exact (Kd.R_mono (Kd.R_far (p := ⟨gb221, 5, none⟩) (Kd.R_far (p := ⟨gb221, 4, none⟩) (Kd.R_far (p := ⟨gb221, 3, none⟩) (Kd.R_far (p := ⟨gb221, 2, none⟩) (Kd.R_far (p := ⟨gb221, 1, none⟩) (Kd.R_far (p := ⟨gb221, 0, none⟩) (Kd.R_types HO215.out BK221.out (by decide)) (fun _ hk => hk.2) (.slice Ao20 t213.length co20)) (fun _ hk => hk.2) (.int .u8 t216)) (fun _ hk => hk.2) (.int .i64 t217)) (fun _ hk => hk.2) (.bool t218)) (fun _ hk => hk.2) (.bool t219)) (fun _ hk => hk.2) (.bool t220)) (fun _ h_ => h_.1))))) (below_size (by repeat (first | (with_reducible first | exact HB.out | apply below_alloc | apply pw_below_drewN | apply below_drew1 | refine below_set ?_ GE212.out | refine below_set ?_ GE221.out) | exact HB.out)))); have n3_ := Aside0.mk (blk_below (g := gb212) (o := .cells #[.slice Ao16 t204.length co16, .int .u8 t207, .int .i64 t208, .bool t209, .bool t210, .bool t211] 25 (0, 0)) (by (with_reducible repeat (first | refine blk_drewN ?_ _ | refine blk_drew ?_ | refine blk_alloc ?_ _)); refine blk_far ?_ NB212_221.out _; (with_reducible repeat (first | refine blk_drewN ?_ _ | refine blk_drew ?_ | refine blk_alloc ?_ _)); refine blk_far ?_ NB212_221.out _; (with_reducible repeat (first | refine blk_drewN ?_ _ | refine blk_drew ?_ | refine blk_alloc ?_ _)); refine blk_far ?_ NB212_221.out _; (with_reducible repeat (first | refine blk_drewN ?_ _ | refine blk_drew ?_ | refine blk_alloc ?_ _)); refine blk_far ?_ NB212_221.out _; (with_reducible repeat (first | refine blk_drewN ?_ _ | refine blk_drew ?_ | refine blk_alloc ?_ _)); refine blk_far ?_ NB212_221.out _; (with_reducible repeat (first | refine blk_drewN ?_ _ | refine blk_drew ?_ | refine blk_alloc ?_ _)); refine blk_far ?_ NB212_221.out _; (with_reducible repeat (first | refine blk_drewN ?_ _ | refine blk_drew ?_ | refine blk_alloc ?_ _)); exact BK212.out) hb); have n4_ := Aside0.mk (blk_below (g := gb221) (o := .cells #[.slice Ao20 t213.length co20, .int .u8 t216, .int .i64 t217, .bool t218, .bool t219, .bool t220] 25 (0, 0)) (by (with_reducible repeat (first | refine blk_drewN ?_ _ | refine blk_drew ?_ | refine blk_alloc ?_ _)); refine blk_put (cs := #[.slice Ao20 t213.length co20, .int .u8 t216, .int .i64 t217, .bool t218, .bool t219, .bool false]) ?_ 5 _ rfl; (with_reducible repeat (first | refine blk_drewN ?_ _ | refine blk_drew ?_ | refine blk_alloc ?_ _)); refine blk_put (cs := #[.slice Ao20 t213.length co20, .int .u8 t216, .int .i64 t217, .bool t218, .bool false, .bool false]) ?_ 4 _ rfl; (with_reducible repeat (first | refine blk_drewN ?_ _ | refine blk_drew ?_ | refine blk_alloc ?_ _)); refine blk_put (cs := #[.slice Ao20 t213.length co20, .int .u8 t216, .int .i64 t217, .bool false, .bool false, .bool false]) ?_ 3 _ rfl; (with_reducible repeat (first | refine blk_drewN ?_ _ | refine blk_drew ?_ | refine blk_alloc ?_ _)); refine blk_put (cs := #[.slice Ao20 t213.length co20, .int .u8 t216, .int .i64 0, .bool false, .bool false, .bool false]) ?_ 2 _ rfl; (with_reducible repeat (first | refine blk_drewN ?_ _ | refine blk_drew ?_ | refine blk_alloc ?_ _)); refine blk_put (cs := #[.slice Ao20 t213.length co20, .int .u8 0, .int .i64 0, .bool false, .bool false, .bool false]) ?_ 1 _ rfl; (with_reducible repeat (first | refine blk_drewN ?_ _ | refine blk_drew ?_ | refine blk_alloc ?_ _)); refine blk_put (cs := #[.slice none 0 0, .int .u8 0, .int .i64 0, .bool false, .bool false, .bool false]) ?_ 0 _ rfl; (with_reducible repeat (first | refine blk_drewN ?_ _ | refine blk_drew ?_ | refine blk_alloc ?_ _)); exact BK221.out) hb); have n5_ := Aside0.mk (below_step (by repeat (first | (with_reducible first | exact HB.out | apply below_alloc | apply pw_below_drewN | apply below_drew1 | refine below_set ?_ GE212.out | refine below_set ?_ GE221.out) | exact HB.out)) hb); clear HO206; clear HO215; clear BK212; clear BK221; clear HB; have HO206 := n0_; have HO215 := n1_; have HO225 := n2_; have BK212 := n3_; have BK221 := n4_; have HB := n5_; clear n0_ n1_ n2_ n3_ n4_ n5_; (try clear hb); (try clear hb2); (try clear hk); (try clear hi); (try clear ho0)) | ((with_reducible refine gate_dst (N := 10) rfl ?_); refine box_event ?hg (N := 10) ?hd (cs := #[.slice none 0 0, .int .u8 0, .int .i64 0, .bool false, .bool false, .bool false]) (t := 25) ?hr ?_; (case hd => rfl); (case hg => rfl); (case hr => first | (go_simp; done) | (go_simp; rfl)); intro gb231 hg w24 hbox hb; have n0_ := Aside0.mk (Kd.R_below (by (with_reducible repeat (first | apply Kd.R_alloc | apply Kd.R_drewN | apply Kd.R_drew)); exact HO206.out) hb); have n1_ := Aside0.mk (Kd.R_below (by (with_reducible repeat (first | apply Kd.R_alloc | apply Kd.R_drewN | apply Kd.R_drew)); exact HO215.out) hb); have n2_ := Aside0.mk (Kd.R_below (by (with_reducible repeat (first | apply Kd.R_alloc | apply Kd.R_drewN | apply Kd.R_drew)); exact HO225.out) hb); have n3_ := Aside0.mk (blk_below (g := gb212) (o := .cells #[.slice Ao16 t204.length co16, .int .u8 t207, .int .i64 t208, .bool t209, .bool t210, .bool t211] 25 (0, 0)) (by (with_reducible repeat (first | refine blk_drewN ?_ _ | refine blk_drew ?_ | refine blk_alloc ?_ _)); exact BK212.out) hb); have n4_ := Aside0.mk (blk_below (g := gb221) (o := .cells #[.slice Ao20 t213.length co20, .int .u8 t216, .int .i64 t217, .bool t218, .bool t219, .bool t220] 25 (0, 0)) (by (with_reducible repeat (first | refine blk_drewN ?_ _ | refine blk_drew ?_ | refine blk_alloc ?_ _)); exact BK221.out) hb); have n5_ := Aside0.mk (below_step (by repeat (first | (with_reducible first | exact HB.out | apply below_alloc | apply pw_below_drewN | apply below_drew1 | refine below_set ?_ GE212.out | refine below_set ?_ GE221.out) | exact HB.out)) hb); have n6_ := Aside0.mk (hbox); have n7_ := Aside0.mk ((by rw [hg]; exact (below_size (by repeat (first | (with_reducible first | exact HB.out | apply below_alloc | apply pw_below_drewN | apply below_drew1 | refine below_set ?_ GE212.out | refine below_set ?_ GE221.out) | exact HB.out))) : w.heap.size ≤ gb231)); have n8_ := Aside0.mk ((by rw [hg]; exact (below_size (by repeat (first | (with_reducible first | exact HB.out | apply below_alloc | apply pw_below_drewN | apply below_drew1 | refine below_set ?_ GE212.out | refine below_set ?_ GE221.out) | exact HB.out))) : w.heap.size ≤ gb231)); have n9_ := Aside0.mk ((by rw [hg]; exact Nat.ne_of_lt (blk_lt (g := gb212) (o := .cells #[.slice Ao16 t204.length co16, .int .u8 t207, .int .i64 t208, .bool t209, .bool t210, .bool t211] 25 (0, 0)) (by (with_reducible repeat (first | refine blk_drewN ?_ _ | refine blk_drew ?_ | refine blk_alloc ?_ _)); exact BK212.out)) : gb212 ≠ gb231)); have n10_ := Aside0.mk ((by rw [hg]; exact Nat.ne_of_gt (blk_lt (g := gb212) (o := .cells #[.slice Ao16 t204.length co16, .int .u8 t207, .int .i64 t208, .bool t209, .bool t210, .bool t211] 25 (0, 0)) (by (with_reducible repeat (first | refine blk_drewN ?_ _ | refine blk_drew ?_ | refine blk_alloc ?_ _)); exact BK212.out)) : gb231 ≠ gb212)); have n11_ := Aside0.mk ((by rw [hg]; exact Nat.ne_of_lt (blk_lt (g := gb221) (o := .cells #[.slice Ao20 t213.length co20, .int .u8 t216, .int .i64 t217, .bool t218, .bool t219, .bool t220] 25 (0, 0)) (by (with_reducible repeat (first | refine blk_drewN ?_ _ | refine blk_drew ?_ | refine blk_alloc ?_ _)); exact BK221.out)) : gb221 ≠ gb231)); have n12_ := Aside0.mk ((by rw [hg]; exact Nat.ne_of_gt (blk_lt (g := gb221) (o := .cells #[.slice Ao20 t213.length co20, .int .u8 t216, .int .i64 t217, .bool t218, .bool t219, .bool t220] 25 (0, 0)) (by (with_reducible repeat (first | refine blk_drewN ?_ _ | refine blk_drew ?_ | refine blk_alloc ?_ _)); exact BK221.out)) : gb231 ≠ gb221)); clear HO206; clear HO215; clear HO225; clear BK212; clear BK221; clear HB; have HO206 := n0_; have HO215 := n1_; have HO225 := n2_; have BK212 := n3_; have BK221 := n4_; have HB := n5_; have BK231 := n6_; have GW231 := n7_; have GE231 := n8_; have NB212_231 := n9_; have NB231_212 := n10_; have NB221_231 := n11_; have NB231_221 := n12_; clear n0_ n1_ n2_ n3_ n4_ n5_ n6_ n7_ n8_ n9_ n10_ n11_ n12_; clear hb hbox hg; obtain ⟨Ao25, co25, eo25⟩ := Kd.R_slice HO225.out; subst eo25; have hnb26 := NB231_212.out; have hnc26 := NB212_231.out; have hnb27 := NB231_221.out; have hnc27 := NB221_231.out; have hcz28_0 : w24.cell? ⟨gb231, 0, none⟩ = some (.slice none 0 0) := (blk_cell BK231.out 0).trans rfl; have hcz28_1 : w24.cell? ⟨gb231, 1, none⟩ = some (.int .u8 0) := (blk_cell BK231.out 1).trans rfl; have hcz28_2 : w24.cell? ⟨gb231, 2, none⟩ = some (.int .i64 0) := (blk_cell BK231.out 2).trans rfl; have hcz28_3 : w24.cell? ⟨gb231, 3, none⟩ = some (.bool false) := (blk_cell BK231.out 3).trans rfl; have hcz28_4 : w24.cell? ⟨gb231, 4, none⟩ = some (.bool false) := (blk_cell BK231.out 4).trans rfl; have hcz28_5 : w24.cell? ⟨gb231, 5, none⟩ = some (.bool false) := (blk_cell BK231.out 5).trans rfl; have hfz28_0 := blk_frozen BK231.out 0; have hfz28_1 := blk_frozen BK231.out 1; have hfz28_2 := blk_frozen BK231.out 2; have hfz28_3 := blk_frozen BK231.out 3; have hfz28_4 := blk_frozen BK231.out 4; have hfz28_5 := blk_frozen BK231.out 5))
        repeat (go_quiet (first | (go_at_call 10; (with_reducible refine (pytoken_Scan.calls a0 a1 a2 0 t204 t207 t208 t209 t210 t211 _ A5.out).mono ?_); rintro e w14 ⟨v205, rfl, ho0, hb⟩; have n0_ := Aside0.mk (Kd.R_lower ho0 (below_size (by repeat (first | (with_reducible first | exact HB.out | apply below_alloc | apply pw_below_drewN | apply below_drew1) | exact HB.out)))); have n1_ := Aside0.mk (below_step (by repeat (first | (with_reducible first | exact HB.out | apply below_alloc | apply pw_below_drewN | apply below_drew1) | exact HB.out)) hb); clear HB; have HO206 := n0_; have HB := n1_; clear n0_ n1_; (try clear hb); (try clear hb2); (try clear hk); (try clear hi); (try clear ho0)) | ((with_reducible refine gate_dst (N := 7) rfl ?_); refine box_event ?hg (N := 7) ?hd (cs := #[.slice none 0 0, .int .u8 0, .int .i64 0, .bool false, .bool false, .bool false]) (t := 25) ?hr ?_; (case hd => rfl); (case hg => rfl); (case hr => first | (go_simp; done) | (go_simp; rfl)); intro gb212 hg w15 hbox hb; have n0_ := Aside0.mk (Kd.R_below (by (with_reducible repeat (first | apply Kd.R_alloc | apply Kd.R_drewN | apply Kd.R_drew)); exact HO206.out) hb); have n1_ := Aside0.mk (below_step (by repeat (first | (with_reducible first | exact HB.out | apply below_alloc | apply pw_below_drewN | apply below_drew1) | exact HB.out)) hb); have n2_ := Aside0.mk (hbox); have n3_ := Aside0.mk ((by rw [hg]; exact (below_size (by repeat (first | (with_reducible first | exact HB.out | apply below_alloc | apply pw_below_drewN | apply below_drew1) | exact HB.out))) : w.heap.size ≤ gb212)); have n4_ := Aside0.mk ((by rw [hg]; exact (below_size (by repeat (first | (with_reducible first | exact HB.out | apply below_alloc | apply pw_below_drewN | apply below_drew1) | exact HB.out))) : w.heap.size ≤ gb212)); clear HO206; clear HB; have HO206 := n0_; have HB := n1_; have BK212 := n2_; have GW212 := n3_; have GE212 := n4_; clear n0_ n1_ n2_ n3_ n4_; clear hb hbox hg; obtain ⟨Ao16, co16, eo16⟩ := Kd.R_slice HO206.out; subst eo16; have hcz17_0 : w15.cell? ⟨gb212, 0, none⟩ = some (.slice none 0 0) := (blk_cell BK212.out 0).trans rfl; have hcz17_1 : w15.cell? ⟨gb212, 1, none⟩ = some (.int .u8 0) := (blk_cell BK212.out 1).trans rfl; have hcz17_2 : w15.cell? ⟨gb212, 2, none⟩ = some (.int .i64 0) := (blk_cell BK212.out 2).trans rfl; have hcz17_3 : w15.cell? ⟨gb212, 3, none⟩ = some (.bool false) := (blk_cell BK212.out 3).trans rfl; have hcz17_4 : w15.cell? ⟨gb212, 4, none⟩ = some (.bool false) := (blk_cell BK212.out 4).trans rfl; have hcz17_5 : w15.cell? ⟨gb212, 5, none⟩ = some (.bool false) := (blk_cell BK212.out 5).trans rfl; have hfz17_0 := blk_frozen BK212.out 0; have hfz17_1 := blk_frozen BK212.out 1; have hfz17_2 := blk_frozen BK212.out 2; have hfz17_3 := blk_frozen BK212.out 3; have hfz17_4 := blk_frozen BK212.out 4; have hfz17_5 := blk_frozen BK212.out 5) | (go_at_call 10; (with_reducible refine (pytoken_Scan.calls a0 a1 a2 0 t213 t216 t217 t218 t219 t220 _ A6.out).mono ?_); rintro e w18 ⟨v214, rfl, ho0, hb⟩; have n0_ := Aside0.mk (Kd.R_elder' (by (with_reducible repeat (first | apply Kd.R_alloc | apply Kd.R_drewN | apply Kd.R_drew)); exact (Kd.R_mono (Kd.R_far (p := ⟨gb212, 5, none⟩) (Kd.R_far (p := ⟨gb212, 4, none⟩) (Kd.R_far (p := ⟨gb212, 3, none⟩) (Kd.R_far (p := ⟨gb212, 2, none⟩) (Kd.R_far (p := ⟨gb212, 1, none⟩) (Kd.R_far (p := ⟨gb212, 0, none⟩) (Kd.R_types HO206.out BK212.out (by decide)) (fun _ hk => hk.2) (.slice Ao16 t204.length co16)) (fun _ hk => hk.2) (.int .u8 t207)) (fun _ hk => hk.2) (.int .i64 t208)) (fun _ hk => hk.2) (.bool t209)) (fun _ hk => hk.2) (.bool t210)) (fun _ hk => hk.2) (.bool t211)) (fun _ h_ => h_.1))) (Kd.R_base ho0) hb); have n1_ := Aside0.mk (Kd.R_lower (Kd.R_new' ho0 (Kd.R_lt (by (with_reducible repeat (first | apply Kd.R_alloc | apply Kd.R_drewN | apply Kd.R_drew)); exact (Kd.R_mono (Kd.R_far (p := ⟨gb212, 5, none⟩) (Kd.R_far (p := ⟨gb212, 4, none⟩) (Kd.R_far (p := ⟨gb212, 3, none⟩) (Kd.R_far (p := ⟨gb212, 2, none⟩) (Kd.R_far (p := ⟨gb212, 1, none⟩) (Kd.R_far (p := ⟨gb212, 0, none⟩) (Kd.R_types HO206.out BK212.out (by decide)) (fun _ hk => hk.2) (.slice Ao16 t204.length co16)) (fun _ hk => hk.2) (.int .u8 t207)) (fun _ hk => hk.2) (.int .i64 t208)) (fun _ hk => hk.2) (.bool t209)) (fun _ hk => hk.2) (.bool t210)) (fun _ hk => hk.2) (.bool t211)) (fun _ h_ => h_.1))))) (below_size (by repeat (first | (with_reducible first | exact HB.out | apply below_alloc | apply pw_below_drewN | apply below_drew1 | refine below_set ?_ GE212.out) | exact HB.out)))); have n2_ := Aside0.mk (blk_below (g := gb212) (o := .cells #[.slice Ao16 t204.length co16, .int .u8 t207, .int .i64 t208, .bool t209, .bool t210, .bool t211] 25 (0, 0)) (by (with_reducible repeat (first | refine blk_drewN ?_ _ | refine blk_drew ?_ | refine blk_alloc ?_ _)); refine blk_put (cs := #[.slice Ao16 t204.length co16, .int .u8 t207, .int .i64 t208, .bool t209, .bool t210, .bool false]) ?_ 5 _ rfl; (with_reducible repeat (first | refine blk_drewN ?_ _ | refine blk_drew ?_ | refine blk_alloc ?_ _)); refine blk_put (cs := #[.slice Ao16 t204.length co16, .int .u8 t207, .int .i64 t208, .bool t209, .bool false, .bool false]) ?_ 4 _ rfl; (with_reducible repeat (first | refine blk_drewN ?_ _ | refine blk_drew ?_ | refine blk_alloc ?_ _)); refine blk_put (cs := #[.slice Ao16 t204.length co16, .int .u8 t207, .int .i64 t208, .bool false, .bool false, .bool false]) ?_ 3 _ rfl; (with_reducible repeat (first | refine blk_drewN ?_ _ | refine blk_drew ?_ | refine blk_alloc ?_ _)); refine blk_put (cs := #[.slice Ao16 t204.length co16, .int .u8 t207, .int .i64 0, .bool false, .bool false, .bool false]) ?_ 2 _ rfl; (with_reducible repeat (first | refine blk_drewN ?_ _ | refine blk_drew ?_ | refine blk_alloc ?_ _)); refine blk_put (cs := #[.slice Ao16 t204.length co16, .int .u8 0, .int .i64 0, .bool false, .bool false, .bool false]) ?_ 1 _ rfl; (with_reducible repeat (first | refine blk_drewN ?_ _ | refine blk_drew ?_ | refine blk_alloc ?_ _)); refine blk_put (cs := #[.slice none 0 0, .int .u8 0, .int .i64 0, .bool false, .bool false, .bool false]) ?_ 0 _ rfl; (with_reducible repeat (first | refine blk_drewN ?_ _ | refine blk_drew ?_ | refine blk_alloc ?_ _)); exact BK212.out) hb); have n3_ := Aside0.mk (below_step (by repeat (first | (with_reducible first | exact HB.out | apply below_alloc | apply pw_below_drewN | apply below_drew1 | refine below_set ?_ GE212.out) | exact HB.out)) hb); clear HO206; clear BK212; clear HB; have HO206 := n0_; have HO215 := n1_; have BK212 := n2_; have HB := n3_; clear n0_ n1_ n2_ n3_; (try clear hb); (try clear hb2); (try clear hk); (try clear hi); (try clear ho0)) | ((with_reducible refine gate_dst (N := 8) rfl ?_); refine box_event ?hg (N := 8) ?hd (cs := #[.slice none 0 0, .int .u8 0, .int .i64 0, .bool false, .bool false, .bool false]) (t := 25) ?hr ?_; (case hd => rfl); (case hg => rfl); (case hr => first | (go_simp; done) | (go_simp; rfl)); intro gb221 hg w19 hbox hb; have n0_ := Aside0.mk (Kd.R_below (by (with_reducible repeat (first | apply Kd.R_alloc | apply Kd.R_drewN | apply Kd.R_drew)); exact HO206.out) hb); have n1_ := Aside0.mk (Kd.R_below (by (with_reducible repeat (first | apply Kd.R_alloc | apply Kd.R_drewN | apply Kd.R_drew)); exact HO215.out) hb); have n2_ := Aside0.mk (blk_below (g := gb212) (o := .cells #[.slice Ao16 t204.length co16, .int .u8 t207, .int .i64 t208, .bool t209, .bool t210, .bool t211] 25 (0, 0)) (by (with_reducible repeat (first | refine blk_drewN ?_ _ | refine blk_drew ?_ | refine blk_alloc ?_ _)); exact BK212.out) hb); have n3_ := Aside0.mk (below_step (by repeat (first | (with_reducible first | exact HB.out | apply below_alloc | apply pw_below_drewN | apply below_drew1 | refine below_set ?_ GE212.out) | exact HB.out)) hb); have n4_ := Aside0.mk (hbox); have n5_ := Aside0.mk ((by rw [hg]; exact (below_size (by repeat (first | (with_reducible first | exact HB.out | apply below_alloc | apply pw_below_drewN | apply below_drew1 | refine below_set ?_ GE212.out) | exact HB.out))) : w.heap.size ≤ gb221)); have n6_ := Aside0.mk ((by rw [hg]; exact (below_size (by repeat (first | (with_reducible first | exact HB.out | apply below_alloc | apply pw_below_drewN | apply below_drew1 | refine below_set ?_ GE212.out) | exact HB.out))) : w.heap.size ≤ gb221)); have n7_ := Aside0.mk ((by rw [hg]; exact Nat.ne_of_lt (blk_lt (g := gb212) (o := .cells #[.slice Ao16 t204.length co16, .int .u8 t207, .int .i64 t208, .bool t209, .bool t210, .bool t211] 25 (0, 0)) (by (with_reducible repeat (first | refine blk_drewN ?_ _ | refine blk_drew ?_ | refine blk_alloc ?_ _)); exact BK212.out)) : gb212 ≠ gb221)); have n8_ := Aside0.mk ((by rw [hg]; exact Nat.ne_of_gt (blk_lt (g := gb212) (o := .cells #[.slice Ao16 t204.length co16, .int .u8 t207, .int .i64 t208, .bool t209, .bool t210, .bool t211] 25 (0, 0)) (by (with_reducible repeat (first | refine blk_drewN ?_ _ | refine blk_drew ?_ | refine blk_alloc ?_ _)); exact BK212.out)) : gb221 ≠ gb212)); clear HO206; clear HO215; clear BK212; clear HB; have HO206 := n0_; have HO215 := n1_; have BK212 := n2_; have HB := n3_; have BK221 := n4_; have GW221 := n5_; have GE221 := n6_; have NB212_221 := n7_; have NB221_212 := n8_; clear n0_ n1_ n2_ n3_ n4_ n5_ n6_ n7_ n8_; clear hb hbox hg; obtain ⟨Ao20, co20, eo20⟩ := Kd.R_slice HO215.out; subst eo20; have hnb21 := NB221_212.out; have hnc21 := NB212_221.out; have hcz22_0 : w19.cell? ⟨gb221, 0, none⟩ = some (.slice none 0 0) := (blk_cell BK221.out 0).trans rfl; have hcz22_1 : w19.cell? ⟨gb221, 1, none⟩ = some (.int .u8 0) := (blk_cell BK221.out 1).trans rfl; have hcz22_2 : w19.cell? ⟨gb221, 2, none⟩ = some (.int .i64 0) := (blk_cell BK221.out 2).trans rfl; have hcz22_3 : w19.cell? ⟨gb221, 3, none⟩ = some (.bool false) := (blk_cell BK221.out 3).trans rfl; have hcz22_4 : w19.cell? ⟨gb221, 4, none⟩ = some (.bool false) := (blk_cell BK221.out 4).trans rfl; have hcz22_5 : w19.cell? ⟨gb221, 5, none⟩ = some (.bool false) := (blk_cell BK221.out 5).trans rfl; have hfz22_0 := blk_frozen BK221.out 0; have hfz22_1 := blk_frozen BK221.out 1; have hfz22_2 := blk_frozen BK221.out 2; have hfz22_3 := blk_frozen BK221.out 3; have hfz22_4 := blk_frozen BK221.out 4; have hfz22_5 := blk_frozen BK221.out 5) | (go_at_call 13; (with_reducible refine (indentureref11_End.calls k a0 t222 _ A7.out).mono ?_); rintro e w' ⟨rfl, ⟨nd, rfl⟩⟩; (try first | exact ⟨rfl, _, World.drewN_drewN _ _ _⟩ | exact ⟨rfl, _, Eq.trans (World.drewN_drewN _ _ _) (congrArg (World.drewN _) (Nat.add_assoc _ _ _))⟩)) | (go_at_call 10; (with_reducible refine (pytoken_Scan.calls (a0.extract ((ji9) : Int).toNat a0.size) 0 a2 0 t223 t226 t227 t228 t229 t230 _ A12.out).mono ?_); rintro e w23 ⟨v224, rfl, ho0, hb⟩; have n0_ := Aside0.mk (Kd.R_elder' (by (with_reducible repeat (first | apply Kd.R_alloc | apply Kd.R_drewN | apply Kd.R_drew)); exact (Kd.R_mono (Kd.R_far (p := ⟨gb221, 5, none⟩) (Kd.R_far (p := ⟨gb221, 4, none⟩) (Kd.R_far (p := ⟨gb221, 3, none⟩) (Kd.R_far (p := ⟨gb221, 2, none⟩) (Kd.R_far (p := ⟨gb221, 1, none⟩) (Kd.R_far (p := ⟨gb221, 0, none⟩) (Kd.R_types HO206.out BK221.out (by decide)) (fun _ hk => hk.2) (.slice Ao20 t213.length co20)) (fun _ hk => hk.2) (.int .u8 t216)) (fun _ hk => hk.2) (.int .i64 t217)) (fun _ hk => hk.2) (.bool t218)) (fun _ hk => hk.2) (.bool t219)) (fun _ hk => hk.2) (.bool t220)) (fun _ h_ => h_.1))) (Kd.R_base ho0) hb); have n1_ := Aside0.mk (Kd.R_elder' (by (with_reducible repeat (first | apply Kd.R_alloc | apply Kd.R_drewN | apply Kd.R_drew)); exact (Kd.R_mono (Kd.R_far (p := ⟨gb221, 5, none⟩) (Kd.R_far (p := ⟨gb221, 4, none⟩) (Kd.R_far (p := ⟨gb221, 3, none⟩) (Kd.R_far (p := ⟨gb221, 2, none⟩) (Kd.R_far (p := ⟨gb221, 1, none⟩) (Kd.R_far (p := ⟨gb221, 0, none⟩) (Kd.R_types HO215.out BK221.out (by decide)) (fun _ hk => hk.2) (.slice Ao20 t213.length co20)) (fun _ hk => hk.2) (.int .u8 t216)) (fun _ hk => hk.2) (.int .i64 t217)) (fun _ hk => hk.2) (.bool t218)) (fun _ hk => hk.2) (.bool t219)) (fun _ hk => hk.2) (.bool t220)) (fun _ h_ => h_.1))) (Kd.R_base ho0) hb); have n2_ := Aside0.mk (Kd.R_lower (Kd.R_new' (Kd.R_new' ho0 (Kd.R_lt (by (with_reducible repeat (first | apply Kd.R_alloc | apply Kd.R_drewN | apply Kd.R_drew)); exact (Kd.R_mono (Kd.R_far (p := ⟨gb221, 5, none⟩) (Kd.R_far (p := ⟨gb221, 4, none⟩) (Kd.R_far (p := ⟨gb221, 3, none⟩) (Kd.R_far (p := ⟨gb221, 2, none⟩) (Kd.R_far (p := ⟨gb221, 1, none⟩) (Kd.R_far (p := ⟨gb221, 0, none⟩) (Kd.R_types HO206.out BK221.out (by decide)) (fun _ hk => hk.2) (.slice Ao20 t213.length co20)) (fun _ hk => hk.2) (.int .u8 t216)) (fun _ hk => hk.2) (.int .i64 t217)) (fun _ hk => hk.2) (.bool t218)) (fun _ hk => hk.2) (.bool t219)) (fun _ hk => hk.2) (.bool t220)) (fun _ h_ => h_.1))))) (Kd.R_lt (by (with_reducible repeat (first | apply Kd.R_alloc | apply Kd.R_drewN | apply Kd.R_drew)); exact (Kd.R_mono (Kd.R_far (p := ⟨gb221, 5, none⟩) (Kd.R_far (p := ⟨gb221, 4, none⟩) (Kd.R_far (p := ⟨gb221, 3, none⟩) (Kd.R_far (p := ⟨gb221, 2, none⟩) (Kd.R_far (p := ⟨gb221, 1, none⟩) (Kd.R_far (p := ⟨gb221, 0, none⟩) (Kd.R_types HO215.out BK221.out (by decide)) (fun _ hk => hk.2) (.slice Ao20 t213.length co20)) (fun _ hk => hk.2) (.int .u8 t216)) (fun _ hk => hk.2) (.int .i64 t217)) (fun _ hk => hk.2) (.bool t218)) (fun _ hk => hk.2) (.bool t219)) (fun _ hk => hk.2) (.bool t220)) (fun _ h_ => h_.1))))) (below_size (by repeat (first | (with_reducible first | exact HB.out | apply below_alloc | apply pw_below_drewN | apply below_drew1 | refine below_set ?_ GE212.out | refine below_set ?_ GE221.out) | exact HB.out)))); have n3_ := Aside0.mk (blk_below (g := gb212) (o := .cells #[.slice Ao16 t204.length co16, .int .u8 t207, .int .i64 t208, .bool t209, .bool t210, .bool t211] 25 (0, 0)) (by (with_reducible repeat (first | refine blk_drewN ?_ _ | refine blk_drew ?_ | refine blk_alloc ?_ _)); refine blk_far ?_ NB212_221.out _; (with_reducible repeat (first | refine blk_drewN ?_ _ | refine blk_drew ?_ | refine blk_alloc ?_ _)); refine blk_far ?_ NB212_221.out _; (with_reducible repeat (first | refine blk_drewN ?_ _ | refine blk_drew ?_ | refine blk_alloc ?_ _)); refine blk_far ?_ NB212_221.out _; (with_reducible repeat (first | refine blk_drewN ?_ _ | refine blk_drew ?_ | refine blk_alloc ?_ _)); refine blk_far ?_ NB212_221.out _; (with_reducible repeat (first | refine blk_drewN ?_ _ | refine blk_drew ?_ | refine blk_alloc ?_ _)); refine blk_far ?_ NB212_221.out _; (with_reducible repeat (first | refine blk_drewN ?_ _ | refine blk_drew ?_ | refine blk_alloc ?_ _)); refine blk_far ?_ NB212_221.out _; (with_reducible repeat (first | refine blk_drewN ?_ _ | refine blk_drew ?_ | refine blk_alloc ?_ _)); exact BK212.out) hb); have n4_ := Aside0.mk (blk_below (g := gb221) (o := .cells #[.slice Ao20 t213.length co20, .int .u8 t216, .int .i64 t217, .bool t218, .bool t219, .bool t220] 25 (0, 0)) (by (with_reducible repeat (first | refine blk_drewN ?_ _ | refine blk_drew ?_ | refine blk_alloc ?_ _)); refine blk_put (cs := #[.slice Ao20 t213.length co20, .int .u8 t216, .int .i64 t217, .bool t218, .bool t219, .bool false]) ?_ 5 _ rfl; (with_reducible repeat (first | refine blk_drewN ?_ _ | refine blk_drew ?_ | refine blk_alloc ?_ _)); refine blk_put (cs := #[.slice Ao20 t213.length co20, .int .u8 t216, .int .i64 t217, .bool t218, .bool false, .bool false]) ?_ 4 _ rfl; (with_reducible repeat (first | refine blk_drewN ?_ _ | refine blk_drew ?_ | refine blk_alloc ?_ _)); refine blk_put (cs := #[.slice Ao20 t213.length co20, .int .u8 t216, .int .i64 t217, .bool false, .bool false, .bool false]) ?_ 3 _ rfl; (with_reducible repeat (first | refine blk_drewN ?_ _ | refine blk_drew ?_ | refine blk_alloc ?_ _)); refine blk_put (cs := #[.slice Ao20 t213.length co20, .int .u8 t216, .int .i64 0, .bool false, .bool false, .bool false]) ?_ 2 _ rfl; (with_reducible repeat (first | refine blk_drewN ?_ _ | refine blk_drew ?_ | refine blk_alloc ?_ _)); refine blk_put (cs := #[.slice Ao20 t213.length co20, .int .u8 0, .int .i64 0, .bool false, .bool false, .bool false]) ?_ 1 _ rfl; (with_reducible repeat (first | refine blk_drewN ?_ _ | refine blk_drew ?_ | refine blk_alloc ?_ _)); refine blk_put (cs := #[.slice none 0 0, .int .u8 0, .int .i64 0, .bool false, .bool false, .bool false]) ?_ 0 _ rfl; (with_reducible repeat (first | refine blk_drewN ?_ _ | refine blk_drew ?_ | refine blk_alloc ?_ _)); exact BK221.out) hb); have n5_ := Aside0.mk (below_step (by repeat (first | (with_reducible first | exact HB.out | apply below_alloc | apply pw_below_drewN | apply below_drew1 | refine below_set ?_ GE212.out | refine below_set ?_ GE221.out) | exact HB.out)) hb); clear HO206; clear HO215; clear BK212; clear BK221; clear HB; have HO206 := n0_; have HO215 := n1_; have HO225 := n2_; have BK212 := n3_; have BK221 := n4_; have HB := n5_; clear n0_ n1_ n2_ n3_ n4_ n5_; (try clear hb); (try clear hb2); (try clear hk); (try clear hi); (try clear ho0)) | ((with_reducible refine gate_dst (N := 10) rfl ?_); refine box_event ?hg (N := 10) ?hd (cs := #[.slice none 0 0, .int .u8 0, .int .i64 0, .bool false, .bool false, .bool false]) (t := 25) ?hr ?_; (case hd => rfl); (case hg => rfl); (case hr => first | (go_simp; done) | (go_simp; rfl)); intro gb231 hg w24 hbox hb; have n0_ := Aside0.mk (Kd.R_below (by (with_reducible repeat (first | apply Kd.R_alloc | apply Kd.R_drewN | apply Kd.R_drew)); exact HO206.out) hb); have n1_ := Aside0.mk (Kd.R_below (by (with_reducible repeat (first | apply Kd.R_alloc | apply Kd.R_drewN | apply Kd.R_drew)); exact HO215.out) hb); have n2_ := Aside0.mk (Kd.R_below (by (with_reducible repeat (first | apply Kd.R_alloc | apply Kd.R_drewN | apply Kd.R_drew)); exact HO225.out) hb); have n3_ := Aside0.mk (blk_below (g := gb212) (o := .cells #[.slice Ao16 t204.length co16, .int .u8 t207, .int .i64 t208, .bool t209, .bool t210, .bool t211] 25 (0, 0)) (by (with_reducible repeat (first | refine blk_drewN ?_ _ | refine blk_drew ?_ | refine blk_alloc ?_ _)); exact BK212.out) hb); have n4_ := Aside0.mk (blk_below (g := gb221) (o := .cells #[.slice Ao20 t213.length co20, .int .u8 t216, .int .i64 t217, .bool t218, .bool t219, .bool t220] 25 (0, 0)) (by (with_reducible repeat (first | refine blk_drewN ?_ _ | refine blk_drew ?_ | refine blk_alloc ?_ _)); exact BK221.out) hb); have n5_ := Aside0.mk (below_step (by repeat (first | (with_reducible first | exact HB.out | apply below_alloc | apply pw_below_drewN | apply below_drew1 | refine below_set ?_ GE212.out | refine below_set ?_ GE221.out) | exact HB.out)) hb); have n6_ := Aside0.mk (hbox); have n7_ := Aside0.mk ((by rw [hg]; exact (below_size (by repeat (first | (with_reducible first | exact HB.out | apply below_alloc | apply pw_below_drewN | apply below_drew1 | refine below_set ?_ GE212.out | refine below_set ?_ GE221.out) | exact HB.out))) : w.heap.size ≤ gb231)); have n8_ := Aside0.mk ((by rw [hg]; exact (below_size (by repeat (first | (with_reducible first | exact HB.out | apply below_alloc | apply pw_below_drewN | apply below_drew1 | refine below_set ?_ GE212.out | refine below_set ?_ GE221.out) | exact HB.out))) : w.heap.size ≤ gb231)); have n9_ := Aside0.mk ((by rw [hg]; exact Nat.ne_of_lt (blk_lt (g := gb212) (o := .cells #[.slice Ao16 t204.length co16, .int .u8 t207, .int .i64 t208, .bool t209, .bool t210, .bool t211] 25 (0, 0)) (by (with_reducible repeat (first | refine blk_drewN ?_ _ | refine blk_drew ?_ | refine blk_alloc ?_ _)); exact BK212.out)) : gb212 ≠ gb231)); have n10_ := Aside0.mk ((by rw [hg]; exact Nat.ne_of_gt (blk_lt (g := gb212) (o := .cells #[.slice Ao16 t204.length co16, .int .u8 t207, .int .i64 t208, .bool t209, .bool t210, .bool t211] 25 (0, 0)) (by (with_reducible repeat (first | refine blk_drewN ?_ _ | refine blk_drew ?_ | refine blk_alloc ?_ _)); exact BK212.out)) : gb231 ≠ gb212)); have n11_ := Aside0.mk ((by rw [hg]; exact Nat.ne_of_lt (blk_lt (g := gb221) (o := .cells #[.slice Ao20 t213.length co20, .int .u8 t216, .int .i64 t217, .bool t218, .bool t219, .bool t220] 25 (0, 0)) (by (with_reducible repeat (first | refine blk_drewN ?_ _ | refine blk_drew ?_ | refine blk_alloc ?_ _)); exact BK221.out)) : gb221 ≠ gb231)); have n12_ := Aside0.mk ((by rw [hg]; exact Nat.ne_of_gt (blk_lt (g := gb221) (o := .cells #[.slice Ao20 t213.length co20, .int .u8 t216, .int .i64 t217, .bool t218, .bool t219, .bool t220] 25 (0, 0)) (by (with_reducible repeat (first | refine blk_drewN ?_ _ | refine blk_drew ?_ | refine blk_alloc ?_ _)); exact BK221.out)) : gb231 ≠ gb221)); clear HO206; clear HO215; clear HO225; clear BK212; clear BK221; clear HB; have HO206 := n0_; have HO215 := n1_; have HO225 := n2_; have BK212 := n3_; have BK221 := n4_; have HB := n5_; have BK231 := n6_; have GW231 := n7_; have GE231 := n8_; have NB212_231 := n9_; have NB231_212 := n10_; have NB221_231 := n11_; have NB231_221 := n12_; clear n0_ n1_ n2_ n3_ n4_ n5_ n6_ n7_ n8_ n9_ n10_ n11_ n12_; clear hb hbox hg; obtain ⟨Ao25, co25, eo25⟩ := Kd.R_slice HO225.out; subst eo25; have hnb26 := NB231_212.out; have hnc26 := NB212_231.out; have hnb27 := NB231_221.out; have hnc27 := NB221_231.out; have hcz28_0 : w24.cell? ⟨gb231, 0, none⟩ = some (.slice none 0 0) := (blk_cell BK231.out 0).trans rfl; have hcz28_1 : w24.cell? ⟨gb231, 1, none⟩ = some (.int .u8 0) := (blk_cell BK231.out 1).trans rfl; have hcz28_2 : w24.cell? ⟨gb231, 2, none⟩ = some (.int .i64 0) := (blk_cell BK231.out 2).trans rfl; have hcz28_3 : w24.cell? ⟨gb231, 3, none⟩ = some (.bool false) := (blk_cell BK231.out 3).trans rfl; have hcz28_4 : w24.cell? ⟨gb231, 4, none⟩ = some (.bool false) := (blk_cell BK231.out 4).trans rfl; have hcz28_5 : w24.cell? ⟨gb231, 5, none⟩ = some (.bool false) := (blk_cell BK231.out 5).trans rfl; have hfz28_0 := blk_frozen BK231.out 0; have hfz28_1 := blk_frozen BK231.out 1; have hfz28_2 := blk_frozen BK231.out 2; have hfz28_3 := blk_frozen BK231.out 3; have hfz28_4 := blk_frozen BK231.out 4; have hfz28_5 := blk_frozen BK231.out 5)); go_upto_region 7 with (first | (go_at_call 10; (with_reducible refine (pytoken_Scan.calls a0 a1 a2 0 t204 t207 t208 t209 t210 t211 _ A5.out).mono ?_); rintro e w14 ⟨v205, rfl, ho0, hb⟩; have n0_ := Aside0.mk (Kd.R_lower ho0 (below_size (by repeat (first | (with_reducible first | exact HB.out | apply below_alloc | apply pw_below_drewN | apply below_drew1) | exact HB.out)))); have n1_ := Aside0.mk (below_step (by repeat (first | (with_reducible first | exact HB.out | apply below_alloc | apply pw_below_drewN | apply below_drew1) | exact HB.out)) hb); clear HB; have HO206 := n0_; have HB := n1_; clear n0_ n1_; (try clear hb); (try clear hb2); (try clear hk); (try clear hi); (try clear ho0)) | ((with_reducible refine gate_dst (N := 7) rfl ?_); refine box_event ?hg (N := 7) ?hd (cs := #[.slice none 0 0, .int .u8 0, .int .i64 0, .bool false, .bool false, .bool false]) (t := 25) ?hr ?_; (case hd => rfl); (case hg => rfl); (case hr => first | (go_simp; done) | (go_simp; rfl)); intro gb212 hg w15 hbox hb; have n0_ := Aside0.mk (Kd.R_below (by (with_reducible repeat (first | apply Kd.R_alloc | apply Kd.R_drewN | apply Kd.R_drew)); exact HO206.out) hb); have n1_ := Aside0.mk (below_step (by repeat (first | (with_reducible first | exact HB.out | apply below_alloc | apply pw_below_drewN | apply below_drew1) | exact HB.out)) hb); have n2_ := Aside0.mk (hbox); have n3_ := Aside0.mk ((by rw [hg]; exact (below_size (by repeat (first | (with_reducible first | exact HB.out | apply below_alloc | apply pw_below_drewN | apply below_drew1) | exact HB.out))) : w.heap.size ≤ gb212)); have n4_ := Aside0.mk ((by rw [hg]; exact (below_size (by repeat (first | (with_reducible first | exact HB.out | apply below_alloc | apply pw_below_drewN | apply below_drew1) | exact HB.out))) : w.heap.size ≤ gb212)); clear HO206; clear HB; have HO206 := n0_; have HB := n1_; have BK212 := n2_; have GW212 := n3_; have GE212 := n4_; clear n0_ n1_ n2_ n3_ n4_; clear hb hbox hg; obtain ⟨Ao16, co16, eo16⟩ := Kd.R_slice HO206.out; subst eo16; have hcz17_0 : w15.cell? ⟨gb212, 0, none⟩ = some (.slice none 0 0) := (blk_cell BK212.out 0).trans rfl; have hcz17_1 : w15.cell? ⟨gb212, 1, none⟩ = some (.int .u8 0) := (blk_cell BK212.out 1).trans rfl; have hcz17_2 : w15.cell? ⟨gb212, 2, none⟩ = some (.int .i64 0) := (blk_cell BK212.out 2).trans rfl; have hcz17_3 : w15.cell? ⟨gb212, 3, none⟩ = some (.bool false) := (blk_cell BK212.out 3).trans rfl; have hcz17_4 : w15.cell? ⟨gb212, 4, none⟩ = some (.bool false) := (blk_cell BK212.out 4).trans rfl; have hcz17_5 : w15.cell? ⟨gb212, 5, none⟩ = some (.bool false) := (blk_cell BK212.out 5).trans rfl; have hfz17_0 := blk_frozen BK212.out 0; have hfz17_1 := blk_frozen BK212.out 1; have hfz17_2 := blk_frozen BK212.out 2; have hfz17_3 := blk_frozen BK212.out 3; have hfz17_4 := blk_frozen BK212.out 4; have hfz17_5 := blk_frozen BK212.out 5) | (go_at_call 10; (with_reducible refine (pytoken_Scan.calls a0 a1 a2 0 t213 t216 t217 t218 t219 t220 _ A6.out).mono ?_); rintro e w18 ⟨v214, rfl, ho0, hb⟩; have n0_ := Aside0.mk (Kd.R_elder' (by (with_reducible repeat (first | apply Kd.R_alloc | apply Kd.R_drewN | apply Kd.R_drew)); exact (Kd.R_mono (Kd.R_far (p := ⟨gb212, 5, none⟩) (Kd.R_far (p := ⟨gb212, 4, none⟩) (Kd.R_far (p := ⟨gb212, 3, none⟩) (Kd.R_far (p := ⟨gb212, 2, none⟩) (Kd.R_far (p := ⟨gb212, 1, none⟩) (Kd.R_far (p := ⟨gb212, 0, none⟩) (Kd.R_types HO206.out BK212.out (by decide)) (fun _ hk => hk.2) (.slice Ao16 t204.length co16)) (fun _ hk => hk.2) (.int .u8 t207)) (fun _ hk => hk.2) (.int .i64 t208)) (fun _ hk => hk.2) (.bool t209)) (fun _ hk => hk.2) (.bool t210)) (fun _ hk => hk.2) (.bool t211)) (fun _ h_ => h_.1))) (Kd.R_base ho0) hb); have n1_ := Aside0.mk (Kd.R_lower (Kd.R_new' ho0 (Kd.R_lt (by (with_reducible repeat (first | apply Kd.R_alloc | apply Kd.R_drewN | apply Kd.R_drew)); exact (Kd.R_mono (Kd.R_far (p := ⟨gb212, 5, none⟩) (Kd.R_far (p := ⟨gb212, 4, none⟩) (Kd.R_far (p := ⟨gb212, 3, none⟩) (Kd.R_far (p := ⟨gb212, 2, none⟩) (Kd.R_far (p := ⟨gb212, 1, none⟩) (Kd.R_far (p := ⟨gb212, 0, none⟩) (Kd.R_types HO206.out BK212.out (by decide)) (fun _ hk => hk.2) (.slice Ao16 t204.length co16)) (fun _ hk => hk.2) (.int .u8 t207)) (fun _ hk => hk.2) (.int .i64 t208)) (fun _ hk => hk.2) (.bool t209)) (fun _ hk => hk.2) (.bool t210)) (fun _ hk => hk.2) (.bool t211)) (fun _ h_ => h_.1))))) (below_size (by repeat (first | (with_reducible first | exact HB.out | apply below_alloc | apply pw_below_drewN | apply below_drew1 | refine below_set ?_ GE212.out) | exact HB.out)))); have n2_ := Aside0.mk (blk_below (g := gb212) (o := .cells #[.slice Ao16 t204.length co16, .int .u8 t207, .int .i64 t208, .bool t209, .bool t210, .bool t211] 25 (0, 0)) (by (with_reducible repeat (first | refine blk_drewN ?_ _ | refine blk_drew ?_ | refine blk_alloc ?_ _)); refine blk_put (cs := #[.slice Ao16 t204.length co16, .int .u8 t207, .int .i64 t208, .bool t209, .bool t210, .bool false]) ?_ 5 _ rfl; (with_reducible repeat (first | refine blk_drewN ?_ _ | refine blk_drew ?_ | refine blk_alloc ?_ _)); refine blk_put (cs := #[.slice Ao16 t204.length co16, .int .u8 t207, .int .i64 t208, .bool t209, .bool false, .bool false]) ?_ 4 _ rfl; (with_reducible repeat (first | refine blk_drewN ?_ _ | refine blk_drew ?_ | refine blk_alloc ?_ _)); refine blk_put (cs := #[.slice Ao16 t204.length co16, .int .u8 t207, .int .i64 t208, .bool false, .bool false, .bool false]) ?_ 3 _ rfl; (with_reducible repeat (first | refine blk_drewN ?_ _ | refine blk_drew ?_ | refine blk_alloc ?_ _)); refine blk_put (cs := #[.slice Ao16 t204.length co16, .int .u8 t207, .int .i64 0, .bool false, .bool false, .bool false]) ?_ 2 _ rfl; (with_reducible repeat (first | refine blk_drewN ?_ _ | refine blk_drew ?_ | refine blk_alloc ?_ _)); refine blk_put (cs := #[.slice Ao16 t204.length co16, .int .u8 0, .int .i64 0, .bool false, .bool false, .bool false]) ?_ 1 _ rfl; (with_reducible repeat (first | refine blk_drewN ?_ _ | refine blk_drew ?_ | refine blk_alloc ?_ _)); refine blk_put (cs := #[.slice none 0 0, .int .u8 0, .int .i64 0, .bool false, .bool false, .bool false]) ?_ 0 _ rfl; (with_reducible repeat (first | refine blk_drewN ?_ _ | refine blk_drew ?_ | refine blk_alloc ?_ _)); exact BK212.out) hb); have n3_ := Aside0.mk (below_step (by repeat (first | (with_reducible first | exact HB.out | apply below_alloc | apply pw_below_drewN | apply below_drew1 | refine below_set ?_ GE212.out) | exact HB.out)) hb); clear HO206; clear BK212; clear HB; have HO206 := n0_; have HO215 := n1_; have BK212 := n2_; have HB := n3_; clear n0_ n1_ n2_ n3_; (try clear hb); (try clear hb2); (try clear hk); (try clear hi); (try clear ho0)) | ((with_reducible refine gate_dst (N := 8) rfl ?_); refine box_event ?hg (N := 8) ?hd (cs := #[.slice none 0 0, .int .u8 0, .int .i64 0, .bool false, .bool false, .bool false]) (t := 25) ?hr ?_; (case hd => rfl); (case hg => rfl); (case hr => first | (go_simp; done) | (go_simp; rfl)); intro gb221 hg w19 hbox hb; have n0_ := Aside0.mk (Kd.R_below (by (with_reducible repeat (first | apply Kd.R_alloc | apply Kd.R_drewN | apply Kd.R_drew)); exact HO206.out) hb); have n1_ := Aside0.mk (Kd.R_below (by (with_reducible repeat (first | apply Kd.R_alloc | apply Kd.R_drewN | apply Kd.R_drew)); exact HO215.out) hb); have n2_ := Aside0.mk (blk_below (g := gb212) (o := .cells #[.slice Ao16 t204.length co16, .int .u8 t207, .int .i64 t208, .bool t209, .bool t210, .bool t211] 25 (0, 0)) (by (with_reducible repeat (first | refine blk_drewN ?_ _ | refine blk_drew ?_ | refine blk_alloc ?_ _)); exact BK212.out) hb); have n3_ := Aside0.mk (below_step (by repeat (first | (with_reducible first | exact HB.out | apply below_alloc | apply pw_below_drewN | apply below_drew1 | refine below_set ?_ GE212.out) | exact HB.out)) hb); have n4_ := Aside0.mk (hbox); have n5_ := Aside0.mk ((by rw [hg]; exact (below_size (by repeat (first | (with_reducible first | exact HB.out | apply below_alloc | apply pw_below_drewN | apply below_drew1 | refine below_set ?_ GE212.out) | exact HB.out))) : w.heap.size ≤ gb221)); have n6_ := Aside0.mk ((by rw [hg]; exact (below_size (by repeat (first | (with_reducible first | exact HB.out | apply below_alloc | apply pw_below_drewN | apply below_drew1 | refine below_set ?_ GE212.out) | exact HB.out))) : w.heap.size ≤ gb221)); have n7_ := Aside0.mk ((by rw [hg]; exact Nat.ne_of_lt (blk_lt (g := gb212) (o := .cells #[.slice Ao16 t204.length co16, .int .u8 t207, .int .i64 t208, .bool t209, .bool t210, .bool t211] 25 (0, 0)) (by (with_reducible repeat (first | refine blk_drewN ?_ _ | refine blk_drew ?_ | refine blk_alloc ?_ _)); exact BK212.out)) : gb212 ≠ gb221)); have n8_ := Aside0.mk ((by rw [hg]; exact Nat.ne_of_gt (blk_lt (g := gb212) (o := .cells #[.slice Ao16 t204.length co16, .int .u8 t207, .int .i64 t208, .bool t209, .bool t210, .bool t211] 25 (0, 0)) (by (with_reducible repeat (first | refine blk_drewN ?_ _ | refine blk_drew ?_ | refine blk_alloc ?_ _)); exact BK212.out)) : gb221 ≠ gb212)); clear HO206; clear HO215; clear BK212; clear HB; have HO206 := n0_; have HO215 := n1_; have BK212 := n2_; have HB := n3_; have BK221 := n4_; have GW221 := n5_; have GE221 := n6_; have NB212_221 := n7_; have NB221_212 := n8_; clear n0_ n1_ n2_ n3_ n4_ n5_ n6_ n7_ n8_; clear hb hbox hg; obtain ⟨Ao20, co20, eo20⟩ := Kd.R_slice HO215.out; subst eo20; have hnb21 := NB221_212.out; have hnc21 := NB212_221.out; have hcz22_0 : w19.cell? ⟨gb221, 0, none⟩ = some (.slice none 0 0) := (blk_cell BK221.out 0).trans rfl; have hcz22_1 : w19.cell? ⟨gb221, 1, none⟩ = some (.int .u8 0) := (blk_cell BK221.out 1).trans rfl; have hcz22_2 : w19.cell? ⟨gb221, 2, none⟩ = some (.int .i64 0) := (blk_cell BK221.out 2).trans rfl; have hcz22_3 : w19.cell? ⟨gb221, 3, none⟩ = some (.bool false) := (blk_cell BK221.out 3).trans rfl; have hcz22_4 : w19.cell? ⟨gb221, 4, none⟩ = some (.bool false) := (blk_cell BK221.out 4).trans rfl; have hcz22_5 : w19.cell? ⟨gb221, 5, none⟩ = some (.bool false) := (blk_cell BK221.out 5).trans rfl; have hfz22_0 := blk_frozen BK221.out 0; have hfz22_1 := blk_frozen BK221.out 1; have hfz22_2 := blk_frozen BK221.out 2; have hfz22_3 := blk_frozen BK221.out 3; have hfz22_4 := blk_frozen BK221.out 4; have hfz22_5 := blk_frozen BK221.out 5) | (go_at_call 13; (with_reducible refine (indentureref11_End.calls k a0 t222 _ A7.out).mono ?_); rintro e w' ⟨rfl, ⟨nd, rfl⟩⟩; (try first | exact ⟨rfl, _, World.drewN_drewN _ _ _⟩ | exact ⟨rfl, _, Eq.trans (World.drewN_drewN _ _ _) (congrArg (World.drewN _) (Nat.add_assoc _ _ _))⟩)) | (go_at_call 10; (with_reducible refine (pytoken_Scan.calls (a0.extract ((ji9) : Int).toNat a0.size) 0 a2 0 t223 t226 t227 t228 t229 t230 _ A12.out).mono ?_); rintro e w23 ⟨v224, rfl, ho0, hb⟩; have n0_ := Aside0.mk (Kd.R_elder' (by (with_reducible repeat (first | apply Kd.R_alloc | apply Kd.R_drewN | apply Kd.R_drew)); exact (Kd.R_mono (Kd.R_far (p := ⟨gb221, 5, none⟩) (Kd.R_far (p := ⟨gb221, 4, none⟩) (Kd.R_far (p := ⟨gb221, 3, none⟩) (Kd.R_far (p := ⟨gb221, 2, none⟩) (Kd.R_far (p := ⟨gb221, 1, none⟩) (Kd.R_far (p := ⟨gb221, 0, none⟩) (Kd.R_types HO206.out BK221.out (by decide)) (fun _ hk => hk.2) (.slice Ao20 t213.length co20)) (fun _ hk => hk.2) (.int .u8 t216)) (fun _ hk => hk.2) (.int .i64 t217)) (fun _ hk => hk.2) (.bool t218)) (fun _ hk => hk.2) (.bool t219)) (fun _ hk => hk.2) (.bool t220)) (fun _ h_ => h_.1))) (Kd.R_base ho0) hb); have n1_ := Aside0.mk (Kd.R_elder' (by (with_reducible repeat (first | apply Kd.R_alloc | apply Kd.R_drewN | apply Kd.R_drew)); exact (Kd.R_mono (Kd.R_far (p := ⟨gb221, 5, none⟩) (Kd.R_far (p := ⟨gb221, 4, none⟩) (Kd.R_far (p := ⟨gb221, 3, none⟩) (Kd.R_far (p := ⟨gb221, 2, none⟩) (Kd.R_far (p := ⟨gb221, 1, none⟩) (Kd.R_far (p := ⟨gb221, 0, none⟩) (Kd.R_types HO215.out BK221.out (by decide)) (fun _ hk => hk.2) (.slice Ao20 t213.length co20)) (fun _ hk => hk.2) (.int .u8 t216)) (fun _ hk => hk.2) (.int .i64 t217)) (fun _ hk => hk.2) (.bool t218)) (fun _ hk => hk.2) (.bool t219)) (fun _ hk => hk.2) (.bool t220)) (fun _ h_ => h_.1))) (Kd.R_base ho0) hb); have n2_ := Aside0.mk (Kd.R_lower (Kd.R_new' (Kd.R_new' ho0 (Kd.R_lt (by (with_reducible repeat (first | apply Kd.R_alloc | apply Kd.R_drewN | apply Kd.R_drew)); exact (Kd.R_mono (Kd.R_far (p := ⟨gb221, 5, none⟩) (Kd.R_far (p := ⟨gb221, 4, none⟩) (Kd.R_far (p := ⟨gb221, 3, none⟩) (Kd.R_far (p := ⟨gb221, 2, none⟩) (Kd.R_far (p := ⟨gb221, 1, none⟩) (Kd.R_far (p := ⟨gb221, 0, none⟩) (Kd.R_types HO206.out BK221.out (by decide)) (fun _ hk => hk.2) (.slice Ao20 t213.length co20)) (fun _ hk => hk.2) (.int .u8 t216)) (fun _ hk => hk.2) (.int .i64 t217)) (fun _ hk => hk.2) (.bool t218)) (fun _ hk => hk.2) (.bool t219)) (fun _ hk => hk.2) (.bool t220)) (fun _ h_ => h_.1))))) (Kd.R_lt (by (with_reducible repeat (first | apply Kd.R_alloc | apply Kd.R_drewN | apply Kd.R_drew)); exact (Kd.R_mono (Kd.R_far (p := ⟨gb221, 5, none⟩) (Kd.R_far (p := ⟨gb221, 4, none⟩) (Kd.R_far (p := ⟨gb221, 3, none⟩) (Kd.R_far (p := ⟨gb221, 2, none⟩) (Kd.R_far (p := ⟨gb221, 1, none⟩) (Kd.R_far (p := ⟨gb221, 0, none⟩) (Kd.R_types HO215.out BK221.out (by decide)) (fun _ hk => hk.2) (.slice Ao20 t213.length co20)) (fun _ hk => hk.2) (.int .u8 t216)) (fun _ hk => hk.2) (.int .i64 t217)) (fun _ hk => hk.2) (.bool t218)) (fun _ hk => hk.2) (.bool t219)) (fun _ hk => hk.2) (.bool t220)) (fun _ h_ => h_.1))))) (below_size (by repeat (first | (with_reducible first | exact HB.out | apply below_alloc | apply pw_below_drewN | apply below_drew1 | refine below_set ?_ GE212.out | refine below_set ?_ GE221.out) | exact HB.out)))); have n3_ := Aside0.mk (blk_below (g := gb212) (o := .cells #[.slice Ao16 t204.length co16, .int .u8 t207, .int .i64 t208, .bool t209, .bool t210, .bool t211] 25 (0, 0)) (by (with_reducible repeat (first | refine blk_drewN ?_ _ | refine blk_drew ?_ | refine blk_alloc ?_ _)); refine blk_far ?_ NB212_221.out _; (with_reducible repeat (first | refine blk_drewN ?_ _ | refine blk_drew ?_ | refine blk_alloc ?_ _)); refine blk_far ?_ NB212_221.out _; (with_reducible repeat (first | refine blk_drewN ?_ _ | refine blk_drew ?_ | refine blk_alloc ?_ _)); refine blk_far ?_ NB212_221.out _; (with_reducible repeat (first | refine blk_drewN ?_ _ | refine blk_drew ?_ | refine blk_alloc ?_ _)); refine blk_far ?_ NB212_221.out _; (with_reducible repeat (first | refine blk_drewN ?_ _ | refine blk_drew ?_ | refine blk_alloc ?_ _)); refine blk_far ?_ NB212_221.out _; (with_reducible repeat (first | refine blk_drewN ?_ _ | refine blk_drew ?_ | refine blk_alloc ?_ _)); refine blk_far ?_ NB212_221.out _; (with_reducible repeat (first | refine blk_drewN ?_ _ | refine blk_drew ?_ | refine blk_alloc ?_ _)); exact BK212.out) hb); have n4_ := Aside0.mk (blk_below (g := gb221) (o := .cells #[.slice Ao20 t213.length co20, .int .u8 t216, .int .i64 t217, .bool t218, .bool t219, .bool t220] 25 (0, 0)) (by (with_reducible repeat (first | refine blk_drewN ?_ _ | refine blk_drew ?_ | refine blk_alloc ?_ _)); refine blk_put (cs := #[.slice Ao20 t213.length co20, .int .u8 t216, .int .i64 t217, .bool t218, .bool t219, .bool false]) ?_ 5 _ rfl; (with_reducible repeat (first | refine blk_drewN ?_ _ | refine blk_drew ?_ | refine blk_alloc ?_ _)); refine blk_put (cs := #[.slice Ao20 t213.length co20, .int .u8 t216, .int .i64 t217, .bool t218, .bool false, .bool false]) ?_ 4 _ rfl; (with_reducible repeat (first | refine blk_drewN ?_ _ | refine blk_drew ?_ | refine blk_alloc ?_ _)); refine blk_put (cs := #[.slice Ao20 t213.length co20, .int .u8 t216, .int .i64 t217, .bool false, .bool false, .bool false]) ?_ 3 _ rfl; (with_reducible repeat (first | refine blk_drewN ?_ _ | refine blk_drew ?_ | refine blk_alloc ?_ _)); refine blk_put (cs := #[.slice Ao20 t213.length co20, .int .u8 t216, .int .i64 0, .bool false, .bool false, .bool false]) ?_ 2 _ rfl; (with_reducible repeat (first | refine blk_drewN ?_ _ | refine blk_drew ?_ | refine blk_alloc ?_ _)); refine blk_put (cs := #[.slice Ao20 t213.length co20, .int .u8 0, .int .i64 0, .bool false, .bool false, .bool false]) ?_ 1 _ rfl; (with_reducible repeat (first | refine blk_drewN ?_ _ | refine blk_drew ?_ | refine blk_alloc ?_ _)); refine blk_put (cs := #[.slice none 0 0, .int .u8 0, .int .i64 0, .bool false, .bool false, .bool false]) ?_ 0 _ rfl; (with_reducible repeat (first | refine blk_drewN ?_ _ | refine blk_drew ?_ | refine blk_alloc ?_ _)); exact BK221.out) hb); have n5_ := Aside0.mk (below_step (by repeat (first | (with_reducible first | exact HB.out | apply below_alloc | apply pw_below_drewN | apply below_drew1 | refine below_set ?_ GE212.out | refine below_set ?_ GE221.out) | exact HB.out)) hb); clear HO206; clear HO215; clear BK212; clear BK221; clear HB; have HO206 := n0_; have HO215 := n1_; have HO225 := n2_; have BK212 := n3_; have BK221 := n4_; have HB := n5_; clear n0_ n1_ n2_ n3_ n4_ n5_; (try clear hb); (try clear hb2); (try clear hk); (try clear hi); (try clear ho0)) | ((with_reducible refine gate_dst (N := 10) rfl ?_); refine box_event ?hg (N := 10) ?hd (cs := #[.slice none 0 0, .int .u8 0, .int .i64 0, .bool false, .bool false, .bool false]) (t := 25) ?hr ?_; (case hd => rfl); (case hg => rfl); (case hr => first | (go_simp; done) | (go_simp; rfl)); intro gb231 hg w24 hbox hb; have n0_ := Aside0.mk (Kd.R_below (by (with_reducible repeat (first | apply Kd.R_alloc | apply Kd.R_drewN | apply Kd.R_drew)); exact HO206.out) hb); have n1_ := Aside0.mk (Kd.R_below (by (with_reducible repeat (first | apply Kd.R_alloc | apply Kd.R_drewN | apply Kd.R_drew)); exact HO215.out) hb); have n2_ := Aside0.mk (Kd.R_below (by (with_reducible repeat (first | apply Kd.R_alloc | apply Kd.R_drewN | apply Kd.R_drew)); exact HO225.out) hb); have n3_ := Aside0.mk (blk_below (g := gb212) (o := .cells #[.slice Ao16 t204.length co16, .int .u8 t207, .int .i64 t208, .bool t209, .bool t210, .bool t211] 25 (0, 0)) (by (with_reducible repeat (first | refine blk_drewN ?_ _ | refine blk_drew ?_ | refine blk_alloc ?_ _)); exact BK212.out) hb); have n4_ := Aside0.mk (blk_below (g := gb221) (o := .cells #[.slice Ao20 t213.length co20, .int .u8 t216, .int .i64 t217, .bool t218, .bool t219, .bool t220] 25 (0, 0)) (by (with_reducible repeat (first | refine blk_drewN ?_ _ | refine blk_drew ?_ | refine blk_alloc ?_ _)); exact BK221.out) hb); have n5_ := Aside0.mk (below_step (by repeat (first | (with_reducible first | exact HB.out | apply below_alloc | apply pw_below_drewN | apply below_drew1 | refine below_set ?_ GE212.out | refine below_set ?_ GE221.out) | exact HB.out)) hb); have n6_ := Aside0.mk (hbox); have n7_ := Aside0.mk ((by rw [hg]; exact (below_size (by repeat (first | (with_reducible first | exact HB.out | apply below_alloc | apply pw_below_drewN | apply below_drew1 | refine below_set ?_ GE212.out | refine below_set ?_ GE221.out) | exact HB.out))) : w.heap.size ≤ gb231)); have n8_ := Aside0.mk ((by rw [hg]; exact (below_size (by repeat (first | (with_reducible first | exact HB.out | apply below_alloc | apply pw_below_drewN | apply below_drew1 | refine below_set ?_ GE212.out | refine below_set ?_ GE221.out) | exact HB.out))) : w.heap.size ≤ gb231)); have n9_ := Aside0.mk ((by rw [hg]; exact Nat.ne_of_lt (blk_lt (g := gb212) (o := .cells #[.slice Ao16 t204.length co16, .int .u8 t207, .int .i64 t208, .bool t209, .bool t210, .bool t211] 25 (0, 0)) (by (with_reducible repeat (first | refine blk_drewN ?_ _ | refine blk_drew ?_ | refine blk_alloc ?_ _)); exact BK212.out)) : gb212 ≠ gb231)); have n10_ := Aside0.mk ((by rw [hg]; exact Nat.ne_of_gt (blk_lt (g := gb212) (o := .cells #[.slice Ao16 t204.length co16, .int .u8 t207, .int .i64 t208, .bool t209, .bool t210, .bool t211] 25 (0, 0)) (by (with_reducible repeat (first | refine blk_drewN ?_ _ | refine blk_drew ?_ | refine blk_alloc ?_ _)); exact BK212.out)) : gb231 ≠ gb212)); have n11_ := Aside0.mk ((by rw [hg]; exact Nat.ne_of_lt (blk_lt (g := gb221) (o := .cells #[.slice Ao20 t213.length co20, .int .u8 t216, .int .i64 t217, .bool t218, .bool t219, .bool t220] 25 (0, 0)) (by (with_reducible repeat (first | refine blk_drewN ?_ _ | refine blk_drew ?_ | refine blk_alloc ?_ _)); exact BK221.out)) : gb221 ≠ gb231)); have n12_ := Aside0.mk ((by rw [hg]; exact Nat.ne_of_gt (blk_lt (g := gb221) (o := .cells #[.slice Ao20 t213.length co20, .int .u8 t216, .int .i64 t217, .bool t218, .bool t219, .bool t220] 25 (0, 0)) (by (with_reducible repeat (first | refine blk_drewN ?_ _ | refine blk_drew ?_ | refine blk_alloc ?_ _)); exact BK221.out)) : gb231 ≠ gb221)); clear HO206; clear HO215; clear HO225; clear BK212; clear BK221; clear HB; have HO206 := n0_; have HO215 := n1_; have HO225 := n2_; have BK212 := n3_; have BK221 := n4_; have HB := n5_; have BK231 := n6_; have GW231 := n7_; have GE231 := n8_; have NB212_231 := n9_; have NB231_212 := n10_; have NB221_231 := n11_; have NB231_221 := n12_; clear n0_ n1_ n2_ n3_ n4_ n5_ n6_ n7_ n8_ n9_ n10_ n11_ n12_; clear hb hbox hg; obtain ⟨Ao25, co25, eo25⟩ := Kd.R_slice HO225.out; subst eo25; have hnb26 := NB231_212.out; have hnc26 := NB212_231.out; have hnb27 := NB231_221.out; have hnc27 := NB221_231.out; have hcz28_0 : w24.cell? ⟨gb231, 0, none⟩ = some (.slice none 0 0) := (blk_cell BK231.out 0).trans rfl; have hcz28_1 : w24.cell? ⟨gb231, 1, none⟩ = some (.int .u8 0) := (blk_cell BK231.out 1).trans rfl; have hcz28_2 : w24.cell? ⟨gb231, 2, none⟩ = some (.int .i64 0) := (blk_cell BK231.out 2).trans rfl; have hcz28_3 : w24.cell? ⟨gb231, 3, none⟩ = some (.bool false) := (blk_cell BK231.out 3).trans rfl; have hcz28_4 : w24.cell? ⟨gb231, 4, none⟩ = some (.bool false) := (blk_cell BK231.out 4).trans rfl; have hcz28_5 : w24.cell? ⟨gb231, 5, none⟩ = some (.bool false) := (blk_cell BK231.out 5).trans rfl; have hfz28_0 := blk_frozen BK231.out 0; have hfz28_1 := blk_frozen BK231.out 1; have hfz28_2 := blk_frozen BK231.out 2; have hfz28_3 := blk_frozen BK231.out 3; have hfz28_4 := blk_frozen BK231.out 4; have hfz28_5 := blk_frozen BK231.out 5)))
        (try simp only [Act.put, List.setIfInBounds_toArray, List.set_cons_zero, List.set_cons_succ])
        go_cut [62] (fun v62 wc => ∃ (kq : Nat) (x62_12 : Bool), v62 = .bool x62_12 ∧ Aside0 (indenturelaw11_PytokenOwn.j0 kq a0 a1 a2 ji9 x62_12 t204 t207 t208 t209 t210 t211 t213 t216 t217 t218 t219 t220 t223 t226 t227 t228 t229 t230 = some r) ∧ Aside0 (kq ≤ k) ∧ Aside0 (Kd.R k33 33 wc w.heap.size (fun k_ => some k_ ≠ ((.slice Ao20 t213.length co20) : Value).ownBlock ∧ some k_ ≠ ((.slice Ao25 t223.length co25) : Value).ownBlock) (.slice Ao16 t204.length co16) t204) ∧ Aside0 (Kd.R k33 33 wc w.heap.size (fun k_ => some k_ ≠ ((.slice Ao16 t204.length co16) : Value).ownBlock ∧ some k_ ≠ ((.slice Ao25 t223.length co25) : Value).ownBlock) (.slice Ao20 t213.length co20) t213) ∧ Aside0 (Kd.R k33 33 wc w.heap.size (fun k_ => some k_ ≠ ((.slice Ao16 t204.length co16) : Value).ownBlock ∧ some k_ ≠ ((.slice Ao20 t213.length co20) : Value).ownBlock) (.slice Ao25 t223.length co25) t223) ∧ Aside0 (wc.heap[gb212]? = some (.cells #[(.slice Ao16 t204.length co16), .int .u8 t207, .int .i64 t208, .bool t209, .bool t210, .bool t211] 25 (0, 0))) ∧ Aside0 (wc.heap[gb221]? = some (.cells #[(.slice Ao20 t213.length co20), .int .u8 t216, .int .i64 t217, .bool t218, .bool t219, .bool t220] 25 (0, 0))) ∧ Aside0 (wc.heap[gb231]? = some (.cells #[(.slice Ao25 t223.length co25), .int .u8 t226, .int .i64 t227, .bool t228, .bool t229, .bool t230] 25 (0, 0))) ∧ Aside0 (Below w.heap.size w wc))
        case first =>
          have H := HC13.out
          clear HC13
          by_cases c29 : (t223.length : Int) = (t213.length : Int)
          · rw [if_pos c29] at H
            have c29b0 : ((t223.length : Int) == (t213.length : Int)) = true := beq_iff_eq.mpr c29
            have c29b1 : ((t223.length : Int) != (t213.length : Int)) = false := bne_eq_false_iff_eq.mpr c29
            have c29b2 : (t223.length == t213.length) = true := by first | simpa using c29 | (simp at c29 ⊢; omega)
            clear c29
            (first | rw [c29b0] | (simp only [i64_w, i32_w]; rw [c29b0]) | skip)
            by_cases c30 : t226 = t216
            · rw [if_pos c30] at H
              have c30b0 : (t226 == t216) = true := beq_iff_eq.mpr c30
              have c30b1 : (t226 != t216) = false := bne_eq_false_iff_eq.mpr c30
              clear c30
              by_cases c31 : t227 = t217
              · rw [if_pos c31] at H
                have c31b0 : (t227 == t217) = true := beq_iff_eq.mpr c31
                have c31b1 : (t227 != t217) = false := bne_eq_false_iff_eq.mpr c31
                clear c31
                have H' := Aside0.mk H
                clear H
                have hnb32 := NB231_212.out
                have hnc32 := NB212_231.out
                have hnb33 := NB231_221.out
                have hnc33 := NB221_231.out
                have hcz34_0 : w24.cell? ⟨gb231, 0, none⟩ = some (.slice none 0 0) := (blk_cell BK231.out 0).trans rfl
                have hcz34_1 : w24.cell? ⟨gb231, 1, none⟩ = some (.int .u8 0) := (blk_cell BK231.out 1).trans rfl
                have hcz34_2 : w24.cell? ⟨gb231, 2, none⟩ = some (.int .i64 0) := (blk_cell BK231.out 2).trans rfl
                have hcz34_3 : w24.cell? ⟨gb231, 3, none⟩ = some (.bool false) := (blk_cell BK231.out 3).trans rfl
                have hcz34_4 : w24.cell? ⟨gb231, 4, none⟩ = some (.bool false) := (blk_cell BK231.out 4).trans rfl
                have hcz34_5 : w24.cell? ⟨gb231, 5, none⟩ = some (.bool false) := (blk_cell BK231.out 5).trans rfl
                have hfz34_0 := blk_frozen BK231.out 0
                have hfz34_1 := blk_frozen BK231.out 1
                have hfz34_2 := blk_frozen BK231.out 2
                have hfz34_3 := blk_frozen BK231.out 3
                have hfz34_4 := blk_frozen BK231.out 4
                have hfz34_5 := blk_frozen BK231.out 5
                have hnb35 := NB221_212.out
                have hnc35 := NB212_221.out
                have hcz36_0 : w24.cell? ⟨gb221, 0, none⟩ = some (.slice Ao20 t213.length co20) := (blk_cell BK221.out 0).trans rfl
                have hcz36_1 : w24.cell? ⟨gb221, 1, none⟩ = some (.int .u8 t216) := (blk_cell BK221.out 1).trans rfl
                have hcz36_2 : w24.cell? ⟨gb221, 2, none⟩ = some (.int .i64 t217) := (blk_cell BK221.out 2).trans rfl
                have hcz36_3 : w24.cell? ⟨gb221, 3, none⟩ = some (.bool t218) := (blk_cell BK221.out 3).trans rfl
                have hcz36_4 : w24.cell? ⟨gb221, 4, none⟩ = some (.bool t219) := (blk_cell BK221.out 4).trans rfl
                have hcz36_5 : w24.cell? ⟨gb221, 5, none⟩ = some (.bool t220) := (blk_cell BK221.out 5).trans rfl
                have hfz36_0 := blk_frozen BK221.out 0
                have hfz36_1 := blk_frozen BK221.out 1
                have hfz36_2 := blk_frozen BK221.out 2
                have hfz36_3 := blk_frozen BK221.out 3
                have hfz36_4 := blk_frozen BK221.out 4
                have hfz36_5 := blk_frozen BK221.out 5
                go_wp2
                repeat (go_quiet (fail); try go_wp2)
                go_meet
                case rel => exact ⟨_, ((t230 != t220)), (by first | rfl | (simp; done) | (simp [*]; done)), H', ⟨by first | omega | exact Nat.le_refl _⟩, ⟨by (with_reducible repeat (first | apply Kd.R_alloc | apply Kd.R_drewN | apply Kd.R_drew)); exact Kd.R_mono (Kd.R_far (p := ⟨gb231, 5, none⟩) (Kd.R_far (p := ⟨gb231, 4, none⟩) (Kd.R_far (p := ⟨gb231, 3, none⟩) (Kd.R_far (p := ⟨gb231, 2, none⟩) (Kd.R_far (p := ⟨gb231, 1, none⟩) (Kd.R_far (p := ⟨gb231, 0, none⟩) (Kd.R_types HO206.out BK231.out (by decide)) (fun _ hk => hk.2) (.slice Ao25 t223.length co25)) (fun _ hk => hk.2) (.int .u8 t226)) (fun _ hk => hk.2) (.int .i64 t227)) (fun _ hk => hk.2) (.bool t228)) (fun _ hk => hk.2) (.bool t229)) (fun _ hk => hk.2) (.bool t230)) (fun _ hk => ⟨hk.1.1.2, hk.1.2⟩)⟩, ⟨by (with_reducible repeat (first | apply Kd.R_alloc | apply Kd.R_drewN | apply Kd.R_drew)); exact Kd.R_mono (Kd.R_far (p := ⟨gb231, 5, none⟩) (Kd.R_far (p := ⟨gb231, 4, none⟩) (Kd.R_far (p := ⟨gb231, 3, none⟩) (Kd.R_far (p := ⟨gb231, 2, none⟩) (Kd.R_far (p := ⟨gb231, 1, none⟩) (Kd.R_far (p := ⟨gb231, 0, none⟩) (Kd.R_types HO215.out BK231.out (by decide)) (fun _ hk => hk.2) (.slice Ao25 t223.length co25)) (fun _ hk => hk.2) (.int .u8 t226)) (fun _ hk => hk.2) (.int .i64 t227)) (fun _ hk => hk.2) (.bool t228)) (fun _ hk => hk.2) (.bool t229)) (fun _ hk => hk.2) (.bool t230)) (fun _ hk => ⟨hk.1.1.2, hk.1.2⟩)⟩, ⟨by (with_reducible repeat (first | apply Kd.R_alloc | apply Kd.R_drewN | apply Kd.R_drew)); exact Kd.R_mono (Kd.R_far (p := ⟨gb231, 5, none⟩) (Kd.R_far (p := ⟨gb231, 4, none⟩) (Kd.R_far (p := ⟨gb231, 3, none⟩) (Kd.R_far (p := ⟨gb231, 2, none⟩) (Kd.R_far (p := ⟨gb231, 1, none⟩) (Kd.R_far (p := ⟨gb231, 0, none⟩) (Kd.R_types HO225.out BK231.out (by decide)) (fun _ hk => hk.2) (.slice Ao25 t223.length co25)) (fun _ hk => hk.2) (.int .u8 t226)) (fun _ hk => hk.2) (.int .i64 t227)) (fun _ hk => hk.2) (.bool t228)) (fun _ hk => hk.2) (.bool t229)) (fun _ hk => hk.2) (.bool t230)) (fun _ hk => ⟨hk.1.1.2, hk.1.2⟩)⟩, ⟨by (with_reducible repeat (first | refine blk_drewN ?_ _ | refine blk_drew ?_ | refine blk_alloc ?_ _)); refine blk_far ?_ NB212_231.out _; (with_reducible repeat (first | refine blk_drewN ?_ _ | refine blk_drew ?_ | refine blk_alloc ?_ _)); refine blk_far ?_ NB212_231.out _; (with_reducible repeat (first | refine blk_drewN ?_ _ | refine blk_drew ?_ | refine blk_alloc ?_ _)); refine blk_far ?_ NB212_231.out _; (with_reducible repeat (first | refine blk_drewN ?_ _ | refine blk_drew ?_ | refine blk_alloc ?_ _)); refine blk_far ?_ NB212_231.out _; (with_reducible repeat (first | refine blk_drewN ?_ _ | refine blk_drew ?_ | refine blk_alloc ?_ _)); refine blk_far ?_ NB212_231.out _; (with_reducible repeat (first | refine blk_drewN ?_ _ | refine blk_drew ?_ | refine blk_alloc ?_ _)); refine blk_far ?_ NB212_231.out _; (with_reducible repeat (first | refine blk_drewN ?_ _ | refine blk_drew ?_ | refine blk_alloc ?_ _)); exact BK212.out⟩, ⟨by (with_reducible repeat (first | refine blk_drewN ?_ _ | refine blk_drew ?_ | refine blk_alloc ?_ _)); refine blk_far ?_ NB221_231.out _; (with_reducible repeat (first | refine blk_drewN ?_ _ | refine blk_drew ?_ | refine blk_alloc ?_ _)); refine blk_far ?_ NB221_231.out _; (with_reducible repeat (first | refine blk_drewN ?_ _ | refine blk_drew ?_ | refine blk_alloc ?_ _)); refine blk_far ?_ NB221_231.out _; (with_reducible repeat (first | refine blk_drewN ?_ _ | refine blk_drew ?_ | refine blk_alloc ?_ _)); refine blk_far ?_ NB221_231.out _; (with_reducible repeat (first | refine blk_drewN ?_ _ | refine blk_drew ?_ | refine blk_alloc ?_ _)); refine blk_far ?_ NB221_231.out _; (with_reducible repeat (first | refine blk_drewN ?_ _ | refine blk_drew ?_ | refine blk_alloc ?_ _)); refine blk_far ?_ NB221_231.out _; (with_reducible repeat (first | refine blk_drewN ?_ _ | refine blk_drew ?_ | refine blk_alloc ?_ _)); exact BK221.out⟩, ⟨by (with_reducible repeat (first | refine blk_drewN ?_ _ | refine blk_drew ?_ | refine blk_alloc ?_ _)); refine blk_put (cs := #[.slice Ao25 t223.length co25, .int .u8 t226, .int .i64 t227, .bool t228, .bool t229, .bool false]) ?_ 5 _ rfl; (with_reducible repeat (first | refine blk_drewN ?_ _ | refine blk_drew ?_ | refine blk_alloc ?_ _)); refine blk_put (cs := #[.slice Ao25 t223.length co25, .int .u8 t226, .int .i64 t227, .bool t228, .bool false, .bool false]) ?_ 4 _ rfl; (with_reducible repeat (first | refine blk_drewN ?_ _ | refine blk_drew ?_ | refine blk_alloc ?_ _)); refine blk_put (cs := #[.slice Ao25 t223.length co25, .int .u8 t226, .int .i64 t227, .bool false, .bool false, .bool false]) ?_ 3 _ rfl; (with_reducible repeat (first | refine blk_drewN ?_ _ | refine blk_drew ?_ | refine blk_alloc ?_ _)); refine blk_put (cs := #[.slice Ao25 t223.length co25, .int .u8 t226, .int .i64 0, .bool false, .bool false, .bool false]) ?_ 2 _ rfl; (with_reducible repeat (first | refine blk_drewN ?_ _ | refine blk_drew ?_ | refine blk_alloc ?_ _)); refine blk_put (cs := #[.slice Ao25 t223.length co25, .int .u8 0, .int .i64 0, .bool false, .bool false, .bool false]) ?_ 1 _ rfl; (with_reducible repeat (first | refine blk_drewN ?_ _ | refine blk_drew ?_ | refine blk_alloc ?_ _)); refine blk_put (cs := #[.slice none 0 0, .int .u8 0, .int .i64 0, .bool false, .bool false, .bool false]) ?_ 0 _ rfl; (with_reducible repeat (first | refine blk_drewN ?_ _ | refine blk_drew ?_ | refine blk_alloc ?_ _)); exact BK231.out⟩, ⟨by repeat (first | (with_reducible first | exact HB.out | apply below_alloc | apply pw_below_drewN | apply below_drew1 | refine below_set ?_ GE212.out | refine below_set ?_ GE221.out | refine below_set ?_ GE231.out) | exact HB.out)⟩⟩
              · rw [if_neg c31] at H
                have c31b0 : (t227 == t217) = false := beq_eq_false_iff_ne.mpr c31
                have c31b1 : (t227 != t217) = true := bne_iff_ne.mpr c31
                have H' := Aside0.mk H
                clear H
                have hnb37 := NB231_212.out
                have hnc37 := NB212_231.out
                have hnb38 := NB231_221.out
                have hnc38 := NB221_231.out
                have hcz39_0 : w24.cell? ⟨gb231, 0, none⟩ = some (.slice none 0 0) := (blk_cell BK231.out 0).trans rfl
                have hcz39_1 : w24.cell? ⟨gb231, 1, none⟩ = some (.int .u8 0) := (blk_cell BK231.out 1).trans rfl
                have hcz39_2 : w24.cell? ⟨gb231, 2, none⟩ = some (.int .i64 0) := (blk_cell BK231.out 2).trans rfl
                have hcz39_3 : w24.cell? ⟨gb231, 3, none⟩ = some (.bool false) := (blk_cell BK231.out 3).trans rfl
                have hcz39_4 : w24.cell? ⟨gb231, 4, none⟩ = some (.bool false) := (blk_cell BK231.out 4).trans rfl
                have hcz39_5 : w24.cell? ⟨gb231, 5, none⟩ = some (.bool false) := (blk_cell BK231.out 5).trans rfl
                have hfz39_0 := blk_frozen BK231.out 0
                have hfz39_1 := blk_frozen BK231.out 1
                have hfz39_2 := blk_frozen BK231.out 2
                have hfz39_3 := blk_frozen BK231.out 3
                have hfz39_4 := blk_frozen BK231.out 4
                have hfz39_5 := blk_frozen BK231.out 5
                have hnb40 := NB221_212.out
                have hnc40 := NB212_221.out
                have hcz41_0 : w24.cell? ⟨gb221, 0, none⟩ = some (.slice Ao20 t213.length co20) := (blk_cell BK221.out 0).trans rfl
                have hcz41_1 : w24.cell? ⟨gb221, 1, none⟩ = some (.int .u8 t216) := (blk_cell BK221.out 1).trans rfl
                have hcz41_2 : w24.cell? ⟨gb221, 2, none⟩ = some (.int .i64 t217) := (blk_cell BK221.out 2).trans rfl
                have hcz41_3 : w24.cell? ⟨gb221, 3, none⟩ = some (.bool t218) := (blk_cell BK221.out 3).trans rfl
                have hcz41_4 : w24.cell? ⟨gb221, 4, none⟩ = some (.bool t219) := (blk_cell BK221.out 4).trans rfl
                have hcz41_5 : w24.cell? ⟨gb221, 5, none⟩ = some (.bool t220) := (blk_cell BK221.out 5).trans rfl
                have hfz41_0 := blk_frozen BK221.out 0
                have hfz41_1 := blk_frozen BK221.out 1
                have hfz41_2 := blk_frozen BK221.out 2
                have hfz41_3 := blk_frozen BK221.out 3
                have hfz41_4 := blk_frozen BK221.out 4
                have hfz41_5 := blk_frozen BK221.out 5
                go_wp2
                repeat (go_quiet (fail); try go_wp2)
                go_meet
                case rel => exact ⟨_, (true), (by first | rfl | (simp; done) | (simp [*]; done)), H', ⟨by first | omega | exact Nat.le_refl _⟩, ⟨by (with_reducible repeat (first | apply Kd.R_alloc | apply Kd.R_drewN | apply Kd.R_drew)); exact Kd.R_mono (Kd.R_far (p := ⟨gb231, 5, none⟩) (Kd.R_far (p := ⟨gb231, 4, none⟩) (Kd.R_far (p := ⟨gb231, 3, none⟩) (Kd.R_far (p := ⟨gb231, 2, none⟩) (Kd.R_far (p := ⟨gb231, 1, none⟩) (Kd.R_far (p := ⟨gb231, 0, none⟩) (Kd.R_types HO206.out BK231.out (by decide)) (fun _ hk => hk.2) (.slice Ao25 t223.length co25)) (fun _ hk => hk.2) (.int .u8 t226)) (fun _ hk => hk.2) (.int .i64 t227)) (fun _ hk => hk.2) (.bool t228)) (fun _ hk => hk.2) (.bool t229)) (fun _ hk => hk.2) (.bool t230)) (fun _ hk => ⟨hk.1.1.2, hk.1.2⟩)⟩, ⟨by (with_reducible repeat (first | apply Kd.R_alloc | apply Kd.R_drewN | apply Kd.R_drew)); exact Kd.R_mono (Kd.R_far (p := ⟨gb231, 5, none⟩) (Kd.R_far (p := ⟨gb231, 4, none⟩) (Kd.R_far (p := ⟨gb231, 3, none⟩) (Kd.R_far (p := ⟨gb231, 2, none⟩) (Kd.R_far (p := ⟨gb231, 1, none⟩) (Kd.R_far (p := ⟨gb231, 0, none⟩) (Kd.R_types HO215.out BK231.out (by decide)) (fun _ hk => hk.2) (.slice Ao25 t223.length co25)) (fun _ hk => hk.2) (.int .u8 t226)) (fun _ hk => hk.2) (.int .i64 t227)) (fun _ hk => hk.2) (.bool t228)) (fun _ hk => hk.2) (.bool t229)) (fun _ hk => hk.2) (.bool t230)) (fun _ hk => ⟨hk.1.1.2, hk.1.2⟩)⟩, ⟨by (with_reducible repeat (first | apply Kd.R_alloc | apply Kd.R_drewN | apply Kd.R_drew)); exact Kd.R_mono (Kd.R_far (p := ⟨gb231, 5, none⟩) (Kd.R_far (p := ⟨gb231, 4, none⟩) (Kd.R_far (p := ⟨gb231, 3, none⟩) (Kd.R_far (p := ⟨gb231, 2, none⟩) (Kd.R_far (p := ⟨gb231, 1, none⟩) (Kd.R_far (p := ⟨gb231, 0, none⟩) (Kd.R_types HO225.out BK231.out (by decide)) (fun _ hk => hk.2) (.slice Ao25 t223.length co25)) (fun _ hk => hk.2) (.int .u8 t226)) (fun _ hk => hk.2) (.int .i64 t227)) (fun _ hk => hk.2) (.bool t228)) (fun _ hk => hk.2) (.bool t229)) (fun _ hk => hk.2) (.bool t230)) (fun _ hk => ⟨hk.1.1.2, hk.1.2⟩)⟩, ⟨by (with_reducible repeat (first | refine blk_drewN ?_ _ | refine blk_drew ?_ | refine blk_alloc ?_ _)); refine blk_far ?_ NB212_231.out _; (with_reducible repeat (first | refine blk_drewN ?_ _ | refine blk_drew ?_ | refine blk_alloc ?_ _)); refine blk_far ?_ NB212_231.out _; (with_reducible repeat (first | refine blk_drewN ?_ _ | refine blk_drew ?_ | refine blk_alloc ?_ _)); refine blk_far ?_ NB212_231.out _; (with_reducible repeat (first | refine blk_drewN ?_ _ | refine blk_drew ?_ | refine blk_alloc ?_ _)); refine blk_far ?_ NB212_231.out _; (with_reducible repeat (first | refine blk_drewN ?_ _ | refine blk_drew ?_ | refine blk_alloc ?_ _)); refine blk_far ?_ NB212_231.out _; (with_reducible repeat (first | refine blk_drewN ?_ _ | refine blk_drew ?_ | refine blk_alloc ?_ _)); refine blk_far ?_ NB212_231.out _; (with_reducible repeat (first | refine blk_drewN ?_ _ | refine blk_drew ?_ | refine blk_alloc ?_ _)); exact BK212.out⟩, ⟨by (with_reducible repeat (first | refine blk_drewN ?_ _ | refine blk_drew ?_ | refine blk_alloc ?_ _)); refine blk_far ?_ NB221_231.out _; (with_reducible repeat (first | refine blk_drewN ?_ _ | refine blk_drew ?_ | refine blk_alloc ?_ _)); refine blk_far ?_ NB221_231.out _; (with_reducible repeat (first | refine blk_drewN ?_ _ | refine blk_drew ?_ | refine blk_alloc ?_ _)); refine blk_far ?_ NB221_231.out _; (with_reducible repeat (first | refine blk_drewN ?_ _ | refine blk_drew ?_ | refine blk_alloc ?_ _)); refine blk_far ?_ NB221_231.out _; (with_reducible repeat (first | refine blk_drewN ?_ _ | refine blk_drew ?_ | refine blk_alloc ?_ _)); refine blk_far ?_ NB221_231.out _; (with_reducible repeat (first | refine blk_drewN ?_ _ | refine blk_drew ?_ | refine blk_alloc ?_ _)); refine blk_far ?_ NB221_231.out _; (with_reducible repeat (first | refine blk_drewN ?_ _ | refine blk_drew ?_ | refine blk_alloc ?_ _)); exact BK221.out⟩, ⟨by (with_reducible repeat (first | refine blk_drewN ?_ _ | refine blk_drew ?_ | refine blk_alloc ?_ _)); refine blk_put (cs := #[.slice Ao25 t223.length co25, .int .u8 t226, .int .i64 t227, .bool t228, .bool t229, .bool false]) ?_ 5 _ rfl; (with_reducible repeat (first | refine blk_drewN ?_ _ | refine blk_drew ?_ | refine blk_alloc ?_ _)); refine blk_put (cs := #[.slice Ao25 t223.length co25, .int .u8 t226, .int .i64 t227, .bool t228, .bool false, .bool false]) ?_ 4 _ rfl; (with_reducible repeat (first | refine blk_drewN ?_ _ | refine blk_drew ?_ | refine blk_alloc ?_ _)); refine blk_put (cs := #[.slice Ao25 t223.length co25, .int .u8 t226, .int .i64 t227, .bool false, .bool false, .bool false]) ?_ 3 _ rfl; (with_reducible repeat (first | refine blk_drewN ?_ _ | refine blk_drew ?_ | refine blk_alloc ?_ _)); refine blk_put (cs := #[.slice Ao25 t223.length co25, .int .u8 t226, .int .i64 0, .bool false, .bool false, .bool false]) ?_ 2 _ rfl; (with_reducible repeat (first | refine blk_drewN ?_ _ | refine blk_drew ?_ | refine blk_alloc ?_ _)); refine blk_put (cs := #[.slice Ao25 t223.length co25, .int .u8 0, .int .i64 0, .bool false, .bool false, .bool false]) ?_ 1 _ rfl; (with_reducible repeat (first | refine blk_drewN ?_ _ | refine blk_drew ?_ | refine blk_alloc ?_ _)); refine blk_put (cs := #[.slice none 0 0, .int .u8 0, .int .i64 0, .bool false, .bool false, .bool false]) ?_ 0 _ rfl; (with_reducible repeat (first | refine blk_drewN ?_ _ | refine blk_drew ?_ | refine blk_alloc ?_ _)); exact BK231.out⟩, ⟨by repeat (first | (with_reducible first | exact HB.out | apply below_alloc | apply pw_below_drewN | apply below_drew1 | refine below_set ?_ GE212.out | refine below_set ?_ GE221.out | refine below_set ?_ GE231.out) | exact HB.out)⟩⟩
            · rw [if_neg c30] at H
              have c30b0 : (t226 == t216) = false := beq_eq_false_iff_ne.mpr c30
              have c30b1 : (t226 != t216) = true := bne_iff_ne.mpr c30
              have H' := Aside0.mk H
              clear H
              have hnb42 := NB231_212.out
              have hnc42 := NB212_231.out
              have hnb43 := NB231_221.out
              have hnc43 := NB221_231.out
              have hcz44_0 : w24.cell? ⟨gb231, 0, none⟩ = some (.slice none 0 0) := (blk_cell BK231.out 0).trans rfl
              have hcz44_1 : w24.cell? ⟨gb231, 1, none⟩ = some (.int .u8 0) := (blk_cell BK231.out 1).trans rfl
              have hcz44_2 : w24.cell? ⟨gb231, 2, none⟩ = some (.int .i64 0) := (blk_cell BK231.out 2).trans rfl
              have hcz44_3 : w24.cell? ⟨gb231, 3, none⟩ = some (.bool false) := (blk_cell BK231.out 3).trans rfl
              have hcz44_4 : w24.cell? ⟨gb231, 4, none⟩ = some (.bool false) := (blk_cell BK231.out 4).trans rfl
              have hcz44_5 : w24.cell? ⟨gb231, 5, none⟩ = some (.bool false) := (blk_cell BK231.out 5).trans rfl
              have hfz44_0 := blk_frozen BK231.out 0
              have hfz44_1 := blk_frozen BK231.out 1
              have hfz44_2 := blk_frozen BK231.out 2
              have hfz44_3 := blk_frozen BK231.out 3
              have hfz44_4 := blk_frozen BK231.out 4
              have hfz44_5 := blk_frozen BK231.out 5
              have hnb45 := NB221_212.out
              have hnc45 := NB212_221.out
              have hcz46_0 : w24.cell? ⟨gb221, 0, none⟩ = some (.slice Ao20 t213.length co20) := (blk_cell BK221.out 0).trans rfl
              have hcz46_1 : w24.cell? ⟨gb221, 1, none⟩ = some (.int .u8 t216) := (blk_cell BK221.out 1).trans rfl
              have hcz46_2 : w24.cell? ⟨gb221, 2, none⟩ = some (.int .i64 t217) := (blk_cell BK221.out 2).trans rfl
              have hcz46_3 : w24.cell? ⟨gb221, 3, none⟩ = some (.bool t218) := (blk_cell BK221.out 3).trans rfl
              have hcz46_4 : w24.cell? ⟨gb221, 4, none⟩ = some (.bool t219) := (blk_cell BK221.out 4).trans rfl
              have hcz46_5 : w24.cell? ⟨gb221, 5, none⟩ = some (.bool t220) := (blk_cell BK221.out 5).trans rfl
              have hfz46_0 := blk_frozen BK221.out 0
              have hfz46_1 := blk_frozen BK221.out 1
              have hfz46_2 := blk_frozen BK221.out 2
              have hfz46_3 := blk_frozen BK221.out 3
              have hfz46_4 := blk_frozen BK221.out 4
              have hfz46_5 := blk_frozen BK221.out 5
              go_wp2
              repeat (go_quiet (fail); try go_wp2)
              go_meet
              case rel => exact ⟨_, (true), (by first | rfl | (simp; done) | (simp [*]; done)), H', ⟨by first | omega | exact Nat.le_refl _⟩, ⟨by (with_reducible repeat (first | apply Kd.R_alloc | apply Kd.R_drewN | apply Kd.R_drew)); exact Kd.R_mono (Kd.R_far (p := ⟨gb231, 5, none⟩) (Kd.R_far (p := ⟨gb231, 4, none⟩) (Kd.R_far (p := ⟨gb231, 3, none⟩) (Kd.R_far (p := ⟨gb231, 2, none⟩) (Kd.R_far (p := ⟨gb231, 1, none⟩) (Kd.R_far (p := ⟨gb231, 0, none⟩) (Kd.R_types HO206.out BK231.out (by decide)) (fun _ hk => hk.2) (.slice Ao25 t223.length co25)) (fun _ hk => hk.2) (.int .u8 t226)) (fun _ hk => hk.2) (.int .i64 t227)) (fun _ hk => hk.2) (.bool t228)) (fun _ hk => hk.2) (.bool t229)) (fun _ hk => hk.2) (.bool t230)) (fun _ hk => ⟨hk.1.1.2, hk.1.2⟩)⟩, ⟨by (with_reducible repeat (first | apply Kd.R_alloc | apply Kd.R_drewN | apply Kd.R_drew)); exact Kd.R_mono (Kd.R_far (p := ⟨gb231, 5, none⟩) (Kd.R_far (p := ⟨gb231, 4, none⟩) (Kd.R_far (p := ⟨gb231, 3, none⟩) (Kd.R_far (p := ⟨gb231, 2, none⟩) (Kd.R_far (p := ⟨gb231, 1, none⟩) (Kd.R_far (p := ⟨gb231, 0, none⟩) (Kd.R_types HO215.out BK231.out (by decide)) (fun _ hk => hk.2) (.slice Ao25 t223.length co25)) (fun _ hk => hk.2) (.int .u8 t226)) (fun _ hk => hk.2) (.int .i64 t227)) (fun _ hk => hk.2) (.bool t228)) (fun _ hk => hk.2) (.bool t229)) (fun _ hk => hk.2) (.bool t230)) (fun _ hk => ⟨hk.1.1.2, hk.1.2⟩)⟩, ⟨by (with_reducible repeat (first | apply Kd.R_alloc | apply Kd.R_drewN | apply Kd.R_drew)); exact Kd.R_mono (Kd.R_far (p := ⟨gb231, 5, none⟩) (Kd.R_far (p := ⟨gb231, 4, none⟩) (Kd.R_far (p := ⟨gb231, 3, none⟩) (Kd.R_far (p := ⟨gb231, 2, none⟩) (Kd.R_far (p := ⟨gb231, 1, none⟩) (Kd.R_far (p := ⟨gb231, 0, none⟩) (Kd.R_types HO225.out BK231.out (by decide)) (fun _ hk => hk.2) (.slice Ao25 t223.length co25)) (fun _ hk => hk.2) (.int .u8 t226)) (fun _ hk => hk.2) (.int .i64 t227)) (fun _ hk => hk.2) (.bool t228)) (fun _ hk => hk.2) (.bool t229)) (fun _ hk => hk.2) (.bool t230)) (fun _ hk => ⟨hk.1.1.2, hk.1.2⟩)⟩, ⟨by (with_reducible repeat (first | refine blk_drewN ?_ _ | refine blk_drew ?_ | refine blk_alloc ?_ _)); refine blk_far ?_ NB212_231.out _; (with_reducible repeat (first | refine blk_drewN ?_ _ | refine blk_drew ?_ | refine blk_alloc ?_ _)); refine blk_far ?_ NB212_231.out _; (with_reducible repeat (first | refine blk_drewN ?_ _ | refine blk_drew ?_ | refine blk_alloc ?_ _)); refine blk_far ?_ NB212_231.out _; (with_reducible repeat (first | refine blk_drewN ?_ _ | refine blk_drew ?_ | refine blk_alloc ?_ _)); refine blk_far ?_ NB212_231.out _; (with_reducible repeat (first | refine blk_drewN ?_ _ | refine blk_drew ?_ | refine blk_alloc ?_ _)); refine blk_far ?_ NB212_231.out _; (with_reducible repeat (first | refine blk_drewN ?_ _ | refine blk_drew ?_ | refine blk_alloc ?_ _)); refine blk_far ?_ NB212_231.out _; (with_reducible repeat (first | refine blk_drewN ?_ _ | refine blk_drew ?_ | refine blk_alloc ?_ _)); exact BK212.out⟩, ⟨by (with_reducible repeat (first | refine blk_drewN ?_ _ | refine blk_drew ?_ | refine blk_alloc ?_ _)); refine blk_far ?_ NB221_231.out _; (with_reducible repeat (first | refine blk_drewN ?_ _ | refine blk_drew ?_ | refine blk_alloc ?_ _)); refine blk_far ?_ NB221_231.out _; (with_reducible repeat (first | refine blk_drewN ?_ _ | refine blk_drew ?_ | refine blk_alloc ?_ _)); refine blk_far ?_ NB221_231.out _; (with_reducible repeat (first | refine blk_drewN ?_ _ | refine blk_drew ?_ | refine blk_alloc ?_ _)); refine blk_far ?_ NB221_231.out _; (with_reducible repeat (first | refine blk_drewN ?_ _ | refine blk_drew ?_ | refine blk_alloc ?_ _)); refine blk_far ?_ NB221_231.out _; (with_reducible repeat (first | refine blk_drewN ?_ _ | refine blk_drew ?_ | refine blk_alloc ?_ _)); refine blk_far ?_ NB221_231.out _; (with_reducible repeat (first | refine blk_drewN ?_ _ | refine blk_drew ?_ | refine blk_alloc ?_ _)); exact BK221.out⟩, ⟨by (with_reducible repeat (first | refine blk_drewN ?_ _ | refine blk_drew ?_ | refine blk_alloc ?_ _)); refine blk_put (cs := #[.slice Ao25 t223.length co25, .int .u8 t226, .int .i64 t227, .bool t228, .bool t229, .bool false]) ?_ 5 _ rfl; (with_reducible repeat (first | refine blk_drewN ?_ _ | refine blk_drew ?_ | refine blk_alloc ?_ _)); refine blk_put (cs := #[.slice Ao25 t223.length co25, .int .u8 t226, .int .i64 t227, .bool t228, .bool false, .bool false]) ?_ 4 _ rfl; (with_reducible repeat (first | refine blk_drewN ?_ _ | refine blk_drew ?_ | refine blk_alloc ?_ _)); refine blk_put (cs := #[.slice Ao25 t223.length co25, .int .u8 t226, .int .i64 t227, .bool false, .bool false, .bool false]) ?_ 3 _ rfl; (with_reducible repeat (first | refine blk_drewN ?_ _ | refine blk_drew ?_ | refine blk_alloc ?_ _)); refine blk_put (cs := #[.slice Ao25 t223.length co25, .int .u8 t226, .int .i64 0, .bool false, .bool false, .bool false]) ?_ 2 _ rfl; (with_reducible repeat (first | refine blk_drewN ?_ _ | refine blk_drew ?_ | refine blk_alloc ?_ _)); refine blk_put (cs := #[.slice Ao25 t223.length co25, .int .u8 0, .int .i64 0, .bool false, .bool false, .bool false]) ?_ 1 _ rfl; (with_reducible repeat (first | refine blk_drewN ?_ _ | refine blk_drew ?_ | refine blk_alloc ?_ _)); refine blk_put (cs := #[.slice none 0 0, .int .u8 0, .int .i64 0, .bool false, .bool false, .bool false]) ?_ 0 _ rfl; (with_reducible repeat (first | refine blk_drewN ?_ _ | refine blk_drew ?_ | refine blk_alloc ?_ _)); exact BK231.out⟩, ⟨by repeat (first | (with_reducible first | exact HB.out | apply below_alloc | apply pw_below_drewN | apply below_drew1 | refine below_set ?_ GE212.out | refine below_set ?_ GE221.out | refine below_set ?_ GE231.out) | exact HB.out)⟩⟩
          · rw [if_neg c29] at H
            have c29b0 : ((t223.length : Int) == (t213.length : Int)) = false := beq_eq_false_iff_ne.mpr c29
            have c29b1 : ((t223.length : Int) != (t213.length : Int)) = true := bne_iff_ne.mpr c29
            have c29b2 : (t223.length == t213.length) = false := by first | simpa using c29 | (simp at c29 ⊢; omega)
            (first | rw [c29b0] | (simp only [i64_w, i32_w]; rw [c29b0]) | skip)
            have H' := Aside0.mk H
            clear H
            have hnb47 := NB231_212.out
            have hnc47 := NB212_231.out
            have hnb48 := NB231_221.out
            have hnc48 := NB221_231.out
            have hcz49_0 : w24.cell? ⟨gb231, 0, none⟩ = some (.slice none 0 0) := (blk_cell BK231.out 0).trans rfl
            have hcz49_1 : w24.cell? ⟨gb231, 1, none⟩ = some (.int .u8 0) := (blk_cell BK231.out 1).trans rfl
            have hcz49_2 : w24.cell? ⟨gb231, 2, none⟩ = some (.int .i64 0) := (blk_cell BK231.out 2).trans rfl
            have hcz49_3 : w24.cell? ⟨gb231, 3, none⟩ = some (.bool false) := (blk_cell BK231.out 3).trans rfl
            have hcz49_4 : w24.cell? ⟨gb231, 4, none⟩ = some (.bool false) := (blk_cell BK231.out 4).trans rfl
            have hcz49_5 : w24.cell? ⟨gb231, 5, none⟩ = some (.bool false) := (blk_cell BK231.out 5).trans rfl
            have hfz49_0 := blk_frozen BK231.out 0
            have hfz49_1 := blk_frozen BK231.out 1
            have hfz49_2 := blk_frozen BK231.out 2
            have hfz49_3 := blk_frozen BK231.out 3
            have hfz49_4 := blk_frozen BK231.out 4
            have hfz49_5 := blk_frozen BK231.out 5
            have hnb50 := NB221_212.out
            have hnc50 := NB212_221.out
            have hcz51_0 : w24.cell? ⟨gb221, 0, none⟩ = some (.slice Ao20 t213.length co20) := (blk_cell BK221.out 0).trans rfl
            have hcz51_1 : w24.cell? ⟨gb221, 1, none⟩ = some (.int .u8 t216) := (blk_cell BK221.out 1).trans rfl
            have hcz51_2 : w24.cell? ⟨gb221, 2, none⟩ = some (.int .i64 t217) := (blk_cell BK221.out 2).trans rfl
            have hcz51_3 : w24.cell? ⟨gb221, 3, none⟩ = some (.bool t218) := (blk_cell BK221.out 3).trans rfl
            have hcz51_4 : w24.cell? ⟨gb221, 4, none⟩ = some (.bool t219) := (blk_cell BK221.out 4).trans rfl
            have hcz51_5 : w24.cell? ⟨gb221, 5, none⟩ = some (.bool t220) := (blk_cell BK221.out 5).trans rfl
            have hfz51_0 := blk_frozen BK221.out 0
            have hfz51_1 := blk_frozen BK221.out 1
            have hfz51_2 := blk_frozen BK221.out 2
            have hfz51_3 := blk_frozen BK221.out 3
            have hfz51_4 := blk_frozen BK221.out 4
            have hfz51_5 := blk_frozen BK221.out 5
            go_wp2
            repeat (go_quiet (fail); try go_wp2)
            go_meet
            case rel => exact ⟨_, (true), (by first | rfl | (simp; done) | (simp [*]; done)), H', ⟨by first | omega | exact Nat.le_refl _⟩, ⟨by (with_reducible repeat (first | apply Kd.R_alloc | apply Kd.R_drewN | apply Kd.R_drew)); exact Kd.R_mono (Kd.R_far (p := ⟨gb231, 5, none⟩) (Kd.R_far (p := ⟨gb231, 4, none⟩) (Kd.R_far (p := ⟨gb231, 3, none⟩) (Kd.R_far (p := ⟨gb231, 2, none⟩) (Kd.R_far (p := ⟨gb231, 1, none⟩) (Kd.R_far (p := ⟨gb231, 0, none⟩) (Kd.R_types HO206.out BK231.out (by decide)) (fun _ hk => hk.2) (.slice Ao25 t223.length co25)) (fun _ hk => hk.2) (.int .u8 t226)) (fun _ hk => hk.2) (.int .i64 t227)) (fun _ hk => hk.2) (.bool t228)) (fun _ hk => hk.2) (.bool t229)) (fun _ hk => hk.2) (.bool t230)) (fun _ hk => ⟨hk.1.1.2, hk.1.2⟩)⟩, ⟨by (with_reducible repeat (first | apply Kd.R_alloc | apply Kd.R_drewN | apply Kd.R_drew)); exact Kd.R_mono (Kd.R_far (p := ⟨gb231, 5, none⟩) (Kd.R_far (p := ⟨gb231, 4, none⟩) (Kd.R_far (p := ⟨gb231, 3, none⟩) (Kd.R_far (p := ⟨gb231, 2, none⟩) (Kd.R_far (p := ⟨gb231, 1, none⟩) (Kd.R_far (p := ⟨gb231, 0, none⟩) (Kd.R_types HO215.out BK231.out (by decide)) (fun _ hk => hk.2) (.slice Ao25 t223.length co25)) (fun _ hk => hk.2) (.int .u8 t226)) (fun _ hk => hk.2) (.int .i64 t227)) (fun _ hk => hk.2) (.bool t228)) (fun _ hk => hk.2) (.bool t229)) (fun _ hk => hk.2) (.bool t230)) (fun _ hk => ⟨hk.1.1.2, hk.1.2⟩)⟩, ⟨by (with_reducible repeat (first | apply Kd.R_alloc | apply Kd.R_drewN | apply Kd.R_drew)); exact Kd.R_mono (Kd.R_far (p := ⟨gb231, 5, none⟩) (Kd.R_far (p := ⟨gb231, 4, none⟩) (Kd.R_far (p := ⟨gb231, 3, none⟩) (Kd.R_far (p := ⟨gb231, 2, none⟩) (Kd.R_far (p := ⟨gb231, 1, none⟩) (Kd.R_far (p := ⟨gb231, 0, none⟩) (Kd.R_types HO225.out BK231.out (by decide)) (fun _ hk => hk.2) (.slice Ao25 t223.length co25)) (fun _ hk => hk.2) (.int .u8 t226)) (fun _ hk => hk.2) (.int .i64 t227)) (fun _ hk => hk.2) (.bool t228)) (fun _ hk => hk.2) (.bool t229)) (fun _ hk => hk.2) (.bool t230)) (fun _ hk => ⟨hk.1.1.2, hk.1.2⟩)⟩, ⟨by (with_reducible repeat (first | refine blk_drewN ?_ _ | refine blk_drew ?_ | refine blk_alloc ?_ _)); refine blk_far ?_ NB212_231.out _; (with_reducible repeat (first | refine blk_drewN ?_ _ | refine blk_drew ?_ | refine blk_alloc ?_ _)); refine blk_far ?_ NB212_231.out _; (with_reducible repeat (first | refine blk_drewN ?_ _ | refine blk_drew ?_ | refine blk_alloc ?_ _)); refine blk_far ?_ NB212_231.out _; (with_reducible repeat (first | refine blk_drewN ?_ _ | refine blk_drew ?_ | refine blk_alloc ?_ _)); refine blk_far ?_ NB212_231.out _; (with_reducible repeat (first | refine blk_drewN ?_ _ | refine blk_drew ?_ | refine blk_alloc ?_ _)); refine blk_far ?_ NB212_231.out _; (with_reducible repeat (first | refine blk_drewN ?_ _ | refine blk_drew ?_ | refine blk_alloc ?_ _)); refine blk_far ?_ NB212_231.out _; (with_reducible repeat (first | refine blk_drewN ?_ _ | refine blk_drew ?_ | refine blk_alloc ?_ _)); exact BK212.out⟩, ⟨by (with_reducible repeat (first | refine blk_drewN ?_ _ | refine blk_drew ?_ | refine blk_alloc ?_ _)); refine blk_far ?_ NB221_231.out _; (with_reducible repeat (first | refine blk_drewN ?_ _ | refine blk_drew ?_ | refine blk_alloc ?_ _)); refine blk_far ?_ NB221_231.out _; (with_reducible repeat (first | refine blk_drewN ?_ _ | refine blk_drew ?_ | refine blk_alloc ?_ _)); refine blk_far ?_ NB221_231.out _; (with_reducible repeat (first | refine blk_drewN ?_ _ | refine blk_drew ?_ | refine blk_alloc ?_ _)); refine blk_far ?_ NB221_231.out _; (with_reducible repeat (first | refine blk_drewN ?_ _ | refine blk_drew ?_ | refine blk_alloc ?_ _)); refine blk_far ?_ NB221_231.out _; (with_reducible repeat (first | refine blk_drewN ?_ _ | refine blk_drew ?_ | refine blk_alloc ?_ _)); refine blk_far ?_ NB221_231.out _; (with_reducible repeat (first | refine blk_drewN ?_ _ | refine blk_drew ?_ | refine blk_alloc ?_ _)); exact BK221.out⟩, ⟨by (with_reducible repeat (first | refine blk_drewN ?_ _ | refine blk_drew ?_ | refine blk_alloc ?_ _)); refine blk_put (cs := #[.slice Ao25 t223.length co25, .int .u8 t226, .int .i64 t227, .bool t228, .bool t229, .bool false]) ?_ 5 _ rfl; (with_reducible repeat (first | refine blk_drewN ?_ _ | refine blk_drew ?_ | refine blk_alloc ?_ _)); refine blk_put (cs := #[.slice Ao25 t223.length co25, .int .u8 t226, .int .i64 t227, .bool t228, .bool false, .bool false]) ?_ 4 _ rfl; (with_reducible repeat (first | refine blk_drewN ?_ _ | refine blk_drew ?_ | refine blk_alloc ?_ _)); refine blk_put (cs := #[.slice Ao25 t223.length co25, .int .u8 t226, .int .i64 t227, .bool false, .bool false, .bool false]) ?_ 3 _ rfl; (with_reducible repeat (first | refine blk_drewN ?_ _ | refine blk_drew ?_ | refine blk_alloc ?_ _)); refine blk_put (cs := #[.slice Ao25 t223.length co25, .int .u8 t226, .int .i64 0, .bool false, .bool false, .bool false]) ?_ 2 _ rfl; (with_reducible repeat (first | refine blk_drewN ?_ _ | refine blk_drew ?_ | refine blk_alloc ?_ _)); refine blk_put (cs := #[.slice Ao25 t223.length co25, .int .u8 0, .int .i64 0, .bool false, .bool false, .bool false]) ?_ 1 _ rfl; (with_reducible repeat (first | refine blk_drewN ?_ _ | refine blk_drew ?_ | refine blk_alloc ?_ _)); refine blk_put (cs := #[.slice none 0 0, .int .u8 0, .int .i64 0, .bool false, .bool false, .bool false]) ?_ 0 _ rfl; (with_reducible repeat (first | refine blk_drewN ?_ _ | refine blk_drew ?_ | refine blk_alloc ?_ _)); exact BK231.out⟩, ⟨by repeat (first | (with_reducible first | exact HB.out | apply below_alloc | apply pw_below_drewN | apply below_drew1 | refine below_set ?_ GE212.out | refine below_set ?_ GE221.out | refine below_set ?_ GE231.out) | exact HB.out)⟩⟩
        case rest =>
          clear HC13
          try clear c1
          try clear c2
          try clear p2
          try clear c3
          try clear c4
          try clear c4b0
          try clear c4b1
          try clear c5
          try clear c7
          try clear c10
          try clear c10b0
          try clear c10b1
          try clear c11
          try clear c11b0
          try clear c11b1
          try clear c21
          try clear c26
          try clear c27
          try clear c29
          try clear c29b0
          try clear c29b1
          try clear c29b2
          try clear c30
          try clear c30b0
          try clear c30b1
          try clear c31
          try clear c31b0
          try clear c31b1
          try clear c32
          try clear c33
          try clear c35
          try clear c37
          try clear c38
          try clear c40
          try clear c42
          try clear c43
          try clear c45
          try clear c47
          try clear c48
          try clear c50
          try clear hcz17_0
          try clear hcz17_1
          try clear hcz17_2
          try clear hcz17_3
          try clear hcz17_4
          try clear hcz17_5
          try clear hcz22_0
          try clear hcz22_1
          try clear hcz22_2
          try clear hcz22_3
          try clear hcz22_4
          try clear hcz22_5
          try clear hcz28_0
          try clear hcz28_1
          try clear hcz28_2
          try clear hcz28_3
          try clear hcz28_4
          try clear hcz28_5
          try clear hcz34_0
          try clear hcz34_1
          try clear hcz34_2
          try clear hcz34_3
          try clear hcz34_4
          try clear hcz34_5
          try clear hcz36_0
          try clear hcz36_1
          try clear hcz36_2
          try clear hcz36_3
          try clear hcz36_4
          try clear hcz36_5
          try clear hcz39_0
          try clear hcz39_1
          try clear hcz39_2
          try clear hcz39_3
          try clear hcz39_4
          try clear hcz39_5
          try clear hcz41_0
          try clear hcz41_1
          try clear hcz41_2
          try clear hcz41_3
          try clear hcz41_4
          try clear hcz41_5
          try clear hcz44_0
          try clear hcz44_1
          try clear hcz44_2
          try clear hcz44_3
          try clear hcz44_4
          try clear hcz44_5
          try clear hcz46_0
          try clear hcz46_1
          try clear hcz46_2
          try clear hcz46_3
          try clear hcz46_4
          try clear hcz46_5
          try clear hcz49_0
          try clear hcz49_1
          try clear hcz49_2
          try clear hcz49_3
          try clear hcz49_4
          try clear hcz49_5
          try clear hcz51_0
          try clear hcz51_1
          try clear hcz51_2
          try clear hcz51_3
          try clear hcz51_4
          try clear hcz51_5
          try clear hfz17_0
          try clear hfz17_1
          try clear hfz17_2
          try clear hfz17_3
          try clear hfz17_4
          try clear hfz17_5
          try clear hfz22_0
          try clear hfz22_1
          try clear hfz22_2
          try clear hfz22_3
          try clear hfz22_4
          try clear hfz22_5
          try clear hfz28_0
          try clear hfz28_1
          try clear hfz28_2
          try clear hfz28_3
          try clear hfz28_4
          try clear hfz28_5
          try clear hfz34_0
          try clear hfz34_1
          try clear hfz34_2
          try clear hfz34_3
          try clear hfz34_4
          try clear hfz34_5
          try clear hfz36_0
          try clear hfz36_1
          try clear hfz36_2
          try clear hfz36_3
          try clear hfz36_4
          try clear hfz36_5
          try clear hfz39_0
          try clear hfz39_1
          try clear hfz39_2
          try clear hfz39_3
          try clear hfz39_4
          try clear hfz39_5
          try clear hfz41_0
          try clear hfz41_1
          try clear hfz41_2
          try clear hfz41_3
          try clear hfz41_4
          try clear hfz41_5
          try clear hfz44_0
          try clear hfz44_1
          try clear hfz44_2
          try clear hfz44_3
          try clear hfz44_4
          try clear hfz44_5
          try clear hfz46_0
          try clear hfz46_1
          try clear hfz46_2
          try clear hfz46_3
          try clear hfz46_4
          try clear hfz46_5
          try clear hfz49_0
          try clear hfz49_1
          try clear hfz49_2
          try clear hfz49_3
          try clear hfz49_4
          try clear hfz49_5
          try clear hfz51_0
          try clear hfz51_1
          try clear hfz51_2
          try clear hfz51_3
          try clear hfz51_4
          try clear hfz51_5
          obtain ⟨kq, x62_12, rfl, HA, HJ12, HO_213000, HO_222000, HO_232000, BK212, BK221, BK231, HB⟩ := hcut
          cases kq with
          | zero => exact absurd HA.out (by simp [indenturelaw11_PytokenOwn.j0])
          | succ kj12 =>
            have H := HA.out
            clear HA
            simp only [indenturelaw11_PytokenOwn.j0] at H
            by_cases c52 : x62_12 = true
            · subst c52
              have H1 : (some false) = some r := by rw [if_pos rfl] at H; exact H
              clear H
              have H := H1
              clear H1
              exact absurd (H.trans (congrArg some hrt.out)) (by decide)
            · replace c52 := Bool.eq_false_iff.mpr c52
              subst c52
              have H1 : (indenturelaw11_PytokenOwn.l0 kj12 a0 a1 a2 ji9 0 t204 t207 t208 t209 t210 t211 t213 t216 t217 t218 t219 t220 t223 t226 t227 t228 t229 t230) = some r := by rw [if_neg (show ¬ (false = true) by decide)] at H; exact H
              clear H
              have H := H1
              clear H1
              have H' := Aside0.mk H
              clear H
              go_wp2
              repeat (go_quiet (fail); try go_wp2)
              go_loopg [11] kj12 (fun kq v11 w' => ∃ (x11_2 : Int), v11 = .int .i64 x11_2 ∧ Aside0 (indenturelaw11_PytokenOwn.l0 kq a0 a1 a2 ji9 x11_2 t204 t207 t208 t209 t210 t211 t213 t216 t217 t218 t219 t220 t223 t226 t227 t228 t229 t230 = some r) ∧ Aside0 (kq ≤ kj12) ∧ Aside0 (Kd.R k33 33 w' w.heap.size (fun k_ => some k_ ≠ ((.slice Ao20 t213.length co20) : Value).ownBlock ∧ some k_ ≠ ((.slice Ao25 t223.length co25) : Value).ownBlock) (.slice Ao16 t204.length co16) t204) ∧ Aside0 (Kd.R k33 33 w' w.heap.size (fun k_ => some k_ ≠ ((.slice Ao16 t204.length co16) : Value).ownBlock ∧ some k_ ≠ ((.slice Ao25 t223.length co25) : Value).ownBlock) (.slice Ao20 t213.length co20) t213) ∧ Aside0 (Kd.R k33 33 w' w.heap.size (fun k_ => some k_ ≠ ((.slice Ao16 t204.length co16) : Value).ownBlock ∧ some k_ ≠ ((.slice Ao20 t213.length co20) : Value).ownBlock) (.slice Ao25 t223.length co25) t223) ∧ Aside0 (w'.heap[gb212]? = some (.cells #[(.slice Ao16 t204.length co16), .int .u8 t207, .int .i64 t208, .bool t209, .bool t210, .bool t211] 25 (0, 0))) ∧ Aside0 (w'.heap[gb221]? = some (.cells #[(.slice Ao20 t213.length co20), .int .u8 t216, .int .i64 t217, .bool t218, .bool t219, .bool t220] 25 (0, 0))) ∧ Aside0 (w'.heap[gb231]? = some (.cells #[(.slice Ao25 t223.length co25), .int .u8 t226, .int .i64 t227, .bool t228, .bool t229, .bool t230] 25 (0, 0))) ∧ Aside0 (Below w.heap.size w w'))
              case atStart => exact ⟨(0), (by first | rfl | (simp; done) | (simp [*]; done)), H', ⟨Nat.le_refl _⟩, ⟨by (with_reducible repeat (first | apply Kd.R_alloc | apply Kd.R_drewN | apply Kd.R_drew)); exact HO_213000.out⟩, ⟨by (with_reducible repeat (first | apply Kd.R_alloc | apply Kd.R_drewN | apply Kd.R_drew)); exact HO_222000.out⟩, ⟨by (with_reducible repeat (first | apply Kd.R_alloc | apply Kd.R_drewN | apply Kd.R_drew)); exact HO_232000.out⟩, ⟨by (with_reducible repeat (first | refine blk_drewN ?_ _ | refine blk_drew ?_ | refine blk_alloc ?_ _)); exact BK212.out⟩, ⟨by (with_reducible repeat (first | refine blk_drewN ?_ _ | refine blk_drew ?_ | refine blk_alloc ?_ _)); exact BK221.out⟩, ⟨by (with_reducible repeat (first | refine blk_drewN ?_ _ | refine blk_drew ?_ | refine blk_alloc ?_ _)); exact BK231.out⟩, ⟨by repeat (first | (with_reducible first | exact HB.out | apply below_alloc | apply pw_below_drewN | apply below_drew1 | refine below_set ?_ GE212.out | refine below_set ?_ GE221.out | refine below_set ?_ GE231.out) | exact HB.out)⟩⟩
              case round =>
                clear H'
                try clear c1
                try clear c2
                try clear p2
                try clear c3
                try clear c4
                try clear c4b0
                try clear c4b1
                try clear c5
                try clear c7
                try clear c10
                try clear c10b0
                try clear c10b1
                try clear c11
                try clear c11b0
                try clear c11b1
                try clear c21
                try clear c26
                try clear c27
                try clear c29
                try clear c29b0
                try clear c29b1
                try clear c29b2
                try clear c30
                try clear c30b0
                try clear c30b1
                try clear c31
                try clear c31b0
                try clear c31b1
                try clear c32
                try clear c33
                try clear c35
                try clear c37
                try clear c38
                try clear c40
                try clear c42
                try clear c43
                try clear c45
                try clear c47
                try clear c48
                try clear c50
                try clear c52
                try clear hcz17_0
                try clear hcz17_1
                try clear hcz17_2
                try clear hcz17_3
                try clear hcz17_4
                try clear hcz17_5
                try clear hcz22_0
                try clear hcz22_1
                try clear hcz22_2
                try clear hcz22_3
                try clear hcz22_4
                try clear hcz22_5
                try clear hcz28_0
                try clear hcz28_1
                try clear hcz28_2
                try clear hcz28_3
                try clear hcz28_4
                try clear hcz28_5
                try clear hcz34_0
                try clear hcz34_1
                try clear hcz34_2
                try clear hcz34_3
                try clear hcz34_4
                try clear hcz34_5
                try clear hcz36_0
                try clear hcz36_1
                try clear hcz36_2
                try clear hcz36_3
                try clear hcz36_4
                try clear hcz36_5
                try clear hcz39_0
                try clear hcz39_1
                try clear hcz39_2
                try clear hcz39_3
                try clear hcz39_4
                try clear hcz39_5
                try clear hcz41_0
                try clear hcz41_1
                try clear hcz41_2
                try clear hcz41_3
                try clear hcz41_4
                try clear hcz41_5
                try clear hcz44_0
                try clear hcz44_1
                try clear hcz44_2
                try clear hcz44_3
                try clear hcz44_4
                try clear hcz44_5
                try clear hcz46_0
                try clear hcz46_1
                try clear hcz46_2
                try clear hcz46_3
                try clear hcz46_4
                try clear hcz46_5
                try clear hcz49_0
                try clear hcz49_1
                try clear hcz49_2
                try clear hcz49_3
                try clear hcz49_4
                try clear hcz49_5
                try clear hcz51_0
                try clear hcz51_1
                try clear hcz51_2
                try clear hcz51_3
                try clear hcz51_4
                try clear hcz51_5
                try clear hfz17_0
                try clear hfz17_1
                try clear hfz17_2
                try clear hfz17_3
                try clear hfz17_4
                try clear hfz17_5
                try clear hfz22_0
                try clear hfz22_1
                try clear hfz22_2
                try clear hfz22_3
                try clear hfz22_4
                try clear hfz22_5
                try clear hfz28_0
                try clear hfz28_1
                try clear hfz28_2
                try clear hfz28_3
                try clear hfz28_4
                try clear hfz28_5
                try clear hfz34_0
                try clear hfz34_1
                try clear hfz34_2
                try clear hfz34_3
                try clear hfz34_4
                try clear hfz34_5
                try clear hfz36_0
                try clear hfz36_1
                try clear hfz36_2
                try clear hfz36_3
                try clear hfz36_4
                try clear hfz36_5
                try clear hfz39_0
                try clear hfz39_1
                try clear hfz39_2
                try clear hfz39_3
                try clear hfz39_4
                try clear hfz39_5
                try clear hfz41_0
                try clear hfz41_1
                try clear hfz41_2
                try clear hfz41_3
                try clear hfz41_4
                try clear hfz41_5
                try clear hfz44_0
                try clear hfz44_1
                try clear hfz44_2
                try clear hfz44_3
                try clear hfz44_4
                try clear hfz44_5
                try clear hfz46_0
                try clear hfz46_1
                try clear hfz46_2
                try clear hfz46_3
                try clear hfz46_4
                try clear hfz46_5
                try clear hfz49_0
                try clear hfz49_1
                try clear hfz49_2
                try clear hfz49_3
                try clear hfz49_4
                try clear hfz49_5
                try clear hfz51_0
                try clear hfz51_1
                try clear hfz51_2
                try clear hfz51_3
                try clear hfz51_4
                try clear hfz51_5
                try clear p2
                obtain ⟨x11_2, rfl, HA, HK2, HO_213000, HO_222000, HO_232000, BK212, BK221, BK231, HB⟩ := hrel
                cases gk with
                | zero => exact absurd HA.out (by simp [indenturelaw11_PytokenOwn.l0])
                | succ k2 =>
                  have H := HA.out
                  clear HA
                  simp only [indenturelaw11_PytokenOwn.l0] at H
                  by_cases c53 : x11_2 < (t213.length : Int)
                  · rw [if_pos c53] at H
                    have c53b0 : decide (x11_2 < (t213.length : Int)) = true := decide_eq_true c53
                    clear c53
                    by_cases c54 : 0 ≤ x11_2
                    · rw [if_pos c54] at H
                      have c54b0 : decide (0 ≤ x11_2) = true := decide_eq_true c54
                      clear c54
                      by_cases c55 : x11_2 < (t223.length : Int)
                      · rw [if_pos c55] at H
                        have c55b0 : decide (x11_2 < (t223.length : Int)) = true := decide_eq_true c55
                        clear c55
                        by_cases c56 : (wrap64 (((rd_T33 t223 x11_2).f2) + ji9)) = ((rd_T33 t213 x11_2).f2)
                        · rw [if_pos c56] at H
                          have c56b0 : ((wrap64 (((rd_T33 t223 x11_2).f2) + ji9)) == ((rd_T33 t213 x11_2).f2)) = true := beq_iff_eq.mpr c56
                          have c56b1 : ((wrap64 (((rd_T33 t223 x11_2).f2) + ji9)) != ((rd_T33 t213 x11_2).f2)) = false := bne_eq_false_iff_eq.mpr c56
                          clear c56
                          by_cases c57 : (wrap64 (((rd_T33 t223 x11_2).f3) + ji9)) = ((rd_T33 t213 x11_2).f3)
                          · rw [if_pos c57] at H
                            have c57b0 : ((wrap64 (((rd_T33 t223 x11_2).f3) + ji9)) == ((rd_T33 t213 x11_2).f3)) = true := beq_iff_eq.mpr c57
                            have c57b1 : ((wrap64 (((rd_T33 t223 x11_2).f3) + ji9)) != ((rd_T33 t213 x11_2).f3)) = false := bne_eq_false_iff_eq.mpr c57
                            clear c57
                            by_cases c58 : ((rd_T33 t223 x11_2).f1) = ((rd_T33 t213 x11_2).f1)
                            · rw [if_pos c58] at H
                              have c58b0 : (((rd_T33 t223 x11_2).f1) == ((rd_T33 t213 x11_2).f1)) = true := beq_iff_eq.mpr c58
                              have c58b1 : (((rd_T33 t223 x11_2).f1) != ((rd_T33 t213 x11_2).f1)) = false := bne_eq_false_iff_eq.mpr c58
                              clear c58
                              have H' := Aside0.mk H
                              clear H
                              have hnb59 := NB221_212.out
                              have hnc59 := NB212_221.out
                              have hnb60 := NB221_231.out
                              have hnc60 := NB231_221.out
                              have hcz61_0 : wr.cell? ⟨gb221, 0, none⟩ = some (.slice Ao20 t213.length co20) := (blk_cell BK221.out 0).trans rfl
                              have hcz61_1 : wr.cell? ⟨gb221, 1, none⟩ = some (.int .u8 t216) := (blk_cell BK221.out 1).trans rfl
                              have hcz61_2 : wr.cell? ⟨gb221, 2, none⟩ = some (.int .i64 t217) := (blk_cell BK221.out 2).trans rfl
                              have hcz61_3 : wr.cell? ⟨gb221, 3, none⟩ = some (.bool t218) := (blk_cell BK221.out 3).trans rfl
                              have hcz61_4 : wr.cell? ⟨gb221, 4, none⟩ = some (.bool t219) := (blk_cell BK221.out 4).trans rfl
                              have hcz61_5 : wr.cell? ⟨gb221, 5, none⟩ = some (.bool t220) := (blk_cell BK221.out 5).trans rfl
                              have hfz61_0 := blk_frozen BK221.out 0
                              have hfz61_1 := blk_frozen BK221.out 1
                              have hfz61_2 := blk_frozen BK221.out 2
                              have hfz61_3 := blk_frozen BK221.out 3
                              have hfz61_4 := blk_frozen BK221.out 4
                              have hfz61_5 := blk_frozen BK221.out 5
                              have hnb62 := NB231_212.out
                              have hnc62 := NB212_231.out
                              have hcz63_0 : wr.cell? ⟨gb231, 0, none⟩ = some (.slice Ao25 t223.length co25) := (blk_cell BK231.out 0).trans rfl
                              have hcz63_1 : wr.cell? ⟨gb231, 1, none⟩ = some (.int .u8 t226) := (blk_cell BK231.out 1).trans rfl
                              have hcz63_2 : wr.cell? ⟨gb231, 2, none⟩ = some (.int .i64 t227) := (blk_cell BK231.out 2).trans rfl
                              have hcz63_3 : wr.cell? ⟨gb231, 3, none⟩ = some (.bool t228) := (blk_cell BK231.out 3).trans rfl
                              have hcz63_4 : wr.cell? ⟨gb231, 4, none⟩ = some (.bool t229) := (blk_cell BK231.out 4).trans rfl
                              have hcz63_5 : wr.cell? ⟨gb231, 5, none⟩ = some (.bool t230) := (blk_cell BK231.out 5).trans rfl
                              have hfz63_0 := blk_frozen BK231.out 0
                              have hfz63_1 := blk_frozen BK231.out 1
                              have hfz63_2 := blk_frozen BK231.out 2
                              have hfz63_3 := blk_frozen BK231.out 3
                              have hfz63_4 := blk_frozen BK231.out 4
                              have hfz63_5 := blk_frozen BK231.out 5
                              have p232 : 0 ≤ (x11_2 : Int) := of_decide_eq_true (by first | (with_reducible assumption) | assumption)
                              have q232 : x11_2 < (t223.length : Int) := of_decide_eq_true (by first | (with_reducible assumption) | assumption)
                              obtain ⟨ad232, e232, hx232_0, hx232_1, hx232_2, hx232_3⟩ := at_T33 (Kd.R_reads' HO_232000.out).2.2 x11_2 p232 q232
                              cases e232
                              replace p232 := eq_true p232
                              replace q232 := eq_true q232
                              have p233 : 0 ≤ (x11_2 : Int) := of_decide_eq_true (by first | (with_reducible assumption) | assumption)
                              have q233 : x11_2 < (t213.length : Int) := of_decide_eq_true (by first | (with_reducible assumption) | assumption)
                              obtain ⟨ad233, e233, hx233_0, hx233_1, hx233_2, hx233_3⟩ := at_T33 (Kd.R_reads' HO_222000.out).2.2 x11_2 p233 q233
                              cases e233
                              replace p233 := eq_true p233
                              replace q233 := eq_true q233
                              have p234 : 0 ≤ (x11_2 : Int) := of_decide_eq_true (by first | (with_reducible assumption) | assumption)
                              have q234 : x11_2 < (t223.length : Int) := of_decide_eq_true (by first | (with_reducible assumption) | assumption)
                              obtain ⟨ad234, e234, hx234_0, hx234_1, hx234_2, hx234_3⟩ := at_T33 (Kd.R_reads' HO_232000.out).2.2 x11_2 p234 q234
                              obtain rfl : ad232 = ad234 := (by injection e234)
                              replace p234 := eq_true p234
                              replace q234 := eq_true q234
                              have p235 : 0 ≤ (x11_2 : Int) := of_decide_eq_true (by first | (with_reducible assumption) | assumption)
                              have q235 : x11_2 < (t213.length : Int) := of_decide_eq_true (by first | (with_reducible assumption) | assumption)
                              obtain ⟨ad235, e235, hx235_0, hx235_1, hx235_2, hx235_3⟩ := at_T33 (Kd.R_reads' HO_222000.out).2.2 x11_2 p235 q235
                              obtain rfl : ad233 = ad235 := (by injection e235)
                              replace p235 := eq_true p235
                              replace q235 := eq_true q235
                              have p236 : 0 ≤ (x11_2 : Int) := of_decide_eq_true (by first | (with_reducible assumption) | assumption)
                              have q236 : x11_2 < (t223.length : Int) := of_decide_eq_true (by first | (with_reducible assumption) | assumption)
                              obtain ⟨ad236, e236, hx236_0, hx236_1, hx236_2, hx236_3⟩ := at_T33 (Kd.R_reads' HO_232000.out).2.2 x11_2 p236 q236
                              obtain rfl : ad232 = ad236 := (by injection e236)
                              replace p236 := eq_true p236
                              replace q236 := eq_true q236
                              have p237 : 0 ≤ (x11_2 : Int) := of_decide_eq_true (by first | (with_reducible assumption) | assumption)
                              have q237 : x11_2 < (t213.length : Int) := of_decide_eq_true (by first | (with_reducible assumption) | assumption)
                              obtain ⟨ad237, e237, hx237_0, hx237_1, hx237_2, hx237_3⟩ := at_T33 (Kd.R_reads' HO_222000.out).2.2 x11_2 p237 q237
                              obtain rfl : ad233 = ad237 := (by injection e237)
                              replace p237 := eq_true p237
                              replace q237 := eq_true q237
                              go_wp2
                              repeat (go_quiet (fail); try go_wp2)
                              go_roundg k2
                              case measure => have := HJ12.out; have := HK2.out; omega
                              case rel => exact ⟨(wrap64 (x11_2 + 1)), (by first | rfl | (simp; done) | (simp [*]; done)), H', ⟨by have := HJ12.out; have := HK2.out; omega⟩, ⟨by (with_reducible repeat (first | apply Kd.R_alloc | apply Kd.R_drewN | apply Kd.R_drew)); exact HO_213000.out⟩, ⟨by (with_reducible repeat (first | apply Kd.R_alloc | apply Kd.R_drewN | apply Kd.R_drew)); exact HO_222000.out⟩, ⟨by (with_reducible repeat (first | apply Kd.R_alloc | apply Kd.R_drewN | apply Kd.R_drew)); exact HO_232000.out⟩, ⟨by (with_reducible repeat (first | refine blk_drewN ?_ _ | refine blk_drew ?_ | refine blk_alloc ?_ _)); exact BK212.out⟩, ⟨by (with_reducible repeat (first | refine blk_drewN ?_ _ | refine blk_drew ?_ | refine blk_alloc ?_ _)); exact BK221.out⟩, ⟨by (with_reducible repeat (first | refine blk_drewN ?_ _ | refine blk_drew ?_ | refine blk_alloc ?_ _)); exact BK231.out⟩, ⟨by repeat (first | (with_reducible first | exact HB.out | apply below_alloc | apply pw_below_drewN | apply below_drew1 | refine below_set ?_ GE212.out | refine below_set ?_ GE221.out | refine below_set ?_ GE231.out) | exact HB.out)⟩⟩
                            · rw [if_neg c58] at H
                              have c58b0 : (((rd_T33 t223 x11_2).f1) == ((rd_T33 t213 x11_2).f1)) = false := beq_eq_false_iff_ne.mpr c58
                              have c58b1 : (((rd_T33 t223 x11_2).f1) != ((rd_T33 t213 x11_2).f1)) = true := bne_iff_ne.mpr c58
                              exact absurd (H.trans (congrArg some hrt.out)) (by decide)
                          · rw [if_neg c57] at H
                            have c57b0 : ((wrap64 (((rd_T33 t223 x11_2).f3) + ji9)) == ((rd_T33 t213 x11_2).f3)) = false := beq_eq_false_iff_ne.mpr c57
                            have c57b1 : ((wrap64 (((rd_T33 t223 x11_2).f3) + ji9)) != ((rd_T33 t213 x11_2).f3)) = true := bne_iff_ne.mpr c57
                            exact absurd (H.trans (congrArg some hrt.out)) (by decide)
                        · rw [if_neg c56] at H
                          have c56b0 : ((wrap64 (((rd_T33 t223 x11_2).f2) + ji9)) == ((rd_T33 t213 x11_2).f2)) = false := beq_eq_false_iff_ne.mpr c56
                          have c56b1 : ((wrap64 (((rd_T33 t223 x11_2).f2) + ji9)) != ((rd_T33 t213 x11_2).f2)) = true := bne_iff_ne.mpr c56
                          exact absurd (H.trans (congrArg some hrt.out)) (by decide)
                      · rw [if_neg c55] at H
                        exact absurd H (by simp)
                    · rw [if_neg c54] at H
                      exact absurd H (by simp)
                  · rw [if_neg c53] at H
                    have c53b0 : decide (x11_2 < (t213.length : Int)) = false := decide_eq_false c53
                    clear c53
                    have H' := Aside0.mk H
                    clear H
                    have hnb79 := NB221_212.out
                    have hnc79 := NB212_221.out
                    have hnb80 := NB221_231.out
                    have hnc80 := NB231_221.out
                    have hcz81_0 : wr.cell? ⟨gb221, 0, none⟩ = some (.slice Ao20 t213.length co20) := (blk_cell BK221.out 0).trans rfl
                    have hcz81_1 : wr.cell? ⟨gb221, 1, none⟩ = some (.int .u8 t216) := (blk_cell BK221.out 1).trans rfl
                    have hcz81_2 : wr.cell? ⟨gb221, 2, none⟩ = some (.int .i64 t217) := (blk_cell BK221.out 2).trans rfl
                    have hcz81_3 : wr.cell? ⟨gb221, 3, none⟩ = some (.bool t218) := (blk_cell BK221.out 3).trans rfl
                    have hcz81_4 : wr.cell? ⟨gb221, 4, none⟩ = some (.bool t219) := (blk_cell BK221.out 4).trans rfl
                    have hcz81_5 : wr.cell? ⟨gb221, 5, none⟩ = some (.bool t220) := (blk_cell BK221.out 5).trans rfl
                    have hfz81_0 := blk_frozen BK221.out 0
                    have hfz81_1 := blk_frozen BK221.out 1
                    have hfz81_2 := blk_frozen BK221.out 2
                    have hfz81_3 := blk_frozen BK221.out 3
                    have hfz81_4 := blk_frozen BK221.out 4
                    have hfz81_5 := blk_frozen BK221.out 5
                    go_wp2
                    repeat (go_quiet (fail); try go_wp2)
                    go_loopg [12] k2 (fun kq v12 w' => ∃ (x12_3 : Int) (x213000_3 : List (S33)) (x222000_3 : List (S33)) (x232000_3 : List (S33)) (u213000 : Value) (u222000 : Value) (u232000 : Value), v12 = .int .i64 x12_3 ∧ Aside0 (indenturelaw11_PytokenOwn.l1 kq a0 a1 a2 x12_3 x213000_3 t207 t208 t209 t210 t211 x222000_3 t216 t217 t218 t219 t220 = some r) ∧ Aside0 (kq ≤ k2) ∧ Aside0 (Kd.R k33 33 w' w.heap.size (fun k_ => some k_ ≠ (u222000 : Value).ownBlock ∧ some k_ ≠ (u232000 : Value).ownBlock) u213000 x213000_3) ∧ Aside0 (Kd.R k33 33 w' w.heap.size (fun k_ => some k_ ≠ (u213000 : Value).ownBlock ∧ some k_ ≠ (u232000 : Value).ownBlock) u222000 x222000_3) ∧ Aside0 (Kd.R k33 33 w' w.heap.size (fun k_ => some k_ ≠ (u213000 : Value).ownBlock ∧ some k_ ≠ (u222000 : Value).ownBlock) u232000 x232000_3) ∧ Aside0 (w'.heap[gb212]? = some (.cells #[u213000, .int .u8 t207, .int .i64 t208, .bool t209, .bool t210, .bool t211] 25 (0, 0))) ∧ Aside0 (w'.heap[gb221]? = some (.cells #[u222000, .int .u8 t216, .int .i64 t217, .bool t218, .bool t219, .bool t220] 25 (0, 0))) ∧ Aside0 (w'.heap[gb231]? = some (.cells #[u232000, .int .u8 t226, .int .i64 t227, .bool t228, .bool t229, .bool t230] 25 (0, 0))) ∧ Aside0 (Below w.heap.size w w'))
                    case atStart => exact ⟨(0), (t204), (t213), (t223), (.slice Ao16 t204.length co16), (.slice Ao20 t213.length co20), (.slice Ao25 t223.length co25), (by first | rfl | (simp; done) | (simp [*]; done)), H', ⟨Nat.le_refl _⟩, ⟨by (with_reducible repeat (first | apply Kd.R_alloc | apply Kd.R_drewN | apply Kd.R_drew)); exact HO_213000.out⟩, ⟨by (with_reducible repeat (first | apply Kd.R_alloc | apply Kd.R_drewN | apply Kd.R_drew)); exact HO_222000.out⟩, ⟨by (with_reducible repeat (first | apply Kd.R_alloc | apply Kd.R_drewN | apply Kd.R_drew)); exact HO_232000.out⟩, ⟨by (with_reducible repeat (first | refine blk_drewN ?_ _ | refine blk_drew ?_ | refine blk_alloc ?_ _)); exact BK212.out⟩, ⟨by (with_reducible repeat (first | refine blk_drewN ?_ _ | refine blk_drew ?_ | refine blk_alloc ?_ _)); exact BK221.out⟩, ⟨by (with_reducible repeat (first | refine blk_drewN ?_ _ | refine blk_drew ?_ | refine blk_alloc ?_ _)); exact BK231.out⟩, ⟨by repeat (first | (with_reducible first | exact HB.out | apply below_alloc | apply pw_below_drewN | apply below_drew1 | refine below_set ?_ GE212.out | refine below_set ?_ GE221.out | refine below_set ?_ GE231.out) | exact HB.out)⟩⟩
                    case round =>
                      clear H'
                      try clear c1
                      try clear c2
                      try clear p2
                      try clear q2
                      try clear hx2
                      try clear c3
                      try clear c4
                      try clear c4b0
                      try clear c4b1
                      try clear c5
                      try clear c6
                      try clear p6
                      try clear c7
                      try clear c8
                      try clear c10
                      try clear c10b0
                      try clear c10b1
                      try clear c11
                      try clear c11b0
                      try clear c11b1
                      try clear c21
                      try clear p23
                      try clear q23
                      try clear hx23
                      try clear c26
                      try clear c27
                      try clear c29
                      try clear c29b0
                      try clear c29b1
                      try clear c29b2
                      try clear c30
                      try clear c30b0
                      try clear c30b1
                      try clear c31
                      try clear c31b0
                      try clear c31b1
                      try clear c32
                      try clear c33
                      try clear c35
                      try clear c37
                      try clear c38
                      try clear c40
                      try clear c42
                      try clear c43
                      try clear c45
                      try clear c47
                      try clear c48
                      try clear c50
                      try clear c52
                      try clear c53
                      try clear c53b0
                      try clear c54
                      try clear c54b0
                      try clear c55
                      try clear c55b0
                      try clear c56
                      try clear c56b0
                      try clear c56b1
                      try clear c57
                      try clear c57b0
                      try clear c57b1
                      try clear c58
                      try clear c58b0
                      try clear c58b1
                      try clear c59
                      try clear c60
                      try clear c62
                      try clear c64
                      try clear p64
                      try clear c65
                      try clear c67
                      try clear c69
                      try clear c70
                      try clear c72
                      try clear c74
                      try clear c75
                      try clear c77
                      try clear c79
                      try clear c80
                      try clear hcz17_0
                      try clear hcz17_1
                      try clear hcz17_2
                      try clear hcz17_3
                      try clear hcz17_4
                      try clear hcz17_5
                      try clear hcz22_0
                      try clear hcz22_1
                      try clear hcz22_2
                      try clear hcz22_3
                      try clear hcz22_4
                      try clear hcz22_5
                      try clear hcz28_0
                      try clear hcz28_1
                      try clear hcz28_2
                      try clear hcz28_3
                      try clear hcz28_4
                      try clear hcz28_5
                      try clear hcz34_0
                      try clear hcz34_1
                      try clear hcz34_2
                      try clear hcz34_3
                      try clear hcz34_4
                      try clear hcz34_5
                      try clear hcz36_0
                      try clear hcz36_1
                      try clear hcz36_2
                      try clear hcz36_3
                      try clear hcz36_4
                      try clear hcz36_5
                      try clear hcz39_0
                      try clear hcz39_1
                      try clear hcz39_2
                      try clear hcz39_3
                      try clear hcz39_4
                      try clear hcz39_5
                      try clear hcz41_0
                      try clear hcz41_1
                      try clear hcz41_2
                      try clear hcz41_3
                      try clear hcz41_4
                      try clear hcz41_5
                      try clear hcz44_0
                      try clear hcz44_1
                      try clear hcz44_2
                      try clear hcz44_3
                      try clear hcz44_4
                      try clear hcz44_5
                      try clear hcz46_0
                      try clear hcz46_1
                      try clear hcz46_2
                      try clear hcz46_3
                      try clear hcz46_4
                      try clear hcz46_5
                      try clear hcz49_0
                      try clear hcz49_1
                      try clear hcz49_2
                      try clear hcz49_3
                      try clear hcz49_4
                      try clear hcz49_5
                      try clear hcz51_0
                      try clear hcz51_1
                      try clear hcz51_2
                      try clear hcz51_3
                      try clear hcz51_4
                      try clear hcz51_5
                      try clear hcz61_0
                      try clear hcz61_1
                      try clear hcz61_2
                      try clear hcz61_3
                      try clear hcz61_4
                      try clear hcz61_5
                      try clear hcz63_0
                      try clear hcz63_1
                      try clear hcz63_2
                      try clear hcz63_3
                      try clear hcz63_4
                      try clear hcz63_5
                      try clear hcz66_0
                      try clear hcz66_1
                      try clear hcz66_2
                      try clear hcz66_3
                      try clear hcz66_4
                      try clear hcz66_5
                      try clear hcz68_0
                      try clear hcz68_1
                      try clear hcz68_2
                      try clear hcz68_3
                      try clear hcz68_4
                      try clear hcz68_5
                      try clear hcz71_0
                      try clear hcz71_1
                      try clear hcz71_2
                      try clear hcz71_3
                      try clear hcz71_4
                      try clear hcz71_5
                      try clear hcz73_0
                      try clear hcz73_1
                      try clear hcz73_2
                      try clear hcz73_3
                      try clear hcz73_4
                      try clear hcz73_5
                      try clear hcz76_0
                      try clear hcz76_1
                      try clear hcz76_2
                      try clear hcz76_3
                      try clear hcz76_4
                      try clear hcz76_5
                      try clear hcz78_0
                      try clear hcz78_1
                      try clear hcz78_2
                      try clear hcz78_3
                      try clear hcz78_4
                      try clear hcz78_5
                      try clear hcz81_0
                      try clear hcz81_1
                      try clear hcz81_2
                      try clear hcz81_3
                      try clear hcz81_4
                      try clear hcz81_5
                      try clear hfz17_0
                      try clear hfz17_1
                      try clear hfz17_2
                      try clear hfz17_3
                      try clear hfz17_4
                      try clear hfz17_5
                      try clear hfz22_0
                      try clear hfz22_1
                      try clear hfz22_2
                      try clear hfz22_3
                      try clear hfz22_4
                      try clear hfz22_5
                      try clear hfz28_0
                      try clear hfz28_1
                      try clear hfz28_2
                      try clear hfz28_3
                      try clear hfz28_4
                      try clear hfz28_5
                      try clear hfz34_0
                      try clear hfz34_1
                      try clear hfz34_2
                      try clear hfz34_3
                      try clear hfz34_4
                      try clear hfz34_5
                      try clear hfz36_0
                      try clear hfz36_1
                      try clear hfz36_2
                      try clear hfz36_3
                      try clear hfz36_4
                      try clear hfz36_5
                      try clear hfz39_0
                      try clear hfz39_1
                      try clear hfz39_2
                      try clear hfz39_3
                      try clear hfz39_4
                      try clear hfz39_5
                      try clear hfz41_0
                      try clear hfz41_1
                      try clear hfz41_2
                      try clear hfz41_3
                      try clear hfz41_4
                      try clear hfz41_5
                      try clear hfz44_0
                      try clear hfz44_1
                      try clear hfz44_2
                      try clear hfz44_3
                      try clear hfz44_4
                      try clear hfz44_5
                      try clear hfz46_0
                      try clear hfz46_1
                      try clear hfz46_2
                      try clear hfz46_3
                      try clear hfz46_4
                      try clear hfz46_5
                      try clear hfz49_0
                      try clear hfz49_1
                      try clear hfz49_2
                      try clear hfz49_3
                      try clear hfz49_4
                      try clear hfz49_5
                      try clear hfz51_0
                      try clear hfz51_1
                      try clear hfz51_2
                      try clear hfz51_3
                      try clear hfz51_4
                      try clear hfz51_5
                      try clear hfz61_0
                      try clear hfz61_1
                      try clear hfz61_2
                      try clear hfz61_3
                      try clear hfz61_4
                      try clear hfz61_5
                      try clear hfz63_0
                      try clear hfz63_1
                      try clear hfz63_2
                      try clear hfz63_3
                      try clear hfz63_4
                      try clear hfz63_5
                      try clear hfz66_0
                      try clear hfz66_1
                      try clear hfz66_2
                      try clear hfz66_3
                      try clear hfz66_4
                      try clear hfz66_5
                      try clear hfz68_0
                      try clear hfz68_1
                      try clear hfz68_2
                      try clear hfz68_3
                      try clear hfz68_4
                      try clear hfz68_5
                      try clear hfz71_0
                      try clear hfz71_1
                      try clear hfz71_2
                      try clear hfz71_3
                      try clear hfz71_4
                      try clear hfz71_5
                      try clear hfz73_0
                      try clear hfz73_1
                      try clear hfz73_2
                      try clear hfz73_3
                      try clear hfz73_4
                      try clear hfz73_5
                      try clear hfz76_0
                      try clear hfz76_1
                      try clear hfz76_2
                      try clear hfz76_3
                      try clear hfz76_4
                      try clear hfz76_5
                      try clear hfz78_0
                      try clear hfz78_1
                      try clear hfz78_2
                      try clear hfz78_3
                      try clear hfz78_4
                      try clear hfz78_5
                      try clear hfz81_0
                      try clear hfz81_1
                      try clear hfz81_2
                      try clear hfz81_3
                      try clear hfz81_4
                      try clear hfz81_5
                      try clear hx232_0
                      try clear hx232_1
                      try clear hx232_2
                      try clear hx232_3
                      try clear hx233_0
                      try clear hx233_1
                      try clear hx233_2
                      try clear hx233_3
                      try clear hx234_0
                      try clear hx234_1
                      try clear hx234_2
                      try clear hx234_3
                      try clear hx235_0
                      try clear hx235_1
                      try clear hx235_2
                      try clear hx235_3
                      try clear hx236_0
                      try clear hx236_1
                      try clear hx236_2
                      try clear hx236_3
                      try clear hx237_0
                      try clear hx237_1
                      try clear hx237_2
                      try clear hx237_3
                      try clear p2
                      try clear p232
                      try clear p233
                      try clear p234
                      try clear p235
                      try clear p236
                      try clear p237
                      try clear q232
                      try clear q233
                      try clear q234
                      try clear q235
                      try clear q236
                      try clear q237
                      obtain ⟨x12_3, x213000_3, x222000_3, x232000_3, u213000, u222000, u232000, rfl, HA, HK3, HO_213000, HO_222000, HO_232000, BK212, BK221, BK231, HB⟩ := hrel
                      cases gk with
                      | zero => exact absurd HA.out (by simp [indenturelaw11_PytokenOwn.l1])
                      | succ k3 =>
                        have H := HA.out
                        clear HA
                        simp only [indenturelaw11_PytokenOwn.l1] at H
                        by_cases c82 : x12_3 < (x213000_3.length : Int)
                        · rw [if_pos c82] at H
                          have c82b0 : decide (x12_3 < (x213000_3.length : Int)) = true := decide_eq_true c82
                          clear c82
                          by_cases c83 : 0 ≤ x12_3
                          · rw [if_pos c83] at H
                            have c83b0 : decide (0 ≤ x12_3) = true := decide_eq_true c83
                            clear c83
                            obtain ⟨y238, hy238⟩ : ∃ y_ : List (S33), y_ = (x213000_3.set (x12_3 : Int).toNat (⟨(rd_T33 x213000_3 x12_3).f0, 99, (rd_T33 x213000_3 x12_3).f2, (rd_T33 x213000_3 x12_3).f3⟩ : S33)) := ⟨_, rfl⟩
                            replace H : (indenturelaw11_PytokenOwn.l1 k3 a0 a1 a2 (wrap64 (x12_3 + 1)) y238 t207 t208 t209 t210 t211 x222000_3 t216 t217 t218 t219 t220) = some r := by first | (rw [hy238]; with_reducible exact H) | (have H2_ := (Option.bind_some _ _).symm.trans H; rw [hy238]; with_reducible exact H2_) | (have H2_ := (Option.bind_some _ _).symm.trans H; with_reducible exact H2_) | with_reducible exact H | (rw [hy238]; exact H) | exact H
                            have Ny238 := Aside0.mk hy238
                            clear hy238
                            have H' := Aside0.mk H
                            clear H
                            have hnb85 := NB212_221.out
                            have hnc85 := NB221_212.out
                            have hnb86 := NB212_231.out
                            have hnc86 := NB231_212.out
                            have hcz87_0 : wr.cell? ⟨gb212, 0, none⟩ = some (u213000) := (blk_cell BK212.out 0).trans rfl
                            have hcz87_1 : wr.cell? ⟨gb212, 1, none⟩ = some (.int .u8 t207) := (blk_cell BK212.out 1).trans rfl
                            have hcz87_2 : wr.cell? ⟨gb212, 2, none⟩ = some (.int .i64 t208) := (blk_cell BK212.out 2).trans rfl
                            have hcz87_3 : wr.cell? ⟨gb212, 3, none⟩ = some (.bool t209) := (blk_cell BK212.out 3).trans rfl
                            have hcz87_4 : wr.cell? ⟨gb212, 4, none⟩ = some (.bool t210) := (blk_cell BK212.out 4).trans rfl
                            have hcz87_5 : wr.cell? ⟨gb212, 5, none⟩ = some (.bool t211) := (blk_cell BK212.out 5).trans rfl
                            have hfz87_0 := blk_frozen BK212.out 0
                            have hfz87_1 := blk_frozen BK212.out 1
                            have hfz87_2 := blk_frozen BK212.out 2
                            have hfz87_3 := blk_frozen BK212.out 3
                            have hfz87_4 := blk_frozen BK212.out 4
                            have hfz87_5 := blk_frozen BK212.out 5
                            obtain ⟨Ao88, co88, eo88⟩ := Kd.R_slice HO_213000.out
                            subst eo88
                            have p84 : 0 ≤ (x12_3 : Int) := of_decide_eq_true (by first | (with_reducible assumption) | assumption)
                            have q84 : (x12_3 : Int) < ((x213000_3.length : Int) : Int) := of_decide_eq_true (by first | (with_reducible assumption) | assumption)
                            obtain ⟨go84, co84, eo84, gb84, gl84, cl84, HG84⟩ := Kd.R_form HO_213000.out (by omega)
                            (first | cases eo84 | (injection eo84 with ea_ en_ ec_; (first | subst ea_ | (injection ea_ with ea_; subst ea_)); subst ec_; clear en_))
                            have GB84 := Aside0.mk gb84
                            have GG84 := Aside0.mk HG84
                            clear gb84 gl84 HG84
                            obtain ⟨ce84, hcl84, hM84, hcc84, hfr84⟩ := Kd.R_elem HO_213000.out z33 (x12_3 : Int) p84 q84
                            obtain rfl := k33_openM hM84
                            have hx84_0 : wr.cell? ⟨go84, (x12_3 : Int).toNat * 4, none⟩ = some (.int .u8 ((rd_T33 x213000_3 x12_3).f0)) := hcc84 0 _ rfl
                            have hx84_1 : wr.cell? ⟨go84, (x12_3 : Int).toNat * 4 + 1, none⟩ = some (.int .u8 ((rd_T33 x213000_3 x12_3).f1)) := hcc84 1 _ rfl
                            have hx84_2 : wr.cell? ⟨go84, (x12_3 : Int).toNat * 4 + 2, none⟩ = some (.int .i64 ((rd_T33 x213000_3 x12_3).f2)) := hcc84 2 _ rfl
                            have hx84_3 : wr.cell? ⟨go84, (x12_3 : Int).toNat * 4 + 3, none⟩ = some (.int .i64 ((rd_T33 x213000_3 x12_3).f3)) := hcc84 3 _ rfl
                            have hf84_0 : wr.frozen? ⟨go84, (x12_3 : Int).toNat * 4, none⟩ = false := hfr84 0
                            have hf84_1 : wr.frozen? ⟨go84, (x12_3 : Int).toNat * 4 + 1, none⟩ = false := hfr84 1
                            have hf84_2 : wr.frozen? ⟨go84, (x12_3 : Int).toNat * 4 + 2, none⟩ = false := hfr84 2
                            have hf84_3 : wr.frozen? ⟨go84, (x12_3 : Int).toNat * 4 + 3, none⟩ = false := hfr84 3
                            clear hcl84 hcc84 hfr84 hM84
                            replace p84 := eq_true p84
                            replace q84 := eq_true q84
                            have HX89 := Aside0.mk (show Kd.R k33 33 wr w.heap.size (fun k_ => some k_ ≠ (u222000 : Value).ownBlock ∧ some k_ ≠ (u232000 : Value).ownBlock) (.slice (some ⟨go84, 0, none⟩) x213000_3.length co88) x213000_3 from (by (with_reducible repeat (first | apply Kd.R_alloc | apply Kd.R_drewN | apply Kd.R_drew)); exact HO_213000.out))
                            obtain ⟨ce89, hcl89, hM89, hcc89, hfr89⟩ := Kd.R_elem HX89.out z33 (x12_3 : Int) (of_decide_eq_true (by first | (with_reducible assumption) | assumption)) (by have h_ : (x12_3 : Int) < ((x213000_3.length : Int) : Int) := of_decide_eq_true (by first | (with_reducible assumption) | assumption); first | exact h_ | (have e_ := (Kd.R_reads' HO_213000.out).1; omega) | simpa using h_)
                            obtain rfl := k33_openM hM89
                            have HP89 := Kd.R_seg HX89.out (x12_3 : Int) (of_decide_eq_true (by first | (with_reducible assumption) | assumption)) (by have h_ : (x12_3 : Int) < ((x213000_3.length : Int) : Int) := of_decide_eq_true (by first | (with_reducible assumption) | assumption); first | exact h_ | (have e_ := (Kd.R_reads' HO_213000.out).1; omega) | simpa using h_) (seg := [.int .u8 99]) (j := 1) hcl89 hcc89 (show 2 ≤ 4 from by decide) (x' := (⟨(rd_T33 x213000_3 x12_3).f0, 99, (rd_T33 x213000_3 x12_3).f2, (rd_T33 x213000_3 x12_3).f3⟩ : S33)) (k33_mkM _ _ _ (⟨(rd_T33 x213000_3 x12_3).f0, 99, (rd_T33 x213000_3 x12_3).f2, (rd_T33 x213000_3 x12_3).f3⟩ : S33) ) (fun _ hk => hk)
                            have hx89_1 := hcc89 1 _ rfl
                            (try simp only [show (k33).sz = 4 from rfl, Nat.mul_one, Nat.add_zero] at hx89_1)
                            have hf89_1 := hfr89 1
                            (try simp only [show (k33).sz = 4 from rfl, Nat.mul_one, Nat.add_zero] at hf89_1)
                            clear hcl89 hcc89 hfr89 hM89
                            go_wp2_with (first | ((with_reducible refine gate_store (t := 5) (p := 128) rfl ?_); (try (rw [drewN_self wr]; generalize hq_ : World.drewN wr _ = wr; have n0_ := Aside0.mk (Kd.R_at hq_ HO_213000.out); have n1_ := Aside0.mk (Kd.R_at hq_ HO_222000.out); have n2_ := Aside0.mk (Kd.R_at hq_ HO_232000.out); have n3_ := Aside0.mk (blk_at hq_ BK212.out); have n4_ := Aside0.mk (blk_at hq_ BK221.out); have n5_ := Aside0.mk (blk_at hq_ BK231.out); have n6_ := Aside0.mk (below_at hq_ HB.out); clear hq_ HO_213000 HO_222000 HO_232000 BK212 BK221 BK231 HB; have HO_213000 := n0_; have HO_222000 := n1_; have HO_232000 := n2_; have BK212 := n3_; have BK221 := n4_; have BK231 := n5_; have HB := n6_; clear n0_ n1_ n2_ n3_ n4_ n5_ n6_; (try (have HX89 := Aside0.mk (show Kd.R k33 33 wr w.heap.size (fun k_ => some k_ ≠ (u222000 : Value).ownBlock ∧ some k_ ≠ (u232000 : Value).ownBlock) (.slice (some ⟨go84, 0, none⟩) x213000_3.length co88) x213000_3 from (by (with_reducible repeat (first | apply Kd.R_alloc | apply Kd.R_drewN | apply Kd.R_drew)); exact HO_213000.out)))); (try (obtain ⟨ce89, hcl89, hM89, hcc89, hfr89⟩ := Kd.R_elem HX89.out z33 (x12_3 : Int) (of_decide_eq_true (by first | (with_reducible assumption) | assumption)) (by have h_ : (x12_3 : Int) < ((x213000_3.length : Int) : Int) := of_decide_eq_true (by first | (with_reducible assumption) | assumption); first | exact h_ | (have e_ := (Kd.R_reads' HO_213000.out).1; omega) | simpa using h_))); (try (obtain rfl := k33_openM hM89)); (try (have HP89 := Kd.R_seg HX89.out (x12_3 : Int) (of_decide_eq_true (by first | (with_reducible assumption) | assumption)) (by have h_ : (x12_3 : Int) < ((x213000_3.length : Int) : Int) := of_decide_eq_true (by first | (with_reducible assumption) | assumption); first | exact h_ | (have e_ := (Kd.R_reads' HO_213000.out).1; omega) | simpa using h_) (seg := [.int .u8 99]) (j := 1) hcl89 hcc89 (show 2 ≤ 4 from by decide) (x' := (⟨(rd_T33 x213000_3 x12_3).f0, 99, (rd_T33 x213000_3 x12_3).f2, (rd_T33 x213000_3 x12_3).f3⟩ : S33)) (k33_mkM _ _ _ (⟨(rd_T33 x213000_3 x12_3).f0, 99, (rd_T33 x213000_3 x12_3).f2, (rd_T33 x213000_3 x12_3).f3⟩ : S33) ) (fun _ hk => hk))); (try (have hx89_1 := hcc89 1 _ rfl)); (try (try simp only [show (k33).sz = 4 from rfl, Nat.mul_one, Nat.add_zero] at hx89_1)); (try (have hf89_1 := hfr89 1)); (try (try simp only [show (k33).sz = 4 from rfl, Nat.mul_one, Nat.add_zero] at hf89_1)); (try (clear hcl89 hcc89 hfr89 hM89)))); refine store_event (t := 5) (p := 128) (v := ?vo_w90) (w1 := (wr.setCell ⟨go84, (x12_3 : Int).toNat * 4 + 1, none⟩ (.int .u8 99))) ?hg ?ho ?hn ?hr ?_; (case ho => rfl); (case hg => rfl); (case hn => rfl); (case hr => first | (go_simp; done) | (go_simp; rfl)); intro w90 hw; have hg : wr.grownBy w90 (some go84) := (by rw [hw]; exact HP89.2); have hp_ : Kd.R k33 33 w90 w.heap.size (fun k_ => some k_ ≠ (u222000 : Value).ownBlock ∧ some k_ ≠ (u232000 : Value).ownBlock) (.slice (some ⟨go84, 0, none⟩) x213000_3.length co88) y238 := (by rw [hw, Ny238.out]; exact HP89.1); clear HP89; have n0_ := Aside0.mk (hp_); have n1_ := Aside0.mk (Kd.R_after (v := (.slice (some ⟨go84, 0, none⟩) x213000_3.length co88)) (v1 := (.slice (some ⟨go84, 0, none⟩) x213000_3.length co88)) (ok := (fun k_ => some k_ ≠ (u232000 : Value).ownBlock)) (by (with_reducible repeat (first | apply Kd.R_alloc | apply Kd.R_drewN | apply Kd.R_drew)); exact Kd.R_mono HO_222000.out (fun _ hk => ⟨hk.2, hk.1⟩)) hg (.inl rfl)); have n2_ := Aside0.mk (Kd.R_after (v := (.slice (some ⟨go84, 0, none⟩) x213000_3.length co88)) (v1 := (.slice (some ⟨go84, 0, none⟩) x213000_3.length co88)) (ok := (fun k_ => some k_ ≠ (u222000 : Value).ownBlock)) (by (with_reducible repeat (first | apply Kd.R_alloc | apply Kd.R_drewN | apply Kd.R_drew)); exact Kd.R_mono HO_232000.out (fun _ hk => ⟨hk.2, hk.1⟩)) hg (.inl rfl)); have n3_ := Aside0.mk (blk_grown (g := gb212) (o := .cells #[.slice (some ⟨go84, 0, none⟩) x213000_3.length co88, .int .u8 t207, .int .i64 t208, .bool t209, .bool t210, .bool t211] 25 (0, 0)) (by (with_reducible repeat (first | refine blk_drewN ?_ _ | refine blk_drew ?_ | refine blk_alloc ?_ _)); exact BK212.out) hg (Kd.R_ne HO_213000.out BK212.out (by decide))); have n4_ := Aside0.mk (blk_grown (g := gb221) (o := .cells #[u222000, .int .u8 t216, .int .i64 t217, .bool t218, .bool t219, .bool t220] 25 (0, 0)) (by (with_reducible repeat (first | refine blk_drewN ?_ _ | refine blk_drew ?_ | refine blk_alloc ?_ _)); exact BK221.out) hg (Kd.R_ne HO_213000.out BK221.out (by decide))); have n5_ := Aside0.mk (blk_grown (g := gb231) (o := .cells #[u232000, .int .u8 t226, .int .i64 t227, .bool t228, .bool t229, .bool t230] 25 (0, 0)) (by (with_reducible repeat (first | refine blk_drewN ?_ _ | refine blk_drew ?_ | refine blk_alloc ?_ _)); exact BK231.out) hg (Kd.R_ne HO_213000.out BK231.out (by decide))); have n6_ := Aside0.mk ((by rw [hw]; exact below_set (HB.out) GB84.out : Below w.heap.size w w90)); clear HO_213000; clear HO_222000; clear HO_232000; clear BK212; clear BK221; clear BK231; clear HB; have HO_213000 := n0_; have HO_222000 := n1_; have HO_232000 := n2_; have BK212 := n3_; have BK221 := n4_; have BK231 := n5_; have HB := n6_; clear n0_ n1_ n2_ n3_ n4_ n5_ n6_; clear hg hw hp_))
                            repeat (go_quiet (first | ((with_reducible refine gate_store (t := 5) (p := 128) rfl ?_); (try (rw [drewN_self wr]; generalize hq_ : World.drewN wr _ = wr; have n0_ := Aside0.mk (Kd.R_at hq_ HO_213000.out); have n1_ := Aside0.mk (Kd.R_at hq_ HO_222000.out); have n2_ := Aside0.mk (Kd.R_at hq_ HO_232000.out); have n3_ := Aside0.mk (blk_at hq_ BK212.out); have n4_ := Aside0.mk (blk_at hq_ BK221.out); have n5_ := Aside0.mk (blk_at hq_ BK231.out); have n6_ := Aside0.mk (below_at hq_ HB.out); clear hq_ HO_213000 HO_222000 HO_232000 BK212 BK221 BK231 HB; have HO_213000 := n0_; have HO_222000 := n1_; have HO_232000 := n2_; have BK212 := n3_; have BK221 := n4_; have BK231 := n5_; have HB := n6_; clear n0_ n1_ n2_ n3_ n4_ n5_ n6_; (try (have HX89 := Aside0.mk (show Kd.R k33 33 wr w.heap.size (fun k_ => some k_ ≠ (u222000 : Value).ownBlock ∧ some k_ ≠ (u232000 : Value).ownBlock) (.slice (some ⟨go84, 0, none⟩) x213000_3.length co88) x213000_3 from (by (with_reducible repeat (first | apply Kd.R_alloc | apply Kd.R_drewN | apply Kd.R_drew)); exact HO_213000.out)))); (try (obtain ⟨ce89, hcl89, hM89, hcc89, hfr89⟩ := Kd.R_elem HX89.out z33 (x12_3 : Int) (of_decide_eq_true (by first | (with_reducible assumption) | assumption)) (by have h_ : (x12_3 : Int) < ((x213000_3.length : Int) : Int) := of_decide_eq_true (by first | (with_reducible assumption) | assumption); first | exact h_ | (have e_ := (Kd.R_reads' HO_213000.out).1; omega) | simpa using h_))); (try (obtain rfl := k33_openM hM89)); (try (have HP89 := Kd.R_seg HX89.out (x12_3 : Int) (of_decide_eq_true (by first | (with_reducible assumption) | assumption)) (by have h_ : (x12_3 : Int) < ((x213000_3.length : Int) : Int) := of_decide_eq_true (by first | (with_reducible assumption) | assumption); first | exact h_ | (have e_ := (Kd.R_reads' HO_213000.out).1; omega) | simpa using h_) (seg := [.int .u8 99]) (j := 1) hcl89 hcc89 (show 2 ≤ 4 from by decide) (x' := (⟨(rd_T33 x213000_3 x12_3).f0, 99, (rd_T33 x213000_3 x12_3).f2, (rd_T33 x213000_3 x12_3).f3⟩ : S33)) (k33_mkM _ _ _ (⟨(rd_T33 x213000_3 x12_3).f0, 99, (rd_T33 x213000_3 x12_3).f2, (rd_T33 x213000_3 x12_3).f3⟩ : S33) ) (fun _ hk => hk))); (try (have hx89_1 := hcc89 1 _ rfl)); (try (try simp only [show (k33).sz = 4 from rfl, Nat.mul_one, Nat.add_zero] at hx89_1)); (try (have hf89_1 := hfr89 1)); (try (try simp only [show (k33).sz = 4 from rfl, Nat.mul_one, Nat.add_zero] at hf89_1)); (try (clear hcl89 hcc89 hfr89 hM89)))); refine store_event (t := 5) (p := 128) (v := ?vo_w90) (w1 := (wr.setCell ⟨go84, (x12_3 : Int).toNat * 4 + 1, none⟩ (.int .u8 99))) ?hg ?ho ?hn ?hr ?_; (case ho => rfl); (case hg => rfl); (case hn => rfl); (case hr => first | (go_simp; done) | (go_simp; rfl)); intro w90 hw; have hg : wr.grownBy w90 (some go84) := (by rw [hw]; exact HP89.2); have hp_ : Kd.R k33 33 w90 w.heap.size (fun k_ => some k_ ≠ (u222000 : Value).ownBlock ∧ some k_ ≠ (u232000 : Value).ownBlock) (.slice (some ⟨go84, 0, none⟩) x213000_3.length co88) y238 := (by rw [hw, Ny238.out]; exact HP89.1); clear HP89; have n0_ := Aside0.mk (hp_); have n1_ := Aside0.mk (Kd.R_after (v := (.slice (some ⟨go84, 0, none⟩) x213000_3.length co88)) (v1 := (.slice (some ⟨go84, 0, none⟩) x213000_3.length co88)) (ok := (fun k_ => some k_ ≠ (u232000 : Value).ownBlock)) (by (with_reducible repeat (first | apply Kd.R_alloc | apply Kd.R_drewN | apply Kd.R_drew)); exact Kd.R_mono HO_222000.out (fun _ hk => ⟨hk.2, hk.1⟩)) hg (.inl rfl)); have n2_ := Aside0.mk (Kd.R_after (v := (.slice (some ⟨go84, 0, none⟩) x213000_3.length co88)) (v1 := (.slice (some ⟨go84, 0, none⟩) x213000_3.length co88)) (ok := (fun k_ => some k_ ≠ (u222000 : Value).ownBlock)) (by (with_reducible repeat (first | apply Kd.R_alloc | apply Kd.R_drewN | apply Kd.R_drew)); exact Kd.R_mono HO_232000.out (fun _ hk => ⟨hk.2, hk.1⟩)) hg (.inl rfl)); have n3_ := Aside0.mk (blk_grown (g := gb212) (o := .cells #[.slice (some ⟨go84, 0, none⟩) x213000_3.length co88, .int .u8 t207, .int .i64 t208, .bool t209, .bool t210, .bool t211] 25 (0, 0)) (by (with_reducible repeat (first | refine blk_drewN ?_ _ | refine blk_drew ?_ | refine blk_alloc ?_ _)); exact BK212.out) hg (Kd.R_ne HO_213000.out BK212.out (by decide))); have n4_ := Aside0.mk (blk_grown (g := gb221) (o := .cells #[u222000, .int .u8 t216, .int .i64 t217, .bool t218, .bool t219, .bool t220] 25 (0, 0)) (by (with_reducible repeat (first | refine blk_drewN ?_ _ | refine blk_drew ?_ | refine blk_alloc ?_ _)); exact BK221.out) hg (Kd.R_ne HO_213000.out BK221.out (by decide))); have n5_ := Aside0.mk (blk_grown (g := gb231) (o := .cells #[u232000, .int .u8 t226, .int .i64 t227, .bool t228, .bool t229, .bool t230] 25 (0, 0)) (by (with_reducible repeat (first | refine blk_drewN ?_ _ | refine blk_drew ?_ | refine blk_alloc ?_ _)); exact BK231.out) hg (Kd.R_ne HO_213000.out BK231.out (by decide))); have n6_ := Aside0.mk ((by rw [hw]; exact below_set (HB.out) GB84.out : Below w.heap.size w w90)); clear HO_213000; clear HO_222000; clear HO_232000; clear BK212; clear BK221; clear BK231; clear HB; have HO_213000 := n0_; have HO_222000 := n1_; have HO_232000 := n2_; have BK212 := n3_; have BK221 := n4_; have BK231 := n5_; have HB := n6_; clear n0_ n1_ n2_ n3_ n4_ n5_ n6_; clear hg hw hp_)); try go_wp2_with (first | ((with_reducible refine gate_store (t := 5) (p := 128) rfl ?_); (try (rw [drewN_self wr]; generalize hq_ : World.drewN wr _ = wr; have n0_ := Aside0.mk (Kd.R_at hq_ HO_213000.out); have n1_ := Aside0.mk (Kd.R_at hq_ HO_222000.out); have n2_ := Aside0.mk (Kd.R_at hq_ HO_232000.out); have n3_ := Aside0.mk (blk_at hq_ BK212.out); have n4_ := Aside0.mk (blk_at hq_ BK221.out); have n5_ := Aside0.mk (blk_at hq_ BK231.out); have n6_ := Aside0.mk (below_at hq_ HB.out); clear hq_ HO_213000 HO_222000 HO_232000 BK212 BK221 BK231 HB; have HO_213000 := n0_; have HO_222000 := n1_; have HO_232000 := n2_; have BK212 := n3_; have BK221 := n4_; have BK231 := n5_; have HB := n6_; clear n0_ n1_ n2_ n3_ n4_ n5_ n6_; (try (have HX89 := Aside0.mk (show Kd.R k33 33 wr w.heap.size (fun k_ => some k_ ≠ (u222000 : Value).ownBlock ∧ some k_ ≠ (u232000 : Value).ownBlock) (.slice (some ⟨go84, 0, none⟩) x213000_3.length co88) x213000_3 from (by (with_reducible repeat (first | apply Kd.R_alloc | apply Kd.R_drewN | apply Kd.R_drew)); exact HO_213000.out)))); (try (obtain ⟨ce89, hcl89, hM89, hcc89, hfr89⟩ := Kd.R_elem HX89.out z33 (x12_3 : Int) (of_decide_eq_true (by first | (with_reducible assumption) | assumption)) (by have h_ : (x12_3 : Int) < ((x213000_3.length : Int) : Int) := of_decide_eq_true (by first | (with_reducible assumption) | assumption); first | exact h_ | (have e_ := (Kd.R_reads' HO_213000.out).1; omega) | simpa using h_))); (try (obtain rfl := k33_openM hM89)); (try (have HP89 := Kd.R_seg HX89.out (x12_3 : Int) (of_decide_eq_true (by first | (with_reducible assumption) | assumption)) (by have h_ : (x12_3 : Int) < ((x213000_3.length : Int) : Int) := of_decide_eq_true (by first | (with_reducible assumption) | assumption); first | exact h_ | (have e_ := (Kd.R_reads' HO_213000.out).1; omega) | simpa using h_) (seg := [.int .u8 99]) (j := 1) hcl89 hcc89 (show 2 ≤ 4 from by decide) (x' := (⟨(rd_T33 x213000_3 x12_3).f0, 99, (rd_T33 x213000_3 x12_3).f2, (rd_T33 x213000_3 x12_3).f3⟩ : S33)) (k33_mkM _ _ _ (⟨(rd_T33 x213000_3 x12_3).f0, 99, (rd_T33 x213000_3 x12_3).f2, (rd_T33 x213000_3 x12_3).f3⟩ : S33) ) (fun _ hk => hk))); (try (have hx89_1 := hcc89 1 _ rfl)); (try (try simp only [show (k33).sz = 4 from rfl, Nat.mul_one, Nat.add_zero] at hx89_1)); (try (have hf89_1 := hfr89 1)); (try (try simp only [show (k33).sz = 4 from rfl, Nat.mul_one, Nat.add_zero] at hf89_1)); (try (clear hcl89 hcc89 hfr89 hM89)))); refine store_event (t := 5) (p := 128) (v := ?vo_w90) (w1 := (wr.setCell ⟨go84, (x12_3 : Int).toNat * 4 + 1, none⟩ (.int .u8 99))) ?hg ?ho ?hn ?hr ?_; (case ho => rfl); (case hg => rfl); (case hn => rfl); (case hr => first | (go_simp; done) | (go_simp; rfl)); intro w90 hw; have hg : wr.grownBy w90 (some go84) := (by rw [hw]; exact HP89.2); have hp_ : Kd.R k33 33 w90 w.heap.size (fun k_ => some k_ ≠ (u222000 : Value).ownBlock ∧ some k_ ≠ (u232000 : Value).ownBlock) (.slice (some ⟨go84, 0, none⟩) x213000_3.length co88) y238 := (by rw [hw, Ny238.out]; exact HP89.1); clear HP89; have n0_ := Aside0.mk (hp_); have n1_ := Aside0.mk (Kd.R_after (v := (.slice (some ⟨go84, 0, none⟩) x213000_3.length co88)) (v1 := (.slice (some ⟨go84, 0, none⟩) x213000_3.length co88)) (ok := (fun k_ => some k_ ≠ (u232000 : Value).ownBlock)) (by (with_reducible repeat (first | apply Kd.R_alloc | apply Kd.R_drewN | apply Kd.R_drew)); exact Kd.R_mono HO_222000.out (fun _ hk => ⟨hk.2, hk.1⟩)) hg (.inl rfl)); have n2_ := Aside0.mk (Kd.R_after (v := (.slice (some ⟨go84, 0, none⟩) x213000_3.length co88)) (v1 := (.slice (some ⟨go84, 0, none⟩) x213000_3.length co88)) (ok := (fun k_ => some k_ ≠ (u222000 : Value).ownBlock)) (by (with_reducible repeat (first | apply Kd.R_alloc | apply Kd.R_drewN | apply Kd.R_drew)); exact Kd.R_mono HO_232000.out (fun _ hk => ⟨hk.2, hk.1⟩)) hg (.inl rfl)); have n3_ := Aside0.mk (blk_grown (g := gb212) (o := .cells #[.slice (some ⟨go84, 0, none⟩) x213000_3.length co88, .int .u8 t207, .int .i64 t208, .bool t209, .bool t210, .bool t211] 25 (0, 0)) (by (with_reducible repeat (first | refine blk_drewN ?_ _ | refine blk_drew ?_ | refine blk_alloc ?_ _)); exact BK212.out) hg (Kd.R_ne HO_213000.out BK212.out (by decide))); have n4_ := Aside0.mk (blk_grown (g := gb221) (o := .cells #[u222000, .int .u8 t216, .int .i64 t217, .bool t218, .bool t219, .bool t220] 25 (0, 0)) (by (with_reducible repeat (first | refine blk_drewN ?_ _ | refine blk_drew ?_ | refine blk_alloc ?_ _)); exact BK221.out) hg (Kd.R_ne HO_213000.out BK221.out (by decide))); have n5_ := Aside0.mk (blk_grown (g := gb231) (o := .cells #[u232000, .int .u8 t226, .int .i64 t227, .bool t228, .bool t229, .bool t230] 25 (0, 0)) (by (with_reducible repeat (first | refine blk_drewN ?_ _ | refine blk_drew ?_ | refine blk_alloc ?_ _)); exact BK231.out) hg (Kd.R_ne HO_213000.out BK231.out (by decide))); have n6_ := Aside0.mk ((by rw [hw]; exact below_set (HB.out) GB84.out : Below w.heap.size w w90)); clear HO_213000; clear HO_222000; clear HO_232000; clear BK212; clear BK221; clear BK231; clear HB; have HO_213000 := n0_; have HO_222000 := n1_; have HO_232000 := n2_; have BK212 := n3_; have BK221 := n4_; have BK231 := n5_; have HB := n6_; clear n0_ n1_ n2_ n3_ n4_ n5_ n6_; clear hg hw hp_)))
                            go_roundg k3
                            case measure => have := HJ12.out; have := HK2.out; have := HK3.out; omega
                            case rel => exact ⟨(wrap64 (x12_3 + 1)), (y238), (x222000_3), (x232000_3), (.slice (some ⟨go84, 0, none⟩) x213000_3.length co88), (u222000), (u232000), (by first | rfl | (simp; done) | (simp [*]; done)), H', ⟨by have := HJ12.out; have := HK2.out; have := HK3.out; omega⟩, ⟨by (with_reducible repeat (first | apply Kd.R_alloc | apply Kd.R_drewN | apply Kd.R_drew)); exact HO_213000.out⟩, ⟨by (with_reducible repeat (first | apply Kd.R_alloc | apply Kd.R_drewN | apply Kd.R_drew)); exact Kd.R_mono HO_222000.out (fun _ hk => ⟨hk.2, hk.1⟩)⟩, ⟨by (with_reducible repeat (first | apply Kd.R_alloc | apply Kd.R_drewN | apply Kd.R_drew)); exact Kd.R_mono HO_232000.out (fun _ hk => ⟨hk.2, hk.1⟩)⟩, ⟨by (with_reducible repeat (first | refine blk_drewN ?_ _ | refine blk_drew ?_ | refine blk_alloc ?_ _)); exact BK212.out⟩, ⟨by (with_reducible repeat (first | refine blk_drewN ?_ _ | refine blk_drew ?_ | refine blk_alloc ?_ _)); exact BK221.out⟩, ⟨by (with_reducible repeat (first | refine blk_drewN ?_ _ | refine blk_drew ?_ | refine blk_alloc ?_ _)); exact BK231.out⟩, ⟨by repeat (first | (with_reducible first | exact HB.out | apply below_alloc | apply pw_below_drewN | apply below_drew1 | refine below_set ?_ GE212.out | refine below_set ?_ GE221.out | refine below_set ?_ GE231.out) | exact HB.out)⟩⟩
                          · rw [if_neg c83] at H
                            exact absurd H (by simp)
                        · rw [if_neg c82] at H
                          have c82b0 : decide (x12_3 < (x213000_3.length : Int)) = false := decide_eq_false c82
                          clear c82
                          replace H := Option.bind_eq_some_iff.mp H
                          obtain ⟨⟨t239, t242, t243, t244, t245, t246⟩, A910, H⟩ := H
                          replace H : ((indentureref11_SameEvents.f k3 x222000_3 t239).bind fun t248 => (if t248 = true then ((indenturelaw11_reads.f).bind fun t249 => (some t249)) else (some false))) = some r := H
                          have A91 := Aside0.mk A910
                          clear A910
                          replace H := Option.bind_eq_some_iff.mp H
                          obtain ⟨t248, A920, H⟩ := H
                          replace H : (if t248 = true then ((indenturelaw11_reads.f).bind fun t249 => (some t249)) else (some false)) = some r := H
                          have A92 := Aside0.mk A920
                          clear A920
                          by_cases c93 : t248 = true
                          · subst c93
                            have H1 : ((indenturelaw11_reads.f).bind fun t249 => (some t249)) = some r := by rw [if_pos rfl] at H; exact H
                            clear H
                            have H := H1
                            clear H1
                            replace H := Option.bind_eq_some_iff.mp H
                            obtain ⟨t249, A940, H⟩ := H
                            replace H : (some t249) = some r := H
                            have A94 := Aside0.mk A940
                            clear A940
                            obtain rfl := Option.some.inj H
                            have hnb95 := NB212_221.out
                            have hnc95 := NB221_212.out
                            have hnb96 := NB212_231.out
                            have hnc96 := NB231_212.out
                            have hcz97_0 : wr.cell? ⟨gb212, 0, none⟩ = some (u213000) := (blk_cell BK212.out 0).trans rfl
                            have hcz97_1 : wr.cell? ⟨gb212, 1, none⟩ = some (.int .u8 t207) := (blk_cell BK212.out 1).trans rfl
                            have hcz97_2 : wr.cell? ⟨gb212, 2, none⟩ = some (.int .i64 t208) := (blk_cell BK212.out 2).trans rfl
                            have hcz97_3 : wr.cell? ⟨gb212, 3, none⟩ = some (.bool t209) := (blk_cell BK212.out 3).trans rfl
                            have hcz97_4 : wr.cell? ⟨gb212, 4, none⟩ = some (.bool t210) := (blk_cell BK212.out 4).trans rfl
                            have hcz97_5 : wr.cell? ⟨gb212, 5, none⟩ = some (.bool t211) := (blk_cell BK212.out 5).trans rfl
                            have hfz97_0 := blk_frozen BK212.out 0
                            have hfz97_1 := blk_frozen BK212.out 1
                            have hfz97_2 := blk_frozen BK212.out 2
                            have hfz97_3 := blk_frozen BK212.out 3
                            have hfz97_4 := blk_frozen BK212.out 4
                            have hfz97_5 := blk_frozen BK212.out 5
                            obtain ⟨Ao98, co98, eo98⟩ := Kd.R_slice HO_213000.out
                            subst eo98
                            go_wp2_with (first | (go_at_call 10; (with_reducible refine (pytoken_Scan.calls a0 a1 a2 0 t239 t242 t243 t244 t245 t246 _ A91.out).mono ?_); rintro e w99 ⟨v240, rfl, ho0, hb⟩; have n0_ := Aside0.mk (Kd.R_elder' (by (with_reducible repeat (first | apply Kd.R_alloc | apply Kd.R_drewN | apply Kd.R_drew)); exact HO_213000.out) (Kd.R_base ho0) hb); have n1_ := Aside0.mk (Kd.R_elder' (by (with_reducible repeat (first | apply Kd.R_alloc | apply Kd.R_drewN | apply Kd.R_drew)); exact HO_222000.out) (Kd.R_base ho0) hb); have n2_ := Aside0.mk (Kd.R_elder' (by (with_reducible repeat (first | apply Kd.R_alloc | apply Kd.R_drewN | apply Kd.R_drew)); exact HO_232000.out) (Kd.R_base ho0) hb); have n3_ := Aside0.mk (Kd.R_lower (Kd.R_new' (Kd.R_new' (Kd.R_new' ho0 (Kd.R_lt (by (with_reducible repeat (first | apply Kd.R_alloc | apply Kd.R_drewN | apply Kd.R_drew)); exact HO_213000.out))) (Kd.R_lt (by (with_reducible repeat (first | apply Kd.R_alloc | apply Kd.R_drewN | apply Kd.R_drew)); exact HO_222000.out))) (Kd.R_lt (by (with_reducible repeat (first | apply Kd.R_alloc | apply Kd.R_drewN | apply Kd.R_drew)); exact HO_232000.out))) (below_size (by repeat (first | (with_reducible first | exact HB.out | apply below_alloc | apply pw_below_drewN | apply below_drew1 | refine below_set ?_ GE212.out | refine below_set ?_ GE221.out | refine below_set ?_ GE231.out) | exact HB.out)))); have n4_ := Aside0.mk (blk_below (g := gb212) (o := .cells #[.slice Ao98 x213000_3.length co98, .int .u8 t207, .int .i64 t208, .bool t209, .bool t210, .bool t211] 25 (0, 0)) (by (with_reducible repeat (first | refine blk_drewN ?_ _ | refine blk_drew ?_ | refine blk_alloc ?_ _)); exact BK212.out) hb); have n5_ := Aside0.mk (blk_below (g := gb221) (o := .cells #[u222000, .int .u8 t216, .int .i64 t217, .bool t218, .bool t219, .bool t220] 25 (0, 0)) (by (with_reducible repeat (first | refine blk_drewN ?_ _ | refine blk_drew ?_ | refine blk_alloc ?_ _)); exact BK221.out) hb); have n6_ := Aside0.mk (blk_below (g := gb231) (o := .cells #[u232000, .int .u8 t226, .int .i64 t227, .bool t228, .bool t229, .bool t230] 25 (0, 0)) (by (with_reducible repeat (first | refine blk_drewN ?_ _ | refine blk_drew ?_ | refine blk_alloc ?_ _)); exact BK231.out) hb); have n7_ := Aside0.mk (below_step (by repeat (first | (with_reducible first | exact HB.out | apply below_alloc | apply pw_below_drewN | apply below_drew1 | refine below_set ?_ GE212.out | refine below_set ?_ GE221.out | refine below_set ?_ GE231.out) | exact HB.out)) hb); clear HO_213000; clear HO_222000; clear HO_232000; clear BK212; clear BK221; clear BK231; clear HB; have HO_213000 := n0_; have HO_222000 := n1_; have HO_232000 := n2_; have HO241 := n3_; have BK212 := n4_; have BK221 := n5_; have BK231 := n6_; have HB := n7_; clear n0_ n1_ n2_ n3_ n4_ n5_ n6_ n7_; (try clear hb); (try clear hb2); (try clear hk); (try clear hi); (try clear ho0)) | ((with_reducible refine gate_dst (N := 13) rfl ?_); refine box_event ?hg (N := 13) ?hd (cs := #[.slice none 0 0, .int .u8 0, .int .i64 0, .bool false, .bool false, .bool false]) (t := 25) ?hr ?_; (case hd => rfl); (case hg => rfl); (case hr => first | (go_simp; done) | (go_simp; rfl)); intro gb247 hg w100 hbox hb; have n0_ := Aside0.mk (Kd.R_below (by (with_reducible repeat (first | apply Kd.R_alloc | apply Kd.R_drewN | apply Kd.R_drew)); exact HO_213000.out) hb); have n1_ := Aside0.mk (Kd.R_below (by (with_reducible repeat (first | apply Kd.R_alloc | apply Kd.R_drewN | apply Kd.R_drew)); exact HO_222000.out) hb); have n2_ := Aside0.mk (Kd.R_below (by (with_reducible repeat (first | apply Kd.R_alloc | apply Kd.R_drewN | apply Kd.R_drew)); exact HO_232000.out) hb); have n3_ := Aside0.mk (Kd.R_below (by (with_reducible repeat (first | apply Kd.R_alloc | apply Kd.R_drewN | apply Kd.R_drew)); exact HO241.out) hb); have n4_ := Aside0.mk (blk_below (g := gb212) (o := .cells #[.slice Ao98 x213000_3.length co98, .int .u8 t207, .int .i64 t208, .bool t209, .bool t210, .bool t211] 25 (0, 0)) (by (with_reducible repeat (first | refine blk_drewN ?_ _ | refine blk_drew ?_ | refine blk_alloc ?_ _)); exact BK212.out) hb); have n5_ := Aside0.mk (blk_below (g := gb221) (o := .cells #[u222000, .int .u8 t216, .int .i64 t217, .bool t218, .bool t219, .bool t220] 25 (0, 0)) (by (with_reducible repeat (first | refine blk_drewN ?_ _ | refine blk_drew ?_ | refine blk_alloc ?_ _)); exact BK221.out) hb); have n6_ := Aside0.mk (blk_below (g := gb231) (o := .cells #[u232000, .int .u8 t226, .int .i64 t227, .bool t228, .bool t229, .bool t230] 25 (0, 0)) (by (with_reducible repeat (first | refine blk_drewN ?_ _ | refine blk_drew ?_ | refine blk_alloc ?_ _)); exact BK231.out) hb); have n7_ := Aside0.mk (below_step (by repeat (first | (with_reducible first | exact HB.out | apply below_alloc | apply pw_below_drewN | apply below_drew1 | refine below_set ?_ GE212.out | refine below_set ?_ GE221.out | refine below_set ?_ GE231.out) | exact HB.out)) hb); have n8_ := Aside0.mk (hbox); have n9_ := Aside0.mk ((by rw [hg]; exact (below_size (by repeat (first | (with_reducible first | exact HB.out | apply below_alloc | apply pw_below_drewN | apply below_drew1 | refine below_set ?_ GE212.out | refine below_set ?_ GE221.out | refine below_set ?_ GE231.out) | exact HB.out))) : w.heap.size ≤ gb247)); have n10_ := Aside0.mk ((by rw [hg]; exact (below_size (by repeat (first | (with_reducible first | exact HB.out | apply below_alloc | apply pw_below_drewN | apply below_drew1 | refine below_set ?_ GE212.out | refine below_set ?_ GE221.out | refine below_set ?_ GE231.out) | exact HB.out))) : w.heap.size ≤ gb247)); have n11_ := Aside0.mk ((by rw [hg]; exact Nat.ne_of_lt (blk_lt (g := gb212) (o := .cells #[.slice Ao98 x213000_3.length co98, .int .u8 t207, .int .i64 t208, .bool t209, .bool t210, .bool t211] 25 (0, 0)) (by (with_reducible repeat (first | refine blk_drewN ?_ _ | refine blk_drew ?_ | refine blk_alloc ?_ _)); exact BK212.out)) : gb212 ≠ gb247)); have n12_ := Aside0.mk ((by rw [hg]; exact Nat.ne_of_gt (blk_lt (g := gb212) (o := .cells #[.slice Ao98 x213000_3.length co98, .int .u8 t207, .int .i64 t208, .bool t209, .bool t210, .bool t211] 25 (0, 0)) (by (with_reducible repeat (first | refine blk_drewN ?_ _ | refine blk_drew ?_ | refine blk_alloc ?_ _)); exact BK212.out)) : gb247 ≠ gb212)); have n13_ := Aside0.mk ((by rw [hg]; exact Nat.ne_of_lt (blk_lt (g := gb221) (o := .cells #[u222000, .int .u8 t216, .int .i64 t217, .bool t218, .bool t219, .bool t220] 25 (0, 0)) (by (with_reducible repeat (first | refine blk_drewN ?_ _ | refine blk_drew ?_ | refine blk_alloc ?_ _)); exact BK221.out)) : gb221 ≠ gb247)); have n14_ := Aside0.mk ((by rw [hg]; exact Nat.ne_of_gt (blk_lt (g := gb221) (o := .cells #[u222000, .int .u8 t216, .int .i64 t217, .bool t218, .bool t219, .bool t220] 25 (0, 0)) (by (with_reducible repeat (first | refine blk_drewN ?_ _ | refine blk_drew ?_ | refine blk_alloc ?_ _)); exact BK221.out)) : gb247 ≠ gb221)); have n15_ := Aside0.mk ((by rw [hg]; exact Nat.ne_of_lt (blk_lt (g := gb231) (o := .cells #[u232000, .int .u8 t226, .int .i64 t227, .bool t228, .bool t229, .bool t230] 25 (0, 0)) (by (with_reducible repeat (first | refine blk_drewN ?_ _ | refine blk_drew ?_ | refine blk_alloc ?_ _)); exact BK231.out)) : gb231 ≠ gb247)); have n16_ := Aside0.mk ((by rw [hg]; exact Nat.ne_of_gt (blk_lt (g := gb231) (o := .cells #[u232000, .int .u8 t226, .int .i64 t227, .bool t228, .bool t229, .bool t230] 25 (0, 0)) (by (with_reducible repeat (first | refine blk_drewN ?_ _ | refine blk_drew ?_ | refine blk_alloc ?_ _)); exact BK231.out)) : gb247 ≠ gb231)); clear HO_213000; clear HO_222000; clear HO_232000; clear HO241; clear BK212; clear BK221; clear BK231; clear HB; have HO_213000 := n0_; have HO_222000 := n1_; have HO_232000 := n2_; have HO241 := n3_; have BK212 := n4_; have BK221 := n5_; have BK231 := n6_; have HB := n7_; have BK247 := n8_; have GW247 := n9_; have GE247 := n10_; have NB212_247 := n11_; have NB247_212 := n12_; have NB221_247 := n13_; have NB247_221 := n14_; have NB231_247 := n15_; have NB247_231 := n16_; clear n0_ n1_ n2_ n3_ n4_ n5_ n6_ n7_ n8_ n9_ n10_ n11_ n12_ n13_ n14_ n15_ n16_; clear hb hbox hg; obtain ⟨Ao101, co101, eo101⟩ := Kd.R_slice HO241.out; subst eo101; have hnb102 := NB247_212.out; have hnc102 := NB212_247.out; have hnb103 := NB247_221.out; have hnc103 := NB221_247.out; have hnb104 := NB247_231.out; have hnc104 := NB231_247.out; have hcz105_0 : w100.cell? ⟨gb247, 0, none⟩ = some (.slice none 0 0) := (blk_cell BK247.out 0).trans rfl; have hcz105_1 : w100.cell? ⟨gb247, 1, none⟩ = some (.int .u8 0) := (blk_cell BK247.out 1).trans rfl; have hcz105_2 : w100.cell? ⟨gb247, 2, none⟩ = some (.int .i64 0) := (blk_cell BK247.out 2).trans rfl; have hcz105_3 : w100.cell? ⟨gb247, 3, none⟩ = some (.bool false) := (blk_cell BK247.out 3).trans rfl; have hcz105_4 : w100.cell? ⟨gb247, 4, none⟩ = some (.bool false) := (blk_cell BK247.out 4).trans rfl; have hcz105_5 : w100.cell? ⟨gb247, 5, none⟩ = some (.bool false) := (blk_cell BK247.out 5).trans rfl; have hfz105_0 := blk_frozen BK247.out 0; have hfz105_1 := blk_frozen BK247.out 1; have hfz105_2 := blk_frozen BK247.out 2; have hfz105_3 := blk_frozen BK247.out 3; have hfz105_4 := blk_frozen BK247.out 4; have hfz105_5 := blk_frozen BK247.out 5; have hnb106 := NB221_231.out; have hnc106 := NB231_221.out; have hcz107_0 : w100.cell? ⟨gb221, 0, none⟩ = some (u222000) := (blk_cell BK221.out 0).trans rfl; have hcz107_1 : w100.cell? ⟨gb221, 1, none⟩ = some (.int .u8 t216) := (blk_cell BK221.out 1).trans rfl; have hcz107_2 : w100.cell? ⟨gb221, 2, none⟩ = some (.int .i64 t217) := (blk_cell BK221.out 2).trans rfl; have hcz107_3 : w100.cell? ⟨gb221, 3, none⟩ = some (.bool t218) := (blk_cell BK221.out 3).trans rfl; have hcz107_4 : w100.cell? ⟨gb221, 4, none⟩ = some (.bool t219) := (blk_cell BK221.out 4).trans rfl; have hcz107_5 : w100.cell? ⟨gb221, 5, none⟩ = some (.bool t220) := (blk_cell BK221.out 5).trans rfl; have hfz107_0 := blk_frozen BK221.out 0; have hfz107_1 := blk_frozen BK221.out 1; have hfz107_2 := blk_frozen BK221.out 2; have hfz107_3 := blk_frozen BK221.out 3; have hfz107_4 := blk_frozen BK221.out 4; have hfz107_5 := blk_frozen BK221.out 5; obtain ⟨Ao108, co108, eo108⟩ := Kd.R_slice HO_222000.out; subst eo108) | (go_at_call 15; (with_reducible refine (indentureref11_SameEvents.calls k3 _ _ x222000_3 _ _ t239 true _ ?side1 ?side2 ?side3 ?side4 A92.out).mono ?_); (case side1 => refine (Kd.R_reads' (e := 33) (base := w.heap.size) (ok := fun k_ => ((some k_ ≠ (.slice Ao98 x213000_3.length co98 : Value).ownBlock ∧ some k_ ≠ (u232000 : Value).ownBlock) ∧ some k_ ≠ (.slice Ao101 t239.length co101 : Value).ownBlock)) (n := x222000_3.length) (c := co108) ?_).2.2; exact (by (with_reducible repeat (first | apply Kd.R_alloc | apply Kd.R_drewN | apply Kd.R_drew)); exact (Kd.R_mono (Kd.R_far (p := ⟨gb247, 5, none⟩) (Kd.R_far (p := ⟨gb247, 4, none⟩) (Kd.R_far (p := ⟨gb247, 3, none⟩) (Kd.R_far (p := ⟨gb247, 2, none⟩) (Kd.R_far (p := ⟨gb247, 1, none⟩) (Kd.R_far (p := ⟨gb247, 0, none⟩) (Kd.R_types HO_222000.out BK247.out (by decide)) (fun _ hk => hk.2) (.slice Ao101 t239.length co101)) (fun _ hk => hk.2) (.int .u8 t242)) (fun _ hk => hk.2) (.int .i64 t243)) (fun _ hk => hk.2) (.bool t244)) (fun _ hk => hk.2) (.bool t245)) (fun _ hk => hk.2) (.bool t246)) (fun _ h_ => h_.1)))); (case side2 => exact (Kd.R_reads' HO_222000.out).2.1); (case side3 => refine (Kd.R_reads' (e := 33) (base := w.heap.size) (ok := fun k_ => (((True ∧ some k_ ≠ (.slice Ao98 x213000_3.length co98 : Value).ownBlock) ∧ some k_ ≠ (.slice Ao108 x222000_3.length co108 : Value).ownBlock) ∧ some k_ ≠ (u232000 : Value).ownBlock)) (n := t239.length) (c := co101) ?_).2.2; exact (by (with_reducible repeat (first | apply Kd.R_alloc | apply Kd.R_drewN | apply Kd.R_drew)); exact (Kd.R_mono (Kd.R_far (p := ⟨gb247, 5, none⟩) (Kd.R_far (p := ⟨gb247, 4, none⟩) (Kd.R_far (p := ⟨gb247, 3, none⟩) (Kd.R_far (p := ⟨gb247, 2, none⟩) (Kd.R_far (p := ⟨gb247, 1, none⟩) (Kd.R_far (p := ⟨gb247, 0, none⟩) (Kd.R_types HO241.out BK247.out (by decide)) (fun _ hk => hk.2) (.slice Ao101 t239.length co101)) (fun _ hk => hk.2) (.int .u8 t242)) (fun _ hk => hk.2) (.int .i64 t243)) (fun _ hk => hk.2) (.bool t244)) (fun _ hk => hk.2) (.bool t245)) (fun _ hk => hk.2) (.bool t246)) (fun _ h_ => h_.1)))); (case side4 => exact (Kd.R_reads' HO241.out).2.1); rintro e w' ⟨rfl, ⟨nd, rfl⟩⟩; (try first | exact ⟨rfl, _, World.drewN_drewN _ _ _⟩ | exact ⟨rfl, _, Eq.trans (World.drewN_drewN _ _ _) (congrArg (World.drewN _) (Nat.add_assoc _ _ _))⟩)) | (go_at_call 12; (with_reducible refine (indenturelaw11_reads.calls  t249 _ A94.out).mono ?_); rintro e w109 ⟨rfl, hb⟩; have n0_ := Aside0.mk (Kd.R_below (by (with_reducible repeat (first | apply Kd.R_alloc | apply Kd.R_drewN | apply Kd.R_drew)); exact (Kd.R_mono (Kd.R_far (p := ⟨gb247, 5, none⟩) (Kd.R_far (p := ⟨gb247, 4, none⟩) (Kd.R_far (p := ⟨gb247, 3, none⟩) (Kd.R_far (p := ⟨gb247, 2, none⟩) (Kd.R_far (p := ⟨gb247, 1, none⟩) (Kd.R_far (p := ⟨gb247, 0, none⟩) (Kd.R_types HO_213000.out BK247.out (by decide)) (fun _ hk => hk.2) (.slice Ao101 t239.length co101)) (fun _ hk => hk.2) (.int .u8 t242)) (fun _ hk => hk.2) (.int .i64 t243)) (fun _ hk => hk.2) (.bool t244)) (fun _ hk => hk.2) (.bool t245)) (fun _ hk => hk.2) (.bool t246)) (fun _ h_ => h_.1))) hb); have n1_ := Aside0.mk (Kd.R_below (by (with_reducible repeat (first | apply Kd.R_alloc | apply Kd.R_drewN | apply Kd.R_drew)); exact (Kd.R_mono (Kd.R_far (p := ⟨gb247, 5, none⟩) (Kd.R_far (p := ⟨gb247, 4, none⟩) (Kd.R_far (p := ⟨gb247, 3, none⟩) (Kd.R_far (p := ⟨gb247, 2, none⟩) (Kd.R_far (p := ⟨gb247, 1, none⟩) (Kd.R_far (p := ⟨gb247, 0, none⟩) (Kd.R_types HO_222000.out BK247.out (by decide)) (fun _ hk => hk.2) (.slice Ao101 t239.length co101)) (fun _ hk => hk.2) (.int .u8 t242)) (fun _ hk => hk.2) (.int .i64 t243)) (fun _ hk => hk.2) (.bool t244)) (fun _ hk => hk.2) (.bool t245)) (fun _ hk => hk.2) (.bool t246)) (fun _ h_ => h_.1))) hb); have n2_ := Aside0.mk (Kd.R_below (by (with_reducible repeat (first | apply Kd.R_alloc | apply Kd.R_drewN | apply Kd.R_drew)); exact (Kd.R_mono (Kd.R_far (p := ⟨gb247, 5, none⟩) (Kd.R_far (p := ⟨gb247, 4, none⟩) (Kd.R_far (p := ⟨gb247, 3, none⟩) (Kd.R_far (p := ⟨gb247, 2, none⟩) (Kd.R_far (p := ⟨gb247, 1, none⟩) (Kd.R_far (p := ⟨gb247, 0, none⟩) (Kd.R_types HO_232000.out BK247.out (by decide)) (fun _ hk => hk.2) (.slice Ao101 t239.length co101)) (fun _ hk => hk.2) (.int .u8 t242)) (fun _ hk => hk.2) (.int .i64 t243)) (fun _ hk => hk.2) (.bool t244)) (fun _ hk => hk.2) (.bool t245)) (fun _ hk => hk.2) (.bool t246)) (fun _ h_ => h_.1))) hb); have n3_ := Aside0.mk (Kd.R_below (by (with_reducible repeat (first | apply Kd.R_alloc | apply Kd.R_drewN | apply Kd.R_drew)); exact (Kd.R_mono (Kd.R_far (p := ⟨gb247, 5, none⟩) (Kd.R_far (p := ⟨gb247, 4, none⟩) (Kd.R_far (p := ⟨gb247, 3, none⟩) (Kd.R_far (p := ⟨gb247, 2, none⟩) (Kd.R_far (p := ⟨gb247, 1, none⟩) (Kd.R_far (p := ⟨gb247, 0, none⟩) (Kd.R_types HO241.out BK247.out (by decide)) (fun _ hk => hk.2) (.slice Ao101 t239.length co101)) (fun _ hk => hk.2) (.int .u8 t242)) (fun _ hk => hk.2) (.int .i64 t243)) (fun _ hk => hk.2) (.bool t244)) (fun _ hk => hk.2) (.bool t245)) (fun _ hk => hk.2) (.bool t246)) (fun _ h_ => h_.1))) hb); have n4_ := Aside0.mk (blk_below (g := gb212) (o := .cells #[.slice Ao98 x213000_3.length co98, .int .u8 t207, .int .i64 t208, .bool t209, .bool t210, .bool t211] 25 (0, 0)) (by (with_reducible repeat (first | refine blk_drewN ?_ _ | refine blk_drew ?_ | refine blk_alloc ?_ _)); refine blk_far ?_ NB212_247.out _; (with_reducible repeat (first | refine blk_drewN ?_ _ | refine blk_drew ?_ | refine blk_alloc ?_ _)); refine blk_far ?_ NB212_247.out _; (with_reducible repeat (first | refine blk_drewN ?_ _ | refine blk_drew ?_ | refine blk_alloc ?_ _)); refine blk_far ?_ NB212_247.out _; (with_reducible repeat (first | refine blk_drewN ?_ _ | refine blk_drew ?_ | refine blk_alloc ?_ _)); refine blk_far ?_ NB212_247.out _; (with_reducible repeat (first | refine blk_drewN ?_ _ | refine blk_drew ?_ | refine blk_alloc ?_ _)); refine blk_far ?_ NB212_247.out _; (with_reducible repeat (first | refine blk_drewN ?_ _ | refine blk_drew ?_ | refine blk_alloc ?_ _)); refine blk_far ?_ NB212_247.out _; (with_reducible repeat (first | refine blk_drewN ?_ _ | refine blk_drew ?_ | refine blk_alloc ?_ _)); exact BK212.out) hb); have n5_ := Aside0.mk (blk_below (g := gb221) (o := .cells #[.slice Ao108 x222000_3.length co108, .int .u8 t216, .int .i64 t217, .bool t218, .bool t219, .bool t220] 25 (0, 0)) (by (with_reducible repeat (first | refine blk_drewN ?_ _ | refine blk_drew ?_ | refine blk_alloc ?_ _)); refine blk_far ?_ NB221_247.out _; (with_reducible repeat (first | refine blk_drewN ?_ _ | refine blk_drew ?_ | refine blk_alloc ?_ _)); refine blk_far ?_ NB221_247.out _; (with_reducible repeat (first | refine blk_drewN ?_ _ | refine blk_drew ?_ | refine blk_alloc ?_ _)); refine blk_far ?_ NB221_247.out _; (with_reducible repeat (first | refine blk_drewN ?_ _ | refine blk_drew ?_ | refine blk_alloc ?_ _)); refine blk_far ?_ NB221_247.out _; (with_reducible repeat (first | refine blk_drewN ?_ _ | refine blk_drew ?_ | refine blk_alloc ?_ _)); refine blk_far ?_ NB221_247.out _; (with_reducible repeat (first | refine blk_drewN ?_ _ | refine blk_drew ?_ | refine blk_alloc ?_ _)); refine blk_far ?_ NB221_247.out _; (with_reducible repeat (first | refine blk_drewN ?_ _ | refine blk_drew ?_ | refine blk_alloc ?_ _)); exact BK221.out) hb); have n6_ := Aside0.mk (blk_below (g := gb231) (o := .cells #[u232000, .int .u8 t226, .int .i64 t227, .bool t228, .bool t229, .bool t230] 25 (0, 0)) (by (with_reducible repeat (first | refine blk_drewN ?_ _ | refine blk_drew ?_ | refine blk_alloc ?_ _)); refine blk_far ?_ NB231_247.out _; (with_reducible repeat (first | refine blk_drewN ?_ _ | refine blk_drew ?_ | refine blk_alloc ?_ _)); refine blk_far ?_ NB231_247.out _; (with_reducible repeat (first | refine blk_drewN ?_ _ | refine blk_drew ?_ | refine blk_alloc ?_ _)); refine blk_far ?_ NB231_247.out _; (with_reducible repeat (first | refine blk_drewN ?_ _ | refine blk_drew ?_ | refine blk_alloc ?_ _)); refine blk_far ?_ NB231_247.out _; (with_reducible repeat (first | refine blk_drewN ?_ _ | refine blk_drew ?_ | refine blk_alloc ?_ _)); refine blk_far ?_ NB231_247.out _; (with_reducible repeat (first | refine blk_drewN ?_ _ | refine blk_drew ?_ | refine blk_alloc ?_ _)); refine blk_far ?_ NB231_247.out _; (with_reducible repeat (first | refine blk_drewN ?_ _ | refine blk_drew ?_ | refine blk_alloc ?_ _)); exact BK231.out) hb); have n7_ := Aside0.mk (blk_below (g := gb247) (o := .cells #[.slice Ao101 t239.length co101, .int .u8 t242, .int .i64 t243, .bool t244, .bool t245, .bool t246] 25 (0, 0)) (by (with_reducible repeat (first | refine blk_drewN ?_ _ | refine blk_drew ?_ | refine blk_alloc ?_ _)); refine blk_put (cs := #[.slice Ao101 t239.length co101, .int .u8 t242, .int .i64 t243, .bool t244, .bool t245, .bool false]) ?_ 5 _ rfl; (with_reducible repeat (first | refine blk_drewN ?_ _ | refine blk_drew ?_ | refine blk_alloc ?_ _)); refine blk_put (cs := #[.slice Ao101 t239.length co101, .int .u8 t242, .int .i64 t243, .bool t244, .bool false, .bool false]) ?_ 4 _ rfl; (with_reducible repeat (first | refine blk_drewN ?_ _ | refine blk_drew ?_ | refine blk_alloc ?_ _)); refine blk_put (cs := #[.slice Ao101 t239.length co101, .int .u8 t242, .int .i64 t243, .bool false, .bool false, .bool false]) ?_ 3 _ rfl; (with_reducible repeat (first | refine blk_drewN ?_ _ | refine blk_drew ?_ | refine blk_alloc ?_ _)); refine blk_put (cs := #[.slice Ao101 t239.length co101, .int .u8 t242, .int .i64 0, .bool false, .bool false, .bool false]) ?_ 2 _ rfl; (with_reducible repeat (first | refine blk_drewN ?_ _ | refine blk_drew ?_ | refine blk_alloc ?_ _)); refine blk_put (cs := #[.slice Ao101 t239.length co101, .int .u8 0, .int .i64 0, .bool false, .bool false, .bool false]) ?_ 1 _ rfl; (with_reducible repeat (first | refine blk_drewN ?_ _ | refine blk_drew ?_ | refine blk_alloc ?_ _)); refine blk_put (cs := #[.slice none 0 0, .int .u8 0, .int .i64 0, .bool false, .bool false, .bool false]) ?_ 0 _ rfl; (with_reducible repeat (first | refine blk_drewN ?_ _ | refine blk_drew ?_ | refine blk_alloc ?_ _)); exact BK247.out) hb); have n8_ := Aside0.mk (below_step (by repeat (first | (with_reducible first | exact HB.out | apply below_alloc | apply pw_below_drewN | apply below_drew1 | refine below_set ?_ GE212.out | refine below_set ?_ GE221.out | refine below_set ?_ GE231.out | refine below_set ?_ GE247.out) | exact HB.out)) hb); clear HO_213000; clear HO_222000; clear HO_232000; clear HO241; clear BK212; clear BK221; clear BK231; clear BK247; clear HB; have HO_213000 := n0_; have HO_222000 := n1_; have HO_232000 := n2_; have HO241 := n3_; have BK212 := n4_; have BK221 := n5_; have BK231 := n6_; have BK247 := n7_; have HB := n8_; clear n0_ n1_ n2_ n3_ n4_ n5_ n6_ n7_ n8_; (try clear hb); (try clear hb2); (try clear hk); (try clear hi)))
                            repeat (go_quiet (first | (go_at_call 10; (with_reducible refine (pytoken_Scan.calls a0 a1 a2 0 t239 t242 t243 t244 t245 t246 _ A91.out).mono ?_); rintro e w99 ⟨v240, rfl, ho0, hb⟩; have n0_ := Aside0.mk (Kd.R_elder' (by (with_reducible repeat (first | apply Kd.R_alloc | apply Kd.R_drewN | apply Kd.R_drew)); exact HO_213000.out) (Kd.R_base ho0) hb); have n1_ := Aside0.mk (Kd.R_elder' (by (with_reducible repeat (first | apply Kd.R_alloc | apply Kd.R_drewN | apply Kd.R_drew)); exact HO_222000.out) (Kd.R_base ho0) hb); have n2_ := Aside0.mk (Kd.R_elder' (by (with_reducible repeat (first | apply Kd.R_alloc | apply Kd.R_drewN | apply Kd.R_drew)); exact HO_232000.out) (Kd.R_base ho0) hb); have n3_ := Aside0.mk (Kd.R_lower (Kd.R_new' (Kd.R_new' (Kd.R_new' ho0 (Kd.R_lt (by (with_reducible repeat (first | apply Kd.R_alloc | apply Kd.R_drewN | apply Kd.R_drew)); exact HO_213000.out))) (Kd.R_lt (by (with_reducible repeat (first | apply Kd.R_alloc | apply Kd.R_drewN | apply Kd.R_drew)); exact HO_222000.out))) (Kd.R_lt (by (with_reducible repeat (first | apply Kd.R_alloc | apply Kd.R_drewN | apply Kd.R_drew)); exact HO_232000.out))) (below_size (by repeat (first | (with_reducible first | exact HB.out | apply below_alloc | apply pw_below_drewN | apply below_drew1 | refine below_set ?_ GE212.out | refine below_set ?_ GE221.out | refine below_set ?_ GE231.out) | exact HB.out)))); have n4_ := Aside0.mk (blk_below (g := gb212) (o := .cells #[.slice Ao98 x213000_3.length co98, .int .u8 t207, .int .i64 t208, .bool t209, .bool t210, .bool t211] 25 (0, 0)) (by (with_reducible repeat (first | refine blk_drewN ?_ _ | refine blk_drew ?_ | refine blk_alloc ?_ _)); exact BK212.out) hb); have n5_ := Aside0.mk (blk_below (g := gb221) (o := .cells #[u222000, .int .u8 t216, .int .i64 t217, .bool t218, .bool t219, .bool t220] 25 (0, 0)) (by (with_reducible repeat (first | refine blk_drewN ?_ _ | refine blk_drew ?_ | refine blk_alloc ?_ _)); exact BK221.out) hb); have n6_ := Aside0.mk (blk_below (g := gb231) (o := .cells #[u232000, .int .u8 t226, .int .i64 t227, .bool t228, .bool t229, .bool t230] 25 (0, 0)) (by (with_reducible repeat (first | refine blk_drewN ?_ _ | refine blk_drew ?_ | refine blk_alloc ?_ _)); exact BK231.out) hb); have n7_ := Aside0.mk (below_step (by repeat (first | (with_reducible first | exact HB.out | apply below_alloc | apply pw_below_drewN | apply below_drew1 | refine below_set ?_ GE212.out | refine below_set ?_ GE221.out | refine below_set ?_ GE231.out) | exact HB.out)) hb); clear HO_213000; clear HO_222000; clear HO_232000; clear BK212; clear BK221; clear BK231; clear HB; have HO_213000 := n0_; have HO_222000 := n1_; have HO_232000 := n2_; have HO241 := n3_; have BK212 := n4_; have BK221 := n5_; have BK231 := n6_; have HB := n7_; clear n0_ n1_ n2_ n3_ n4_ n5_ n6_ n7_; (try clear hb); (try clear hb2); (try clear hk); (try clear hi); (try clear ho0)) | ((with_reducible refine gate_dst (N := 13) rfl ?_); refine box_event ?hg (N := 13) ?hd (cs := #[.slice none 0 0, .int .u8 0, .int .i64 0, .bool false, .bool false, .bool false]) (t := 25) ?hr ?_; (case hd => rfl); (case hg => rfl); (case hr => first | (go_simp; done) | (go_simp; rfl)); intro gb247 hg w100 hbox hb; have n0_ := Aside0.mk (Kd.R_below (by (with_reducible repeat (first | apply Kd.R_alloc | apply Kd.R_drewN | apply Kd.R_drew)); exact HO_213000.out) hb); have n1_ := Aside0.mk (Kd.R_below (by (with_reducible repeat (first | apply Kd.R_alloc | apply Kd.R_drewN | apply Kd.R_drew)); exact HO_222000.out) hb); have n2_ := Aside0.mk (Kd.R_below (by (with_reducible repeat (first | apply Kd.R_alloc | apply Kd.R_drewN | apply Kd.R_drew)); exact HO_232000.out) hb); have n3_ := Aside0.mk (Kd.R_below (by (with_reducible repeat (first | apply Kd.R_alloc | apply Kd.R_drewN | apply Kd.R_drew)); exact HO241.out) hb); have n4_ := Aside0.mk (blk_below (g := gb212) (o := .cells #[.slice Ao98 x213000_3.length co98, .int .u8 t207, .int .i64 t208, .bool t209, .bool t210, .bool t211] 25 (0, 0)) (by (with_reducible repeat (first | refine blk_drewN ?_ _ | refine blk_drew ?_ | refine blk_alloc ?_ _)); exact BK212.out) hb); have n5_ := Aside0.mk (blk_below (g := gb221) (o := .cells #[u222000, .int .u8 t216, .int .i64 t217, .bool t218, .bool t219, .bool t220] 25 (0, 0)) (by (with_reducible repeat (first | refine blk_drewN ?_ _ | refine blk_drew ?_ | refine blk_alloc ?_ _)); exact BK221.out) hb); have n6_ := Aside0.mk (blk_below (g := gb231) (o := .cells #[u232000, .int .u8 t226, .int .i64 t227, .bool t228, .bool t229, .bool t230] 25 (0, 0)) (by (with_reducible repeat (first | refine blk_drewN ?_ _ | refine blk_drew ?_ | refine blk_alloc ?_ _)); exact BK231.out) hb); have n7_ := Aside0.mk (below_step (by repeat (first | (with_reducible first | exact HB.out | apply below_alloc | apply pw_below_drewN | apply below_drew1 | refine below_set ?_ GE212.out | refine below_set ?_ GE221.out | refine below_set ?_ GE231.out) | exact HB.out)) hb); have n8_ := Aside0.mk (hbox); have n9_ := Aside0.mk ((by rw [hg]; exact (below_size (by repeat (first | (with_reducible first | exact HB.out | apply below_alloc | apply pw_below_drewN | apply below_drew1 | refine below_set ?_ GE212.out | refine below_set ?_ GE221.out | refine below_set ?_ GE231.out) | exact HB.out))) : w.heap.size ≤ gb247)); have n10_ := Aside0.mk ((by rw [hg]; exact (below_size (by repeat (first | (with_reducible first | exact HB.out | apply below_alloc | apply pw_below_drewN | apply below_drew1 | refine below_set ?_ GE212.out | refine below_set ?_ GE221.out | refine below_set ?_ GE231.out) | exact HB.out))) : w.heap.size ≤ gb247)); have n11_ := Aside0.mk ((by rw [hg]; exact Nat.ne_of_lt (blk_lt (g := gb212) (o := .cells #[.slice Ao98 x213000_3.length co98, .int .u8 t207, .int .i64 t208, .bool t209, .bool t210, .bool t211] 25 (0, 0)) (by (with_reducible repeat (first | refine blk_drewN ?_ _ | refine blk_drew ?_ | refine blk_alloc ?_ _)); exact BK212.out)) : gb212 ≠ gb247)); have n12_ := Aside0.mk ((by rw [hg]; exact Nat.ne_of_gt (blk_lt (g := gb212) (o := .cells #[.slice Ao98 x213000_3.length co98, .int .u8 t207, .int .i64 t208, .bool t209, .bool t210, .bool t211] 25 (0, 0)) (by (with_reducible repeat (first | refine blk_drewN ?_ _ | refine blk_drew ?_ | refine blk_alloc ?_ _)); exact BK212.out)) : gb247 ≠ gb212)); have n13_ := Aside0.mk ((by rw [hg]; exact Nat.ne_of_lt (blk_lt (g := gb221) (o := .cells #[u222000, .int .u8 t216, .int .i64 t217, .bool t218, .bool t219, .bool t220] 25 (0, 0)) (by (with_reducible repeat (first | refine blk_drewN ?_ _ | refine blk_drew ?_ | refine blk_alloc ?_ _)); exact BK221.out)) : gb221 ≠ gb247)); have n14_ := Aside0.mk ((by rw [hg]; exact Nat.ne_of_gt (blk_lt (g := gb221) (o := .cells #[u222000, .int .u8 t216, .int .i64 t217, .bool t218, .bool t219, .bool t220] 25 (0, 0)) (by (with_reducible repeat (first | refine blk_drewN ?_ _ | refine blk_drew ?_ | refine blk_alloc ?_ _)); exact BK221.out)) : gb247 ≠ gb221)); have n15_ := Aside0.mk ((by rw [hg]; exact Nat.ne_of_lt (blk_lt (g := gb231) (o := .cells #[u232000, .int .u8 t226, .int .i64 t227, .bool t228, .bool t229, .bool t230] 25 (0, 0)) (by (with_reducible repeat (first | refine blk_drewN ?_ _ | refine blk_drew ?_ | refine blk_alloc ?_ _)); exact BK231.out)) : gb231 ≠ gb247)); have n16_ := Aside0.mk ((by rw [hg]; exact Nat.ne_of_gt (blk_lt (g := gb231) (o := .cells #[u232000, .int .u8 t226, .int .i64 t227, .bool t228, .bool t229, .bool t230] 25 (0, 0)) (by (with_reducible repeat (first | refine blk_drewN ?_ _ | refine blk_drew ?_ | refine blk_alloc ?_ _)); exact BK231.out)) : gb247 ≠ gb231)); clear HO_213000; clear HO_222000; clear HO_232000; clear HO241; clear BK212; clear BK221; clear BK231; clear HB; have HO_213000 := n0_; have HO_222000 := n1_; have HO_232000 := n2_; have HO241 := n3_; have BK212 := n4_; have BK221 := n5_; have BK231 := n6_; have HB := n7_; have BK247 := n8_; have GW247 := n9_; have GE247 := n10_; have NB212_247 := n11_; have NB247_212 := n12_; have NB221_247 := n13_; have NB247_221 := n14_; have NB231_247 := n15_; have NB247_231 := n16_; clear n0_ n1_ n2_ n3_ n4_ n5_ n6_ n7_ n8_ n9_ n10_ n11_ n12_ n13_ n14_ n15_ n16_; clear hb hbox hg; obtain ⟨Ao101, co101, eo101⟩ := Kd.R_slice HO241.out; subst eo101; have hnb102 := NB247_212.out; have hnc102 := NB212_247.out; have hnb103 := NB247_221.out; have hnc103 := NB221_247.out; have hnb104 := NB247_231.out; have hnc104 := NB231_247.out; have hcz105_0 : w100.cell? ⟨gb247, 0, none⟩ = some (.slice none 0 0) := (blk_cell BK247.out 0).trans rfl; have hcz105_1 : w100.cell? ⟨gb247, 1, none⟩ = some (.int .u8 0) := (blk_cell BK247.out 1).trans rfl; have hcz105_2 : w100.cell? ⟨gb247, 2, none⟩ = some (.int .i64 0) := (blk_cell BK247.out 2).trans rfl; have hcz105_3 : w100.cell? ⟨gb247, 3, none⟩ = some (.bool false) := (blk_cell BK247.out 3).trans rfl; have hcz105_4 : w100.cell? ⟨gb247, 4, none⟩ = some (.bool false) := (blk_cell BK247.out 4).trans rfl; have hcz105_5 : w100.cell? ⟨gb247, 5, none⟩ = some (.bool false) := (blk_cell BK247.out 5).trans rfl; have hfz105_0 := blk_frozen BK247.out 0; have hfz105_1 := blk_frozen BK247.out 1; have hfz105_2 := blk_frozen BK247.out 2; have hfz105_3 := blk_frozen BK247.out 3; have hfz105_4 := blk_frozen BK247.out 4; have hfz105_5 := blk_frozen BK247.out 5; have hnb106 := NB221_231.out; have hnc106 := NB231_221.out; have hcz107_0 : w100.cell? ⟨gb221, 0, none⟩ = some (u222000) := (blk_cell BK221.out 0).trans rfl; have hcz107_1 : w100.cell? ⟨gb221, 1, none⟩ = some (.int .u8 t216) := (blk_cell BK221.out 1).trans rfl; have hcz107_2 : w100.cell? ⟨gb221, 2, none⟩ = some (.int .i64 t217) := (blk_cell BK221.out 2).trans rfl; have hcz107_3 : w100.cell? ⟨gb221, 3, none⟩ = some (.bool t218) := (blk_cell BK221.out 3).trans rfl; have hcz107_4 : w100.cell? ⟨gb221, 4, none⟩ = some (.bool t219) := (blk_cell BK221.out 4).trans rfl; have hcz107_5 : w100.cell? ⟨gb221, 5, none⟩ = some (.bool t220) := (blk_cell BK221.out 5).trans rfl; have hfz107_0 := blk_frozen BK221.out 0; have hfz107_1 := blk_frozen BK221.out 1; have hfz107_2 := blk_frozen BK221.out 2; have hfz107_3 := blk_frozen BK221.out 3; have hfz107_4 := blk_frozen BK221.out 4; have hfz107_5 := blk_frozen BK221.out 5; obtain ⟨Ao108, co108, eo108⟩ := Kd.R_slice HO_222000.out; subst eo108) | (go_at_call 15; (with_reducible refine (indentureref11_SameEvents.calls k3 _ _ x222000_3 _ _ t239 true _ ?side1 ?side2 ?side3 ?side4 A92.out).mono ?_); (case side1 => refine (Kd.R_reads' (e := 33) (base := w.heap.size) (ok := fun k_ => ((some k_ ≠ (.slice Ao98 x213000_3.length co98 : Value).ownBlock ∧ some k_ ≠ (u232000 : Value).ownBlock) ∧ some k_ ≠ (.slice Ao101 t239.length co101 : Value).ownBlock)) (n := x222000_3.length) (c := co108) ?_).2.2; exact (by (with_reducible repeat (first | apply Kd.R_alloc | apply Kd.R_drewN | apply Kd.R_drew)); exact (Kd.R_mono (Kd.R_far (p := ⟨gb247, 5, none⟩) (Kd.R_far (p := ⟨gb247, 4, none⟩) (Kd.R_far (p := ⟨gb247, 3, none⟩) (Kd.R_far (p := ⟨gb247, 2, none⟩) (Kd.R_far (p := ⟨gb247, 1, none⟩) (Kd.R_far (p := ⟨gb247, 0, none⟩) (Kd.R_types HO_222000.out BK247.out (by decide)) (fun _ hk => hk.2) (.slice Ao101 t239.length co101)) (fun _ hk => hk.2) (.int .u8 t242)) (fun _ hk => hk.2) (.int .i64 t243)) (fun _ hk => hk.2) (.bool t244)) (fun _ hk => hk.2) (.bool t245)) (fun _ hk => hk.2) (.bool t246)) (fun _ h_ => h_.1)))); (case side2 => exact (Kd.R_reads' HO_222000.out).2.1); (case side3 => refine (Kd.R_reads' (e := 33) (base := w.heap.size) (ok := fun k_ => (((True ∧ some k_ ≠ (.slice Ao98 x213000_3.length co98 : Value).ownBlock) ∧ some k_ ≠ (.slice Ao108 x222000_3.length co108 : Value).ownBlock) ∧ some k_ ≠ (u232000 : Value).ownBlock)) (n := t239.length) (c := co101) ?_).2.2; exact (by (with_reducible repeat (first | apply Kd.R_alloc | apply Kd.R_drewN | apply Kd.R_drew)); exact (Kd.R_mono (Kd.R_far (p := ⟨gb247, 5, none⟩) (Kd.R_far (p := ⟨gb247, 4, none⟩) (Kd.R_far (p := ⟨gb247, 3, none⟩) (Kd.R_far (p := ⟨gb247, 2, none⟩) (Kd.R_far (p := ⟨gb247, 1, none⟩) (Kd.R_far (p := ⟨gb247, 0, none⟩) (Kd.R_types HO241.out BK247.out (by decide)) (fun _ hk => hk.2) (.slice Ao101 t239.length co101)) (fun _ hk => hk.2) (.int .u8 t242)) (fun _ hk => hk.2) (.int .i64 t243)) (fun _ hk => hk.2) (.bool t244)) (fun _ hk => hk.2) (.bool t245)) (fun _ hk => hk.2) (.bool t246)) (fun _ h_ => h_.1)))); (case side4 => exact (Kd.R_reads' HO241.out).2.1); rintro e w' ⟨rfl, ⟨nd, rfl⟩⟩; (try first | exact ⟨rfl, _, World.drewN_drewN _ _ _⟩ | exact ⟨rfl, _, Eq.trans (World.drewN_drewN _ _ _) (congrArg (World.drewN _) (Nat.add_assoc _ _ _))⟩)) | (go_at_call 12; (with_reducible refine (indenturelaw11_reads.calls  t249 _ A94.out).mono ?_); rintro e w109 ⟨rfl, hb⟩; have n0_ := Aside0.mk (Kd.R_below (by (with_reducible repeat (first | apply Kd.R_alloc | apply Kd.R_drewN | apply Kd.R_drew)); exact (Kd.R_mono (Kd.R_far (p := ⟨gb247, 5, none⟩) (Kd.R_far (p := ⟨gb247, 4, none⟩) (Kd.R_far (p := ⟨gb247, 3, none⟩) (Kd.R_far (p := ⟨gb247, 2, none⟩) (Kd.R_far (p := ⟨gb247, 1, none⟩) (Kd.R_far (p := ⟨gb247, 0, none⟩) (Kd.R_types HO_213000.out BK247.out (by decide)) (fun _ hk => hk.2) (.slice Ao101 t239.length co101)) (fun _ hk => hk.2) (.int .u8 t242)) (fun _ hk => hk.2) (.int .i64 t243)) (fun _ hk => hk.2) (.bool t244)) (fun _ hk => hk.2) (.bool t245)) (fun _ hk => hk.2) (.bool t246)) (fun _ h_ => h_.1))) hb); have n1_ := Aside0.mk (Kd.R_below (by (with_reducible repeat (first | apply Kd.R_alloc | apply Kd.R_drewN | apply Kd.R_drew)); exact (Kd.R_mono (Kd.R_far (p := ⟨gb247, 5, none⟩) (Kd.R_far (p := ⟨gb247, 4, none⟩) (Kd.R_far (p := ⟨gb247, 3, none⟩) (Kd.R_far (p := ⟨gb247, 2, none⟩) (Kd.R_far (p := ⟨gb247, 1, none⟩) (Kd.R_far (p := ⟨gb247, 0, none⟩) (Kd.R_types HO_222000.out BK247.out (by decide)) (fun _ hk => hk.2) (.slice Ao101 t239.length co101)) (fun _ hk => hk.2) (.int .u8 t242)) (fun _ hk => hk.2) (.int .i64 t243)) (fun _ hk => hk.2) (.bool t244)) (fun _ hk => hk.2) (.bool t245)) (fun _ hk => hk.2) (.bool t246)) (fun _ h_ => h_.1))) hb); have n2_ := Aside0.mk (Kd.R_below (by (with_reducible repeat (first | apply Kd.R_alloc | apply Kd.R_drewN | apply Kd.R_drew)); exact (Kd.R_mono (Kd.R_far (p := ⟨gb247, 5, none⟩) (Kd.R_far (p := ⟨gb247, 4, none⟩) (Kd.R_far (p := ⟨gb247, 3, none⟩) (Kd.R_far (p := ⟨gb247, 2, none⟩) (Kd.R_far (p := ⟨gb247, 1, none⟩) (Kd.R_far (p := ⟨gb247, 0, none⟩) (Kd.R_types HO_232000.out BK247.out (by decide)) (fun _ hk => hk.2) (.slice Ao101 t239.length co101)) (fun _ hk => hk.2) (.int .u8 t242)) (fun _ hk => hk.2) (.int .i64 t243)) (fun _ hk => hk.2) (.bool t244)) (fun _ hk => hk.2) (.bool t245)) (fun _ hk => hk.2) (.bool t246)) (fun _ h_ => h_.1))) hb); have n3_ := Aside0.mk (Kd.R_below (by (with_reducible repeat (first | apply Kd.R_alloc | apply Kd.R_drewN | apply Kd.R_drew)); exact (Kd.R_mono (Kd.R_far (p := ⟨gb247, 5, none⟩) (Kd.R_far (p := ⟨gb247, 4, none⟩) (Kd.R_far (p := ⟨gb247, 3, none⟩) (Kd.R_far (p := ⟨gb247, 2, none⟩) (Kd.R_far (p := ⟨gb247, 1, none⟩) (Kd.R_far (p := ⟨gb247, 0, none⟩) (Kd.R_types HO241.out BK247.out (by decide)) (fun _ hk => hk.2) (.slice Ao101 t239.length co101)) (fun _ hk => hk.2) (.int .u8 t242)) (fun _ hk => hk.2) (.int .i64 t243)) (fun _ hk => hk.2) (.bool t244)) (fun _ hk => hk.2) (.bool t245)) (fun _ hk => hk.2) (.bool t246)) (fun _ h_ => h_.1))) hb); have n4_ := Aside0.mk (blk_below (g := gb212) (o := .cells #[.slice Ao98 x213000_3.length co98, .int .u8 t207, .int .i64 t208, .bool t209, .bool t210, .bool t211] 25 (0, 0)) (by (with_reducible repeat (first | refine blk_drewN ?_ _ | refine blk_drew ?_ | refine blk_alloc ?_ _)); refine blk_far ?_ NB212_247.out _; (with_reducible repeat (first | refine blk_drewN ?_ _ | refine blk_drew ?_ | refine blk_alloc ?_ _)); refine blk_far ?_ NB212_247.out _; (with_reducible repeat (first | refine blk_drewN ?_ _ | refine blk_drew ?_ | refine blk_alloc ?_ _)); refine blk_far ?_ NB212_247.out _; (with_reducible repeat (first | refine blk_drewN ?_ _ | refine blk_drew ?_ | refine blk_alloc ?_ _)); refine blk_far ?_ NB212_247.out _; (with_reducible repeat (first | refine blk_drewN ?_ _ | refine blk_drew ?_ | refine blk_alloc ?_ _)); refine blk_far ?_ NB212_247.out _; (with_reducible repeat (first | refine blk_drewN ?_ _ | refine blk_drew ?_ | refine blk_alloc ?_ _)); refine blk_far ?_ NB212_247.out _; (with_reducible repeat (first | refine blk_drewN ?_ _ | refine blk_drew ?_ | refine blk_alloc ?_ _)); exact BK212.out) hb); have n5_ := Aside0.mk (blk_below (g := gb221) (o := .cells #[.slice Ao108 x222000_3.length co108, .int .u8 t216, .int .i64 t217, .bool t218, .bool t219, .bool t220] 25 (0, 0)) (by (with_reducible repeat (first | refine blk_drewN ?_ _ | refine blk_drew ?_ | refine blk_alloc ?_ _)); refine blk_far ?_ NB221_247.out _; (with_reducible repeat (first | refine blk_drewN ?_ _ | refine blk_drew ?_ | refine blk_alloc ?_ _)); refine blk_far ?_ NB221_247.out _; (with_reducible repeat (first | refine blk_drewN ?_ _ | refine blk_drew ?_ | refine blk_alloc ?_ _)); refine blk_far ?_ NB221_247.out _; (with_reducible repeat (first | refine blk_drewN ?_ _ | refine blk_drew ?_ | refine blk_alloc ?_ _)); refine blk_far ?_ NB221_247.out _; (with_reducible repeat (first | refine blk_drewN ?_ _ | refine blk_drew ?_ | refine blk_alloc ?_ _)); refine blk_far ?_ NB221_247.out _; (with_reducible repeat (first | refine blk_drewN ?_ _ | refine blk_drew ?_ | refine blk_alloc ?_ _)); refine blk_far ?_ NB221_247.out _; (with_reducible repeat (first | refine blk_drewN ?_ _ | refine blk_drew ?_ | refine blk_alloc ?_ _)); exact BK221.out) hb); have n6_ := Aside0.mk (blk_below (g := gb231) (o := .cells #[u232000, .int .u8 t226, .int .i64 t227, .bool t228, .bool t229, .bool t230] 25 (0, 0)) (by (with_reducible repeat (first | refine blk_drewN ?_ _ | refine blk_drew ?_ | refine blk_alloc ?_ _)); refine blk_far ?_ NB231_247.out _; (with_reducible repeat (first | refine blk_drewN ?_ _ | refine blk_drew ?_ | refine blk_alloc ?_ _)); refine blk_far ?_ NB231_247.out _; (with_reducible repeat (first | refine blk_drewN ?_ _ | refine blk_drew ?_ | refine blk_alloc ?_ _)); refine blk_far ?_ NB231_247.out _; (with_reducible repeat (first | refine blk_drewN ?_ _ | refine blk_drew ?_ | refine blk_alloc ?_ _)); refine blk_far ?_ NB231_247.out _; (with_reducible repeat (first | refine blk_drewN ?_ _ | refine blk_drew ?_ | refine blk_alloc ?_ _)); refine blk_far ?_ NB231_247.out _; (with_reducible repeat (first | refine blk_drewN ?_ _ | refine blk_drew ?_ | refine blk_alloc ?_ _)); refine blk_far ?_ NB231_247.out _; (with_reducible repeat (first | refine blk_drewN ?_ _ | refine blk_drew ?_ | refine blk_alloc ?_ _)); exact BK231.out) hb); have n7_ := Aside0.mk (blk_below (g := gb247) (o := .cells #[.slice Ao101 t239.length co101, .int .u8 t242, .int .i64 t243, .bool t244, .bool t245, .bool t246] 25 (0, 0)) (by (with_reducible repeat (first | refine blk_drewN ?_ _ | refine blk_drew ?_ | refine blk_alloc ?_ _)); refine blk_put (cs := #[.slice Ao101 t239.length co101, .int .u8 t242, .int .i64 t243, .bool t244, .bool t245, .bool false]) ?_ 5 _ rfl; (with_reducible repeat (first | refine blk_drewN ?_ _ | refine blk_drew ?_ | refine blk_alloc ?_ _)); refine blk_put (cs := #[.slice Ao101 t239.length co101, .int .u8 t242, .int .i64 t243, .bool t244, .bool false, .bool false]) ?_ 4 _ rfl; (with_reducible repeat (first | refine blk_drewN ?_ _ | refine blk_drew ?_ | refine blk_alloc ?_ _)); refine blk_put (cs := #[.slice Ao101 t239.length co101, .int .u8 t242, .int .i64 t243, .bool false, .bool false, .bool false]) ?_ 3 _ rfl; (with_reducible repeat (first | refine blk_drewN ?_ _ | refine blk_drew ?_ | refine blk_alloc ?_ _)); refine blk_put (cs := #[.slice Ao101 t239.length co101, .int .u8 t242, .int .i64 0, .bool false, .bool false, .bool false]) ?_ 2 _ rfl; (with_reducible repeat (first | refine blk_drewN ?_ _ | refine blk_drew ?_ | refine blk_alloc ?_ _)); refine blk_put (cs := #[.slice Ao101 t239.length co101, .int .u8 0, .int .i64 0, .bool false, .bool false, .bool false]) ?_ 1 _ rfl; (with_reducible repeat (first | refine blk_drewN ?_ _ | refine blk_drew ?_ | refine blk_alloc ?_ _)); refine blk_put (cs := #[.slice none 0 0, .int .u8 0, .int .i64 0, .bool false, .bool false, .bool false]) ?_ 0 _ rfl; (with_reducible repeat (first | refine blk_drewN ?_ _ | refine blk_drew ?_ | refine blk_alloc ?_ _)); exact BK247.out) hb); have n8_ := Aside0.mk (below_step (by repeat (first | (with_reducible first | exact HB.out | apply below_alloc | apply pw_below_drewN | apply below_drew1 | refine below_set ?_ GE212.out | refine below_set ?_ GE221.out | refine below_set ?_ GE231.out | refine below_set ?_ GE247.out) | exact HB.out)) hb); clear HO_213000; clear HO_222000; clear HO_232000; clear HO241; clear BK212; clear BK221; clear BK231; clear BK247; clear HB; have HO_213000 := n0_; have HO_222000 := n1_; have HO_232000 := n2_; have HO241 := n3_; have BK212 := n4_; have BK221 := n5_; have BK231 := n6_; have BK247 := n7_; have HB := n8_; clear n0_ n1_ n2_ n3_ n4_ n5_ n6_ n7_ n8_; (try clear hb); (try clear hb2); (try clear hk); (try clear hi))); try go_wp2_with (first | (go_at_call 10; (with_reducible refine (pytoken_Scan.calls a0 a1 a2 0 t239 t242 t243 t244 t245 t246 _ A91.out).mono ?_); rintro e w99 ⟨v240, rfl, ho0, hb⟩; have n0_ := Aside0.mk (Kd.R_elder' (by (with_reducible repeat (first | apply Kd.R_alloc | apply Kd.R_drewN | apply Kd.R_drew)); exact HO_213000.out) (Kd.R_base ho0) hb); have n1_ := Aside0.mk (Kd.R_elder' (by (with_reducible repeat (first | apply Kd.R_alloc | apply Kd.R_drewN | apply Kd.R_drew)); exact HO_222000.out) (Kd.R_base ho0) hb); have n2_ := Aside0.mk (Kd.R_elder' (by (with_reducible repeat (first | apply Kd.R_alloc | apply Kd.R_drewN | apply Kd.R_drew)); exact HO_232000.out) (Kd.R_base ho0) hb); have n3_ := Aside0.mk (Kd.R_lower (Kd.R_new' (Kd.R_new' (Kd.R_new' ho0 (Kd.R_lt (by (with_reducible repeat (first | apply Kd.R_alloc | apply Kd.R_drewN | apply Kd.R_drew)); exact HO_213000.out))) (Kd.R_lt (by (with_reducible repeat (first | apply Kd.R_alloc | apply Kd.R_drewN | apply Kd.R_drew)); exact HO_222000.out))) (Kd.R_lt (by (with_reducible repeat (first | apply Kd.R_alloc | apply Kd.R_drewN | apply Kd.R_drew)); exact HO_232000.out))) (below_size (by repeat (first | (with_reducible first | exact HB.out | apply below_alloc | apply pw_below_drewN | apply below_drew1 | refine below_set ?_ GE212.out | refine below_set ?_ GE221.out | refine below_set ?_ GE231.out) | exact HB.out)))); have n4_ := Aside0.mk (blk_below (g := gb212) (o := .cells #[.slice Ao98 x213000_3.length co98, .int .u8 t207, .int .i64 t208, .bool t209, .bool t210, .bool t211] 25 (0, 0)) (by (with_reducible repeat (first | refine blk_drewN ?_ _ | refine blk_drew ?_ | refine blk_alloc ?_ _)); exact BK212.out) hb); have n5_ := Aside0.mk (blk_below (g := gb221) (o := .cells #[u222000, .int .u8 t216, .int .i64 t217, .bool t218, .bool t219, .bool t220] 25 (0, 0)) (by (with_reducible repeat (first | refine blk_drewN ?_ _ | refine blk_drew ?_ | refine blk_alloc ?_ _)); exact BK221.out) hb); have n6_ := Aside0.mk (blk_below (g := gb231) (o := .cells #[u232000, .int .u8 t226, .int .i64 t227, .bool t228, .bool t229, .bool t230] 25 (0, 0)) (by (with_reducible repeat (first | refine blk_drewN ?_ _ | refine blk_drew ?_ | refine blk_alloc ?_ _)); exact BK231.out) hb); have n7_ := Aside0.mk (below_step (by repeat (first | (with_reducible first | exact HB.out | apply below_alloc | apply pw_below_drewN | apply below_drew1 | refine below_set ?_ GE212.out | refine below_set ?_ GE221.out | refine below_set ?_ GE231.out) | exact HB.out)) hb); clear HO_213000; clear HO_222000; clear HO_232000; clear BK212; clear BK221; clear BK231; clear HB; have HO_213000 := n0_; have HO_222000 := n1_; have HO_232000 := n2_; have HO241 := n3_; have BK212 := n4_; have BK221 := n5_; have BK231 := n6_; have HB := n7_; clear n0_ n1_ n2_ n3_ n4_ n5_ n6_ n7_; (try clear hb); (try clear hb2); (try clear hk); (try clear hi); (try clear ho0)) | ((with_reducible refine gate_dst (N := 13) rfl ?_); refine box_event ?hg (N := 13) ?hd (cs := #[.slice none 0 0, .int .u8 0, .int .i64 0, .bool false, .bool false, .bool false]) (t := 25) ?hr ?_; (case hd => rfl); (case hg => rfl); (case hr => first | (go_simp; done) | (go_simp; rfl)); intro gb247 hg w100 hbox hb; have n0_ := Aside0.mk (Kd.R_below (by (with_reducible repeat (first | apply Kd.R_alloc | apply Kd.R_drewN | apply Kd.R_drew)); exact HO_213000.out) hb); have n1_ := Aside0.mk (Kd.R_below (by (with_reducible repeat (first | apply Kd.R_alloc | apply Kd.R_drewN | apply Kd.R_drew)); exact HO_222000.out) hb); have n2_ := Aside0.mk (Kd.R_below (by (with_reducible repeat (first | apply Kd.R_alloc | apply Kd.R_drewN | apply Kd.R_drew)); exact HO_232000.out) hb); have n3_ := Aside0.mk (Kd.R_below (by (with_reducible repeat (first | apply Kd.R_alloc | apply Kd.R_drewN | apply Kd.R_drew)); exact HO241.out) hb); have n4_ := Aside0.mk (blk_below (g := gb212) (o := .cells #[.slice Ao98 x213000_3.length co98, .int .u8 t207, .int .i64 t208, .bool t209, .bool t210, .bool t211] 25 (0, 0)) (by (with_reducible repeat (first | refine blk_drewN ?_ _ | refine blk_drew ?_ | refine blk_alloc ?_ _)); exact BK212.out) hb); have n5_ := Aside0.mk (blk_below (g := gb221) (o := .cells #[u222000, .int .u8 t216, .int .i64 t217, .bool t218, .bool t219, .bool t220] 25 (0, 0)) (by (with_reducible repeat (first | refine blk_drewN ?_ _ | refine blk_drew ?_ | refine blk_alloc ?_ _)); exact BK221.out) hb); have n6_ := Aside0.mk (blk_below (g := gb231) (o := .cells #[u232000, .int .u8 t226, .int .i64 t227, .bool t228, .bool t229, .bool t230] 25 (0, 0)) (by (with_reducible repeat (first | refine blk_drewN ?_ _ | refine blk_drew ?_ | refine blk_alloc ?_ _)); exact BK231.out) hb); have n7_ := Aside0.mk (below_step (by repeat (first | (with_reducible first | exact HB.out | apply below_alloc | apply pw_below_drewN | apply below_drew1 | refine below_set ?_ GE212.out | refine below_set ?_ GE221.out | refine below_set ?_ GE231.out) | exact HB.out)) hb); have n8_ := Aside0.mk (hbox); have n9_ := Aside0.mk ((by rw [hg]; exact (below_size (by repeat (first | (with_reducible first | exact HB.out | apply below_alloc | apply pw_below_drewN | apply below_drew1 | refine below_set ?_ GE212.out | refine below_set ?_ GE221.out | refine below_set ?_ GE231.out) | exact HB.out))) : w.heap.size ≤ gb247)); have n10_ := Aside0.mk ((by rw [hg]; exact (below_size (by repeat (first | (with_reducible first | exact HB.out | apply below_alloc | apply pw_below_drewN | apply below_drew1 | refine below_set ?_ GE212.out | refine below_set ?_ GE221.out | refine below_set ?_ GE231.out) | exact HB.out))) : w.heap.size ≤ gb247)); have n11_ := Aside0.mk ((by rw [hg]; exact Nat.ne_of_lt (blk_lt (g := gb212) (o := .cells #[.slice Ao98 x213000_3.length co98, .int .u8 t207, .int .i64 t208, .bool t209, .bool t210, .bool t211] 25 (0, 0)) (by (with_reducible repeat (first | refine blk_drewN ?_ _ | refine blk_drew ?_ | refine blk_alloc ?_ _)); exact BK212.out)) : gb212 ≠ gb247)); have n12_ := Aside0.mk ((by rw [hg]; exact Nat.ne_of_gt (blk_lt (g := gb212) (o := .cells #[.slice Ao98 x213000_3.length co98, .int .u8 t207, .int .i64 t208, .bool t209, .bool t210, .bool t211] 25 (0, 0)) (by (with_reducible repeat (first | refine blk_drewN ?_ _ | refine blk_drew ?_ | refine blk_alloc ?_ _)); exact BK212.out)) : gb247 ≠ gb212)); have n13_ := Aside0.mk ((by rw [hg]; exact Nat.ne_of_lt (blk_lt (g := gb221) (o := .cells #[u222000, .int .u8 t216, .int .i64 t217, .bool t218, .bool t219, .bool t220] 25 (0, 0)) (by (with_reducible repeat (first | refine blk_drewN ?_ _ | refine blk_drew ?_ | refine blk_alloc ?_ _)); exact BK221.out)) : gb221 ≠ gb247)); have n14_ := Aside0.mk ((by rw [hg]; exact Nat.ne_of_gt (blk_lt (g := gb221) (o := .cells #[u222000, .int .u8 t216, .int .i64 t217, .bool t218, .bool t219, .bool t220] 25 (0, 0)) (by (with_reducible repeat (first | refine blk_drewN ?_ _ | refine blk_drew ?_ | refine blk_alloc ?_ _)); exact BK221.out)) : gb247 ≠ gb221)); have n15_ := Aside0.mk ((by rw [hg]; exact Nat.ne_of_lt (blk_lt (g := gb231) (o := .cells #[u232000, .int .u8 t226, .int .i64 t227, .bool t228, .bool t229, .bool t230] 25 (0, 0)) (by (with_reducible repeat (first | refine blk_drewN ?_ _ | refine blk_drew ?_ | refine blk_alloc ?_ _)); exact BK231.out)) : gb231 ≠ gb247)); have n16_ := Aside0.mk ((by rw [hg]; exact Nat.ne_of_gt (blk_lt (g := gb231) (o := .cells #[u232000, .int .u8 t226, .int .i64 t227, .bool t228, .bool t229, .bool t230] 25 (0, 0)) (by (with_reducible repeat (first | refine blk_drewN ?_ _ | refine blk_drew ?_ | refine blk_alloc ?_ _)); exact BK231.out)) : gb247 ≠ gb231)); clear HO_213000; clear HO_222000; clear HO_232000; clear HO241; clear BK212; clear BK221; clear BK231; clear HB; have HO_213000 := n0_; have HO_222000 := n1_; have HO_232000 := n2_; have HO241 := n3_; have BK212 := n4_; have BK221 := n5_; have BK231 := n6_; have HB := n7_; have BK247 := n8_; have GW247 := n9_; have GE247 := n10_; have NB212_247 := n11_; have NB247_212 := n12_; have NB221_247 := n13_; have NB247_221 := n14_; have NB231_247 := n15_; have NB247_231 := n16_; clear n0_ n1_ n2_ n3_ n4_ n5_ n6_ n7_ n8_ n9_ n10_ n11_ n12_ n13_ n14_ n15_ n16_; clear hb hbox hg; obtain ⟨Ao101, co101, eo101⟩ := Kd.R_slice HO241.out; subst eo101; have hnb102 := NB247_212.out; have hnc102 := NB212_247.out; have hnb103 := NB247_221.out; have hnc103 := NB221_247.out; have hnb104 := NB247_231.out; have hnc104 := NB231_247.out; have hcz105_0 : w100.cell? ⟨gb247, 0, none⟩ = some (.slice none 0 0) := (blk_cell BK247.out 0).trans rfl; have hcz105_1 : w100.cell? ⟨gb247, 1, none⟩ = some (.int .u8 0) := (blk_cell BK247.out 1).trans rfl; have hcz105_2 : w100.cell? ⟨gb247, 2, none⟩ = some (.int .i64 0) := (blk_cell BK247.out 2).trans rfl; have hcz105_3 : w100.cell? ⟨gb247, 3, none⟩ = some (.bool false) := (blk_cell BK247.out 3).trans rfl; have hcz105_4 : w100.cell? ⟨gb247, 4, none⟩ = some (.bool false) := (blk_cell BK247.out 4).trans rfl; have hcz105_5 : w100.cell? ⟨gb247, 5, none⟩ = some (.bool false) := (blk_cell BK247.out 5).trans rfl; have hfz105_0 := blk_frozen BK247.out 0; have hfz105_1 := blk_frozen BK247.out 1; have hfz105_2 := blk_frozen BK247.out 2; have hfz105_3 := blk_frozen BK247.out 3; have hfz105_4 := blk_frozen BK247.out 4; have hfz105_5 := blk_frozen BK247.out 5; have hnb106 := NB221_231.out; have hnc106 := NB231_221.out; have hcz107_0 : w100.cell? ⟨gb221, 0, none⟩ = some (u222000) := (blk_cell BK221.out 0).trans rfl; have hcz107_1 : w100.cell? ⟨gb221, 1, none⟩ = some (.int .u8 t216) := (blk_cell BK221.out 1).trans rfl; have hcz107_2 : w100.cell? ⟨gb221, 2, none⟩ = some (.int .i64 t217) := (blk_cell BK221.out 2).trans rfl; have hcz107_3 : w100.cell? ⟨gb221, 3, none⟩ = some (.bool t218) := (blk_cell BK221.out 3).trans rfl; have hcz107_4 : w100.cell? ⟨gb221, 4, none⟩ = some (.bool t219) := (blk_cell BK221.out 4).trans rfl; have hcz107_5 : w100.cell? ⟨gb221, 5, none⟩ = some (.bool t220) := (blk_cell BK221.out 5).trans rfl; have hfz107_0 := blk_frozen BK221.out 0; have hfz107_1 := blk_frozen BK221.out 1; have hfz107_2 := blk_frozen BK221.out 2; have hfz107_3 := blk_frozen BK221.out 3; have hfz107_4 := blk_frozen BK221.out 4; have hfz107_5 := blk_frozen BK221.out 5; obtain ⟨Ao108, co108, eo108⟩ := Kd.R_slice HO_222000.out; subst eo108) | (go_at_call 15; (with_reducible refine (indentureref11_SameEvents.calls k3 _ _ x222000_3 _ _ t239 true _ ?side1 ?side2 ?side3 ?side4 A92.out).mono ?_); (case side1 => refine (Kd.R_reads' (e := 33) (base := w.heap.size) (ok := fun k_ => ((some k_ ≠ (.slice Ao98 x213000_3.length co98 : Value).ownBlock ∧ some k_ ≠ (u232000 : Value).ownBlock) ∧ some k_ ≠ (.slice Ao101 t239.length co101 : Value).ownBlock)) (n := x222000_3.length) (c := co108) ?_).2.2; exact (by (with_reducible repeat (first | apply Kd.R_alloc | apply Kd.R_drewN | apply Kd.R_drew)); exact (Kd.R_mono (Kd.R_far (p := ⟨gb247, 5, none⟩) (Kd.R_far (p := ⟨gb247, 4, none⟩) (Kd.R_far (p := ⟨gb247, 3, none⟩) (Kd.R_far (p := ⟨gb247, 2, none⟩) (Kd.R_far (p := ⟨gb247, 1, none⟩) (Kd.R_far (p := ⟨gb247, 0, none⟩) (Kd.R_types HO_222000.out BK247.out (by decide)) (fun _ hk => hk.2) (.slice Ao101 t239.length co101)) (fun _ hk => hk.2) (.int .u8 t242)) (fun _ hk => hk.2) (.int .i64 t243)) (fun _ hk => hk.2) (.bool t244)) (fun _ hk => hk.2) (.bool t245)) (fun _ hk => hk.2) (.bool t246)) (fun _ h_ => h_.1)))); (case side2 => exact (Kd.R_reads' HO_222000.out).2.1); (case side3 => refine (Kd.R_reads' (e := 33) (base := w.heap.size) (ok := fun k_ => (((True ∧ some k_ ≠ (.slice Ao98 x213000_3.length co98 : Value).ownBlock) ∧ some k_ ≠ (.slice Ao108 x222000_3.length co108 : Value).ownBlock) ∧ some k_ ≠ (u232000 : Value).ownBlock)) (n := t239.length) (c := co101) ?_).2.2; exact (by (with_reducible repeat (first | apply Kd.R_alloc | apply Kd.R_drewN | apply Kd.R_drew)); exact (Kd.R_mono (Kd.R_far (p := ⟨gb247, 5, none⟩) (Kd.R_far (p := ⟨gb247, 4, none⟩) (Kd.R_far (p := ⟨gb247, 3, none⟩) (Kd.R_far (p := ⟨gb247, 2, none⟩) (Kd.R_far (p := ⟨gb247, 1, none⟩) (Kd.R_far (p := ⟨gb247, 0, none⟩) (Kd.R_types HO241.out BK247.out (by decide)) (fun _ hk => hk.2) (.slice Ao101 t239.length co101)) (fun _ hk => hk.2) (.int .u8 t242)) (fun _ hk => hk.2) (.int .i64 t243)) (fun _ hk => hk.2) (.bool t244)) (fun _ hk => hk.2) (.bool t245)) (fun _ hk => hk.2) (.bool t246)) (fun _ h_ => h_.1)))); (case side4 => exact (Kd.R_reads' HO241.out).2.1); rintro e w' ⟨rfl, ⟨nd, rfl⟩⟩; (try first | exact ⟨rfl, _, World.drewN_drewN _ _ _⟩ | exact ⟨rfl, _, Eq.trans (World.drewN_drewN _ _ _) (congrArg (World.drewN _) (Nat.add_assoc _ _ _))⟩)) | (go_at_call 12; (with_reducible refine (indenturelaw11_reads.calls  t249 _ A94.out).mono ?_); rintro e w109 ⟨rfl, hb⟩; have n0_ := Aside0.mk (Kd.R_below (by (with_reducible repeat (first | apply Kd.R_alloc | apply Kd.R_drewN | apply Kd.R_drew)); exact (Kd.R_mono (Kd.R_far (p := ⟨gb247, 5, none⟩) (Kd.R_far (p := ⟨gb247, 4, none⟩) (Kd.R_far (p := ⟨gb247, 3, none⟩) (Kd.R_far (p := ⟨gb247, 2, none⟩) (Kd.R_far (p := ⟨gb247, 1, none⟩) (Kd.R_far (p := ⟨gb247, 0, none⟩) (Kd.R_types HO_213000.out BK247.out (by decide)) (fun _ hk => hk.2) (.slice Ao101 t239.length co101)) (fun _ hk => hk.2) (.int .u8 t242)) (fun _ hk => hk.2) (.int .i64 t243)) (fun _ hk => hk.2) (.bool t244)) (fun _ hk => hk.2) (.bool t245)) (fun _ hk => hk.2) (.bool t246)) (fun _ h_ => h_.1))) hb); have n1_ := Aside0.mk (Kd.R_below (by (with_reducible repeat (first | apply Kd.R_alloc | apply Kd.R_drewN | apply Kd.R_drew)); exact (Kd.R_mono (Kd.R_far (p := ⟨gb247, 5, none⟩) (Kd.R_far (p := ⟨gb247, 4, none⟩) (Kd.R_far (p := ⟨gb247, 3, none⟩) (Kd.R_far (p := ⟨gb247, 2, none⟩) (Kd.R_far (p := ⟨gb247, 1, none⟩) (Kd.R_far (p := ⟨gb247, 0, none⟩) (Kd.R_types HO_222000.out BK247.out (by decide)) (fun _ hk => hk.2) (.slice Ao101 t239.length co101)) (fun _ hk => hk.2) (.int .u8 t242)) (fun _ hk => hk.2) (.int .i64 t243)) (fun _ hk => hk.2) (.bool t244)) (fun _ hk => hk.2) (.bool t245)) (fun _ hk => hk.2) (.bool t246)) (fun _ h_ => h_.1))) hb); have n2_ := Aside0.mk (Kd.R_below (by (with_reducible repeat (first | apply Kd.R_alloc | apply Kd.R_drewN | apply Kd.R_drew)); exact (Kd.R_mono (Kd.R_far (p := ⟨gb247, 5, none⟩) (Kd.R_far (p := ⟨gb247, 4, none⟩) (Kd.R_far (p := ⟨gb247, 3, none⟩) (Kd.R_far (p := ⟨gb247, 2, none⟩) (Kd.R_far (p := ⟨gb247, 1, none⟩) (Kd.R_far (p := ⟨gb247, 0, none⟩) (Kd.R_types HO_232000.out BK247.out (by decide)) (fun _ hk => hk.2) (.slice Ao101 t239.length co101)) (fun _ hk => hk.2) (.int .u8 t242)) (fun _ hk => hk.2) (.int .i64 t243)) (fun _ hk => hk.2) (.bool t244)) (fun _ hk => hk.2) (.bool t245)) (fun _ hk => hk.2) (.bool t246)) (fun _ h_ => h_.1))) hb); have n3_ := Aside0.mk (Kd.R_below (by (with_reducible repeat (first | apply Kd.R_alloc | apply Kd.R_drewN | apply Kd.R_drew)); exact (Kd.R_mono (Kd.R_far (p := ⟨gb247, 5, none⟩) (Kd.R_far (p := ⟨gb247, 4, none⟩) (Kd.R_far (p := ⟨gb247, 3, none⟩) (Kd.R_far (p := ⟨gb247, 2, none⟩) (Kd.R_far (p := ⟨gb247, 1, none⟩) (Kd.R_far (p := ⟨gb247, 0, none⟩) (Kd.R_types HO241.out BK247.out (by decide)) (fun _ hk => hk.2) (.slice Ao101 t239.length co101)) (fun _ hk => hk.2) (.int .u8 t242)) (fun _ hk => hk.2) (.int .i64 t243)) (fun _ hk => hk.2) (.bool t244)) (fun _ hk => hk.2) (.bool t245)) (fun _ hk => hk.2) (.bool t246)) (fun _ h_ => h_.1))) hb); have n4_ := Aside0.mk (blk_below (g := gb212) (o := .cells #[.slice Ao98 x213000_3.length co98, .int .u8 t207, .int .i64 t208, .bool t209, .bool t210, .bool t211] 25 (0, 0)) (by (with_reducible repeat (first | refine blk_drewN ?_ _ | refine blk_drew ?_ | refine blk_alloc ?_ _)); refine blk_far ?_ NB212_247.out _; (with_reducible repeat (first | refine blk_drewN ?_ _ | refine blk_drew ?_ | refine blk_alloc ?_ _)); refine blk_far ?_ NB212_247.out _; (with_reducible repeat (first | refine blk_drewN ?_ _ | refine blk_drew ?_ | refine blk_alloc ?_ _)); refine blk_far ?_ NB212_247.out _; (with_reducible repeat (first | refine blk_drewN ?_ _ | refine blk_drew ?_ | refine blk_alloc ?_ _)); refine blk_far ?_ NB212_247.out _; (with_reducible repeat (first | refine blk_drewN ?_ _ | refine blk_drew ?_ | refine blk_alloc ?_ _)); refine blk_far ?_ NB212_247.out _; (with_reducible repeat (first | refine blk_drewN ?_ _ | refine blk_drew ?_ | refine blk_alloc ?_ _)); refine blk_far ?_ NB212_247.out _; (with_reducible repeat (first | refine blk_drewN ?_ _ | refine blk_drew ?_ | refine blk_alloc ?_ _)); exact BK212.out) hb); have n5_ := Aside0.mk (blk_below (g := gb221) (o := .cells #[.slice Ao108 x222000_3.length co108, .int .u8 t216, .int .i64 t217, .bool t218, .bool t219, .bool t220] 25 (0, 0)) (by (with_reducible repeat (first | refine blk_drewN ?_ _ | refine blk_drew ?_ | refine blk_alloc ?_ _)); refine blk_far ?_ NB221_247.out _; (with_reducible repeat (first | refine blk_drewN ?_ _ | refine blk_drew ?_ | refine blk_alloc ?_ _)); refine blk_far ?_ NB221_247.out _; (with_reducible repeat (first | refine blk_drewN ?_ _ | refine blk_drew ?_ | refine blk_alloc ?_ _)); refine blk_far ?_ NB221_247.out _; (with_reducible repeat (first | refine blk_drewN ?_ _ | refine blk_drew ?_ | refine blk_alloc ?_ _)); refine blk_far ?_ NB221_247.out _; (with_reducible repeat (first | refine blk_drewN ?_ _ | refine blk_drew ?_ | refine blk_alloc ?_ _)); refine blk_far ?_ NB221_247.out _; (with_reducible repeat (first | refine blk_drewN ?_ _ | refine blk_drew ?_ | refine blk_alloc ?_ _)); refine blk_far ?_ NB221_247.out _; (with_reducible repeat (first | refine blk_drewN ?_ _ | refine blk_drew ?_ | refine blk_alloc ?_ _)); exact BK221.out) hb); have n6_ := Aside0.mk (blk_below (g := gb231) (o := .cells #[u232000, .int .u8 t226, .int .i64 t227, .bool t228, .bool t229, .bool t230] 25 (0, 0)) (by (with_reducible repeat (first | refine blk_drewN ?_ _ | refine blk_drew ?_ | refine blk_alloc ?_ _)); refine blk_far ?_ NB231_247.out _; (with_reducible repeat (first | refine blk_drewN ?_ _ | refine blk_drew ?_ | refine blk_alloc ?_ _)); refine blk_far ?_ NB231_247.out _; (with_reducible repeat (first | refine blk_drewN ?_ _ | refine blk_drew ?_ | refine blk_alloc ?_ _)); refine blk_far ?_ NB231_247.out _; (with_reducible repeat (first | refine blk_drewN ?_ _ | refine blk_drew ?_ | refine blk_alloc ?_ _)); refine blk_far ?_ NB231_247.out _; (with_reducible repeat (first | refine blk_drewN ?_ _ | refine blk_drew ?_ | refine blk_alloc ?_ _)); refine blk_far ?_ NB231_247.out _; (with_reducible repeat (first | refine blk_drewN ?_ _ | refine blk_drew ?_ | refine blk_alloc ?_ _)); refine blk_far ?_ NB231_247.out _; (with_reducible repeat (first | refine blk_drewN ?_ _ | refine blk_drew ?_ | refine blk_alloc ?_ _)); exact BK231.out) hb); have n7_ := Aside0.mk (blk_below (g := gb247) (o := .cells #[.slice Ao101 t239.length co101, .int .u8 t242, .int .i64 t243, .bool t244, .bool t245, .bool t246] 25 (0, 0)) (by (with_reducible repeat (first | refine blk_drewN ?_ _ | refine blk_drew ?_ | refine blk_alloc ?_ _)); refine blk_put (cs := #[.slice Ao101 t239.length co101, .int .u8 t242, .int .i64 t243, .bool t244, .bool t245, .bool false]) ?_ 5 _ rfl; (with_reducible repeat (first | refine blk_drewN ?_ _ | refine blk_drew ?_ | refine blk_alloc ?_ _)); refine blk_put (cs := #[.slice Ao101 t239.length co101, .int .u8 t242, .int .i64 t243, .bool t244, .bool false, .bool false]) ?_ 4 _ rfl; (with_reducible repeat (first | refine blk_drewN ?_ _ | refine blk_drew ?_ | refine blk_alloc ?_ _)); refine blk_put (cs := #[.slice Ao101 t239.length co101, .int .u8 t242, .int .i64 t243, .bool false, .bool false, .bool false]) ?_ 3 _ rfl; (with_reducible repeat (first | refine blk_drewN ?_ _ | refine blk_drew ?_ | refine blk_alloc ?_ _)); refine blk_put (cs := #[.slice Ao101 t239.length co101, .int .u8 t242, .int .i64 0, .bool false, .bool false, .bool false]) ?_ 2 _ rfl; (with_reducible repeat (first | refine blk_drewN ?_ _ | refine blk_drew ?_ | refine blk_alloc ?_ _)); refine blk_put (cs := #[.slice Ao101 t239.length co101, .int .u8 0, .int .i64 0, .bool false, .bool false, .bool false]) ?_ 1 _ rfl; (with_reducible repeat (first | refine blk_drewN ?_ _ | refine blk_drew ?_ | refine blk_alloc ?_ _)); refine blk_put (cs := #[.slice none 0 0, .int .u8 0, .int .i64 0, .bool false, .bool false, .bool false]) ?_ 0 _ rfl; (with_reducible repeat (first | refine blk_drewN ?_ _ | refine blk_drew ?_ | refine blk_alloc ?_ _)); exact BK247.out) hb); have n8_ := Aside0.mk (below_step (by repeat (first | (with_reducible first | exact HB.out | apply below_alloc | apply pw_below_drewN | apply below_drew1 | refine below_set ?_ GE212.out | refine below_set ?_ GE221.out | refine below_set ?_ GE231.out | refine below_set ?_ GE247.out) | exact HB.out)) hb); clear HO_213000; clear HO_222000; clear HO_232000; clear HO241; clear BK212; clear BK221; clear BK231; clear BK247; clear HB; have HO_213000 := n0_; have HO_222000 := n1_; have HO_232000 := n2_; have HO241 := n3_; have BK212 := n4_; have BK221 := n5_; have BK231 := n6_; have BK247 := n7_; have HB := n8_; clear n0_ n1_ n2_ n3_ n4_ n5_ n6_ n7_ n8_; (try clear hb); (try clear hb2); (try clear hk); (try clear hi))))
                            go_ret
                            exact ⟨by first | rfl | (simp [errW_none, errW_some] <;> rfl) | (simp only [← hji8, ← hji9]; first | rfl | (simp [errW_none, errW_some] <;> rfl)) | (simp [*, errW_none, errW_some] <;> rfl), by repeat (first | (with_reducible first | exact HB.out | apply below_alloc | apply pw_below_drewN | apply below_drew1 | refine below_set ?_ GE212.out | refine below_set ?_ GE221.out | refine below_set ?_ GE231.out | refine below_set ?_ GE247.out) | exact HB.out)⟩
                          · replace c93 := Bool.eq_false_iff.mpr c93
                            subst c93
                            have H1 : (some false) = some r := by rw [if_neg (show ¬ (false = true) by decide)] at H; exact H
                            clear H
                            have H := H1
                            clear H1
                            exact absurd (H.trans (congrArg some hrt.out)) (by decide)
      · rw [if_neg c11] at H
        exact absurd H (by simp)
    · rw [if_neg c10] at H
      exact absurd H (by simp)

/-- THE ONE PURE STATEMENT of indenturelaw11_PytokenOwn: yours. -/
def indenturelaw11_PytokenOwn.Pure : Prop := ∀ (a0 : ByteArray) (a1 : Int) (a2 : Int), a0.size ≤ 140737488351232 → (Lit.int .i64 a1).wf = true → (Lit.int .u8 a2).wf = true → ∃ k, indenturelaw11_PytokenOwn.f k a0 a1 a2 = some true
theorem indenturelaw11_PytokenOwn.walk (P : indenturelaw11_PytokenOwn.Pure) (a0 : ByteArray) (a1 : Int) (a2 : Int) (w : World) (w0 : a0.size ≤ 140737488351232) (w1 : (Lit.int .i64 a1).wf = true) (w2 : (Lit.int .u8 a2).wf = true) :
    Calls Try.prog 7 #[.string a0, .int .i64 a1, .int .u8 a2] w fun e w' => e = .returned (.bool true) ∧ Below w.heap.size w w' := by
  obtain ⟨k, h⟩ := P a0 a1 a2 w0 w1 w2
  refine (indenturelaw11_PytokenOwn.calls k a0 a1 a2 true w h ⟨rfl⟩).mono ?_
  rintro e w' ⟨rfl, hd⟩
  exact ⟨rfl, hd⟩

end Go.Proofs.Ytdknppomjcpihaa.PPy
