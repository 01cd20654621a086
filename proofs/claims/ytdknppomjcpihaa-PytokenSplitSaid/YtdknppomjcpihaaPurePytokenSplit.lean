/- PytokenSplit: what stands behind a blank is read by itself: the printed law answers true for every two lines and every depth. -/
import Derived.Test.YtdknppomjcpihaaPPyx5
import Derived.Test.YtdknppomjcpihaaPureH
import Derived.Test.YtdknppomjcpihaaPureI
namespace Go.Proofs.Ytdknppomjcpihaa.Pure
open Go.RowKit Go.Proofs.Ytdknppomjcpihaa.PPy Go.Proofs.YtdknppomjcpihaaW.PrintWords Go.Proofs.YtdknppomjcpihaaW.PrintLast

section
variable (a b : ByteArray) (d : Int) (x y z : Rd) (hh : a.size ≤ 2000 ∧ b.size ≤ 2000 ∧ scanM (a ++ ⟨#[32]⟩) 0 0 d = x ∧ scanM b 0 0 x.depth = y ∧ scanM ((a ++ ⟨#[32]⟩) ++ b) 0 0 d = z ∧ x.ev.length ≤ 100000 ∧ y.ev.length ≤ 100000 ∧ ∀ e ∈ y.ev, 0 ≤ e.f2 ∧ e.f2 < e.f3 ∧ e.f3 ≤ 1000000)
include hh

theorem split_l2 (hm : z.ev = x.ev ++ y.ev.map (shE ((a.size : Int) + 1)) ∧ z.mark = y.mark ∧ z.depth = y.depth ∧ z.join = y.join ∧ z.any = (x.any || y.any) ∧ z.colon = if y.any = true then y.colon else x.colon) :
    ∀ (n i : Nat), i + n = y.ev.length → ∃ k, indenturelaw11_PytokenSplit.l2 k a (x.ev ++ (y.ev.take i).map (shE ((a.size : Int) + 1))) (i : Int) x.ev x.mark x.depth x.join x.any x.colon y.ev y.mark y.depth y.join y.any y.colon z.ev z.mark z.depth z.join z.any z.colon = some true := by
  have hh' := hh
  obtain ⟨ha, hb, hx, hy, hz, lx, ly, my⟩ := hh
  intro n
  induction n with
  | zero =>
    intro i hi
    obtain ⟨m1, m2, m3, m4, m5, m6⟩ := hm
    obtain ⟨k, hk⟩ := same_is z.ev (by rw [m1, List.length_append, List.length_map]; omega)
    refine ⟨k + 1, ?_⟩
    simp only [indenturelaw11_PytokenSplit.l2]
    rw [List.take_of_length_le (by omega), ← m1, if_neg (by omega), hk, m2, m3, m4, m5, m6, reads_true]
    cases y.any <;> cases x.any <;> simp
  | succ n ih =>
    intro i hi
    obtain ⟨k, hk⟩ := ih (i + 1) (by omega)
    refine ⟨k + 1, ?_⟩
    have hmem := my _ (rd_mem y.ev i (by omega))
    have hge : y.ev[i]? = some (rd_T33 y.ev (i : Int)) := by
      unfold rd_T33
      rw [Int.toNat_natCast, List.getD_eq_getElem?_getD, List.getElem?_eq_getElem (by omega)]; rfl
    have ht : y.ev.take (i + 1) = y.ev.take i ++ [rd_T33 y.ev (i : Int)] := by
      rw [List.take_add_one, hge]; rfl
    rw [ht, List.map_append, ← List.append_assoc] at hk
    simp only [indenturelaw11_PytokenSplit.l2]
    rw [if_pos (by omega), if_pos (by omega), if_pos (by rw [List.length_append, List.length_map, List.length_take]; omega), show wrap64 ((i : Int) + 1) = ((i + 1 : Nat) : Int) from by rw [w64 _ (by omega)]; omega]
    generalize rd_T33 y.ev (i : Int) = e at hk hmem
    obtain ⟨f0, f1, f2, f3⟩ := e
    simp only at hmem
    simp only [List.map_cons, List.map_nil, shE] at hk
    rw [w64 (f2 + (a.size : Int)) (by omega), w64 (f3 + (a.size : Int)) (by omega), w64 (f2 + (a.size : Int) + 1) (by omega), w64 (f3 + (a.size : Int) + 1) (by omega), Int.add_assoc, Int.add_assoc]
    exact hk
theorem split_l1 (hnl : ∀ i : Nat, i < a.size → bt a (i : Int) ≠ 10) : ∀ (n i : Nat), i + n = x.ev.length → (∀ j : Nat, j < i → good (rd_T33 x.ev (j : Int)).f1) → ∃ k, indenturelaw11_PytokenSplit.l1 k a b d (i : Int) x.ev x.mark x.depth x.join x.any x.colon = some true := by
  have hh' := hh
  obtain ⟨ha, hb, hx, hy, hz, lx, ly, my⟩ := hh
  have ez : (a ++ ⟨#[32]⟩ : ByteArray).size = a.size + 1 := by rw [size_app]; rfl
  intro n
  induction n with
  | zero =>
    intro i hi hg
    have hgood : ∀ e ∈ x.ev, good e.f1 := by
      intro e he
      obtain ⟨j, hj, e2⟩ := List.getElem_of_mem he
      have := hg j (by omega)
      have e3 : rd_T33 x.ev (j : Int) = e := by
        unfold rd_T33
        rw [Int.toNat_natCast, List.getD_eq_getElem?_getD, List.getElem?_eq_getElem hj]; exact e2
      rwa [e3] at this
    obtain ⟨k, hk⟩ := split_l2 a b d x y z hh' (split_main a b d ha hb hnl x y z hx hy hz hgood) y.ev.length 0 (by omega)
    refine ⟨k + 1, ?_⟩
    simp only [indenturelaw11_PytokenSplit.l1]
    rw [if_neg (by omega), pytoken_Scan.is b 0 0 x.depth (by omega) (by omega) (by omega) y hy]
    simp only [Option.bind_some]
    rw [if_pos (by omega), if_pos (by rw [ez]; omega), pytoken_Scan.is _ 0 0 d (by rw [size_app, ez]; omega) (by omega) (by omega) z hz]
    simp only [Option.bind_some, List.nil_append, List.length_nil]
    rw [if_pos (by omega)]
    simpa using hk
  | succ n ih =>
    intro i hi hg
    have hnext : good (rd_T33 x.ev (i : Int)).f1 → ∃ k, indenturelaw11_PytokenSplit.l1 k a b d (wrap64 ((i : Int) + 1)) x.ev x.mark x.depth x.join x.any x.colon = some true := by
      intro h
      rw [show wrap64 ((i : Int) + 1) = ((i + 1 : Nat) : Int) from by rw [w64 _ (by omega)]; omega]
      refine ih (i + 1) (by omega) (fun j hj => ?_)
      by_cases hji : j = i
      · rw [hji]; exact h
      · exact hg j (by omega)
    by_cases h : good (rd_T33 x.ev (i : Int)).f1
    · obtain ⟨k, hk⟩ := hnext h
      refine ⟨k + 1, ?_⟩
      simp only [indenturelaw11_PytokenSplit.l1]
      rw [if_pos (by omega), if_pos (by omega)]
      rcases h with h | h | h | h <;> rw [h] <;> simp [hk]
    · refine ⟨1, ?_⟩
      simp only [indenturelaw11_PytokenSplit.l1]
      unfold good at h
      rw [if_pos (by omega), if_pos (by omega), if_neg (fun e => h (.inl e)), if_neg (fun e => h (.inr (.inl e))), if_neg (fun e => h (.inr (.inr (.inl e)))), if_neg (fun e => h (.inr (.inr (.inr e)))), reads_true]
      rfl
theorem split_l0 : ∀ (n i : Nat), i + n = a.size → (∀ j : Nat, j < i → bt a (j : Int) ≠ 10) → ∃ k, indenturelaw11_PytokenSplit.l0 k a b d (i : Int) = some true := by
  have hh' := hh
  obtain ⟨ha, hb, hx, hy, hz, lx, ly, my⟩ := hh
  have ez : (a ++ ⟨#[32]⟩ : ByteArray).size = a.size + 1 := by rw [size_app]; rfl
  intro n
  induction n with
  | zero =>
    intro i hi hg
    obtain ⟨k, hk⟩ := split_l1 a b d x y z hh' (fun j hj => hg j (by omega)) x.ev.length 0 (by omega) (fun j hj => by omega)
    refine ⟨k + 1, ?_⟩
    simp only [indenturelaw11_PytokenSplit.l0]
    rw [if_neg (by omega), if_pos (by omega), pytoken_Scan.is _ 0 0 d (by rw [ez]; omega) (by omega) (by omega) x hx]
    exact hk
  | succ n ih =>
    intro i hi hg
    by_cases h : bt a (i : Int) = 10
    · refine ⟨1, ?_⟩
      simp only [indenturelaw11_PytokenSplit.l0]
      rw [if_pos (by omega), if_pos (by omega), if_pos h, reads_true]
      rfl
    · obtain ⟨k, hk⟩ := ih (i + 1) (by omega) (fun j hj => by
        by_cases hji : j = i
        · rw [hji]; exact h
        · exact hg j (by omega))
      refine ⟨k + 1, ?_⟩
      simp only [indenturelaw11_PytokenSplit.l0]
      rw [if_pos (by omega), if_pos (by omega), if_neg h, show wrap64 ((i : Int) + 1) = ((i + 1 : Nat) : Int) from by rw [w64 _ (by omega)]; omega]
      exact hk
end

theorem PytokenSplit : indenturelaw11_PytokenSplit.Pure := by
  intro a b d _ _ _
  unfold indenturelaw11_PytokenSplit.f
  by_cases h1 : (a.size : Int) > 2000
  · exact ⟨1, by rw [if_pos h1]; simp only [indenturelaw11_PytokenSplit.j0]; rw [if_pos trivial]⟩
  · by_cases h2 : (b.size : Int) > 2000
    · exact ⟨1, by rw [if_neg h1, decide_eq_true h2]; simp only [indenturelaw11_PytokenSplit.j0]; rw [if_pos trivial]⟩
    · obtain ⟨x, hx⟩ : ∃ x, scanM (a ++ ⟨#[32]⟩) 0 0 d = x := ⟨_, rfl⟩
      obtain ⟨y, hy⟩ : ∃ y, scanM b 0 0 x.depth = y := ⟨_, rfl⟩
      obtain ⟨z, hz⟩ : ∃ z, scanM ((a ++ ⟨#[32]⟩) ++ b) 0 0 d = z := ⟨_, rfl⟩
      have ez : (a ++ ⟨#[32]⟩ : ByteArray).size = a.size + 1 := by rw [size_app]; rfl
      have cx := (covers _ 0 d (by rw [ez]; omega) (by omega) x hx).1
      have cy := (covers b 0 x.depth (by omega) (by omega) y hy).1
      have ex := endOf_bd (a ++ ⟨#[32]⟩)
      have ey := endOf_bd b
      have lx := CovF.len cx
      have ly := CovF.len cy
      have hlb := lineOf_size b
      have my := CovF.mem cy (Int.le_refl 0)
      obtain ⟨k, hk⟩ := split_l0 a b d x y z ⟨by omega, by omega, hx, hy, hz, by omega, by omega, fun e he => by have := my e he; omega⟩ a.size 0 (by omega) (fun j hj => by omega)
      refine ⟨k + 1, ?_⟩
      rw [if_neg h1, decide_eq_false h2]
      simp only [indenturelaw11_PytokenSplit.j0]
      rw [if_neg (by decide)]
      exact hk

end Go.Proofs.Ytdknppomjcpihaa.Pure
