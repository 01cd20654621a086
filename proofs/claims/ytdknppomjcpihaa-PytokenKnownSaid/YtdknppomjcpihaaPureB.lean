/- What the document's helpers compute, as the model says it: operator, End. No Go in it. -/
import Derived.Test.YtdknppomjcpihaaPureA
namespace Go.Proofs.Ytdknppomjcpihaa.PPy
open Go.RowKit Go.Proofs.YtdknppomjcpihaaW.PrintWords Go.Proofs.YtdknppomjcpihaaW.PrintLast Go.Proofs.YtdknppomjcpihaaW.PrintMore

theorem bytes_ext {a b : ByteArray} (h : a.toList = b.toList) : a = b := by
  rw [ByteArray.toList_eq, ByteArray.toList_eq] at h
  exact ByteArray.ext (Array.toList_inj.mp h)
theorem one_list (s : ByteArray) (i : Nat) (h : i < s.size) : (s.extract i (i + 1)).toList = [s[i]'h] := by
  rw [ByteArray.toList_eq, ByteArray.data_extract, Array.toList_extract]
  have hl : i < s.data.toList.length := by simpa using h
  rw [List.extract_eq_take_drop, List.drop_eq_getElem_cons hl]
  simp
  rfl
theorem one_list_bt (s : ByteArray) (i : Nat) (h : i < s.size) (c : UInt8) : (s.extract i (i + 1)).toList = [c] ↔ bt s (i : Int) = (c.toNat : Int) := by
  rw [one_list s i h]
  unfold bt
  rw [dif_pos (show (i : Int).toNat < s.size by simpa using h)]
  constructor
  · intro e
    have : s[i]'h = c := by simpa using e
    simp [this]
  · intro e
    have e' : ((s[i]'h).toNat : Int) = (c.toNat : Int) := by simpa using e
    have : (s[i]'h).toNat = c.toNat := by omega
    have := UInt8.toNat_inj.mp this
    simp [this]
theorem hp_one (q : ByteArray) (c : UInt8) (h : 1 ≤ q.size) : hp q ⟨#[c]⟩ = true ↔ bt q 0 = (c.toNat : Int) := by
  have l1 : (⟨#[c]⟩ : ByteArray).toList = [c] := by rw [ByteArray.toList_eq]
  have e1 : (⟨#[c]⟩ : ByteArray).size = 1 := rfl
  unfold hp
  rw [l1, e1, decide_eq_true h, Bool.true_and, beq_iff_eq]
  exact one_list_bt q 0 (by omega) c

theorem opAt_cons (o : ByteArray) (l : List ByteArray) (q : ByteArray) : opAt (o :: l) q = if hp q o = true then 0 else opAt l q + 1 := rfl
theorem opAt_append (A B : List ByteArray) (q : ByteArray) : opAt (A ++ B) q = if opAt A q < A.length then opAt A q else A.length + opAt B q := by
  induction A with
  | nil => simp [opAt]
  | cons o l ih =>
    simp only [List.cons_append, opAt, List.length_cons]
    split
    · simp
    · rw [ih]
      split <;> split <;> omega
theorem drop_cons' (A : List ByteArray) (j : Nat) (h : j < A.length) : A.drop j = rdOf ByteArray.empty A (j : Int) :: A.drop (j + 1) := by
  rw [List.drop_eq_getElem_cons h]
  unfold rdOf
  simp [List.getD_eq_getElem?_getD, List.getElem?_eq_getElem h]

section
variable (s : ByteArray) (pos : Int) (hs : s.size ≤ 1000000) (h0 : 0 ≤ pos) (hp0 : pos < (s.size : Int)) (q : ByteArray) (hq : s.extract pos.toNat s.size = q)
include hs h0 hp0 hq

theorem op_l2 (x7 : ByteArray) (C : List ByteArray) (hC : C.length = x7.size) (hCx : ∀ j : Nat, j < x7.size → ∃ c : UInt8, rdOf ByteArray.empty C (j : Int) = ⟨#[c]⟩ ∧ bt x7 (j : Int) = (c.toNat : Int)) (hx : x7.size ≤ 1000) :
    ∀ m j : Nat, j + m = x7.size → PPl.indentureref11_operator.l2 (m + 1) s pos x7 (j : Int) = some (if opAt (C.drop j) q < m then 1 else 0) := by
  have hz : q.size = s.size - pos.toNat := by rw [← hq, ByteArray.size_extract]; omega
  have hb : bt s pos = bt q 0 := by rw [← hq, bt_rest s pos 0 h0 (by omega) (by omega), Int.add_zero]
  intro m
  induction m with
  | zero =>
    intro j hj
    simp only [PPl.indentureref11_operator.l2]
    rw [if_neg (by omega), if_neg (by omega)]
  | succ m ih =>
    intro j hj
    rw [PPl.indentureref11_operator.l2]
    obtain ⟨c, hc1, hc2⟩ := hCx j (by omega)
    rw [if_pos (show (j : Int) < (x7.size : Int) by omega), if_pos h0, if_pos hp0, if_pos (show (0 : Int) ≤ (j : Int) by omega), drop_cons' C j (by omega), hc1, hc2, hb]
    have ho := hp_one q c (by omega)
    by_cases e : bt q 0 = (c.toNat : Int)
    · rw [if_pos e, if_pos (by rw [opAt_cons, if_pos (ho.mpr e)]; omega)]
    · have ec := opAt_cons ⟨#[c]⟩ (C.drop (j + 1)) q
      rw [if_neg (fun h => e (ho.mp h))] at ec
      rw [if_neg e, w64 _ (by omega), show (j : Int) + 1 = ((j + 1 : Nat) : Int) by omega, ih (j + 1) (by omega), ec]
      split <;> split <;> first | rfl | omega
theorem op_l1 (x7 : ByteArray) (A : List ByteArray) (hA : ∀ j : Nat, j < A.length → (rdOf ByteArray.empty A (j : Int)).size ≤ 3) (hx : A.length ≤ 1000) (K : Nat) (r : Int) (hK : PPl.indentureref11_operator.l2 K s pos x7 0 = some r) :
    ∀ m j : Nat, j + m = A.length → ∃ K', PPl.indentureref11_operator.l1 K' s pos A x7 (j : Int) = some (if opAt (A.drop j) q < m then 2 else r) := by
  intro m
  induction m with
  | zero =>
    intro j hj
    refine ⟨K + 1, ?_⟩
    simp only [PPl.indentureref11_operator.l1]
    rw [if_neg (by omega), if_neg (by omega), hK]
  | succ m ih =>
    intro j hj
    obtain ⟨K', h'⟩ := ih (j + 1) (by omega)
    refine ⟨K' + 1, ?_⟩
    simp only [PPl.indentureref11_operator.l1]
    rw [if_pos (show (j : Int) < (A.length : Int) by omega), if_pos (show (0 : Int) ≤ (j : Int) by omega), at_ref s _ pos h0 (by omega) hs (hA j (by omega)), hq, drop_cons' A j (by omega)]
    simp only [Option.bind_some]
    by_cases e : hp q (rdOf ByteArray.empty A (j : Int)) = true
    · rw [if_pos e, if_pos (by rw [opAt_cons, if_pos e]; omega)]
    · have ec := opAt_cons (rdOf ByteArray.empty A (j : Int)) (A.drop (j + 1)) q
      rw [if_neg e] at ec
      rw [if_neg e, w64 _ (by omega), show (j : Int) + 1 = ((j + 1 : Nat) : Int) by omega, h', ec]
      split <;> split <;> first | rfl | omega
theorem op_l0 (x7 : ByteArray) (B A : List ByteArray) (hA : ∀ j : Nat, j < A.length → (rdOf ByteArray.empty A (j : Int)).size ≤ 3) (hx : A.length ≤ 1000) (K : Nat) (r : Int) (hK : PPl.indentureref11_operator.l1 K s pos B x7 0 = some r) :
    ∀ m j : Nat, j + m = A.length → ∃ K', PPl.indentureref11_operator.l0 K' s pos A B x7 (j : Int) = some (if opAt (A.drop j) q < m then 3 else r) := by
  intro m
  induction m with
  | zero =>
    intro j hj
    refine ⟨K + 1, ?_⟩
    simp only [PPl.indentureref11_operator.l0]
    rw [if_neg (by omega), if_neg (by omega), hK]
  | succ m ih =>
    intro j hj
    obtain ⟨K', h'⟩ := ih (j + 1) (by omega)
    refine ⟨K' + 1, ?_⟩
    simp only [PPl.indentureref11_operator.l0]
    rw [if_pos (show (j : Int) < (A.length : Int) by omega), if_pos (show (0 : Int) ≤ (j : Int) by omega), at_ref s _ pos h0 (by omega) hs (hA j (by omega)), hq, drop_cons' A j (by omega)]
    simp only [Option.bind_some]
    by_cases e : hp q (rdOf ByteArray.empty A (j : Int)) = true
    · rw [if_pos e, if_pos (by rw [opAt_cons, if_pos e]; omega)]
    · have ec := opAt_cons (rdOf ByteArray.empty A (j : Int)) (A.drop (j + 1)) q
      rw [if_neg e] at ec
      rw [if_neg e, w64 _ (by omega), show (j : Int) + 1 = ((j + 1 : Nat) : Int) by omega, h', ec]
      split <;> split <;> first | rfl | omega
theorem operator_ref : ∃ k, PPl.indentureref11_operator.f k s pos = some (if opAt opL q < 47 then ((opOf q).size : Int) else 0) := by
  have h2 := op_l2 s pos hs h0 hp0 q hq ⟨#[43, 45, 42, 47, 37, 64, 38, 124, 94, 126, 60, 62, 40, 41, 91, 93, 123, 125, 44, 58, 46, 59, 61]⟩ (opL.drop 24) rfl
    (by
      have e : ∀ j : Nat, j < 23 → (rdOf ByteArray.empty (opL.drop 24) (j : Int)).data.toList = [(#[43, 45, 42, 47, 37, 64, 38, 124, 94, 126, 60, 62, 40, 41, 91, 93, 123, 125, 44, 58, 46, 59, 61] : Array UInt8).getD j 0] ∧
          bt ⟨#[43, 45, 42, 47, 37, 64, 38, 124, 94, 126, 60, 62, 40, 41, 91, 93, 123, 125, 44, 58, 46, 59, 61]⟩ (j : Int) = (((#[43, 45, 42, 47, 37, 64, 38, 124, 94, 126, 60, 62, 40, 41, 91, 93, 123, 125, 44, 58, 46, 59, 61] : Array UInt8).getD j 0).toNat : Int) := by decide +kernel
      intro j hj
      obtain ⟨e1, e2⟩ := e j hj
      exact ⟨_, ByteArray.ext (Array.toList_inj.mp e1), e2⟩)
    (by decide) 23 0 rfl
  obtain ⟨K1, h1⟩ := op_l1 s pos hs h0 hp0 q hq ⟨#[43, 45, 42, 47, 37, 64, 38, 124, 94, 126, 60, 62, 40, 41, 91, 93, 123, 125, 44, 58, 46, 59, 61]⟩ ((opL.drop 5).take 19) (by decide +kernel) (by decide) _ _ h2 19 0 rfl
  obtain ⟨K0, h3⟩ := op_l0 s pos hs h0 hp0 q hq ⟨#[43, 45, 42, 47, 37, 64, 38, 124, 94, 126, 60, 62, 40, 41, 91, 93, 123, 125, 44, 58, 46, 59, 61]⟩ ((opL.drop 5).take 19) (opL.take 5) (by decide +kernel) (by decide) _ _ h1 5 0 rfl
  refine ⟨K0, ?_⟩
  refine Eq.trans (b := PPl.indentureref11_operator.l0 K0 s pos (opL.take 5) ((opL.drop 5).take 19) ⟨#[43, 45, 42, 47, 37, 64, 38, 124, 94, 126, 60, 62, 40, 41, 91, 93, 123, 125, 44, 58, 46, 59, 61]⟩ ((0 : Nat) : Int)) rfl (h3.trans ?_)
  simp only [List.drop_zero]
  have e1 : opL = opL.take 5 ++ ((opL.drop 5).take 19 ++ opL.drop 24) := by rfl
  have hsz : ∀ t : Nat, t < 47 → (opL.getD t ByteArray.empty).size = if t < 5 then 3 else if t < 24 then 2 else 1 := by decide +kernel
  have e2 : opAt opL q = _ := (congrArg (fun l => opAt l q) e1).trans ((opAt_append _ _ q).trans (by rw [opAt_append]))
  have l1 : (opL.take 5).length = 5 := rfl
  have l2 : ((opL.drop 5).take 19).length = 19 := rfl
  rw [l1, l2] at e2
  unfold opOf
  rw [e2]
  generalize opAt (opL.take 5) q = a
  generalize opAt ((opL.drop 5).take 19) q = b
  generalize opAt (opL.drop 24) q = c
  by_cases ha : a < 5
  · rw [if_pos ha, if_pos ha, if_pos (by omega), hsz a (by omega), if_pos ha]
    rfl
  · rw [if_neg ha, if_neg ha]
    by_cases hb : b < 19
    · rw [if_pos hb, if_pos hb, if_pos (by omega), hsz _ (by omega), if_neg (by omega), if_pos (by omega)]
      rfl
    · rw [if_neg hb, if_neg hb]
      by_cases hc : c < 23
      · rw [if_pos hc, if_pos (by omega), hsz _ (by omega), if_neg (by omega), if_neg (by omega)]
        rfl
      · rw [if_neg hc, if_neg (by omega)]
end

end Go.Proofs.Ytdknppomjcpihaa.PPy
