/- What the document's helpers compute, as the model says it: at, Letter, Digit, quotes, close, number. No Go in it. -/
import Derived.Test.YtdknppomjcpihaaPPlx4
import Derived.Test.YtdknppomjcpihaaPPlx3
import Derived.Test.YtdknppomjcpihaaPPlx2
import Derived.Test.YtdknppomjcpihaaModel3
import Derived.Lib.IndexLaws
import Derived.Lib.Bytealg
namespace Go.Proofs.Ytdknppomjcpihaa.PPy
open Go.RowKit Go.Proofs.YtdknppomjcpihaaW.PrintWords Go.Proofs.YtdknppomjcpihaaW.PrintLast Go.Proofs.YtdknppomjcpihaaW.PrintMore

theorem w64 (n : Int) (h : -9223372036854775808 ≤ n ∧ n ≤ 9223372036854775807) : wrap64 n = n := IntWalk.wrap64_in n h

theorem letter_ref (c : Int) (h : 0 ≤ c ∧ c ≤ 255) : PPl.indentureref11_Letter.f c = some (letterB c) := by
  have e : ∀ n : Nat, n < 256 → PPl.indentureref11_Letter.f (n : Int) = some (letterB (n : Int)) := by decide +kernel
  have := e c.toNat (by omega)
  rwa [Int.toNat_of_nonneg h.1] at this
theorem digit_ref (c : Int) : PPl.indentureref11_Digit.f c = some (digitB c) := by
  unfold PPl.indentureref11_Digit.f digitB
  by_cases h1 : c ≥ 48 <;> simp [h1] <;> omega
theorem quot_ref (m : Int) (h : 1 ≤ m ∧ m ≤ 4) : PPl.indentureref11_quotes.f m = some (quot m) := by
  have : m = 1 ∨ m = 2 ∨ m = 3 ∨ m = 4 := by omega
  rcases this with rfl | rfl | rfl | rfl <;> rfl
theorem ext_ext (s : ByteArray) (a n : Nat) (h : a + n ≤ s.size) : (s.extract a s.size).extract 0 n = s.extract a (a + n) := by
  apply ByteArray.ext
  simp only [ByteArray.data_extract]
  rw [Array.extract_extract]
  congr 1
  · have : s.size = s.data.size := rfl
    omega
theorem at_ref (s q : ByteArray) (i : Int) (h0 : 0 ≤ i) (h1 : i ≤ (s.size : Int)) (hs : s.size ≤ 1000000) (hq : q.size ≤ 3) : PPl.indentureref11_at.f s i q = some (hp (s.extract i.toNat s.size) q) := by
  unfold PPl.indentureref11_at.f hp
  rw [w64 _ (by omega)]
  have hz : (s.extract i.toNat s.size).size = s.size - i.toNat := by rw [ByteArray.size_extract]; omega
  rw [hz]
  by_cases hle : i + (q.size : Int) ≤ (s.size : Int)
  · rw [if_pos hle, if_pos h0, if_pos (by omega), ext_ext s i.toNat q.size (by omega), decide_eq_true (by omega), Bool.true_and, show (i + (q.size : Int)).toNat = i.toNat + q.size by omega]
  · rw [if_neg hle, decide_eq_false (by omega), Bool.false_and]

def closeOf (s q : ByteArray) : Option Int × Bool → Int × Int
  | (some i, _) => (i + (q.size : Int), 0)
  | (none, true) => ((s.size : Int), 1)
  | (none, false) => ((s.size : Int), 2)
theorem tx_end (n : Nat) (s q : ByteArray) (i : Int) (tk : Bool) (h : ¬ i < (s.size : Int)) : tx n s q i tk = (none, tk) := by
  cases n with
  | zero => rfl
  | succ n => simp only [tx]; rw [if_neg h]
theorem close_ref (s q : ByteArray) (hs : s.size ≤ 1000000) (hq : q.size ≤ 3) : ∀ (n : Nat) (i : Int), 0 ≤ i → i ≤ (s.size : Int) + 1 → (s.size : Int) + 1 - i ≤ n → PPl.indentureref11_close.l0 (n + 1) s i q = some (closeOf s q (tx n s q i false)) := by
  intro n
  induction n with
  | zero =>
    intro i h0 h1 h2
    simp only [PPl.indentureref11_close.l0]
    rw [if_neg (by omega), tx_end _ _ _ _ _ (by omega)]
    rfl
  | succ n ih =>
    intro i h0 h1 h2
    simp only [PPl.indentureref11_close.l0, tx]
    by_cases c1 : i < (s.size : Int)
    · rw [if_pos c1, if_pos h0, if_pos c1]
      by_cases c2 : bt s i = 92
      · rw [if_pos c2, if_pos c2, w64 _ (by omega), w64 _ (by omega)]
        by_cases c3 : i + 1 = (s.size : Int)
        · rw [if_pos c3, tx_end _ _ _ _ _ (by omega), beq_iff_eq.mpr c3]
          rfl
        · rw [if_neg c3, beq_eq_false_iff_ne.mpr c3]
          exact ih (i + 2) (by omega) (by omega) (by omega)
      · rw [if_neg c2, if_neg c2, at_ref s q i h0 (by omega) hs hq, w64 (i + 1) (by omega), w64 _ (by omega)]
        simp only [Option.bind_some]
        by_cases c3 : hp (s.extract i.toNat s.size) q = true
        · rw [if_pos c3, if_pos c3]
          rfl
        · rw [if_neg c3, if_neg c3]
          exact ih (i + 1) (by omega) (by omega) (by omega)
    · rw [if_neg c1, if_neg c1]
      rfl

theorem bt_rest (s : ByteArray) (pos i : Int) (h0 : 0 ≤ pos) (h1 : 0 ≤ i) (hp : pos ≤ (s.size : Int)) : bt (s.extract pos.toNat s.size) i = bt s (pos + i) := by
  have hz : (s.extract pos.toNat s.size).size = s.size - pos.toNat := by rw [ByteArray.size_extract]; omega
  unfold bt
  by_cases h : i.toNat < s.size - pos.toNat
  · rw [dif_pos (by rw [hz]; exact h), dif_pos (show (pos + i).toNat < s.size by omega)]
    rw [ByteArray.getElem_extract]
    congr 3
    omega
  · rw [dif_neg (by rw [hz]; exact h), dif_neg (show ¬ (pos + i).toNat < s.size by omega)]
theorem small_e (p : Int) (hp : 0 ≤ p ∧ p ≤ 255) : smallB p = 101 ↔ p = 101 ∨ p = 69 := by
  unfold smallB
  split <;> omega

theorem number_j2 (k : Nat) (s : ByteArray) (sg : Bool) (x c : Int) (sgn : Bool) (hc : 0 ≤ c ∧ c ≤ 255) :
    PPl.indentureref11_number.j2 (k + 1) s sg x c sgn = if (!(letterB c && decide (c < 128)) && (!digitB c && (!decide (c = 46) && !sgn))) = true then some x else PPl.indentureref11_number.l0 k s sg (wrap64 (x + 1)) := by
  simp only [PPl.indentureref11_number.j2]
  rw [letter_ref c hc, digit_ref c]
  simp only [Option.bind_some]
  cases letterB c <;> cases digitB c <;> cases sgn <;> by_cases h1 : c < 128 <;> by_cases h2 : c = 46 <;> simp [h1, h2]
theorem number_loop (s : ByteArray) (pos : Int) (sg : Bool) (hs : s.size ≤ 1000000) (h0 : 0 ≤ pos) (hp : pos ≤ (s.size : Int)) (q : ByteArray) (hq : s.extract pos.toNat s.size = q) :
    ∀ (n : Nat) (i : Int), 1 ≤ i → i ≤ (q.size : Int) → (q.size : Int) - i ≤ n → PPl.indentureref11_number.l0 (2 * n + 1) s sg (pos + i) = some (pos + numEnd (n + 1) q sg i) := by
  have hz : q.size = s.size - pos.toNat := by rw [← hq, ByteArray.size_extract]; omega
  have hb : ∀ i : Int, 0 ≤ i → bt s (pos + i) = bt q i := fun i hi => by rw [← hq, bt_rest s pos i h0 hi hp]
  intro n
  induction n with
  | zero =>
    intro i h1 h2 h3
    simp only [PPl.indentureref11_number.l0, numEnd]
    rw [if_neg (by omega), if_neg (by omega)]
  | succ n ih =>
    intro i h1 h2 h3
    rw [show 2 * (n + 1) + 1 = (2 * n + 1) + 1 + 1 by omega]
    rw [numEnd]
    simp only [PPl.indentureref11_number.l0]
    by_cases c1 : i < (q.size : Int)
    · rw [if_pos (by omega), if_pos (by omega), if_pos c1, w64 (pos + i - 1) (by omega), show pos + i - 1 = pos + (i - 1) by omega, hb i (by omega), hb (i - 1) (by omega)]
      have hp1 : 0 ≤ pos + (i - 1) := by omega
      have hp2 : pos + (i - 1) < (s.size : Int) := by omega
      have hcr := bt_range q i
      have hpr := bt_range q (i - 1)
      have hih := ih (i + 1) (by omega) (by omega) (by omega)
      rw [show pos + (i + 1) = pos + i + 1 by omega] at hih
      have hw : wrap64 (pos + i + 1) = pos + i + 1 := w64 _ (by omega)
      have key : ∀ sgn : Bool, sgn = ((decide (bt q i = 43) || decide (bt q i = 45)) && (sg && decide (smallB (bt q (i - 1)) = 101))) →
          PPl.indentureref11_number.j2 (2 * n + 1 + 1) s sg (pos + i) (bt q i) sgn = some (pos + (if numStop sg (bt q (i - 1)) (bt q i) = true then i else numEnd (n + 1) q sg (i + 1))) := by
        intro sgn hsgn
        rw [number_j2 _ _ _ _ _ _ hcr, hw, hih, hsgn]
        unfold numStop
        split <;> rfl
      have he := small_e _ hpr
      cases sg with
      | false =>
        rw [if_neg (by decide)]
        exact key false (by simp)
      | true =>
        rw [if_pos rfl]
        by_cases c43 : bt q i = 43
        · rw [if_pos c43, if_pos hp1, if_pos hp2]
          by_cases c101 : bt q (i - 1) = 101
          · rw [if_pos c101]
            exact key true (by rw [decide_eq_true c43, decide_eq_true (he.mpr (.inl c101))]; rfl)
          · rw [if_neg c101]
            refine key _ ?_
            rw [decide_eq_true c43, Bool.true_or, Bool.true_and, Bool.true_and, Bool.eq_iff_iff]
            simp [he, c101]
        · rw [if_neg c43]
          by_cases c45 : bt q i = 45
          · rw [if_pos c45, if_pos hp1, if_pos hp2]
            by_cases c101 : bt q (i - 1) = 101
            · rw [if_pos c101]
              exact key true (by rw [decide_eq_true c45, decide_eq_true (he.mpr (.inl c101)), Bool.or_true]; rfl)
            · rw [if_neg c101]
              refine key _ ?_
              rw [decide_eq_true c45, Bool.or_true, Bool.true_and, Bool.true_and, Bool.eq_iff_iff]
              simp [he, c101]
          · rw [if_neg c45]
            exact key false (by simp [c43, c45])
    · rw [if_neg (by omega), if_neg c1]
theorem number_ref (s : ByteArray) (pos : Int) (hs : s.size ≤ 1000000) (h0 : 0 ≤ pos) (hp : pos < (s.size : Int)) :
    PPl.indentureref11_number.f (2 * s.size + 4) s pos = some (pos + numEnd (s.size + 1) (s.extract pos.toNat s.size) (signsB (s.extract pos.toNat s.size)) 1) := by
  obtain ⟨q, hq⟩ : ∃ q, s.extract pos.toNat s.size = q := ⟨_, rfl⟩
  have hz : q.size = s.size - pos.toNat := by rw [← hq, ByteArray.size_extract]; omega
  have hb : ∀ i : Int, 0 ≤ i → bt s (pos + i) = bt q i := fun i hi => by rw [← hq, bt_rest s pos i h0 hi (by omega)]
  rw [hq]
  have hj : ∀ sg : Bool, PPl.indentureref11_number.j0 (2 * s.size + 4) s pos sg = some (pos + numEnd (s.size + 1) q sg 1) := by
    intro sg
    rw [show 2 * s.size + 4 = (2 * s.size + 3) + 1 by omega]
    simp only [PPl.indentureref11_number.j0]
    rw [w64 _ (by omega)]
    have hl := number_loop s pos sg hs h0 (by omega) q hq s.size 1 (by omega) (by omega) (by omega)
    exact at_rounds (g := fun k => PPl.indentureref11_number.l0 k s sg (pos + 1)) (fun k => (PPl.indentureref11_number.mono_l k).2.1 _ _ _) (by omega) hl
  unfold PPl.indentureref11_number.f signsB radixB
  rw [w64 _ (by omega), hb 1 (by omega)]
  by_cases c1 : pos + 1 < (s.size : Int)
  · rw [if_pos c1, if_pos (by omega), decide_eq_false (show ¬ q.size < 2 by omega), hj, hj]
    (repeat' split) <;> simp_all
  · rw [if_neg c1, decide_eq_true (show q.size < 2 by omega), hj]
    rfl

end Go.Proofs.Ytdknppomjcpihaa.PPy

namespace Go.Proofs.Ytdknppomjcpihaa.PPy
open Go.RowKit Go.Proofs.YtdknppomjcpihaaW.PrintWords Go.Proofs.YtdknppomjcpihaaW.PrintLast Go.Proofs.YtdknppomjcpihaaW.PrintMore

theorem bytes_ext {a b : ByteArray} (h : a.toList = b.toList) : a = b := by
  rw [ByteArray.toList_eq, ByteArray.toList_eq] at h
  exact ByteArray.ext (Array.toList_inj.mp h)
theorem one_list (s : ByteArray) (i : Nat) (h : i < s.size) : (s.extract i (i + 1)).toList = [s[i]'h] := by
  rw [ByteArray.toList_eq, ByteArray.data_extract, Array.toList_extract]
  have hl : i < s.data.toList.length := by simpa using h
  rw [List.extract_eq_take_drop, List.drop_eq_getElem_cons hl]
  simp
  rfl
theorem one_list_bt (s : ByteArray) (i : Nat) (h : i < s.size) (c : UInt8) : (s.extract i (i + 1)).toList = [c] ↔ bt s (i : Int) = (c.toNat : Int) := by
  rw [one_list s i h]
  unfold bt
  rw [dif_pos (show (i : Int).toNat < s.size by simpa using h)]
  constructor
  · intro e
    have : s[i]'h = c := by simpa using e
    simp [this]
  · intro e
    have e' : ((s[i]'h).toNat : Int) = (c.toNat : Int) := by simpa using e
    have : (s[i]'h).toNat = c.toNat := by omega
    have := UInt8.toNat_inj.mp this
    simp [this]
theorem hp_one (q : ByteArray) (c : UInt8) (h : 1 ≤ q.size) : hp q ⟨#[c]⟩ = true ↔ bt q 0 = (c.toNat : Int) := by
  have l1 : (⟨#[c]⟩ : ByteArray).toList = [c] := by rw [ByteArray.toList_eq]
  have e1 : (⟨#[c]⟩ : ByteArray).size = 1 := rfl
  unfold hp
  rw [l1, e1, decide_eq_true h, Bool.true_and, beq_iff_eq]
  exact one_list_bt q 0 (by omega) c

theorem opAt_cons (o : ByteArray) (l : List ByteArray) (q : ByteArray) : opAt (o :: l) q = if hp q o = true then 0 else opAt l q + 1 := rfl
theorem opAt_append (A B : List ByteArray) (q : ByteArray) : opAt (A ++ B) q = if opAt A q < A.length then opAt A q else A.length + opAt B q := by
  induction A with
  | nil => simp [opAt]
  | cons o l ih =>
    simp only [List.cons_append, opAt, List.length_cons]
    split
    · simp
    · rw [ih]
      split <;> split <;> omega
theorem drop_cons' (A : List ByteArray) (j : Nat) (h : j < A.length) : A.drop j = rdOf ByteArray.empty A (j : Int) :: A.drop (j + 1) := by
  rw [List.drop_eq_getElem_cons h]
  unfold rdOf
  simp [List.getD_eq_getElem?_getD, List.getElem?_eq_getElem h]

section
variable (s : ByteArray) (pos : Int) (hs : s.size ≤ 1000000) (h0 : 0 ≤ pos) (hp0 : pos < (s.size : Int)) (q : ByteArray) (hq : s.extract pos.toNat s.size = q)
include hs h0 hp0 hq

theorem op_l2 (x7 : ByteArray) (C : List ByteArray) (hC : C.length = x7.size) (hCx : ∀ j : Nat, j < x7.size → ∃ c : UInt8, rdOf ByteArray.empty C (j : Int) = ⟨#[c]⟩ ∧ bt x7 (j : Int) = (c.toNat : Int)) (hx : x7.size ≤ 1000) :
    ∀ m j : Nat, j + m = x7.size → PPl.indentureref11_operator.l2 (m + 1) s pos x7 (j : Int) = some (if opAt (C.drop j) q < m then 1 else 0) := by
  have hz : q.size = s.size - pos.toNat := by rw [← hq, ByteArray.size_extract]; omega
  have hb : bt s pos = bt q 0 := by rw [← hq, bt_rest s pos 0 h0 (by omega) (by omega), Int.add_zero]
  intro m
  induction m with
  | zero =>
    intro j hj
    simp only [PPl.indentureref11_operator.l2]
    rw [if_neg (by omega), if_neg (by omega)]
  | succ m ih =>
    intro j hj
    rw [PPl.indentureref11_operator.l2]
    obtain ⟨c, hc1, hc2⟩ := hCx j (by omega)
    rw [if_pos (show (j : Int) < (x7.size : Int) by omega), if_pos h0, if_pos hp0, if_pos (show (0 : Int) ≤ (j : Int) by omega), drop_cons' C j (by omega), hc1, hc2, hb]
    have ho := hp_one q c (by omega)
    by_cases e : bt q 0 = (c.toNat : Int)
    · rw [if_pos e, if_pos (by rw [opAt_cons, if_pos (ho.mpr e)]; omega)]
    · have ec := opAt_cons ⟨#[c]⟩ (C.drop (j + 1)) q
      rw [if_neg (fun h => e (ho.mp h))] at ec
      rw [if_neg e, w64 _ (by omega), show (j : Int) + 1 = ((j + 1 : Nat) : Int) by omega, ih (j + 1) (by omega), ec]
      split <;> split <;> first | rfl | omega
theorem op_l1 (x7 : ByteArray) (A : List ByteArray) (hA : ∀ j : Nat, j < A.length → (rdOf ByteArray.empty A (j : Int)).size ≤ 3) (hx : A.length ≤ 1000) (K : Nat) (r : Int) (hK : PPl.indentureref11_operator.l2 K s pos x7 0 = some r) :
    ∀ m j : Nat, j + m = A.length → ∃ K', PPl.indentureref11_operator.l1 K' s pos A x7 (j : Int) = some (if opAt (A.drop j) q < m then 2 else r) := by
  intro m
  induction m with
  | zero =>
    intro j hj
    refine ⟨K + 1, ?_⟩
    simp only [PPl.indentureref11_operator.l1]
    rw [if_neg (by omega), if_neg (by omega), hK]
  | succ m ih =>
    intro j hj
    obtain ⟨K', h'⟩ := ih (j + 1) (by omega)
    refine ⟨K' + 1, ?_⟩
    simp only [PPl.indentureref11_operator.l1]
    rw [if_pos (show (j : Int) < (A.length : Int) by omega), if_pos (show (0 : Int) ≤ (j : Int) by omega), at_ref s _ pos h0 (by omega) hs (hA j (by omega)), hq, drop_cons' A j (by omega)]
    simp only [Option.bind_some]
    by_cases e : hp q (rdOf ByteArray.empty A (j : Int)) = true
    · rw [if_pos e, if_pos (by rw [opAt_cons, if_pos e]; omega)]
    · have ec := opAt_cons (rdOf ByteArray.empty A (j : Int)) (A.drop (j + 1)) q
      rw [if_neg e] at ec
      rw [if_neg e, w64 _ (by omega), show (j : Int) + 1 = ((j + 1 : Nat) : Int) by omega, h', ec]
      split <;> split <;> first | rfl | omega
theorem op_l0 (x7 : ByteArray) (B A : List ByteArray) (hA : ∀ j : Nat, j < A.length → (rdOf ByteArray.empty A (j : Int)).size ≤ 3) (hx : A.length ≤ 1000) (K : Nat) (r : Int) (hK : PPl.indentureref11_operator.l1 K s pos B x7 0 = some r) :
    ∀ m j : Nat, j + m = A.length → ∃ K', PPl.indentureref11_operator.l0 K' s pos A B x7 (j : Int) = some (if opAt (A.drop j) q < m then 3 else r) := by
  intro m
  induction m with
  | zero =>
    intro j hj
    refine ⟨K + 1, ?_⟩
    simp only [PPl.indentureref11_operator.l0]
    rw [if_neg (by omega), if_neg (by omega), hK]
  | succ m ih =>
    intro j hj
    obtain ⟨K', h'⟩ := ih (j + 1) (by omega)
    refine ⟨K' + 1, ?_⟩
    simp only [PPl.indentureref11_operator.l0]
    rw [if_pos (show (j : Int) < (A.length : Int) by omega), if_pos (show (0 : Int) ≤ (j : Int) by omega), at_ref s _ pos h0 (by omega) hs (hA j (by omega)), hq, drop_cons' A j (by omega)]
    simp only [Option.bind_some]
    by_cases e : hp q (rdOf ByteArray.empty A (j : Int)) = true
    · rw [if_pos e, if_pos (by rw [opAt_cons, if_pos e]; omega)]
    · have ec := opAt_cons (rdOf ByteArray.empty A (j : Int)) (A.drop (j + 1)) q
      rw [if_neg e] at ec
      rw [if_neg e, w64 _ (by omega), show (j : Int) + 1 = ((j + 1 : Nat) : Int) by omega, h', ec]
      split <;> split <;> first | rfl | omega
theorem operator_ref : ∃ k, PPl.indentureref11_operator.f k s pos = some (if opAt opL q < 47 then ((opOf q).size : Int) else 0) := by
  have h2 := op_l2 s pos hs h0 hp0 q hq ⟨#[43, 45, 42, 47, 37, 64, 38, 124, 94, 126, 60, 62, 40, 41, 91, 93, 123, 125, 44, 58, 46, 59, 61]⟩ (opL.drop 24) rfl
    (by
      have e : ∀ j : Nat, j < 23 → (rdOf ByteArray.empty (opL.drop 24) (j : Int)).data.toList = [(#[43, 45, 42, 47, 37, 64, 38, 124, 94, 126, 60, 62, 40, 41, 91, 93, 123, 125, 44, 58, 46, 59, 61] : Array UInt8).getD j 0] ∧
          bt ⟨#[43, 45, 42, 47, 37, 64, 38, 124, 94, 126, 60, 62, 40, 41, 91, 93, 123, 125, 44, 58, 46, 59, 61]⟩ (j : Int) = (((#[43, 45, 42, 47, 37, 64, 38, 124, 94, 126, 60, 62, 40, 41, 91, 93, 123, 125, 44, 58, 46, 59, 61] : Array UInt8).getD j 0).toNat : Int) := by decide +kernel
      intro j hj
      obtain ⟨e1, e2⟩ := e j hj
      exact ⟨_, ByteArray.ext (Array.toList_inj.mp e1), e2⟩)
    (by decide) 23 0 rfl
  obtain ⟨K1, h1⟩ := op_l1 s pos hs h0 hp0 q hq ⟨#[43, 45, 42, 47, 37, 64, 38, 124, 94, 126, 60, 62, 40, 41, 91, 93, 123, 125, 44, 58, 46, 59, 61]⟩ ((opL.drop 5).take 19) (by decide +kernel) (by decide) _ _ h2 19 0 rfl
  obtain ⟨K0, h3⟩ := op_l0 s pos hs h0 hp0 q hq ⟨#[43, 45, 42, 47, 37, 64, 38, 124, 94, 126, 60, 62, 40, 41, 91, 93, 123, 125, 44, 58, 46, 59, 61]⟩ ((opL.drop 5).take 19) (opL.take 5) (by decide +kernel) (by decide) _ _ h1 5 0 rfl
  refine ⟨K0, ?_⟩
  refine Eq.trans (b := PPl.indentureref11_operator.l0 K0 s pos (opL.take 5) ((opL.drop 5).take 19) ⟨#[43, 45, 42, 47, 37, 64, 38, 124, 94, 126, 60, 62, 40, 41, 91, 93, 123, 125, 44, 58, 46, 59, 61]⟩ ((0 : Nat) : Int)) rfl (h3.trans ?_)
  simp only [List.drop_zero]
  have e1 : opL = opL.take 5 ++ ((opL.drop 5).take 19 ++ opL.drop 24) := by rfl
  have hsz : ∀ t : Nat, t < 47 → (opL.getD t ByteArray.empty).size = if t < 5 then 3 else if t < 24 then 2 else 1 := by decide +kernel
  have e2 : opAt opL q = _ := (congrArg (fun l => opAt l q) e1).trans ((opAt_append _ _ q).trans (by rw [opAt_append]))
  have l1 : (opL.take 5).length = 5 := rfl
  have l2 : ((opL.drop 5).take 19).length = 19 := rfl
  rw [l1, l2] at e2
  unfold opOf
  rw [e2]
  generalize opAt (opL.take 5) q = a
  generalize opAt ((opL.drop 5).take 19) q = b
  generalize opAt (opL.drop 24) q = c
  by_cases ha : a < 5
  · rw [if_pos ha, if_pos ha, if_pos (by omega), hsz a (by omega), if_pos ha]
    rfl
  · rw [if_neg ha, if_neg ha]
    by_cases hb : b < 19
    · rw [if_pos hb, if_pos hb, if_pos (by omega), hsz _ (by omega), if_neg (by omega), if_pos (by omega)]
      rfl
    · rw [if_neg hb, if_neg hb]
      by_cases hc : c < 23
      · rw [if_pos hc, if_pos (by omega), hsz _ (by omega), if_neg (by omega), if_neg (by omega)]
        rfl
      · rw [if_neg hc, if_neg (by omega)]
end

end Go.Proofs.Ytdknppomjcpihaa.PPy

namespace Go.Proofs.Ytdknppomjcpihaa.PPy
open Go.RowKit Go.Proofs.YtdknppomjcpihaaW.PrintWords Go.Proofs.YtdknppomjcpihaaW.PrintLast Go.Proofs.YtdknppomjcpihaaW.PrintMore

def ixOf (line : ByteArray) : Int := Lib.indexByte line.data.toList 10
def endOf (line : ByteArray) : Int := if 0 ≤ ixOf line then (if 1 ≤ ixOf line ∧ bt line (ixOf line - 1) = 13 then ixOf line - 1 else ixOf line) else (line.size : Int)

theorem get_bt (s : ByteArray) (k : Nat) (c : UInt8) : s.data.toList[k]? = some c ↔ k < s.size ∧ bt s (k : Int) = (c.toNat : Int) := by
  have hl : s.data.toList.length = s.size := Array.length_toList
  unfold bt
  constructor
  · intro h
    obtain ⟨h1, h2⟩ := List.getElem?_eq_some_iff.1 h
    refine ⟨by omega, ?_⟩
    rw [dif_pos (show (k : Int).toNat < s.size by rw [Int.toNat_natCast]; omega)]
    have : s[k]'(by omega) = c := by rw [← h2]; rfl
    simp [this]
  · rintro ⟨h1, h2⟩
    rw [dif_pos (show (k : Int).toNat < s.size by rw [Int.toNat_natCast]; omega)] at h2
    have e' : ((s[k]'h1).toNat : Int) = (c.toNat : Int) := by simpa using h2
    have e2 : (s[k]'h1).toNat = c.toNat := by omega
    have e3 := UInt8.toNat_inj.mp e2
    rw [List.getElem?_eq_some_iff]
    exact ⟨by omega, e3⟩
theorem ix_cases (s : ByteArray) : (ixOf s = -1 ∧ ∀ k : Nat, k < s.size → bt s (k : Int) ≠ 10) ∨ (∃ o : Nat, ixOf s = o ∧ o < s.size ∧ bt s (o : Int) = 10 ∧ ∀ k : Nat, k < o → bt s (k : Int) ≠ 10) := by
  have hge := Lib.indexByte_ge s.data.toList 10
  by_cases h : ixOf s = -1
  · refine .inl ⟨h, fun k hk e => Lib.indexByte_none h k ((get_bt s k 10).mpr ⟨hk, e⟩)⟩
  · obtain ⟨o, ho⟩ : ∃ o : Nat, ixOf s = o := ⟨(ixOf s).toNat, by unfold ixOf at h ⊢; omega⟩
    obtain ⟨h1, h2⟩ := Lib.indexByte_some (l := s.data.toList) (c := 10) (o := o) ho
    obtain ⟨h3, h4⟩ := (get_bt s o 10).mp h1
    exact .inr ⟨o, ho, h3, h4, fun k hk e => h2 k hk ((get_bt s k 10).mpr ⟨by omega, e⟩)⟩
theorem end_loop (s : ByteArray) (hs : s.size ≤ 1000000) : ∀ (n : Nat) (i : Int), 0 ≤ i → i ≤ (s.size : Int) → (∀ k : Nat, (k : Int) < i → bt s (k : Int) ≠ 10) → (s.size : Int) - i ≤ n → PPl.indentureref11_End.l0 (n + 1) s i = some (endOf s) := by
  have hstep : ∀ i : Int, 0 ≤ i → i < (s.size : Int) → (∀ k : Nat, (k : Int) < i → bt s (k : Int) ≠ 10) → bt s i = 10 → ixOf s = i := by
    intro i h0 h1 h2 h3
    obtain ⟨j, rfl⟩ : ∃ j : Nat, i = j := ⟨i.toNat, by omega⟩
    rcases ix_cases s with ⟨_, h⟩ | ⟨o, ho, h4, h5, h6⟩
    · exact absurd h3 (h j (by omega))
    · rw [ho]
      by_cases c1 : o < j
      · exact absurd h5 (h2 o (by omega))
      · by_cases c2 : j < o
        · exact absurd h3 (h6 j c2)
        · omega
  have hend : (∀ k : Nat, (k : Int) < (s.size : Int) → bt s (k : Int) ≠ 10) → ixOf s = -1 := by
    intro h
    rcases ix_cases s with ⟨h1, _⟩ | ⟨o, ho, h4, h5, h6⟩
    · exact h1
    · exact absurd h5 (h o (by omega))
  intro n
  induction n with
  | zero =>
    intro i h0 h1 h2 h3
    rw [PPl.indentureref11_End.l0]
    have : i = (s.size : Int) := by omega
    subst this
    rw [if_neg (by omega)]
    unfold endOf
    rw [hend h2, if_neg (by omega)]
  | succ n ih =>
    intro i h0 h1 h2 h3
    rw [PPl.indentureref11_End.l0]
    by_cases c1 : i < (s.size : Int)
    · rw [if_pos c1, if_pos h0]
      by_cases c2 : bt s i = 10
      · rw [if_pos c2, w64 _ (by omega)]
        have hi := hstep i h0 c1 h2 c2
        unfold endOf
        rw [hi, if_pos h0]
        by_cases c3 : i > 0
        · rw [if_pos c3, if_pos (show 0 ≤ i - 1 by omega), if_pos (show i - 1 < (s.size : Int) by omega)]
          by_cases c4 : bt s (i - 1) = 13
          · rw [if_pos c4, if_pos ⟨by omega, c4⟩]
          · rw [if_neg c4, if_neg (fun h => c4 h.2)]
        · rw [if_neg c3, if_neg (fun h => c3 (by omega))]
      · rw [if_neg c2, w64 _ (by omega)]
        refine ih (i + 1) (by omega) (by omega) (fun k hk => ?_) (by omega)
        by_cases e : (k : Int) < i
        · exact h2 k e
        · have : (k : Int) = i := by omega
          rw [this]; exact c2
    · have : i = (s.size : Int) := by omega
      subst this
      rw [if_neg c1]
      unfold endOf
      rw [hend h2, if_neg (by omega)]
theorem end_ref (s : ByteArray) (hs : s.size ≤ 1000000) : PPl.indentureref11_End.f (s.size + 1) s = some (endOf s) := by
  unfold PPl.indentureref11_End.f
  exact end_loop s hs s.size 0 (by omega) (by omega) (fun k hk => by omega) (by omega)
theorem endOf_bd (s : ByteArray) : 0 ≤ endOf s ∧ endOf s ≤ (s.size : Int) := by
  unfold endOf
  rcases ix_cases s with ⟨h1, _⟩ | ⟨o, ho, h4, h5, h6⟩
  · rw [h1, if_neg (by omega)]; omega
  · rw [ho, if_pos (by omega)]; split <;> omega
theorem ext_pre (s : ByteArray) (a b n : Nat) (h : a + n ≤ b) (hb : b ≤ s.size) : (s.extract 0 b).extract a (a + n) = s.extract a (a + n) := by
  apply ByteArray.ext
  simp only [ByteArray.data_extract]
  rw [Array.extract_extract]
  congr 1 <;> omega
theorem lineOf_end (s : ByteArray) : lineOf s = s.extract 0 (endOf s).toNat := by
  unfold lineOf endOf
  rw [show Lib.indexByte s.data.toList 10 = ixOf s from rfl]
  rcases ix_cases s with ⟨h1, _⟩ | ⟨o, ho, h4, h5, h6⟩
  · rw [h1, if_neg (by omega), if_neg (by omega), Int.toNat_natCast]
    exact ByteArray.extract_zero_size.symm
  · rw [ho, if_pos (show (0 : Int) ≤ (o : Int) by omega), if_pos (show (0 : Int) ≤ (o : Int) by omega), Int.toNat_natCast]
    have hz : (s.extract 0 o).size = o := by rw [ByteArray.size_extract]; omega
    rw [hz]
    by_cases c1 : 1 ≤ o
    · have e1 : (s.extract 0 o).extract (o - 1) o = s.extract (o - 1) o := by
        have := ext_pre s (o - 1) o 1 (by omega) (by omega)
        rwa [show o - 1 + 1 = o by omega] at this
      have e2 : (s.extract 0 o).extract 0 (o - 1) = s.extract 0 (o - 1) := by
        have := ext_pre s 0 o (o - 1) (by omega) (by omega)
        rwa [Nat.zero_add] at this
      have e3 := one_list_bt s (o - 1) (by omega) 13
      rw [show o - 1 + 1 = o by omega, show (((o - 1 : Nat) : Int)) = (o : Int) - 1 by omega] at e3
      rw [e1, e2]
      by_cases c2 : bt s ((o : Int) - 1) = 13
      · rw [if_pos ⟨c1, e3.mpr c2⟩, if_pos ⟨by omega, c2⟩, show ((o : Int) - 1).toNat = o - 1 by omega]
      · rw [if_neg (fun h => c2 (e3.mp h.2)), if_neg (fun h => c2 h.2), Int.toNat_natCast]
    · rw [if_neg (fun h => c1 h.1), if_neg (fun h => c1 (by have := h.1; omega)), Int.toNat_natCast]

end Go.Proofs.Ytdknppomjcpihaa.PPy

namespace Go.Proofs.Ytdknppomjcpihaa.PPy
open Go.RowKit Go.Proofs.YtdknppomjcpihaaW.PrintWords Go.Proofs.YtdknppomjcpihaaW.PrintLast Go.Proofs.YtdknppomjcpihaaW.PrintMore

theorem low_step (c : Int) (h : 0 ≤ c ∧ c ≤ 255) (k : Nat) (t : ByteArray) (acc : List Int) (i : Nat) (hi : i < t.size) (hc : bt t (i : Int) = c) (ha : acc.length < 1000) (ht : t.size ≤ 1000) :
    PPl.indentureref11_low.l0 (k + 1) t acc (i : Int) = PPl.indentureref11_low.l0 k t (acc ++ [smallB c]) ((i + 1 : Nat) : Int) := by
  rw [PPl.indentureref11_low.l0]
  rw [if_pos (show (i : Int) < (t.size : Int) by omega), if_pos (show (0 : Int) ≤ (i : Int) by omega), hc, w64 _ (by omega), if_pos (show acc.length < 140737488355328 by omega), if_pos (show acc.length < 140737488355328 by omega)]
  unfold smallB
  by_cases h1 : c ≥ 65
  · by_cases h2 : c ≤ 90
    · rw [if_pos h1, if_pos h2, if_pos ⟨h1, h2⟩, Int.emod_eq_of_lt (by omega) (by omega)]; rfl
    · rw [if_pos h1, if_neg h2, if_neg (fun h => h2 h.2)]; rfl
  · rw [if_neg h1, if_neg (fun h => h1 h.1)]; rfl
theorem low_end (k : Nat) (t : ByteArray) (acc : List Int) : PPl.indentureref11_low.l0 (k + 1) t acc (t.size : Int) = some (strOfNums acc) := by
  rw [PPl.indentureref11_low.l0]
  rw [if_neg (by omega)]
theorem low0 (t : ByteArray) (h : t.size = 0) (k : Nat) : PPl.indentureref11_low.f (k + 3) t = some (strOfNums []) := by
  have := low_end (k + 2) t []
  rw [h] at this
  exact this
theorem low1 (t : ByteArray) (h : t.size = 1) (k : Nat) : PPl.indentureref11_low.f (k + 3) t = some (strOfNums [smallB (bt t 0)]) := by
  have h1 := low_step (bt t 0) (bt_range t 0) (k + 2) t [] 0 (by omega) rfl (by decide) (by omega)
  have h2 := low_end (k + 1) t ([] ++ [smallB (bt t 0)])
  rw [h] at h2
  exact h1.trans h2
theorem low2 (t : ByteArray) (h : t.size = 2) (k : Nat) : PPl.indentureref11_low.f (k + 3) t = some (strOfNums [smallB (bt t 0), smallB (bt t 1)]) := by
  have h1 := low_step (bt t 0) (bt_range t 0) (k + 2) t [] 0 (by omega) rfl (by decide) (by omega)
  have h2 := low_step (bt t 1) (bt_range t 1) (k + 1) t ([] ++ [smallB (bt t 0)]) 1 (by omega) rfl (by simp) (by omega)
  have h3 := low_end k t (([] ++ [smallB (bt t 0)]) ++ [smallB (bt t 1)])
  rw [h] at h3
  exact h1.trans (h2.trans h3)
theorem nums_list (xs : List Int) : (strOfNums xs).toList = xs.map (fun x => x.toNat.toUInt8) := by
  rw [ByteArray.toList_eq]; unfold strOfNums; simp
theorem u8_inj (c : Int) (h : 0 ≤ c ∧ c ≤ 255) (d : UInt8) : c.toNat.toUInt8 = d ↔ c = (d.toNat : Int) := by
  constructor
  · intro e
    have : c.toNat.toUInt8.toNat = d.toNat := by rw [e]
    rw [UInt8.toNat_ofNat'] at this
    omega
  · intro e
    subst e
    simp
theorem small_rng (c : Int) (h : 0 ≤ c ∧ c ≤ 255) : 0 ≤ smallB c ∧ smallB c ≤ 255 := by unfold smallB; split <;> omega

/-- Quotes begin with a quote. -/
theorem mark_quote (t : ByteArray) (h : markOf t ≠ 0) : 1 ≤ t.size ∧ (bt t 0 = 39 ∨ bt t 0 = 34) := by
  have key : ∀ b : ByteArray, ∀ c : UInt8, ∀ l : List UInt8, b.toList = c :: l → 1 ≤ b.size → hp t b = true → 1 ≤ t.size ∧ bt t 0 = (c.toNat : Int) := by
    intro b c l hb h1 hh
    have hle := hp_le hh
    unfold hp at hh
    simp only [Bool.and_eq_true, beq_iff_eq] at hh
    have h2 := hh.2
    have hone : (t.extract 0 1).toList = [c] := by
      have e1 : (t.extract 0 b.size).extract 0 1 = t.extract 0 1 := by
        have := ext_pre t 0 b.size 1 (by omega) (by omega)
        rwa [Nat.zero_add] at this
      rw [← e1, ByteArray.toList_eq, ByteArray.data_extract, Array.toList_extract, ← ByteArray.toList_eq, h2, hb]
      simp [List.extract_eq_take_drop]
    exact ⟨by omega, (one_list_bt t 0 (by omega) c).mp hone⟩
  have q1 : (quot 1).toList = [39, 39, 39] := by rw [ByteArray.toList_eq]; rfl
  have q2 : (quot 2).toList = [34, 34, 34] := by rw [ByteArray.toList_eq]; rfl
  have q3 : (quot 3).toList = [39] := by rw [ByteArray.toList_eq]; rfl
  have q4 : (quot 4).toList = [34] := by rw [ByteArray.toList_eq]; rfl
  unfold markOf at h
  split at h
  · rename_i e; exact (key _ _ _ q1 (by decide) e).imp id .inl
  split at h
  · rename_i e; exact (key _ _ _ q2 (by decide) e).imp id .inr
  split at h
  · rename_i e; exact (key _ _ _ q3 (by decide) e).imp id .inl
  split at h
  · rename_i e; exact (key _ _ _ q4 (by decide) e).imp id .inr
  · exact absurd rfl h

section
variable (s : ByteArray) (pos : Int) (hs : s.size ≤ 1000000) (h0 : 0 ≤ pos) (hp0 : pos < (s.size : Int)) (q : ByteArray) (hq : s.extract pos.toNat s.size = q)
include hs h0 hp0 hq

theorem marks_loop (P : List ByteArray) (j : Int) (n : Int) (hn0 : 0 ≤ n) (hn : n ≤ (s.size : Int)) (K : Nat) :
    PPl.indentureref11_begins.l1 (K + 5) s pos P j n 1 = if markOf (s.extract n.toNat s.size) = 0 then PPl.indentureref11_begins.l0 K s pos P (wrap64 (j + 1)) else some (markOf (s.extract n.toNat s.size), n + ((quot (markOf (s.extract n.toNat s.size))).size : Int)) := by
  have _u0 := h0
  have _u1 := hp0
  have _u2 := hq
  have step : ∀ (K : Nat) (m : Int), 1 ≤ m ∧ m ≤ 4 → PPl.indentureref11_begins.l1 (K + 1) s pos P j n m = if hp (s.extract n.toNat s.size) (quot m) = true then some (m, n + ((quot m).size : Int)) else PPl.indentureref11_begins.l1 K s pos P j n (m + 1) := by
    intro K m hm
    have hqs := quot_size hm
    rw [PPl.indentureref11_begins.l1]
    rw [if_pos hm.2, quot_ref m hm]
    simp only [Option.bind_some]
    rw [at_ref s (quot m) n hn0 hn hs hqs.2, w64 _ (by omega), Int.emod_eq_of_lt (by omega) (by omega)]
    simp only [Option.bind_some]
  rw [step (K + 4) 1 (by omega), step (K + 3) (1 + 1) (by omega), step (K + 2) (1 + 1 + 1) (by omega), step (K + 1) (1 + 1 + 1 + 1) (by omega), PPl.indentureref11_begins.l1]
  simp only [Int.reduceAdd]
  unfold markOf
  rw [if_neg (show ¬ (5 : Int) ≤ 4 by omega)]
  by_cases e1 : hp (s.extract n.toNat s.size) (quot 1) = true
  · simp [e1]
  · by_cases e2 : hp (s.extract n.toNat s.size) (quot 2) = true
    · simp [e1, e2]
    · by_cases e3 : hp (s.extract n.toNat s.size) (quot 3) = true
      · simp [e1, e2, e3]
      · by_cases e4 : hp (s.extract n.toNat s.size) (quot 4) = true
        · simp [e1, e2, e3, e4]
        · simp [e1, e2, e3, e4]

/-- A prefix stands ahead of q. -/
def pmB (q p : ByteArray) : Bool :=
  if p.size = 0 then true
  else if p.size = 1 then decide (smallB (bt q 0) = bt p 0)
  else decide (2 ≤ q.size) && (decide (smallB (bt q 0) = bt p 0) && decide (smallB (bt q 1) = bt p 1))
def Gb (P : List ByteArray) (j : Nat) (r : Int × Int) : Prop := ∃ k, PPl.indentureref11_begins.l0 k s pos P (j : Int) = some r

theorem it_low (p : ByteArray) (hp2 : p.size ≤ 2) (hle : p.size ≤ q.size) (k : Nat) : ∃ t, PPl.indentureref11_low.f (k + 3) (s.extract pos.toNat (pos + (p.size : Int)).toNat) = some t ∧ (t.toList != p.toList) = !pmB q p := by
  have hz : q.size = s.size - pos.toNat := by rw [← hq, ByteArray.size_extract]; omega
  have hts : (s.extract pos.toNat (pos + (p.size : Int)).toNat).size = p.size := by rw [ByteArray.size_extract]; omega
  have hbt : ∀ i : Nat, i < p.size → bt (s.extract pos.toNat (pos + (p.size : Int)).toNat) (i : Int) = bt q (i : Int) := by
    intro i hi
    have h1 := bt_rest s pos (i : Int) h0 (by omega) (by omega)
    rw [hq] at h1
    rw [h1]
    unfold bt
    rw [dif_pos (show (i : Int).toNat < (s.extract pos.toNat (pos + (p.size : Int)).toNat).size by rw [hts]; omega), dif_pos (show (pos + (i : Int)).toNat < s.size by omega), ByteArray.getElem_extract]
    congr 3
    omega
  have hpl : ∀ i : Nat, i < p.size → ∃ c : UInt8, p.data.toList[i]? = some c ∧ bt p (i : Int) = (c.toNat : Int) := by
    intro i hi
    have hl : p.data.toList.length = p.size := Array.length_toList
    exact ⟨p.data.toList[i]'(by omega), List.getElem?_eq_getElem (by omega), ((get_bt p i _).mp (List.getElem?_eq_getElem (by omega))).2⟩
  have hpt : p.toList = p.data.toList := ByteArray.toList_eq p
  have hl : p.data.toList.length = p.size := Array.length_toList
  have hr0 := small_rng _ (bt_range q 0)
  have hr1 := small_rng _ (bt_range q 1)
  have hc : p.size = 0 ∨ p.size = 1 ∨ p.size = 2 := by omega
  rcases hc with hc | hc | hc
  · refine ⟨_, low0 _ (by omega) k, ?_⟩
    have hnil : p.data.toList = [] := List.eq_nil_of_length_eq_zero (by omega)
    unfold pmB
    rw [if_pos hc, nums_list, hpt, hnil]
    rfl
  · refine ⟨_, low1 _ (by omega) k, ?_⟩
    obtain ⟨c, hc1, hc2⟩ := hpl 0 (by omega)
    have hb0 := hbt 0 (by omega)
    have hone : p.data.toList = [c] := by
      match hh : p.data.toList, hl, hc1 with
      | [a], _, h => simp at h; rw [h]
      | [], h, _ => simp at h; omega
      | a :: b :: l, h, _ => simp at h; omega
    unfold pmB
    rw [if_neg (by omega), if_pos hc, nums_list, hpt, hone]
    have e1 := u8_inj _ hr0 c
    simp only [Int.natCast_zero] at hb0 hc2
    rw [hb0, hc2]
    simp only [List.map_cons, List.map_nil]
    rw [bne]
    congr 1
    rw [Bool.eq_iff_iff]
    simp [e1]
  · refine ⟨_, low2 _ (by omega) k, ?_⟩
    obtain ⟨c, hc1, hc2⟩ := hpl 0 (by omega)
    obtain ⟨d, hd1, hd2⟩ := hpl 1 (by omega)
    have hb0 := hbt 0 (by omega)
    have hb1 := hbt 1 (by omega)
    have htwo : p.data.toList = [c, d] := by
      match hh : p.data.toList, hl, hc1, hd1 with
      | [a, b], _, h, h2 => simp at h h2; rw [h, h2]
      | [], h, _, _ => simp at h; omega
      | [a], h, _, _ => simp at h; omega
      | a :: b :: e :: l, h, _, _ => simp at h; omega
    unfold pmB
    rw [if_neg (by omega), if_neg (by omega), nums_list, hpt, htwo]
    have e1 := u8_inj _ hr0 c
    have e2 := u8_inj _ hr1 d
    simp only [Int.natCast_zero] at hb0 hc2
    simp only [Int.natCast_one] at hb1 hd2
    rw [hb0, hc2, hb1, hd2, decide_eq_true (show 2 ≤ q.size by omega)]
    simp only [List.map_cons, List.map_nil]
    rw [bne]
    congr 1
    rw [Bool.eq_iff_iff]
    simp [e1, e2]
theorem it_step (P : List ByteArray) (hP : P.length ≤ 1000) (j : Nat) (hj : j < P.length) (p : ByteArray) (hp : rdOf ByteArray.empty P (j : Int) = p) (hp2 : p.size ≤ 2) (r : Int × Int) (hr : Gb s pos P (j + 1) r) :
    Gb s pos P j (if pmB q p = true ∧ p.size ≤ q.size ∧ markOf (s.extract (pos + (p.size : Int)).toNat s.size) ≠ 0 then (markOf (s.extract (pos + (p.size : Int)).toNat s.size), pos + (p.size : Int) + ((quot (markOf (s.extract (pos + (p.size : Int)).toNat s.size))).size : Int)) else r) := by
  have hz : q.size = s.size - pos.toNat := by rw [← hq, ByteArray.size_extract]; omega
  obtain ⟨k, hk⟩ := hr
  have hk' : ∀ K, k ≤ K → PPl.indentureref11_begins.l0 K s pos P ((j + 1 : Nat) : Int) = some r := fun K hK =>
    at_rounds (g := fun k => PPl.indentureref11_begins.l0 k s pos P ((j + 1 : Nat) : Int)) (fun k => (PPl.indentureref11_begins.mono_l k).1 _ _ _ _) hK hk
  have hjj : wrap64 ((j : Int) + 1) = ((j + 1 : Nat) : Int) := by rw [w64 _ (by omega)]; omega
  refine ⟨k + 7, ?_⟩
  rw [PPl.indentureref11_begins.l0]
  rw [if_pos (show (j : Int) < (P.length : Int) by omega), if_pos (show (0 : Int) ≤ (j : Int) by omega), hp, w64 _ (by omega)]
  by_cases c1 : pos + (p.size : Int) > (s.size : Int)
  · rw [if_pos c1, if_neg (fun h => by have := h.2.1; omega), PPl.indentureref11_begins.j1, if_pos rfl, hjj]
    exact hk' _ (by omega)
  · rw [if_neg c1, if_pos h0, if_pos (show pos ≤ pos + (p.size : Int) by omega), if_pos (show pos + (p.size : Int) ≤ (s.size : Int) by omega)]
    obtain ⟨t, ht, hm⟩ := it_low s pos hs h0 hp0 q hq p hp2 (by omega) (k + 3)
    rw [ht]
    simp only [Option.bind_some]
    rw [hm, PPl.indentureref11_begins.j1]
    cases hb : pmB q p with
    | false =>
      rw [if_pos (show (!false) = true from rfl), if_neg (fun h => by simp at h), hjj]
      exact hk' _ (by omega)
    | true =>
      rw [if_neg (show ¬ ((!true) = true) by decide), marks_loop s pos hs h0 hp0 q hq P (j : Int) (pos + (p.size : Int)) (by omega) (by omega) k, hjj, hk' k (Nat.le_refl _)]
      by_cases c2 : markOf (s.extract (pos + (p.size : Int)).toNat s.size) = 0
      · rw [if_pos c2, if_neg (fun h => h.2.2 c2)]
      · rw [if_neg c2, if_pos ⟨rfl, by omega, c2⟩]

theorem mark_at (i : Nat) (hi : i ≤ q.size) (h : markOf (q.extract i q.size) ≠ 0) : i < q.size ∧ (bt q (i : Int) = 39 ∨ bt q (i : Int) = 34) := by
  have _u0 := hs
  have _u1 := h0
  have _u2 := hp0
  have _u3 := hq
  have _u4 := hi
  obtain ⟨h1, h2⟩ := mark_quote _ h
  have hz : (q.extract i q.size).size = q.size - i := by rw [ByteArray.size_extract]; omega
  have hb := bt_rest q (i : Int) 0 (by omega) (by omega) (by omega)
  rw [Int.toNat_natCast, Int.add_zero] at hb
  rw [hb] at h2
  exact ⟨by omega, h2⟩
theorem ext_at (i : Nat) (hi : i ≤ q.size) : s.extract (pos + (i : Int)).toNat s.size = q.extract i q.size := by
  have hz : q.size = s.size - pos.toNat := by rw [← hq, ByteArray.size_extract]; omega
  rw [← hq]
  apply ByteArray.ext
  simp only [ByteArray.data_extract]
  rw [Array.extract_extract]
  have hss : s.data.size = s.size := rfl
  have hzz : (s.extract pos.toNat s.size).size = s.size - pos.toNat := by rw [ByteArray.size_extract]; omega
  congr 1
  · omega
  · omega
end

end Go.Proofs.Ytdknppomjcpihaa.PPy

namespace Go.Proofs.Ytdknppomjcpihaa.PPy
open Go.RowKit Go.Proofs.YtdknppomjcpihaaW.PrintWords Go.Proofs.YtdknppomjcpihaaW.PrintLast Go.Proofs.YtdknppomjcpihaaW.PrintMore

def preL : List ByteArray := [(⟨#[]⟩ : ByteArray), (⟨#[114]⟩ : ByteArray), (⟨#[117]⟩ : ByteArray), (⟨#[98]⟩ : ByteArray), (⟨#[102]⟩ : ByteArray), (⟨#[98, 114]⟩ : ByteArray), (⟨#[114, 98]⟩ : ByteArray), (⟨#[102, 114]⟩ : ByteArray), (⟨#[114, 102]⟩ : ByteArray)]

theorem ifc {α : Type} {p q : Prop} [Decidable p] [Decidable q] (h : p ↔ q) {a b : α} : (if p then a else b) = if q then a else b := by
  by_cases hp : p
  · rw [if_pos hp, if_pos (h.mp hp)]
  · rw [if_neg hp, if_neg (fun c => hp (h.mpr c))]
theorem pair_eq (a b : Int) (ha : 0 ≤ a ∧ a ≤ 255) (hb : 0 ≤ b ∧ b ≤ 255) : pairB (strOfNums [a, b]) = ((decide (a = 98) && decide (b = 114)) || ((decide (a = 114) && decide (b = 98)) || ((decide (a = 102) && decide (b = 114)) || (decide (a = 114) && decide (b = 102))))) := by
  unfold pairB
  rw [nums_list]
  simp only [List.map_cons, List.map_nil]
  have e := fun (x : Int) (hx : 0 ≤ x ∧ x ≤ 255) (d : UInt8) => u8_inj x hx d
  have key : ∀ (c d : UInt8), (([a.toNat.toUInt8, b.toNat.toUInt8] : List UInt8) == [c, d]) = (decide (a = (c.toNat : Int)) && decide (b = (d.toNat : Int))) := by
    intro c d
    rw [Bool.eq_iff_iff]
    simp [e a ha c, e b hb d]
  rw [key, key, key, key]
  rfl

section
variable (s : ByteArray) (pos : Int) (hs : s.size ≤ 1000000) (h0 : 0 ≤ pos) (hp0 : pos < (s.size : Int)) (q : ByteArray) (hq : s.extract pos.toNat s.size = q)
include hs h0 hp0 hq

def mk (q : ByteArray) (i : Nat) : Int := markOf (q.extract i q.size)
def Rb (q : ByteArray) (pos : Int) (i : Nat) : Int × Int := (mk q i, pos + (i : Int) + ((quot (mk q i)).size : Int))

theorem it0 (r : Int × Int) (hr : Gb s pos preL 1 r) : Gb s pos preL 0 (if mk q 0 ≠ 0 then Rb q pos 0 else r) := by
  have h := it_step s pos hs h0 hp0 q hq preL (by decide) 0 (by decide) ⟨#[]⟩ rfl (by decide) r hr
  have hx := ext_at s pos hs h0 hp0 q hq 0 (Nat.zero_le _)
  rw [show ((⟨#[]⟩ : ByteArray).size : Int) = ((0 : Nat) : Int) from rfl, hx] at h
  have hc : (pmB q ⟨#[]⟩ = true ∧ (⟨#[]⟩ : ByteArray).size ≤ q.size ∧ markOf (q.extract 0 q.size) ≠ 0) ↔ mk q 0 ≠ 0 := ⟨fun h => h.2.2, fun h => ⟨rfl, Nat.zero_le _, h⟩⟩
  rw [ifc hc] at h
  exact h
theorem it1 (j : Nat) (hj : j < 9) (c : UInt8) (hc : rdOf ByteArray.empty preL (j : Int) = ⟨#[c]⟩) (r : Int × Int) (hr : Gb s pos preL (j + 1) r) : Gb s pos preL j (if smallB (bt q 0) = (c.toNat : Int) ∧ mk q 1 ≠ 0 then Rb q pos 1 else r) := by
  have hz : q.size = s.size - pos.toNat := by rw [← hq, ByteArray.size_extract]; omega
  have h := it_step s pos hs h0 hp0 q hq preL (by decide) j hj ⟨#[c]⟩ hc (by show 1 ≤ 2; omega) r hr
  have hx := ext_at s pos hs h0 hp0 q hq 1 (by omega)
  rw [show ((⟨#[c]⟩ : ByteArray).size : Int) = ((1 : Nat) : Int) from rfl, hx] at h
  have hb : bt ⟨#[c]⟩ 0 = (c.toNat : Int) := rfl
  have hc : (pmB q ⟨#[c]⟩ = true ∧ (⟨#[c]⟩ : ByteArray).size ≤ q.size ∧ markOf (q.extract 1 q.size) ≠ 0) ↔ (smallB (bt q 0) = (c.toNat : Int) ∧ mk q 1 ≠ 0) := by
    unfold pmB mk
    rw [if_neg (show ¬ ((⟨#[c]⟩ : ByteArray).size = 0) from (by show ¬ (1 = 0); decide)), if_pos (show (⟨#[c]⟩ : ByteArray).size = 1 from rfl), hb, decide_eq_true_iff]
    exact ⟨fun h => ⟨h.1, h.2.2⟩, fun h => ⟨h.1, show 1 ≤ q.size by omega, h.2⟩⟩
  rw [ifc hc] at h
  exact h
theorem it2 (j : Nat) (hj : j < 9) (c d : UInt8) (hc : rdOf ByteArray.empty preL (j : Int) = ⟨#[c, d]⟩) (r : Int × Int) (hr : Gb s pos preL (j + 1) r) : Gb s pos preL j (if (2 ≤ q.size ∧ smallB (bt q 0) = (c.toNat : Int) ∧ smallB (bt q 1) = (d.toNat : Int)) ∧ mk q 2 ≠ 0 then Rb q pos 2 else r) := by
  have hz : q.size = s.size - pos.toNat := by rw [← hq, ByteArray.size_extract]; omega
  have h := it_step s pos hs h0 hp0 q hq preL (by decide) j hj ⟨#[c, d]⟩ hc (by show 2 ≤ 2; omega) r hr
  rw [show ((⟨#[c, d]⟩ : ByteArray).size : Int) = ((2 : Nat) : Int) from rfl] at h
  have hb : bt ⟨#[c, d]⟩ 0 = (c.toNat : Int) := rfl
  have hb1 : bt ⟨#[c, d]⟩ 1 = (d.toNat : Int) := rfl
  have hsz : (⟨#[c, d]⟩ : ByteArray).size = 2 := rfl
  by_cases h2 : 2 ≤ q.size
  · have hx := ext_at s pos hs h0 hp0 q hq 2 h2
    rw [hx] at h
    have hc : (pmB q ⟨#[c, d]⟩ = true ∧ (⟨#[c, d]⟩ : ByteArray).size ≤ q.size ∧ markOf (q.extract 2 q.size) ≠ 0) ↔ ((2 ≤ q.size ∧ smallB (bt q 0) = (c.toNat : Int) ∧ smallB (bt q 1) = (d.toNat : Int)) ∧ mk q 2 ≠ 0) := by
      unfold pmB mk
      rw [hsz, if_neg (by decide), if_neg (by decide), hb, hb1]
      simp only [Bool.and_eq_true, decide_eq_true_iff]
      exact ⟨fun h => ⟨h.1, h.2.2⟩, fun h => ⟨h.1, h.1.1, h.2⟩⟩
    rw [ifc hc] at h
    exact h
  · rw [if_neg (fun h => h2 (by have := h.2.1; rw [hsz] at this; exact this))] at h
    rw [if_neg (fun h => h2 h.1.1)]
    exact h

theorem begins_ref : ∃ k, PPl.indentureref11_begins.f k s pos = some (begM q, if begM q = 0 then 0 else pos + begN 3 q 0 + ((quot (begM q)).size : Int)) := by
  have hz : q.size = s.size - pos.toNat := by rw [← hq, ByteArray.size_extract]; omega
  have g9 : Gb s pos preL 9 (0, 0) := ⟨1, by rw [PPl.indentureref11_begins.l0]; rw [if_neg (by decide)]⟩
  have g8 := it2 s pos hs h0 hp0 q hq 8 (by decide) 114 102 rfl _ g9
  have g7 := it2 s pos hs h0 hp0 q hq 7 (by decide) 102 114 rfl _ g8
  have g6 := it2 s pos hs h0 hp0 q hq 6 (by decide) 114 98 rfl _ g7
  have g5 := it2 s pos hs h0 hp0 q hq 5 (by decide) 98 114 rfl _ g6
  have g4 := it1 s pos hs h0 hp0 q hq 4 (by decide) 102 rfl _ g5
  have g3 := it1 s pos hs h0 hp0 q hq 3 (by decide) 98 rfl _ g4
  have g2 := it1 s pos hs h0 hp0 q hq 2 (by decide) 117 rfl _ g3
  have g1 := it1 s pos hs h0 hp0 q hq 1 (by decide) 114 rfl _ g2
  have g0 := it0 s pos hs h0 hp0 q hq _ g1
  obtain ⟨k, hk⟩ := g0
  refine ⟨k, ?_⟩
  refine Eq.trans (b := PPl.indentureref11_begins.l0 k s pos preL ((0 : Nat) : Int)) rfl (hk.trans (congrArg some ?_))
  clear g1 g2 g3 g4 g5 g6 g7 g8 g9 hk
  have m0 : mk q 0 ≠ 0 → bt q 0 = 39 ∨ bt q 0 = 34 := fun h => (mark_at s pos hs h0 hp0 q hq 0 (Nat.zero_le _) h).2
  have m1 : mk q 1 ≠ 0 → 2 ≤ q.size ∧ (bt q 1 = 39 ∨ bt q 1 = 34) := fun h => by
    have := mark_at s pos hs h0 hp0 q hq 1 (by omega) h
    exact ⟨by omega, this.2⟩
  have hs39 : smallB 39 = 39 := by decide
  have hs34 : smallB 34 = 34 := by decide
  obtain ⟨b0, hb0⟩ : ∃ b0, smallB (bt q 0) = b0 := ⟨_, rfl⟩
  obtain ⟨b1, hb1⟩ : ∃ b1, smallB (bt q 1) = b1 := ⟨_, rfl⟩
  have m0' : mk q 0 ≠ 0 → b0 = 39 ∨ b0 = 34 := fun h => by rcases m0 h with e | e <;> rw [e] at hb0 <;> omega
  have m1' : mk q 1 ≠ 0 → 2 ≤ q.size ∧ (b1 = 39 ∨ b1 = 34) := fun h => by rcases (m1 h).2 with e | e <;> rw [e] at hb1 <;> exact ⟨(m1 h).1, by omega⟩
  have hn : begN 3 q 0 = if preB b0 = true then (if 2 ≤ q.size ∧ preB b1 = true then 2 else 1) else 0 := by
    simp only [begN, Int.zero_add]
    rw [hb0, hb1]
    by_cases c0 : preB b0 = true
    · rw [if_pos c0, if_pos ⟨by omega, by omega, c0⟩]
      by_cases c1 : 2 ≤ q.size ∧ preB b1 = true
      · rw [if_pos c1, if_pos ⟨by omega, by omega, c1.2⟩, if_neg (by omega)]
        rfl
      · rw [if_neg c1, if_neg (fun h => c1 ⟨by omega, h.2.2⟩)]
    · rw [if_neg c0, if_neg (fun h => c0 h.2.2)]
  have hpb := pair_eq b0 b1 (by rw [← hb0]; exact small_rng _ (bt_range q 0)) (by rw [← hb1]; exact small_rng _ (bt_range q 1))
  have hpre : ∀ b : Int, preB b = true ↔ b = 114 ∨ b = 117 ∨ b = 98 ∨ b = 102 := by intro b; unfold preB; simp
  unfold begM
  rw [hb0, hb1, hpb]
  simp only [hpre] at hn
  clear hpb hb0 hb1 m0 m1
  have hmk : ∀ n : Nat, markOf (q.extract n q.size) = mk q n := fun _ => rfl
  have n98 : ((98 : UInt8).toNat : Int) = 98 := rfl
  have n114 : ((114 : UInt8).toNat : Int) = 114 := rfl
  have n102 : ((102 : UInt8).toNat : Int) = 102 := rfl
  have n117 : ((117 : UInt8).toNat : Int) = 117 := rfl
  rw [n98, n114, n102, n117]
  unfold Rb
  by_cases c0 : b0 = 114 ∨ b0 = 117 ∨ b0 = 98 ∨ b0 = 102
  · have e0 : mk q 0 = 0 := by
      by_cases e : mk q 0 = 0
      · exact e
      · rcases m0' e with h | h <;> omega
    rw [if_pos c0] at hn
    by_cases c1 : 2 ≤ q.size ∧ (b1 = 114 ∨ b1 = 117 ∨ b1 = 98 ∨ b1 = 102)
    · rw [if_pos c1] at hn
      have e1 : mk q 1 = 0 := by
        by_cases e : mk q 1 = 0
        · exact e
        · rcases (m1' e).2 with h | h <;> omega
      have hq2 := c1.1
      rw [hn, show (2 : Int).toNat = 2 from rfl, hmk]
      generalize mk q 2 = M2 at *
      generalize mk q 1 = M1 at *
      generalize mk q 0 = M0 at *
      subst e0 e1
      by_cases e2 : M2 = 0
      · subst e2
        simp
      · rcases c0 with rfl | rfl | rfl | rfl <;> rcases c1.2 with rfl | rfl | rfl | rfl <;> simp [hq2, e2]
    · rw [if_neg c1] at hn
      have f1 : ∀ y : Int, (y = 114 ∨ y = 98 ∨ y = 102) → ¬ (2 ≤ q.size ∧ b1 = y) := fun y hy h => c1 ⟨h.1, by omega⟩
      have g1 := f1 114 (by omega)
      have g2 := f1 98 (by omega)
      have g3 := f1 102 (by omega)
      rw [hn, show (1 : Int).toNat = 1 from rfl, hmk]
      generalize mk q 2 = M2 at *
      generalize mk q 1 = M1 at *
      generalize mk q 0 = M0 at *
      subst e0
      by_cases e1 : M1 = 0
      · subst e1
        rw [not_and] at g1 g2 g3
        by_cases h2 : 2 ≤ q.size
        · simp [h2, g1 h2, g2 h2, g3 h2]
        · simp [h2]
      · rcases c0 with rfl | rfl | rfl | rfl <;> simp [e1]
  · rw [if_neg c0] at hn
    have d1 : ¬ b0 = 114 := fun h => c0 (.inl h)
    have d2 : ¬ b0 = 117 := fun h => c0 (.inr (.inl h))
    have d3 : ¬ b0 = 98 := fun h => c0 (.inr (.inr (.inl h)))
    have d4 : ¬ b0 = 102 := fun h => c0 (.inr (.inr (.inr h)))
    rw [hn, show (0 : Int).toNat = 0 from rfl, hmk]
    generalize mk q 2 = M2 at *
    generalize mk q 1 = M1 at *
    generalize mk q 0 = M0 at *
    by_cases e0 : M0 = 0
    · subst e0
      simp [d1, d2, d3, d4]
    · simp [e0]
end

end Go.Proofs.Ytdknppomjcpihaa.PPy
