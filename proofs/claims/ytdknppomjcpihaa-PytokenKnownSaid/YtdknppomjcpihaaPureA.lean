/- What the document's helpers compute, as the model says it: at, Letter, Digit, quotes, close, number. No Go in it. -/
import Derived.Test.YtdknppomjcpihaaPPlx4
import Derived.Test.YtdknppomjcpihaaPPlx3
import Derived.Test.YtdknppomjcpihaaPPlx2
import Derived.Test.YtdknppomjcpihaaModel3
namespace Go.Proofs.Ytdknppomjcpihaa.PPy
open Go.RowKit Go.Proofs.YtdknppomjcpihaaW.PrintWords Go.Proofs.YtdknppomjcpihaaW.PrintLast Go.Proofs.YtdknppomjcpihaaW.PrintMore

theorem w64 (n : Int) (h : -9223372036854775808 ≤ n ∧ n ≤ 9223372036854775807) : wrap64 n = n := IntWalk.wrap64_in n h

theorem letter_ref (c : Int) (h : 0 ≤ c ∧ c ≤ 255) : PPl.indentureref11_Letter.f c = some (letterB c) := by
  have e : ∀ n : Nat, n < 256 → PPl.indentureref11_Letter.f (n : Int) = some (letterB (n : Int)) := by decide +kernel
  have := e c.toNat (by omega)
  rwa [Int.toNat_of_nonneg h.1] at this
theorem digit_ref (c : Int) : PPl.indentureref11_Digit.f c = some (digitB c) := by
  unfold PPl.indentureref11_Digit.f digitB
  by_cases h1 : c ≥ 48 <;> simp [h1] <;> omega
theorem quot_ref (m : Int) (h : 1 ≤ m ∧ m ≤ 4) : PPl.indentureref11_quotes.f m = some (quot m) := by
  have : m = 1 ∨ m = 2 ∨ m = 3 ∨ m = 4 := by omega
  rcases this with rfl | rfl | rfl | rfl <;> rfl
theorem ext_ext (s : ByteArray) (a n : Nat) (h : a + n ≤ s.size) : (s.extract a s.size).extract 0 n = s.extract a (a + n) := by
  apply ByteArray.ext
  simp only [ByteArray.data_extract]
  rw [Array.extract_extract]
  congr 1
  · have : s.size = s.data.size := rfl
    omega
theorem at_ref (s q : ByteArray) (i : Int) (h0 : 0 ≤ i) (h1 : i ≤ (s.size : Int)) (hs : s.size ≤ 1000000) (hq : q.size ≤ 3) : PPl.indentureref11_at.f s i q = some (hp (s.extract i.toNat s.size) q) := by
  unfold PPl.indentureref11_at.f hp
  rw [w64 _ (by omega)]
  have hz : (s.extract i.toNat s.size).size = s.size - i.toNat := by rw [ByteArray.size_extract]; omega
  rw [hz]
  by_cases hle : i + (q.size : Int) ≤ (s.size : Int)
  · rw [if_pos hle, if_pos h0, if_pos (by omega), ext_ext s i.toNat q.size (by omega), decide_eq_true (by omega), Bool.true_and, show (i + (q.size : Int)).toNat = i.toNat + q.size by omega]
  · rw [if_neg hle, decide_eq_false (by omega), Bool.false_and]

def closeOf (s q : ByteArray) : Option Int × Bool → Int × Int
  | (some i, _) => (i + (q.size : Int), 0)
  | (none, true) => ((s.size : Int), 1)
  | (none, false) => ((s.size : Int), 2)
theorem tx_end (n : Nat) (s q : ByteArray) (i : Int) (tk : Bool) (h : ¬ i < (s.size : Int)) : tx n s q i tk = (none, tk) := by
  cases n with
  | zero => rfl
  | succ n => simp only [tx]; rw [if_neg h]
theorem close_ref (s q : ByteArray) (hs : s.size ≤ 1000000) (hq : q.size ≤ 3) : ∀ (n : Nat) (i : Int), 0 ≤ i → i ≤ (s.size : Int) + 1 → (s.size : Int) + 1 - i ≤ n → PPl.indentureref11_close.l0 (n + 1) s i q = some (closeOf s q (tx n s q i false)) := by
  intro n
  induction n with
  | zero =>
    intro i h0 h1 h2
    simp only [PPl.indentureref11_close.l0]
    rw [if_neg (by omega), tx_end _ _ _ _ _ (by omega)]
    rfl
  | succ n ih =>
    intro i h0 h1 h2
    simp only [PPl.indentureref11_close.l0, tx]
    by_cases c1 : i < (s.size : Int)
    · rw [if_pos c1, if_pos h0, if_pos c1]
      by_cases c2 : bt s i = 92
      · rw [if_pos c2, if_pos c2, w64 _ (by omega), w64 _ (by omega)]
        by_cases c3 : i + 1 = (s.size : Int)
        · rw [if_pos c3, tx_end _ _ _ _ _ (by omega), beq_iff_eq.mpr c3]
          rfl
        · rw [if_neg c3, beq_eq_false_iff_ne.mpr c3]
          exact ih (i + 2) (by omega) (by omega) (by omega)
      · rw [if_neg c2, if_neg c2, at_ref s q i h0 (by omega) hs hq, w64 (i + 1) (by omega), w64 _ (by omega)]
        simp only [Option.bind_some]
        by_cases c3 : hp (s.extract i.toNat s.size) q = true
        · rw [if_pos c3, if_pos c3]
          rfl
        · rw [if_neg c3, if_neg c3]
          exact ih (i + 1) (by omega) (by omega) (by omega)
    · rw [if_neg c1, if_neg c1]
      rfl

theorem bt_rest (s : ByteArray) (pos i : Int) (h0 : 0 ≤ pos) (h1 : 0 ≤ i) (hp : pos ≤ (s.size : Int)) : bt (s.extract pos.toNat s.size) i = bt s (pos + i) := by
  have hz : (s.extract pos.toNat s.size).size = s.size - pos.toNat := by rw [ByteArray.size_extract]; omega
  unfold bt
  by_cases h : i.toNat < s.size - pos.toNat
  · rw [dif_pos (by rw [hz]; exact h), dif_pos (show (pos + i).toNat < s.size by omega)]
    rw [ByteArray.getElem_extract]
    congr 3
    omega
  · rw [dif_neg (by rw [hz]; exact h), dif_neg (show ¬ (pos + i).toNat < s.size by omega)]
theorem small_e (p : Int) (hp : 0 ≤ p ∧ p ≤ 255) : smallB p = 101 ↔ p = 101 ∨ p = 69 := by
  unfold smallB
  split <;> omega

theorem number_j2 (k : Nat) (s : ByteArray) (sg : Bool) (x c : Int) (sgn : Bool) (hc : 0 ≤ c ∧ c ≤ 255) :
    PPl.indentureref11_number.j2 (k + 1) s sg x c sgn = if (!(letterB c && decide (c < 128)) && (!digitB c && (!decide (c = 46) && !sgn))) = true then some x else PPl.indentureref11_number.l0 k s sg (wrap64 (x + 1)) := by
  simp only [PPl.indentureref11_number.j2]
  rw [letter_ref c hc, digit_ref c]
  simp only [Option.bind_some]
  cases letterB c <;> cases digitB c <;> cases sgn <;> by_cases h1 : c < 128 <;> by_cases h2 : c = 46 <;> simp [h1, h2]
theorem number_loop (s : ByteArray) (pos : Int) (sg : Bool) (hs : s.size ≤ 1000000) (h0 : 0 ≤ pos) (hp : pos ≤ (s.size : Int)) (q : ByteArray) (hq : s.extract pos.toNat s.size = q) :
    ∀ (n : Nat) (i : Int), 1 ≤ i → i ≤ (q.size : Int) → (q.size : Int) - i ≤ n → PPl.indentureref11_number.l0 (2 * n + 1) s sg (pos + i) = some (pos + numEnd (n + 1) q sg i) := by
  have hz : q.size = s.size - pos.toNat := by rw [← hq, ByteArray.size_extract]; omega
  have hb : ∀ i : Int, 0 ≤ i → bt s (pos + i) = bt q i := fun i hi => by rw [← hq, bt_rest s pos i h0 hi hp]
  intro n
  induction n with
  | zero =>
    intro i h1 h2 h3
    simp only [PPl.indentureref11_number.l0, numEnd]
    rw [if_neg (by omega), if_neg (by omega)]
  | succ n ih =>
    intro i h1 h2 h3
    rw [show 2 * (n + 1) + 1 = (2 * n + 1) + 1 + 1 by omega]
    rw [numEnd]
    simp only [PPl.indentureref11_number.l0]
    by_cases c1 : i < (q.size : Int)
    · rw [if_pos (by omega), if_pos (by omega), if_pos c1, w64 (pos + i - 1) (by omega), show pos + i - 1 = pos + (i - 1) by omega, hb i (by omega), hb (i - 1) (by omega)]
      have hp1 : 0 ≤ pos + (i - 1) := by omega
      have hp2 : pos + (i - 1) < (s.size : Int) := by omega
      have hcr := bt_range q i
      have hpr := bt_range q (i - 1)
      have hih := ih (i + 1) (by omega) (by omega) (by omega)
      rw [show pos + (i + 1) = pos + i + 1 by omega] at hih
      have hw : wrap64 (pos + i + 1) = pos + i + 1 := w64 _ (by omega)
      have key : ∀ sgn : Bool, sgn = ((decide (bt q i = 43) || decide (bt q i = 45)) && (sg && decide (smallB (bt q (i - 1)) = 101))) →
          PPl.indentureref11_number.j2 (2 * n + 1 + 1) s sg (pos + i) (bt q i) sgn = some (pos + (if numStop sg (bt q (i - 1)) (bt q i) = true then i else numEnd (n + 1) q sg (i + 1))) := by
        intro sgn hsgn
        rw [number_j2 _ _ _ _ _ _ hcr, hw, hih, hsgn]
        unfold numStop
        split <;> rfl
      have he := small_e _ hpr
      cases sg with
      | false =>
        rw [if_neg (by decide)]
        exact key false (by simp)
      | true =>
        rw [if_pos rfl]
        by_cases c43 : bt q i = 43
        · rw [if_pos c43, if_pos hp1, if_pos hp2]
          by_cases c101 : bt q (i - 1) = 101
          · rw [if_pos c101]
            exact key true (by rw [decide_eq_true c43, decide_eq_true (he.mpr (.inl c101))]; rfl)
          · rw [if_neg c101]
            refine key _ ?_
            rw [decide_eq_true c43, Bool.true_or, Bool.true_and, Bool.true_and, Bool.eq_iff_iff]
            simp [he, c101]
        · rw [if_neg c43]
          by_cases c45 : bt q i = 45
          · rw [if_pos c45, if_pos hp1, if_pos hp2]
            by_cases c101 : bt q (i - 1) = 101
            · rw [if_pos c101]
              exact key true (by rw [decide_eq_true c45, decide_eq_true (he.mpr (.inl c101)), Bool.or_true]; rfl)
            · rw [if_neg c101]
              refine key _ ?_
              rw [decide_eq_true c45, Bool.or_true, Bool.true_and, Bool.true_and, Bool.eq_iff_iff]
              simp [he, c101]
          · rw [if_neg c45]
            exact key false (by simp [c43, c45])
    · rw [if_neg (by omega), if_neg c1]
theorem number_ref (s : ByteArray) (pos : Int) (hs : s.size ≤ 1000000) (h0 : 0 ≤ pos) (hp : pos < (s.size : Int)) :
    PPl.indentureref11_number.f (2 * s.size + 4) s pos = some (pos + numEnd (s.size + 1) (s.extract pos.toNat s.size) (signsB (s.extract pos.toNat s.size)) 1) := by
  obtain ⟨q, hq⟩ : ∃ q, s.extract pos.toNat s.size = q := ⟨_, rfl⟩
  have hz : q.size = s.size - pos.toNat := by rw [← hq, ByteArray.size_extract]; omega
  have hb : ∀ i : Int, 0 ≤ i → bt s (pos + i) = bt q i := fun i hi => by rw [← hq, bt_rest s pos i h0 hi (by omega)]
  rw [hq]
  have hj : ∀ sg : Bool, PPl.indentureref11_number.j0 (2 * s.size + 4) s pos sg = some (pos + numEnd (s.size + 1) q sg 1) := by
    intro sg
    rw [show 2 * s.size + 4 = (2 * s.size + 3) + 1 by omega]
    simp only [PPl.indentureref11_number.j0]
    rw [w64 _ (by omega)]
    have hl := number_loop s pos sg hs h0 (by omega) q hq s.size 1 (by omega) (by omega) (by omega)
    exact at_rounds (g := fun k => PPl.indentureref11_number.l0 k s sg (pos + 1)) (fun k => (PPl.indentureref11_number.mono_l k).2.1 _ _ _) (by omega) hl
  unfold PPl.indentureref11_number.f signsB radixB
  rw [w64 _ (by omega), hb 1 (by omega)]
  by_cases c1 : pos + 1 < (s.size : Int)
  · rw [if_pos c1, if_pos (by omega), decide_eq_false (show ¬ q.size < 2 by omega), hj, hj]
    (repeat' split) <;> simp_all
  · rw [if_neg c1, decide_eq_true (show q.size < 2 by omega), hj]
    rfl

end Go.Proofs.Ytdknppomjcpihaa.PPy
