/- A scan from a place on is the scan of the rest of the line, moved. No Go in it. -/
import Derived.Test.YtdknppomjcpihaaPureC
namespace Go.Proofs.Ytdknppomjcpihaa.PPy
open Go.RowKit Go.Proofs.YtdknppomjcpihaaW.PrintWords Go.Proofs.YtdknppomjcpihaaW.PrintLast Go.Proofs.YtdknppomjcpihaaW.PrintMore

theorem ext_tail (s : ByteArray) (k i : Nat) : (s.extract k s.size).extract i (s.extract k s.size).size = s.extract (k + i) s.size := by
  apply ByteArray.ext
  simp only [ByteArray.data_extract, ByteArray.size_extract]
  rw [Array.extract_extract]
  congr 1
  · have : s.size = s.data.size := rfl
    omega
theorem ext_mid (s : ByteArray) (k a b : Nat) : (s.extract k s.size).extract a b = s.extract (k + a) (k + b) := by
  apply ByteArray.ext
  simp only [ByteArray.data_extract]
  rw [Array.extract_extract]
  apply Array.ext'
  rw [Array.toList_extract, Array.toList_extract, List.extract_eq_take_drop, List.extract_eq_take_drop]
  have e : s.size = s.data.toList.length := Array.length_toList.symm
  rw [e]
  by_cases h : k + b ≤ s.data.toList.length
  · rw [Nat.min_eq_left h]
  · rw [Nat.min_eq_right (by omega), List.take_of_length_le (by rw [List.length_drop]; omega), List.take_of_length_le (by rw [List.length_drop]; omega)]
theorem size_tail (s : ByteArray) (k : Nat) (h : k ≤ s.size) : (s.extract k s.size).size = s.size - k := by rw [ByteArray.size_extract]; omega
theorem bt_tail (s : ByteArray) (k : Nat) (i : Int) (h : k ≤ s.size) (h0 : 0 ≤ i) : bt (s.extract k s.size) i = bt s (i + k) := by
  have := bt_rest s (k : Int) i (by omega) h0 (by omega)
  rw [Int.toNat_natCast] at this
  rw [this, Int.add_comm]

/-- More rounds than bytes are left: the same. -/
theorem tx_fuel (s q : ByteArray) : ∀ (n m : Nat) (i : Int) (tk : Bool), (s.size : Int) - i ≤ n → (s.size : Int) - i ≤ m → tx n s q i tk = tx m s q i tk := by
  intro n
  induction n with
  | zero => intro m i tk h _; rw [tx_end 0 s q i tk (by omega), tx_end m s q i tk (by omega)]
  | succ n ih =>
    intro m i tk h h2
    by_cases hc : i < (s.size : Int)
    · obtain ⟨m, rfl⟩ : ∃ j, m = j + 1 := ⟨m - 1, by omega⟩
      simp only [tx]
      rw [if_pos hc, if_pos hc, ih m (i + 2) _ (by omega) (by omega), ih m (i + 1) _ (by omega) (by omega)]
    · rw [tx_end _ s q i tk hc, tx_end m s q i tk hc]
theorem nameEnd_end (n : Nat) (s : ByteArray) (i : Int) (h : ¬ i < (s.size : Int)) : nameEnd n s i = i := by
  cases n with
  | zero => rfl
  | succ n => simp only [nameEnd]; rw [if_neg h]
theorem nameEnd_fuel (s : ByteArray) : ∀ (n m : Nat) (i : Int), (s.size : Int) - i ≤ n → (s.size : Int) - i ≤ m → nameEnd n s i = nameEnd m s i := by
  intro n
  induction n with
  | zero => intro m i h _; rw [nameEnd_end 0 s i (by omega), nameEnd_end m s i (by omega)]
  | succ n ih =>
    intro m i h h2
    by_cases hc : i < (s.size : Int)
    · obtain ⟨m, rfl⟩ : ∃ j, m = j + 1 := ⟨m - 1, by omega⟩
      simp only [nameEnd]
      rw [if_pos hc, if_pos hc, ih m (i + 1) (by omega) (by omega)]
    · rw [nameEnd_end _ s i hc, nameEnd_end m s i hc]
theorem numEnd_end (n : Nat) (s : ByteArray) (b : Bool) (i : Int) (h : ¬ i < (s.size : Int)) : numEnd n s b i = i := by
  cases n with
  | zero => rfl
  | succ n => simp only [numEnd]; rw [if_neg h]
theorem numEnd_fuel (s : ByteArray) (b : Bool) : ∀ (n m : Nat) (i : Int), (s.size : Int) - i ≤ n → (s.size : Int) - i ≤ m → numEnd n s b i = numEnd m s b i := by
  intro n
  induction n with
  | zero => intro m i h _; rw [numEnd_end 0 s b i (by omega), numEnd_end m s b i (by omega)]
  | succ n ih =>
    intro m i h h2
    by_cases hc : i < (s.size : Int)
    · obtain ⟨m, rfl⟩ : ∃ j, m = j + 1 := ⟨m - 1, by omega⟩
      simp only [numEnd]
      rw [if_pos hc, if_pos hc, ih m (i + 1) (by omega) (by omega)]
    · rw [numEnd_end _ s b i hc, numEnd_end m s b i hc]

def shO (k : Int) : Option Int × Bool → Option Int × Bool
  | (some i, b) => (some (i + k), b)
  | (none, b) => (none, b)
theorem tx_shift (s q : ByteArray) (k : Nat) (hk : k ≤ s.size) : ∀ (n : Nat) (i : Int) (tk : Bool), 0 ≤ i → tx n s q (i + k) tk = shO k (tx n (s.extract k s.size) q i tk) := by
  intro n
  have hz := size_tail s k hk
  induction n with
  | zero => intro i tk h0; rfl
  | succ n ih =>
    intro i tk h0
    simp only [tx]
    rw [bt_tail s k i hk h0, ext_tail, show (i + (k : Int)).toNat = k + i.toNat by omega]
    by_cases hc : i < ((s.extract k s.size).size : Int)
    · rw [if_pos hc, if_pos (by omega)]
      by_cases h9 : bt s (i + k) = 92
      · rw [if_pos h9, if_pos h9, show i + (k : Int) + 2 = i + 2 + k by omega, ih (i + 2) _ (by omega)]
        congr 2
        rw [Bool.eq_iff_iff, beq_iff_eq, beq_iff_eq]
        omega
      · rw [if_neg h9, if_neg h9]
        split
        · rfl
        · rw [show i + (k : Int) + 1 = i + 1 + k by omega, ih (i + 1) _ (by omega)]
    · rw [if_neg hc, if_neg (by omega)]
      rfl
theorem nameEnd_shift (s : ByteArray) (k : Nat) (hk : k ≤ s.size) : ∀ (n : Nat) (i : Int), 0 ≤ i → nameEnd n s (i + k) = nameEnd n (s.extract k s.size) i + k := by
  intro n
  have hz := size_tail s k hk
  induction n with
  | zero => intro i h0; rfl
  | succ n ih =>
    intro i h0
    simp only [nameEnd]
    rw [bt_tail s k i hk h0]
    by_cases hc : i < ((s.extract k s.size).size : Int)
    · rw [if_pos hc, if_pos (by omega)]
      split
      · rw [show i + (k : Int) + 1 = i + 1 + k by omega, ih (i + 1) (by omega)]
      · rfl
    · rw [if_neg hc, if_neg (by omega)]

/-- A leaf, moved. -/
def shE (k : Int) : S33 → S33
  | ⟨o, d, a, t⟩ => ⟨o, d, a + k, t + k⟩
/-- r reads s, x reads s from k on; r came with leaves E, and with A, C of what was ahead. -/
structure Sh (k : Nat) (E : List S33) (A C : Bool) (r x : Rd) : Prop where
  hk : k ≤ r.s.size
  s : x.s = r.s.extract k r.s.size
  p0 : 0 ≤ x.pos
  p : r.pos = x.pos + k
  ev : r.ev = E ++ x.ev.map (shE k)
  mark : r.mark = x.mark
  depth : r.depth = x.depth
  join : r.join = x.join
  any : r.any = (A || x.any)
  colon : r.colon = if x.any = true then x.colon else C

theorem isColon_shift (s : ByteArray) (k : Nat) (a t : Int) (ha : 0 ≤ a) (ht : 0 ≤ t) : isColon s (a + k) (t + k) = isColon (s.extract k s.size) a t := by
  unfold isColon
  rw [ext_mid, show (a + (k : Int)).toNat = k + a.toNat by omega, show (t + (k : Int)).toNat = k + t.toNat by omega]
theorem Sh.leaf {k : Nat} {E : List S33} {A C : Bool} {r x : Rd} (h : Sh k E A C r x) (K T : Int) (hT : 0 ≤ T) : Sh k E A C (r.leaf K (T + k)) (x.leaf K T) := by
  obtain ⟨h1, h2, h3, h4, h5, h6, h7, h8, h9, h10⟩ := h
  unfold Rd.leaf
  have e : r.ev ++ [(⟨3, K, r.pos, T + k⟩ : S33)] = E ++ (x.ev ++ [(⟨3, K, x.pos, T⟩ : S33)]).map (shE k) := by
    rw [h5, List.map_append, List.append_assoc, h4]; rfl
  split
  · exact ⟨h1, h2, hT, rfl, e, h6, h7, h8, h9, h10⟩
  · refine ⟨h1, h2, hT, rfl, e, h6, h7, h8, by simp, ?_⟩
    simp only [if_true]
    rw [h4, isColon_shift r.s k _ _ h3 hT, h2, h7]
theorem Sh.setMark {k : Nat} {E : List S33} {A C : Bool} {r x : Rd} (h : Sh k E A C r x) (m : Int) : Sh k E A C { r with mark := m } { x with mark := m } :=
  ⟨h.hk, h.s, h.p0, h.p, h.ev, rfl, h.depth, h.join, h.any, h.colon⟩
theorem Sh.setDepth {k : Nat} {E : List S33} {A C : Bool} {r x : Rd} (h : Sh k E A C r x) (m : Int) : Sh k E A C { r with depth := m } { x with depth := m } :=
  ⟨h.hk, h.s, h.p0, h.p, h.ev, h.mark, rfl, h.join, h.any, h.colon⟩
theorem Sh.setJoin {k : Nat} {E : List S33} {A C : Bool} {r x : Rd} (h : Sh k E A C r x) (m : Bool) : Sh k E A C { r with join := m } { x with join := m } :=
  ⟨h.hk, h.s, h.p0, h.p, h.ev, h.mark, h.depth, rfl, h.any, h.colon⟩
theorem Sh.size {k : Nat} {E : List S33} {A C : Bool} {r x : Rd} (h : Sh k E A C r x) : (r.s.size : Int) = (x.s.size : Int) + k := by
  have h1 := h.hk
  rw [h.s, size_tail _ _ h1]; omega
theorem Sh.text {k : Nat} {E : List S33} {A C : Bool} {r x : Rd} (h : Sh k E A C r x) (f m K : Int) (hf : 0 ≤ f) : Sh k E A C (r.text (f + k) m K) (x.text f m K) := by
  have hz := h.size
  have e := tx_shift r.s (quot m) k h.hk (r.s.size + 1) f false hf
  rw [← h.s, tx_fuel x.s (quot m) (r.s.size + 1) (x.s.size + 1) f false (by omega) (by omega)] at e
  have hb := tx_bd x.s (quot m) (x.s.size + 1) f false
  unfold Rd.text
  rw [e]
  generalize tx (x.s.size + 1) x.s (quot m) f false = o at hb ⊢
  obtain ⟨o, tk⟩ := o
  cases o with
  | some i =>
    have := hb i tk rfl
    show Sh k E A C (({ r with mark := 0 } : Rd).leaf K (i + k + ((quot m).size : Int))) (({ x with mark := 0 } : Rd).leaf K (i + ((quot m).size : Int)))
    rw [show i + (k : Int) + ((quot m).size : Int) = i + ((quot m).size : Int) + k by omega]
    exact (h.setMark 0).leaf _ _ (by omega)
  | none =>
    show Sh k E A C (if 2 < m ∧ tk = false then ({ r with mark := 0 } : Rd).leaf 2 (r.s.size : Int) else ({ r with mark := m } : Rd).leaf 16 (r.s.size : Int)) (if 2 < m ∧ tk = false then ({ x with mark := 0 } : Rd).leaf 2 (x.s.size : Int) else ({ x with mark := m } : Rd).leaf 16 (x.s.size : Int))
    rw [hz]
    split
    · exact (h.setMark 0).leaf _ _ (by omega)
    · exact (h.setMark m).leaf _ _ (by omega)
theorem Sh.rest {k : Nat} {E : List S33} {A C : Bool} {r x : Rd} (h : Sh k E A C r x) : r.rest = x.rest := by
  unfold Rd.rest
  have h3 := h.p0
  rw [h.s, ext_tail, h.p, show (x.pos + (k : Int)).toNat = k + x.pos.toNat by omega]
theorem Sh.c {k : Nat} {E : List S33} {A C : Bool} {r x : Rd} (h : Sh k E A C r x) : r.c = x.c := by
  unfold Rd.c
  rw [h.s, bt_tail _ _ _ h.hk h.p0, h.p]
theorem Sh.step {k : Nat} {E : List S33} {A C : Bool} {r x : Rd} (h : Sh k E A C r x) : Sh k E A C r.step x.step := by
  have hz := h.size
  have hp := h.p
  have h0 := h.p0
  unfold Rd.step
  rw [h.mark, h.c, h.rest]
  split
  · rw [hp]; exact h.text _ _ _ h0
  split
  · exact ⟨h.hk, h.s, by show 0 ≤ x.pos + 1; omega, by show r.pos + 1 = x.pos + 1 + k; omega, h.ev, rfl, h.depth, h.join, h.any, h.colon⟩
  split
  · rw [hz]; exact h.leaf _ _ (by omega)
  split
  · unfold Rd.joined
    by_cases hj : x.pos + 1 = (x.s.size : Int)
    · rw [if_pos hj, if_pos (by omega), hz]; exact (h.setJoin true).leaf _ _ (by omega)
    · rw [if_neg hj, if_neg (by omega), hp, show x.pos + (k : Int) + 1 = x.pos + 1 + k by omega]; exact h.leaf _ _ (by omega)
  split
  · unfold Rd.begun
    have hb := begN_bd x.rest 3 0
    rw [h.rest, hp, show x.pos + (k : Int) + begN 3 x.rest 0 + ((quot (begM x.rest)).size : Int) = x.pos + begN 3 x.rest 0 + ((quot (begM x.rest)).size : Int) + k by omega]
    exact h.text _ _ _ (by omega)
  split
  · unfold Rd.name
    have hn := (nameEnd_bd x.s (x.s.size + 1) x.pos).1
    rw [hp, nameEnd_shift r.s k h.hk _ _ h0, ← h.s, nameEnd_fuel x.s (r.s.size + 1) (x.s.size + 1) x.pos (by omega) (by omega)]
    exact h.leaf _ _ (by omega)
  split
  · unfold Rd.number
    have hr := h.rest
    have hn := (numEnd_bd x.rest (signsB x.rest) (x.s.size + 1) 1).1
    have hl : x.rest.size ≤ x.s.size := by unfold Rd.rest; rw [ByteArray.size_extract]; omega
    rw [hr, hp, numEnd_fuel x.rest _ (r.s.size + 1) (x.s.size + 1) 1 (by omega) (by omega), show ∀ y : Int, x.pos + (k : Int) + y = x.pos + y + k by intro y; omega]
    exact h.leaf _ _ (by omega)
  split
  · unfold Rd.oper
    rw [h.depth, show ∀ y : Int, r.pos + y = x.pos + y + k by intro y; omega]
    split
    · exact (h.setDepth _).leaf _ _ (by omega)
    split
    · split
      · exact h.leaf _ _ (by omega)
      · exact (h.setDepth _).leaf _ _ (by omega)
    · exact h.leaf _ _ (by omega)
  · rw [hp, show x.pos + (k : Int) + 1 = x.pos + 1 + k by omega]
    exact h.leaf _ _ (by omega)
theorem Sh.scan {k : Nat} {E : List S33} {A C : Bool} : ∀ (n : Nat) {r x : Rd}, Sh k E A C r x → Sh k E A C (scanL n r) (scanL n x) := by
  intro n
  induction n with
  | zero => intro r x h; exact h
  | succ n ih =>
    intro r x h
    have hz := h.size
    have hp := h.p
    simp only [scanL]
    by_cases hc : x.pos < (x.s.size : Int)
    · rw [if_pos hc, if_pos (by omega)]; exact ih h.step
    · rw [if_neg hc, if_neg (by omega)]; exact h
theorem scanL_end (n : Nat) (r : Rd) (h : ¬ r.pos < (r.s.size : Int)) : scanL n r = r := by
  cases n with
  | zero => rfl
  | succ n => simp only [scanL]; rw [if_neg h]
theorem scanL_fuel : ∀ (n m : Nat) (r : Rd), r.Ok → (r.s.size : Int) - r.pos ≤ n → (r.s.size : Int) - r.pos ≤ m → scanL n r = scanL m r := by
  intro n
  induction n with
  | zero => intro m r hr h _; rw [scanL_end 0 r (by omega), scanL_end m r (by omega)]
  | succ n ih =>
    intro m r hr h h2
    by_cases hc : r.pos < (r.s.size : Int)
    · obtain ⟨m, rfl⟩ : ∃ j, m = j + 1 := ⟨m - 1, by omega⟩
      simp only [scanL]
      have hs := hr.step hc
      rw [if_pos hc, if_pos hc]
      exact ih m r.step hs.1 (by rw [hs.2.2]; omega) (by rw [hs.2.2]; omega)
    · rw [scanL_end _ r hc, scanL_end m r hc]
theorem scanL_ok : ∀ (n : Nat) (r : Rd), r.Ok → (scanL n r).Ok ∧ (scanL n r).s = r.s := by
  intro n
  induction n with
  | zero => intro r hr; exact ⟨hr, rfl⟩
  | succ n ih =>
    intro r hr
    simp only [scanL]
    split
    · rename_i hc
      have hs := hr.step hc
      obtain ⟨a, b⟩ := ih _ hs.1
      exact ⟨a, b.trans hs.2.2⟩
    · exact ⟨hr, rfl⟩
/-- The scan stands at the end. -/
theorem scanL_at_end : ∀ (n : Nat) (r : Rd), r.Ok → (r.s.size : Int) - r.pos ≤ n → (r.s.size : Int) ≤ (scanL n r).pos := by
  intro n
  induction n with
  | zero => intro r hr h; simp only [scanL]; omega
  | succ n ih =>
    intro r hr h
    by_cases hc : r.pos < (r.s.size : Int)
    · simp only [scanL]
      rw [if_pos hc]
      have hs := hr.step hc
      have := ih r.step hs.1 (by rw [hs.2.2]; omega)
      rw [hs.2.2] at this
      exact this
    · rw [scanL_end _ r hc]; omega

/-- Where the rest of a line ends. -/
theorem endOf_tail (s : ByteArray) (k : Nat) (hk : (k : Int) ≤ endOf s) : endOf (s.extract k s.size) = endOf s - k := by
  have hbd := endOf_bd s
  have hz := size_tail s k (by omega)
  have hb : ∀ i : Nat, bt (s.extract k s.size) (i : Int) = bt s ((i : Int) + k) := fun i => bt_tail s k i (by omega) (by omega)
  rcases ix_cases s with ⟨h1, h2⟩ | ⟨o, ho, h4, h5, h6⟩
  · have es : endOf s = (s.size : Int) := by unfold endOf; rw [h1, if_neg (by omega)]
    rw [es] at hk ⊢
    unfold endOf
    rcases ix_cases (s.extract k s.size) with ⟨g1, _⟩ | ⟨p, hp, g4, g5, _⟩
    · rw [g1, if_neg (by omega), hz]; omega
    · exfalso
      rw [hb p] at g5
      have := h2 (p + k) (by omega)
      rw [Int.natCast_add] at this
      exact this g5
  · have es : endOf s = if 1 ≤ (o : Int) ∧ bt s ((o : Int) - 1) = 13 then (o : Int) - 1 else (o : Int) := by unfold endOf; rw [ho, if_pos (by omega)]
    have hko : k ≤ o := by rw [es] at hk; split at hk <;> omega
    rw [es] at hk ⊢
    unfold endOf
    rcases ix_cases (s.extract k s.size) with ⟨_, g2⟩ | ⟨p, hp, g4, g5, g6⟩
    · exfalso
      have := g2 (o - k) (by omega)
      rw [hb, show (((o - k : Nat) : Int)) + k = o by omega] at this
      exact this h5
    · have hpo : p = o - k := by
        rw [hb p] at g5
        have c1 : ¬ p + k < o := fun c => h6 (p + k) c (by rw [Int.natCast_add]; exact g5)
        have c2 : ¬ o - k < p := fun c => g6 (o - k) c (by rw [hb, show (((o - k : Nat) : Int)) + k = o by omega]; exact h5)
        omega
      rw [hp, if_pos (show (0 : Int) ≤ (p : Int) by omega), hpo]
      by_cases c : 1 ≤ (o : Int) ∧ bt s ((o : Int) - 1) = 13
      · rw [if_pos c] at hk ⊢
        have h1 : 1 ≤ o - k := by omega
        have := hb (o - k - 1)
        rw [show (((o - k - 1 : Nat) : Int)) = ((o - k : Nat) : Int) - 1 by omega] at this
        rw [if_pos ⟨by omega, by rw [this, show ((o - k : Nat) : Int) - 1 + k = (o : Int) - 1 by omega]; exact c.2⟩]
        omega
      · rw [if_neg c] at hk ⊢
        by_cases h1 : 1 ≤ o - k
        · have := hb (o - k - 1)
          rw [show (((o - k - 1 : Nat) : Int)) = ((o - k : Nat) : Int) - 1 by omega] at this
          rw [if_neg (fun h => c ⟨by omega, by rw [← h.2, this, show ((o - k : Nat) : Int) - 1 + k = (o : Int) - 1 by omega]⟩)]
          omega
        · rw [if_neg (fun h => h1 (by omega))]
          omega
theorem lineOf_tail (s : ByteArray) (k : Nat) (hk : (k : Int) ≤ endOf s) : lineOf (s.extract k s.size) = (lineOf s).extract k (lineOf s).size := by
  have hbd := endOf_bd s
  have hz := size_tail s k (by omega)
  rw [lineOf_end, lineOf_end, endOf_tail s k hk]
  apply ByteArray.ext
  simp only [ByteArray.data_extract, ByteArray.size_extract]
  rw [Array.extract_extract, Array.extract_extract]
  have e : s.size = s.data.size := rfl
  congr 1 <;> omega
theorem lineOf_len (s : ByteArray) : ((lineOf s).size : Int) = endOf s := by
  have hbd := endOf_bd s
  rw [lineOf_end, ByteArray.size_extract]; omega

end Go.Proofs.Ytdknppomjcpihaa.PPy

namespace Go.Proofs.Ytdknppomjcpihaa.PPy
open Go.RowKit Go.Proofs.YtdknppomjcpihaaW.PrintWords Go.Proofs.YtdknppomjcpihaaW.PrintLast Go.Proofs.YtdknppomjcpihaaW.PrintMore

def kindOk (k : Int) : Prop := k = 2 ∨ (13 ≤ k ∧ k ≤ 19)
/-- One leaf from where r stands, of kind K, up to T; r2: r with what is open and how deep it is. -/
structure StepLeaf (r r2 : Rd) (K T : Int) : Prop where
  eq : r.step = r2.leaf K T
  s : r2.s = r.s
  pos : r2.pos = r.pos
  ev : r2.ev = r.ev
  any : r2.any = r.any
  colon : r2.colon = r.colon
  lo : r.pos < T
  hi : T ≤ (r.s.size : Int)
  kind : kindOk K
  dep : K ≠ 17 ∧ K ≠ 2 → r2.depth = r.depth

theorem tx_in (s q : ByteArray) (hq : 1 ≤ q.size) : ∀ (n : Nat) (f : Int) (tk : Bool) (i : Int) (b : Bool), 0 ≤ f → tx n s q f tk = (some i, b) → i + (q.size : Int) ≤ (s.size : Int) := by
  intro n
  induction n with
  | zero => intro f tk i b _ h; simp [tx] at h
  | succ n ih =>
    intro f tk i b h0 h
    simp only [tx] at h
    split at h
    · split at h
      · exact ih _ _ _ _ (by omega) h
      · split at h
        · rename_i hh
          have := hp_le hh
          rw [ByteArray.size_extract] at this
          simp at h
          omega
        · exact ih _ _ _ _ (by omega) h
    · simp at h
theorem text_leaf {r : Rd} (h : r.Ok) (hp : r.pos < (r.s.size : Int)) (f m W : Int) (hm : 1 ≤ m ∧ m ≤ 4) (hf : r.pos ≤ f) (hW : kindOk W ∧ W ≠ 17 ∧ W ≠ 2) :
    ∃ (m2 K T : Int), r.text f m W = ({ r with mark := m2 } : Rd).leaf K T ∧ r.pos < T ∧ T ≤ (r.s.size : Int) ∧ kindOk K := by
  have hq := quot_size hm
  have h0 := h.p0
  unfold Rd.text
  split
  · rename_i i _ e
    have h1 := tx_bd _ _ _ _ _ _ _ e
    have h2 := tx_in _ _ hq.1 _ _ _ _ _ (by omega) e
    exact ⟨0, W, _, rfl, by omega, h2, hW.1⟩
  · split
    · exact ⟨0, 2, _, rfl, hp, Int.le_refl _, .inl rfl⟩
    · exact ⟨m, 16, _, rfl, hp, Int.le_refl _, .inr (by omega)⟩
theorem rest_size {r : Rd} (h : r.Ok) (hp : r.pos < (r.s.size : Int)) : (r.rest.size : Int) = (r.s.size : Int) - r.pos := by
  have h0 := h.p0
  unfold Rd.rest
  rw [ByteArray.size_extract]; omega
theorem opAt_hp : ∀ (l : List ByteArray) (q : ByteArray), opAt l q < l.length → hp q (l.getD (opAt l q) ByteArray.empty) = true := by
  intro l
  induction l with
  | nil => intro q h; simp [opAt] at h
  | cons o l ih =>
    intro q h
    simp only [opAt] at h ⊢
    by_cases c : hp q o = true
    · rw [if_pos c]; exact c
    · rw [if_neg c] at h ⊢
      exact ih q (by simpa using h)
theorem opOf_le (q : ByteArray) (h : opAt opL q < 47) : (opOf q).size ≤ q.size := hp_le (opAt_hp opL q h)

/-- One step, in its form. -/
theorem step_form {r : Rd} (h : r.Ok) (hp : r.pos < (r.s.size : Int)) :
    (r.mark = 0 ∧ blankB r.c = true ∧ r.step = { r with pos := r.pos + 1 }) ∨ ∃ r2 K T, StepLeaf r r2 K T := by
  have h0 := h.p0
  have hr := rest_size h hp
  unfold Rd.step
  split
  · rename_i hm
    obtain ⟨m2, K, T, e, h1, h2, h3⟩ := text_leaf h hp r.pos r.mark 16 (by have := h.m; omega) (Int.le_refl _) ⟨.inr (by omega), by omega, by omega⟩
    exact .inr ⟨{ r with mark := m2 }, K, T, by unfold Rd.step; rw [if_pos hm, e], rfl, rfl, rfl, rfl, rfl, h1, h2, h3, fun _ => rfl⟩
  rename_i hm
  split
  · rename_i hb
    exact .inl ⟨by omega, hb, rfl⟩
  rename_i hb
  split
  · rename_i hc
    exact .inr ⟨r, 18, _, by unfold Rd.step; rw [if_neg hm, if_neg hb, if_pos hc], rfl, rfl, rfl, rfl, rfl, hp, Int.le_refl _, .inr (by omega), fun _ => rfl⟩
  rename_i hc
  split
  · rename_i hd
    have e : r.step = r.joined := by unfold Rd.step; rw [if_neg hm, if_neg hb, if_neg hc, if_pos hd]
    unfold Rd.joined at e
    by_cases hj : r.pos + 1 = (r.s.size : Int)
    · rw [if_pos hj] at e
      exact .inr ⟨_, 19, _, e, rfl, rfl, rfl, rfl, rfl, hp, Int.le_refl _, .inr (by omega), fun _ => rfl⟩
    · rw [if_neg hj] at e
      exact .inr ⟨r, 2, _, e, rfl, rfl, rfl, rfl, rfl, by omega, by omega, .inl rfl, fun _ => rfl⟩
  rename_i hd
  split
  · rename_i hg
    have e : r.step = r.begun := by unfold Rd.step; rw [if_neg hm, if_neg hb, if_neg hc, if_neg hd, if_pos hg]
    have hb := begN_bd r.rest 3 0
    obtain ⟨m2, K, T, e2, h1, h2, h3⟩ := text_leaf h hp (r.pos + begN 3 r.rest 0 + ((quot (begM r.rest)).size : Int)) (begM r.rest) 15 (by have := begM_range r.rest; omega) (by omega) ⟨.inr (by omega), by omega, by omega⟩
    exact .inr ⟨{ r with mark := m2 }, K, T, by rw [e]; exact e2, rfl, rfl, rfl, rfl, rfl, h1, h2, h3, fun _ => rfl⟩
  rename_i hg
  split
  · rename_i hl
    have e : r.step = r.name := by unfold Rd.step; rw [if_neg hm, if_neg hb, if_neg hc, if_neg hd, if_neg hg, if_pos hl]
    have hn : r.pos + 1 ≤ nameEnd (r.s.size + 1) r.s r.pos := by
      simp only [nameEnd]
      rw [if_pos hp, if_pos (by simp only [Rd.c] at hl; rw [hl]; rfl)]
      exact (nameEnd_bd r.s r.s.size (r.pos + 1)).1
    exact .inr ⟨r, 13, _, e, rfl, rfl, rfl, rfl, rfl, by omega, (nameEnd_bd r.s (r.s.size + 1) r.pos).2 (by omega), .inr (by omega), fun _ => rfl⟩
  rename_i hl
  split
  · rename_i hn
    have e : r.step = r.number := by unfold Rd.step; rw [if_neg hm, if_neg hb, if_neg hc, if_neg hd, if_neg hg, if_neg hl, if_pos hn]
    have hb := numEnd_bd r.rest (signsB r.rest) (r.s.size + 1) 1
    exact .inr ⟨r, 14, _, e, rfl, rfl, rfl, rfl, rfl, by omega, by have := hb.2 (by omega); omega, .inr (by omega), fun _ => rfl⟩
  rename_i hn
  split
  · rename_i ho
    have e : r.step = r.oper (opOf r.rest) := by unfold Rd.step; rw [if_neg hm, if_neg hb, if_neg hc, if_neg hd, if_neg hg, if_neg hl, if_neg hn, if_pos ho]
    have hs : 1 ≤ (opOf r.rest).size := opL_size _ ho
    have hs3 := opOf_le r.rest ho
    unfold Rd.oper at e
    split at e
    · exact .inr ⟨_, 17, _, e, rfl, rfl, rfl, rfl, rfl, by omega, by omega, .inr (by omega), fun h => absurd rfl h.1⟩
    split at e
    · split at e
      · exact .inr ⟨r, 2, _, e, rfl, rfl, rfl, rfl, rfl, by omega, by omega, .inl rfl, fun _ => rfl⟩
      · exact .inr ⟨_, 17, _, e, rfl, rfl, rfl, rfl, rfl, by omega, by omega, .inr (by omega), fun h => absurd rfl h.1⟩
    · exact .inr ⟨r, 17, _, e, rfl, rfl, rfl, rfl, rfl, by omega, by omega, .inr (by omega), fun _ => rfl⟩
  rename_i ho
  exact .inr ⟨r, 2, _, by unfold Rd.step; rw [if_neg hm, if_neg hb, if_neg hc, if_neg hd, if_neg hg, if_neg hl, if_neg hn, if_neg ho], rfl, rfl, rfl, rfl, rfl, by omega, by omega, .inl rfl, fun _ => rfl⟩

/-- From a on: leaves in order, blanks between them, up to b. -/
def CovF (s : ByteArray) : Int → List S33 → Int → Prop
  | a, [], b => a ≤ b ∧ ∀ i, a ≤ i → i < b → blankB (bt s i) = true
  | a, e :: l, b => e.f0 = 3 ∧ a ≤ e.f2 ∧ e.f2 < e.f3 ∧ e.f3 ≤ (s.size : Int) ∧ kindOk e.f1 ∧ (∀ i, a ≤ i → i < e.f2 → blankB (bt s i) = true) ∧ CovF s e.f3 l b
theorem CovF.blank {s : ByteArray} {b : Int} (hb : blankB (bt s b) = true) : ∀ {l : List S33} {a : Int}, CovF s a l b → CovF s a l (b + 1) := by
  intro l
  induction l with
  | nil =>
    rintro a ⟨h1, h2⟩
    refine ⟨by omega, fun i hi hi2 => ?_⟩
    by_cases c : i = b
    · rw [c]; exact hb
    · exact h2 i hi (by omega)
  | cons e l ih => rintro a ⟨h1, h2, h3, h4, h5, h6, h7⟩; exact ⟨h1, h2, h3, h4, h5, h6, ih h7⟩
theorem CovF.snoc {s : ByteArray} {b K T : Int} (h1 : b < T) (h2 : T ≤ (s.size : Int)) (hk : kindOk K) : ∀ {l : List S33} {a : Int}, CovF s a l b → CovF s a (l ++ [⟨3, K, b, T⟩]) T := by
  intro l
  induction l with
  | nil =>
    rintro a ⟨g1, g2⟩
    exact ⟨rfl, g1, h1, h2, hk, g2, Int.le_refl _, fun i (hi : T ≤ i) (hi2 : i < T) => by omega⟩
  | cons e l ih => rintro a ⟨g1, g2, g3, g4, g5, g6, g7⟩; exact ⟨g1, g2, g3, g4, g5, g6, ih g7⟩
structure Cov (r : Rd) : Prop where
  c : CovF r.s 0 r.ev r.pos
  hi : r.pos ≤ (r.s.size : Int)
  col : r.colon = true → r.any = true ∧ r.depth = 0
theorem Cov.step {r : Rd} (ho : r.Ok) (hp : r.pos < (r.s.size : Int)) (h : Cov r) : Cov r.step := by
  rcases step_form ho hp with ⟨_, hb, e⟩ | ⟨r2, K, T, g⟩
  · rw [e]
    exact ⟨h.c.blank hb, show r.pos + 1 ≤ (r.s.size : Int) by omega, h.col⟩
  · obtain ⟨l1, l2, l3, l4, l5, l6, l7⟩ := leaf_same r2 K T
    rw [g.eq]
    refine ⟨?_, ?_, ?_⟩
    · rw [l1, l2, l7, g.s, g.ev, g.pos]
      exact h.c.snoc g.lo g.hi g.kind
    · rw [l1, l2, g.s]; exact g.hi
    · rw [l4]
      unfold Rd.leaf
      split
      · rename_i hk
        show r2.colon = true → r2.any = true ∧ r2.depth = 0
        rw [g.any, g.colon, g.dep (by omega)]
        exact h.col
      · show (decide (K = 17) && (isColon r2.s r2.pos T && decide (r2.depth = 0))) = true → true = true ∧ r2.depth = 0
        intro hc
        simp at hc
        exact ⟨rfl, hc.2.2⟩
theorem Cov.scan : ∀ (n : Nat) {r : Rd}, r.Ok → Cov r → Cov (scanL n r) := by
  intro n
  induction n with
  | zero => intro r _ h; exact h
  | succ n ih =>
    intro r ho h
    simp only [scanL]
    split
    · rename_i hp
      exact ih (ho.step hp).1 (h.step ho hp)
    · exact h
theorem covers (line : ByteArray) (mark depth : Int) (hz : line.size ≤ 1000000) (hm : 0 ≤ mark) (r : Rd) (hr : scanM line 0 mark depth = r) :
    CovF (lineOf line) 0 r.ev (endOf line) ∧ (0 ≤ r.mark ∧ r.mark ≤ 4) ∧ (0 ≤ r.depth ∧ r.depth ≤ 1048576) ∧ (r.colon = true → r.any = true ∧ r.depth = 0) := by
  have ho : (Rd.init line 0 mark depth).Ok := Rd.Ok.init hz hm
  have hs : (Rd.init line 0 mark depth).s = lineOf line := rfl
  have hp : (Rd.init line 0 mark depth).pos = 0 := rfl
  have h0 : Cov (Rd.init line 0 mark depth) := ⟨⟨by rw [hp]; omega, fun i h1 h2 => by rw [hp] at h2; omega⟩, by rw [hp]; omega, fun h => by exact absurd h (by simp [Rd.init])⟩
  have h1 := h0.scan ((lineOf line).size + 1) ho
  have h2 := scanL_ok ((lineOf line).size + 1) _ ho
  have h3 := scanL_at_end ((lineOf line).size + 1) _ ho (by rw [hs, hp]; omega)
  unfold scanM at hr
  rw [hr] at h1 h2 h3
  have h4 := h1.hi
  have h5 := lineOf_len line
  have hc := h1.c
  rw [h2.2, hs] at hc h4
  rw [hs] at h3
  rw [show r.pos = endOf line by omega] at hc
  exact ⟨hc, h2.1.m, h2.1.d, h1.col⟩

end Go.Proofs.Ytdknppomjcpihaa.PPy
