/- A scan from a place on is the scan of the rest of the line, moved. No Go in it. -/
import Derived.Test.YtdknppomjcpihaaPureC
namespace Go.Proofs.Ytdknppomjcpihaa.PPy
open Go.RowKit Go.Proofs.YtdknppomjcpihaaW.PrintWords Go.Proofs.YtdknppomjcpihaaW.PrintLast Go.Proofs.YtdknppomjcpihaaW.PrintMore

theorem ext_tail (s : ByteArray) (k i : Nat) : (s.extract k s.size).extract i (s.extract k s.size).size = s.extract (k + i) s.size := by
  apply ByteArray.ext
  simp only [ByteArray.data_extract, ByteArray.size_extract]
  rw [Array.extract_extract]
  congr 1
  · have : s.size = s.data.size := rfl
    omega
theorem ext_mid (s : ByteArray) (k a b : Nat) : (s.extract k s.size).extract a b = s.extract (k + a) (k + b) := by
  apply ByteArray.ext
  simp only [ByteArray.data_extract]
  rw [Array.extract_extract]
  apply Array.ext'
  rw [Array.toList_extract, Array.toList_extract, List.extract_eq_take_drop, List.extract_eq_take_drop]
  have e : s.size = s.data.toList.length := Array.length_toList.symm
  rw [e]
  by_cases h : k + b ≤ s.data.toList.length
  · rw [Nat.min_eq_left h]
  · rw [Nat.min_eq_right (by omega), List.take_of_length_le (by rw [List.length_drop]; omega), List.take_of_length_le (by rw [List.length_drop]; omega)]
theorem size_tail (s : ByteArray) (k : Nat) (h : k ≤ s.size) : (s.extract k s.size).size = s.size - k := by rw [ByteArray.size_extract]; omega
theorem bt_tail (s : ByteArray) (k : Nat) (i : Int) (h : k ≤ s.size) (h0 : 0 ≤ i) : bt (s.extract k s.size) i = bt s (i + k) := by
  have := bt_rest s (k : Int) i (by omega) h0 (by omega)
  rw [Int.toNat_natCast] at this
  rw [this, Int.add_comm]

/-- More rounds than bytes are left: the same. -/
theorem tx_fuel (s q : ByteArray) : ∀ (n m : Nat) (i : Int) (tk : Bool), (s.size : Int) - i ≤ n → (s.size : Int) - i ≤ m → tx n s q i tk = tx m s q i tk := by
  intro n
  induction n with
  | zero => intro m i tk h _; rw [tx_end 0 s q i tk (by omega), tx_end m s q i tk (by omega)]
  | succ n ih =>
    intro m i tk h h2
    by_cases hc : i < (s.size : Int)
    · obtain ⟨m, rfl⟩ : ∃ j, m = j + 1 := ⟨m - 1, by omega⟩
      simp only [tx]
      rw [if_pos hc, if_pos hc, ih m (i + 2) _ (by omega) (by omega), ih m (i + 1) _ (by omega) (by omega)]
    · rw [tx_end _ s q i tk hc, tx_end m s q i tk hc]
theorem nameEnd_end (n : Nat) (s : ByteArray) (i : Int) (h : ¬ i < (s.size : Int)) : nameEnd n s i = i := by
  cases n with
  | zero => rfl
  | succ n => simp only [nameEnd]; rw [if_neg h]
theorem nameEnd_fuel (s : ByteArray) : ∀ (n m : Nat) (i : Int), (s.size : Int) - i ≤ n → (s.size : Int) - i ≤ m → nameEnd n s i = nameEnd m s i := by
  intro n
  induction n with
  | zero => intro m i h _; rw [nameEnd_end 0 s i (by omega), nameEnd_end m s i (by omega)]
  | succ n ih =>
    intro m i h h2
    by_cases hc : i < (s.size : Int)
    · obtain ⟨m, rfl⟩ : ∃ j, m = j + 1 := ⟨m - 1, by omega⟩
      simp only [nameEnd]
      rw [if_pos hc, if_pos hc, ih m (i + 1) (by omega) (by omega)]
    · rw [nameEnd_end _ s i hc, nameEnd_end m s i hc]
theorem numEnd_end (n : Nat) (s : ByteArray) (b : Bool) (i : Int) (h : ¬ i < (s.size : Int)) : numEnd n s b i = i := by
  cases n with
  | zero => rfl
  | succ n => simp only [numEnd]; rw [if_neg h]
theorem numEnd_fuel (s : ByteArray) (b : Bool) : ∀ (n m : Nat) (i : Int), (s.size : Int) - i ≤ n → (s.size : Int) - i ≤ m → numEnd n s b i = numEnd m s b i := by
  intro n
  induction n with
  | zero => intro m i h _; rw [numEnd_end 0 s b i (by omega), numEnd_end m s b i (by omega)]
  | succ n ih =>
    intro m i h h2
    by_cases hc : i < (s.size : Int)
    · obtain ⟨m, rfl⟩ : ∃ j, m = j + 1 := ⟨m - 1, by omega⟩
      simp only [numEnd]
      rw [if_pos hc, if_pos hc, ih m (i + 1) (by omega) (by omega)]
    · rw [numEnd_end _ s b i hc, numEnd_end m s b i hc]

def shO (k : Int) : Option Int × Bool → Option Int × Bool
  | (some i, b) => (some (i + k), b)
  | (none, b) => (none, b)
theorem tx_shift (s q : ByteArray) (k : Nat) (hk : k ≤ s.size) : ∀ (n : Nat) (i : Int) (tk : Bool), 0 ≤ i → tx n s q (i + k) tk = shO k (tx n (s.extract k s.size) q i tk) := by
  intro n
  have hz := size_tail s k hk
  induction n with
  | zero => intro i tk h0; rfl
  | succ n ih =>
    intro i tk h0
    simp only [tx]
    rw [bt_tail s k i hk h0, ext_tail, show (i + (k : Int)).toNat = k + i.toNat by omega]
    by_cases hc : i < ((s.extract k s.size).size : Int)
    · rw [if_pos hc, if_pos (by omega)]
      by_cases h9 : bt s (i + k) = 92
      · rw [if_pos h9, if_pos h9, show i + (k : Int) + 2 = i + 2 + k by omega, ih (i + 2) _ (by omega)]
        congr 2
        rw [Bool.eq_iff_iff, beq_iff_eq, beq_iff_eq]
        omega
      · rw [if_neg h9, if_neg h9]
        split
        · rfl
        · rw [show i + (k : Int) + 1 = i + 1 + k by omega, ih (i + 1) _ (by omega)]
    · rw [if_neg hc, if_neg (by omega)]
      rfl
theorem nameEnd_shift (s : ByteArray) (k : Nat) (hk : k ≤ s.size) : ∀ (n : Nat) (i : Int), 0 ≤ i → nameEnd n s (i + k) = nameEnd n (s.extract k s.size) i + k := by
  intro n
  have hz := size_tail s k hk
  induction n with
  | zero => intro i h0; rfl
  | succ n ih =>
    intro i h0
    simp only [nameEnd]
    rw [bt_tail s k i hk h0]
    by_cases hc : i < ((s.extract k s.size).size : Int)
    · rw [if_pos hc, if_pos (by omega)]
      split
      · rw [show i + (k : Int) + 1 = i + 1 + k by omega, ih (i + 1) (by omega)]
      · rfl
    · rw [if_neg hc, if_neg (by omega)]

/-- A leaf, moved. -/
def shE (k : Int) : S33 → S33
  | ⟨o, d, a, t⟩ => ⟨o, d, a + k, t + k⟩
/-- r reads s, x reads s from k on; r came with leaves E, and with A, C of what was ahead. -/
structure Sh (k : Nat) (E : List S33) (A C : Bool) (r x : Rd) : Prop where
  hk : k ≤ r.s.size
  s : x.s = r.s.extract k r.s.size
  p0 : 0 ≤ x.pos
  p : r.pos = x.pos + k
  ev : r.ev = E ++ x.ev.map (shE k)
  mark : r.mark = x.mark
  depth : r.depth = x.depth
  join : r.join = x.join
  any : r.any = (A || x.any)
  colon : r.colon = if x.any = true then x.colon else C

theorem isColon_shift (s : ByteArray) (k : Nat) (a t : Int) (ha : 0 ≤ a) (ht : 0 ≤ t) : isColon s (a + k) (t + k) = isColon (s.extract k s.size) a t := by
  unfold isColon
  rw [ext_mid, show (a + (k : Int)).toNat = k + a.toNat by omega, show (t + (k : Int)).toNat = k + t.toNat by omega]
theorem Sh.leaf {k : Nat} {E : List S33} {A C : Bool} {r x : Rd} (h : Sh k E A C r x) (K T : Int) (hT : 0 ≤ T) : Sh k E A C (r.leaf K (T + k)) (x.leaf K T) := by
  obtain ⟨h1, h2, h3, h4, h5, h6, h7, h8, h9, h10⟩ := h
  unfold Rd.leaf
  have e : r.ev ++ [(⟨3, K, r.pos, T + k⟩ : S33)] = E ++ (x.ev ++ [(⟨3, K, x.pos, T⟩ : S33)]).map (shE k) := by
    rw [h5, List.map_append, List.append_assoc, h4]; rfl
  split
  · exact ⟨h1, h2, hT, rfl, e, h6, h7, h8, h9, h10⟩
  · refine ⟨h1, h2, hT, rfl, e, h6, h7, h8, by simp, ?_⟩
    simp only [if_true]
    rw [h4, isColon_shift r.s k _ _ h3 hT, h2, h7]
theorem Sh.setMark {k : Nat} {E : List S33} {A C : Bool} {r x : Rd} (h : Sh k E A C r x) (m : Int) : Sh k E A C { r with mark := m } { x with mark := m } :=
  ⟨h.hk, h.s, h.p0, h.p, h.ev, rfl, h.depth, h.join, h.any, h.colon⟩
theorem Sh.setDepth {k : Nat} {E : List S33} {A C : Bool} {r x : Rd} (h : Sh k E A C r x) (m : Int) : Sh k E A C { r with depth := m } { x with depth := m } :=
  ⟨h.hk, h.s, h.p0, h.p, h.ev, h.mark, rfl, h.join, h.any, h.colon⟩
theorem Sh.setJoin {k : Nat} {E : List S33} {A C : Bool} {r x : Rd} (h : Sh k E A C r x) (m : Bool) : Sh k E A C { r with join := m } { x with join := m } :=
  ⟨h.hk, h.s, h.p0, h.p, h.ev, h.mark, h.depth, rfl, h.any, h.colon⟩
theorem Sh.size {k : Nat} {E : List S33} {A C : Bool} {r x : Rd} (h : Sh k E A C r x) : (r.s.size : Int) = (x.s.size : Int) + k := by
  have h1 := h.hk
  rw [h.s, size_tail _ _ h1]; omega
theorem Sh.text {k : Nat} {E : List S33} {A C : Bool} {r x : Rd} (h : Sh k E A C r x) (f m K : Int) (hf : 0 ≤ f) : Sh k E A C (r.text (f + k) m K) (x.text f m K) := by
  have hz := h.size
  have e := tx_shift r.s (quot m) k h.hk (r.s.size + 1) f false hf
  rw [← h.s, tx_fuel x.s (quot m) (r.s.size + 1) (x.s.size + 1) f false (by omega) (by omega)] at e
  have hb := tx_bd x.s (quot m) (x.s.size + 1) f false
  unfold Rd.text
  rw [e]
  generalize tx (x.s.size + 1) x.s (quot m) f false = o at hb ⊢
  obtain ⟨o, tk⟩ := o
  cases o with
  | some i =>
    have := hb i tk rfl
    show Sh k E A C (({ r with mark := 0 } : Rd).leaf K (i + k + ((quot m).size : Int))) (({ x with mark := 0 } : Rd).leaf K (i + ((quot m).size : Int)))
    rw [show i + (k : Int) + ((quot m).size : Int) = i + ((quot m).size : Int) + k by omega]
    exact (h.setMark 0).leaf _ _ (by omega)
  | none =>
    show Sh k E A C (if 2 < m ∧ tk = false then ({ r with mark := 0 } : Rd).leaf 2 (r.s.size : Int) else ({ r with mark := m } : Rd).leaf 16 (r.s.size : Int)) (if 2 < m ∧ tk = false then ({ x with mark := 0 } : Rd).leaf 2 (x.s.size : Int) else ({ x with mark := m } : Rd).leaf 16 (x.s.size : Int))
    rw [hz]
    split
    · exact (h.setMark 0).leaf _ _ (by omega)
    · exact (h.setMark m).leaf _ _ (by omega)
theorem Sh.rest {k : Nat} {E : List S33} {A C : Bool} {r x : Rd} (h : Sh k E A C r x) : r.rest = x.rest := by
  unfold Rd.rest
  have h3 := h.p0
  rw [h.s, ext_tail, h.p, show (x.pos + (k : Int)).toNat = k + x.pos.toNat by omega]
theorem Sh.c {k : Nat} {E : List S33} {A C : Bool} {r x : Rd} (h : Sh k E A C r x) : r.c = x.c := by
  unfold Rd.c
  rw [h.s, bt_tail _ _ _ h.hk h.p0, h.p]
theorem Sh.step {k : Nat} {E : List S33} {A C : Bool} {r x : Rd} (h : Sh k E A C r x) : Sh k E A C r.step x.step := by
  have hz := h.size
  have hp := h.p
  have h0 := h.p0
  unfold Rd.step
  rw [h.mark, h.c, h.rest]
  split
  · rw [hp]; exact h.text _ _ _ h0
  split
  · exact ⟨h.hk, h.s, by show 0 ≤ x.pos + 1; omega, by show r.pos + 1 = x.pos + 1 + k; omega, h.ev, rfl, h.depth, h.join, h.any, h.colon⟩
  split
  · rw [hz]; exact h.leaf _ _ (by omega)
  split
  · unfold Rd.joined
    by_cases hj : x.pos + 1 = (x.s.size : Int)
    · rw [if_pos hj, if_pos (by omega), hz]; exact (h.setJoin true).leaf _ _ (by omega)
    · rw [if_neg hj, if_neg (by omega), hp, show x.pos + (k : Int) + 1 = x.pos + 1 + k by omega]; exact h.leaf _ _ (by omega)
  split
  · unfold Rd.begun
    have hb := begN_bd x.rest 3 0
    rw [h.rest, hp, show x.pos + (k : Int) + begN 3 x.rest 0 + ((quot (begM x.rest)).size : Int) = x.pos + begN 3 x.rest 0 + ((quot (begM x.rest)).size : Int) + k by omega]
    exact h.text _ _ _ (by omega)
  split
  · unfold Rd.name
    have hn := (nameEnd_bd x.s (x.s.size + 1) x.pos).1
    rw [hp, nameEnd_shift r.s k h.hk _ _ h0, ← h.s, nameEnd_fuel x.s (r.s.size + 1) (x.s.size + 1) x.pos (by omega) (by omega)]
    exact h.leaf _ _ (by omega)
  split
  · unfold Rd.number
    have hr := h.rest
    have hn := (numEnd_bd x.rest (signsB x.rest) (x.s.size + 1) 1).1
    have hl : x.rest.size ≤ x.s.size := by unfold Rd.rest; rw [ByteArray.size_extract]; omega
    rw [hr, hp, numEnd_fuel x.rest _ (r.s.size + 1) (x.s.size + 1) 1 (by omega) (by omega), show ∀ y : Int, x.pos + (k : Int) + y = x.pos + y + k by intro y; omega]
    exact h.leaf _ _ (by omega)
  split
  · unfold Rd.oper
    rw [h.depth, show ∀ y : Int, r.pos + y = x.pos + y + k by intro y; omega]
    split
    · exact (h.setDepth _).leaf _ _ (by omega)
    split
    · split
      · exact h.leaf _ _ (by omega)
      · exact (h.setDepth _).leaf _ _ (by omega)
    · exact h.leaf _ _ (by omega)
  · rw [hp, show x.pos + (k : Int) + 1 = x.pos + 1 + k by omega]
    exact h.leaf _ _ (by omega)
theorem Sh.scan {k : Nat} {E : List S33} {A C : Bool} : ∀ (n : Nat) {r x : Rd}, Sh k E A C r x → Sh k E A C (scanL n r) (scanL n x) := by
  intro n
  induction n with
  | zero => intro r x h; exact h
  | succ n ih =>
    intro r x h
    have hz := h.size
    have hp := h.p
    simp only [scanL]
    by_cases hc : x.pos < (x.s.size : Int)
    · rw [if_pos hc, if_pos (by omega)]; exact ih h.step
    · rw [if_neg hc, if_neg (by omega)]; exact h
theorem scanL_end (n : Nat) (r : Rd) (h : ¬ r.pos < (r.s.size : Int)) : scanL n r = r := by
  cases n with
  | zero => rfl
  | succ n => simp only [scanL]; rw [if_neg h]
theorem scanL_fuel : ∀ (n m : Nat) (r : Rd), r.Ok → (r.s.size : Int) - r.pos ≤ n → (r.s.size : Int) - r.pos ≤ m → scanL n r = scanL m r := by
  intro n
  induction n with
  | zero => intro m r hr h _; rw [scanL_end 0 r (by omega), scanL_end m r (by omega)]
  | succ n ih =>
    intro m r hr h h2
    by_cases hc : r.pos < (r.s.size : Int)
    · obtain ⟨m, rfl⟩ : ∃ j, m = j + 1 := ⟨m - 1, by omega⟩
      simp only [scanL]
      have hs := hr.step hc
      rw [if_pos hc, if_pos hc]
      exact ih m r.step hs.1 (by rw [hs.2.2]; omega) (by rw [hs.2.2]; omega)
    · rw [scanL_end _ r hc, scanL_end m r hc]
theorem scanL_ok : ∀ (n : Nat) (r : Rd), r.Ok → (scanL n r).Ok ∧ (scanL n r).s = r.s := by
  intro n
  induction n with
  | zero => intro r hr; exact ⟨hr, rfl⟩
  | succ n ih =>
    intro r hr
    simp only [scanL]
    split
    · rename_i hc
      have hs := hr.step hc
      obtain ⟨a, b⟩ := ih _ hs.1
      exact ⟨a, b.trans hs.2.2⟩
    · exact ⟨hr, rfl⟩
/-- The scan stands at the end. -/
theorem scanL_at_end : ∀ (n : Nat) (r : Rd), r.Ok → (r.s.size : Int) - r.pos ≤ n → (r.s.size : Int) ≤ (scanL n r).pos := by
  intro n
  induction n with
  | zero => intro r hr h; simp only [scanL]; omega
  | succ n ih =>
    intro r hr h
    by_cases hc : r.pos < (r.s.size : Int)
    · simp only [scanL]
      rw [if_pos hc]
      have hs := hr.step hc
      have := ih r.step hs.1 (by rw [hs.2.2]; omega)
      rw [hs.2.2] at this
      exact this
    · rw [scanL_end _ r hc]; omega

/-- Where the rest of a line ends. -/
theorem endOf_tail (s : ByteArray) (k : Nat) (hk : (k : Int) ≤ endOf s) : endOf (s.extract k s.size) = endOf s - k := by
  have hbd := endOf_bd s
  have hz := size_tail s k (by omega)
  have hb : ∀ i : Nat, bt (s.extract k s.size) (i : Int) = bt s ((i : Int) + k) := fun i => bt_tail s k i (by omega) (by omega)
  rcases ix_cases s with ⟨h1, h2⟩ | ⟨o, ho, h4, h5, h6⟩
  · have es : endOf s = (s.size : Int) := by unfold endOf; rw [h1, if_neg (by omega)]
    rw [es] at hk ⊢
    unfold endOf
    rcases ix_cases (s.extract k s.size) with ⟨g1, _⟩ | ⟨p, hp, g4, g5, _⟩
    · rw [g1, if_neg (by omega), hz]; omega
    · exfalso
      rw [hb p] at g5
      have := h2 (p + k) (by omega)
      rw [Int.natCast_add] at this
      exact this g5
  · have es : endOf s = if 1 ≤ (o : Int) ∧ bt s ((o : Int) - 1) = 13 then (o : Int) - 1 else (o : Int) := by unfold endOf; rw [ho, if_pos (by omega)]
    have hko : k ≤ o := by rw [es] at hk; split at hk <;> omega
    rw [es] at hk ⊢
    unfold endOf
    rcases ix_cases (s.extract k s.size) with ⟨_, g2⟩ | ⟨p, hp, g4, g5, g6⟩
    · exfalso
      have := g2 (o - k) (by omega)
      rw [hb, show (((o - k : Nat) : Int)) + k = o by omega] at this
      exact this h5
    · have hpo : p = o - k := by
        rw [hb p] at g5
        have c1 : ¬ p + k < o := fun c => h6 (p + k) c (by rw [Int.natCast_add]; exact g5)
        have c2 : ¬ o - k < p := fun c => g6 (o - k) c (by rw [hb, show (((o - k : Nat) : Int)) + k = o by omega]; exact h5)
        omega
      rw [hp, if_pos (show (0 : Int) ≤ (p : Int) by omega), hpo]
      by_cases c : 1 ≤ (o : Int) ∧ bt s ((o : Int) - 1) = 13
      · rw [if_pos c] at hk ⊢
        have h1 : 1 ≤ o - k := by omega
        have := hb (o - k - 1)
        rw [show (((o - k - 1 : Nat) : Int)) = ((o - k : Nat) : Int) - 1 by omega] at this
        rw [if_pos ⟨by omega, by rw [this, show ((o - k : Nat) : Int) - 1 + k = (o : Int) - 1 by omega]; exact c.2⟩]
        omega
      · rw [if_neg c] at hk ⊢
        by_cases h1 : 1 ≤ o - k
        · have := hb (o - k - 1)
          rw [show (((o - k - 1 : Nat) : Int)) = ((o - k : Nat) : Int) - 1 by omega] at this
          rw [if_neg (fun h => c ⟨by omega, by rw [← h.2, this, show ((o - k : Nat) : Int) - 1 + k = (o : Int) - 1 by omega]⟩)]
          omega
        · rw [if_neg (fun h => h1 (by omega))]
          omega
theorem lineOf_tail (s : ByteArray) (k : Nat) (hk : (k : Int) ≤ endOf s) : lineOf (s.extract k s.size) = (lineOf s).extract k (lineOf s).size := by
  have hbd := endOf_bd s
  have hz := size_tail s k (by omega)
  rw [lineOf_end, lineOf_end, endOf_tail s k hk]
  apply ByteArray.ext
  simp only [ByteArray.data_extract, ByteArray.size_extract]
  rw [Array.extract_extract, Array.extract_extract]
  have e : s.size = s.data.size := rfl
  congr 1 <;> omega
theorem lineOf_len (s : ByteArray) : ((lineOf s).size : Int) = endOf s := by
  have hbd := endOf_bd s
  rw [lineOf_end, ByteArray.size_extract]; omega

end Go.Proofs.Ytdknppomjcpihaa.PPy
