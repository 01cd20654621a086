/- A scan from a place on is the scan of the rest of the line, moved. No Go in it. -/
import Derived.Test.YtdknppomjcpihaaPureE
namespace Go.Proofs.Ytdknppomjcpihaa.PPy
open Go.RowKit Go.Proofs.YtdknppomjcpihaaW.PrintWords Go.Proofs.YtdknppomjcpihaaW.PrintLast Go.Proofs.YtdknppomjcpihaaW.PrintMore

theorem ext_tail (s : ByteArray) (k i : Nat) : (s.extract k s.size).extract i (s.extract k s.size).size = s.extract (k + i) s.size := by
  apply ByteArray.ext
  simp only [ByteArray.data_extract, ByteArray.size_extract]
  rw [Array.extract_extract]
  congr 1
  · have : s.size = s.data.size := rfl
    omega
theorem ext_mid (s : ByteArray) (k a b : Nat) : (s.extract k s.size).extract a b = s.extract (k + a) (k + b) := by
  apply ByteArray.ext
  simp only [ByteArray.data_extract]
  rw [Array.extract_extract]
  apply Array.ext'
  rw [Array.toList_extract, Array.toList_extract, List.extract_eq_take_drop, List.extract_eq_take_drop]
  have e : s.size = s.data.toList.length := Array.length_toList.symm
  rw [e]
  by_cases h : k + b ≤ s.data.toList.length
  · rw [Nat.min_eq_left h]
  · rw [Nat.min_eq_right (by omega), List.take_of_length_le (by rw [List.length_drop]; omega), List.take_of_length_le (by rw [List.length_drop]; omega)]
theorem size_tail (s : ByteArray) (k : Nat) (h : k ≤ s.size) : (s.extract k s.size).size = s.size - k := by rw [ByteArray.size_extract]; omega
theorem bt_tail (s : ByteArray) (k : Nat) (i : Int) (h : k ≤ s.size) (h0 : 0 ≤ i) : bt (s.extract k s.size) i = bt s (i + k) := by
  have := bt_rest s (k : Int) i (by omega) h0 (by omega)
  rw [Int.toNat_natCast] at this
  rw [this, Int.add_comm]

/-- More rounds than bytes are left: the same. -/
theorem tx_fuel (s q : ByteArray) : ∀ (n m : Nat) (i : Int) (tk : Bool), (s.size : Int) - i ≤ n → (s.size : Int) - i ≤ m → tx n s q i tk = tx m s q i tk := by
  intro n
  induction n with
  | zero => intro m i tk h _; rw [tx_end 0 s q i tk (by omega), tx_end m s q i tk (by omega)]
  | succ n ih =>
    intro m i tk h h2
    by_cases hc : i < (s.size : Int)
    · obtain ⟨m, rfl⟩ : ∃ j, m = j + 1 := ⟨m - 1, by omega⟩
      simp only [tx]
      rw [if_pos hc, if_pos hc, ih m (i + 2) _ (by omega) (by omega), ih m (i + 1) _ (by omega) (by omega)]
    · rw [tx_end _ s q i tk hc, tx_end m s q i tk hc]
theorem nameEnd_end (n : Nat) (s : ByteArray) (i : Int) (h : ¬ i < (s.size : Int)) : nameEnd n s i = i := by
  cases n with
  | zero => rfl
  | succ n => simp only [nameEnd]; rw [if_neg h]
theorem nameEnd_fuel (s : ByteArray) : ∀ (n m : Nat) (i : Int), (s.size : Int) - i ≤ n → (s.size : Int) - i ≤ m → nameEnd n s i = nameEnd m s i := by
  intro n
  induction n with
  | zero => intro m i h _; rw [nameEnd_end 0 s i (by omega), nameEnd_end m s i (by omega)]
  | succ n ih =>
    intro m i h h2
    by_cases hc : i < (s.size : Int)
    · obtain ⟨m, rfl⟩ : ∃ j, m = j + 1 := ⟨m - 1, by omega⟩
      simp only [nameEnd]
      rw [if_pos hc, if_pos hc, ih m (i + 1) (by omega) (by omega)]
    · rw [nameEnd_end _ s i hc, nameEnd_end m s i hc]
theorem numEnd_end (n : Nat) (s : ByteArray) (b : Bool) (i : Int) (h : ¬ i < (s.size : Int)) : numEnd n s b i = i := by
  cases n with
  | zero => rfl
  | succ n => simp only [numEnd]; rw [if_neg h]
theorem numEnd_fuel (s : ByteArray) (b : Bool) : ∀ (n m : Nat) (i : Int), (s.size : Int) - i ≤ n → (s.size : Int) - i ≤ m → numEnd n s b i = numEnd m s b i := by
  intro n
  induction n with
  | zero => intro m i h _; rw [numEnd_end 0 s b i (by omega), numEnd_end m s b i (by omega)]
  | succ n ih =>
    intro m i h h2
    by_cases hc : i < (s.size : Int)
    · obtain ⟨m, rfl⟩ : ∃ j, m = j + 1 := ⟨m - 1, by omega⟩
      simp only [numEnd]
      rw [if_pos hc, if_pos hc, ih m (i + 1) (by omega) (by omega)]
    · rw [numEnd_end _ s b i hc, numEnd_end m s b i hc]

def shO (k : Int) : Option Int × Bool → Option Int × Bool
  | (some i, b) => (some (i + k), b)
  | (none, b) => (none, b)
theorem tx_shift (s q : ByteArray) (k : Nat) (hk : k ≤ s.size) : ∀ (n : Nat) (i : Int) (tk : Bool), 0 ≤ i → tx n s q (i + k) tk = shO k (tx n (s.extract k s.size) q i tk) := by
  intro n
  have hz := size_tail s k hk
  induction n with
  | zero => intro i tk h0; rfl
  | succ n ih =>
    intro i tk h0
    simp only [tx]
    rw [bt_tail s k i hk h0, ext_tail, show (i + (k : Int)).toNat = k + i.toNat by omega]
    by_cases hc : i < ((s.extract k s.size).size : Int)
    · rw [if_pos hc, if_pos (by omega)]
      by_cases h9 : bt s (i + k) = 92
      · rw [if_pos h9, if_pos h9, show i + (k : Int) + 2 = i + 2 + k by omega, ih (i + 2) _ (by omega)]
        congr 2
        rw [Bool.eq_iff_iff, beq_iff_eq, beq_iff_eq]
        omega
      · rw [if_neg h9, if_neg h9]
        split
        · rfl
        · rw [show i + (k : Int) + 1 = i + 1 + k by omega, ih (i + 1) _ (by omega)]
    · rw [if_neg hc, if_neg (by omega)]
      rfl
theorem nameEnd_shift (s : ByteArray) (k : Nat) (hk : k ≤ s.size) : ∀ (n : Nat) (i : Int), 0 ≤ i → nameEnd n s (i + k) = nameEnd n (s.extract k s.size) i + k := by
  intro n
  have hz := size_tail s k hk
  induction n with
  | zero => intro i h0; rfl
  | succ n ih =>
    intro i h0
    simp only [nameEnd]
    rw [bt_tail s k i hk h0]
    by_cases hc : i < ((s.extract k s.size).size : Int)
    · rw [if_pos hc, if_pos (by omega)]
      split
      · rw [show i + (k : Int) + 1 = i + 1 + k by omega, ih (i + 1) (by omega)]
      · rfl
    · rw [if_neg hc, if_neg (by omega)]

/-- A leaf, moved. -/
def shE (k : Int) : S33 → S33
  | ⟨o, d, a, t⟩ => ⟨o, d, a + k, t + k⟩
/-- r reads s, x reads s from k on; r came with leaves E, and with A, C of what was ahead. -/
structure Sh (k : Nat) (E : List S33) (A C : Bool) (r x : Rd) : Prop where
  hk : k ≤ r.s.size
  s : x.s = r.s.extract k r.s.size
  p0 : 0 ≤ x.pos
  p : r.pos = x.pos + k
  ev : r.ev = E ++ x.ev.map (shE k)
  mark : r.mark = x.mark
  depth : r.depth = x.depth
  join : r.join = x.join
  any : r.any = (A || x.any)
  colon : r.colon = if x.any = true then x.colon else C

theorem isColon_shift (s : ByteArray) (k : Nat) (a t : Int) (ha : 0 ≤ a) (ht : 0 ≤ t) : isColon s (a + k) (t + k) = isColon (s.extract k s.size) a t := by
  unfold isColon
  rw [ext_mid, show (a + (k : Int)).toNat = k + a.toNat by omega, show (t + (k : Int)).toNat = k + t.toNat by omega]
theorem Sh.leaf {k : Nat} {E : List S33} {A C : Bool} {r x : Rd} (h : Sh k E A C r x) (K T : Int) (hT : 0 ≤ T) : Sh k E A C (r.leaf K (T + k)) (x.leaf K T) := by
  obtain ⟨h1, h2, h3, h4, h5, h6, h7, h8, h9, h10⟩ := h
  unfold Rd.leaf
  have e : r.ev ++ [(⟨3, K, r.pos, T + k⟩ : S33)] = E ++ (x.ev ++ [(⟨3, K, x.pos, T⟩ : S33)]).map (shE k) := by
    rw [h5, List.map_append, List.append_assoc, h4]; rfl
  split
  · exact ⟨h1, h2, hT, rfl, e, h6, h7, h8, h9, h10⟩
  · refine ⟨h1, h2, hT, rfl, e, h6, h7, h8, by simp, ?_⟩
    simp only [if_true]
    rw [h4, isColon_shift r.s k _ _ h3 hT, h2, h7]
theorem Sh.setMark {k : Nat} {E : List S33} {A C : Bool} {r x : Rd} (h : Sh k E A C r x) (m : Int) : Sh k E A C { r with mark := m } { x with mark := m } :=
  ⟨h.hk, h.s, h.p0, h.p, h.ev, rfl, h.depth, h.join, h.any, h.colon⟩
theorem Sh.setDepth {k : Nat} {E : List S33} {A C : Bool} {r x : Rd} (h : Sh k E A C r x) (m : Int) : Sh k E A C { r with depth := m } { x with depth := m } :=
  ⟨h.hk, h.s, h.p0, h.p, h.ev, h.mark, rfl, h.join, h.any, h.colon⟩
theorem Sh.setJoin {k : Nat} {E : List S33} {A C : Bool} {r x : Rd} (h : Sh k E A C r x) (m : Bool) : Sh k E A C { r with join := m } { x with join := m } :=
  ⟨h.hk, h.s, h.p0, h.p, h.ev, h.mark, h.depth, rfl, h.any, h.colon⟩
theorem Sh.size {k : Nat} {E : List S33} {A C : Bool} {r x : Rd} (h : Sh k E A C r x) : (r.s.size : Int) = (x.s.size : Int) + k := by
  have h1 := h.hk
  rw [h.s, size_tail _ _ h1]; omega
theorem Sh.text {k : Nat} {E : List S33} {A C : Bool} {r x : Rd} (h : Sh k E A C r x) (f m K : Int) (hf : 0 ≤ f) : Sh k E A C (r.text (f + k) m K) (x.text f m K) := by
  have hz := h.size
  have e := tx_shift r.s (quot m) k h.hk (r.s.size + 1) f false hf
  rw [← h.s, tx_fuel x.s (quot m) (r.s.size + 1) (x.s.size + 1) f false (by omega) (by omega)] at e
  have hb := tx_bd x.s (quot m) (x.s.size + 1) f false
  unfold Rd.text
  rw [e]
  generalize tx (x.s.size + 1) x.s (quot m) f false = o at hb ⊢
  obtain ⟨o, tk⟩ := o
  cases o with
  | some i =>
    have := hb i tk rfl
    show Sh k E A C (({ r with mark := 0 } : Rd).leaf K (i + k + ((quot m).size : Int))) (({ x with mark := 0 } : Rd).leaf K (i + ((quot m).size : Int)))
    rw [show i + (k : Int) + ((quot m).size : Int) = i + ((quot m).size : Int) + k by omega]
    exact (h.setMark 0).leaf _ _ (by omega)
  | none =>
    show Sh k E A C (if 2 < m ∧ tk = false then ({ r with mark := 0 } : Rd).leaf 2 (r.s.size : Int) else ({ r with mark := m } : Rd).leaf 16 (r.s.size : Int)) (if 2 < m ∧ tk = false then ({ x with mark := 0 } : Rd).leaf 2 (x.s.size : Int) else ({ x with mark := m } : Rd).leaf 16 (x.s.size : Int))
    rw [hz]
    split
    · exact (h.setMark 0).leaf _ _ (by omega)
    · exact (h.setMark m).leaf _ _ (by omega)
theorem Sh.rest {k : Nat} {E : List S33} {A C : Bool} {r x : Rd} (h : Sh k E A C r x) : r.rest = x.rest := by
  unfold Rd.rest
  have h3 := h.p0
  rw [h.s, ext_tail, h.p, show (x.pos + (k : Int)).toNat = k + x.pos.toNat by omega]
theorem Sh.c {k : Nat} {E : List S33} {A C : Bool} {r x : Rd} (h : Sh k E A C r x) : r.c = x.c := by
  unfold Rd.c
  rw [h.s, bt_tail _ _ _ h.hk h.p0, h.p]
theorem Sh.step {k : Nat} {E : List S33} {A C : Bool} {r x : Rd} (h : Sh k E A C r x) : Sh k E A C r.step x.step := by
  have hz := h.size
  have hp := h.p
  have h0 := h.p0
  unfold Rd.step
  rw [h.mark, h.c, h.rest]
  split
  · rw [hp]; exact h.text _ _ _ h0
  split
  · exact ⟨h.hk, h.s, by show 0 ≤ x.pos + 1; omega, by show r.pos + 1 = x.pos + 1 + k; omega, h.ev, rfl, h.depth, h.join, h.any, h.colon⟩
  split
  · rw [hz]; exact h.leaf _ _ (by omega)
  split
  · unfold Rd.joined
    by_cases hj : x.pos + 1 = (x.s.size : Int)
    · rw [if_pos hj, if_pos (by omega), hz]; exact (h.setJoin true).leaf _ _ (by omega)
    · rw [if_neg hj, if_neg (by omega), hp, show x.pos + (k : Int) + 1 = x.pos + 1 + k by omega]; exact h.leaf _ _ (by omega)
  split
  · unfold Rd.begun
    have hb := begN_bd x.rest 3 0
    rw [h.rest, hp, show x.pos + (k : Int) + begN 3 x.rest 0 + ((quot (begM x.rest)).size : Int) = x.pos + begN 3 x.rest 0 + ((quot (begM x.rest)).size : Int) + k by omega]
    exact h.text _ _ _ (by omega)
  split
  · unfold Rd.name
    have hn := (nameEnd_bd x.s (x.s.size + 1) x.pos).1
    rw [hp, nameEnd_shift r.s k h.hk _ _ h0, ← h.s, nameEnd_fuel x.s (r.s.size + 1) (x.s.size + 1) x.pos (by omega) (by omega)]
    exact h.leaf _ _ (by omega)
  split
  · unfold Rd.number
    have hr := h.rest
    have hn := (numEnd_bd x.rest (signsB x.rest) (x.s.size + 1) 1).1
    have hl : x.rest.size ≤ x.s.size := by unfold Rd.rest; rw [ByteArray.size_extract]; omega
    rw [hr, hp, numEnd_fuel x.rest _ (r.s.size + 1) (x.s.size + 1) 1 (by omega) (by omega), show ∀ y : Int, x.pos + (k : Int) + y = x.pos + y + k by intro y; omega]
    exact h.leaf _ _ (by omega)
  split
  · unfold Rd.oper
    rw [h.depth, show ∀ y : Int, r.pos + y = x.pos + y + k by intro y; omega]
    split
    · exact (h.setDepth _).leaf _ _ (by omega)
    split
    · split
      · exact h.leaf _ _ (by omega)
      · exact (h.setDepth _).leaf _ _ (by omega)
    · exact h.leaf _ _ (by omega)
  · rw [hp, show x.pos + (k : Int) + 1 = x.pos + 1 + k by omega]
    exact h.leaf _ _ (by omega)
theorem Sh.scan {k : Nat} {E : List S33} {A C : Bool} : ∀ (n : Nat) {r x : Rd}, Sh k E A C r x → Sh k E A C (scanL n r) (scanL n x) := by
  intro n
  induction n with
  | zero => intro r x h; exact h
  | succ n ih =>
    intro r x h
    have hz := h.size
    have hp := h.p
    simp only [scanL]
    by_cases hc : x.pos < (x.s.size : Int)
    · rw [if_pos hc, if_pos (by omega)]; exact ih h.step
    · rw [if_neg hc, if_neg (by omega)]; exact h
theorem scanL_end (n : Nat) (r : Rd) (h : ¬ r.pos < (r.s.size : Int)) : scanL n r = r := by
  cases n with
  | zero => rfl
  | succ n => simp only [scanL]; rw [if_neg h]
theorem scanL_fuel : ∀ (n m : Nat) (r : Rd), r.Ok → (r.s.size : Int) - r.pos ≤ n → (r.s.size : Int) - r.pos ≤ m → scanL n r = scanL m r := by
  intro n
  induction n with
  | zero => intro m r hr h _; rw [scanL_end 0 r (by omega), scanL_end m r (by omega)]
  | succ n ih =>
    intro m r hr h h2
    by_cases hc : r.pos < (r.s.size : Int)
    · obtain ⟨m, rfl⟩ : ∃ j, m = j + 1 := ⟨m - 1, by omega⟩
      simp only [scanL]
      have hs := hr.step hc
      rw [if_pos hc, if_pos hc]
      exact ih m r.step hs.1 (by rw [hs.2.2]; omega) (by rw [hs.2.2]; omega)
    · rw [scanL_end _ r hc, scanL_end m r hc]
theorem scanL_ok : ∀ (n : Nat) (r : Rd), r.Ok → (scanL n r).Ok ∧ (scanL n r).s = r.s := by
  intro n
  induction n with
  | zero => intro r hr; exact ⟨hr, rfl⟩
  | succ n ih =>
    intro r hr
    simp only [scanL]
    split
    · rename_i hc
      have hs := hr.step hc
      obtain ⟨a, b⟩ := ih _ hs.1
      exact ⟨a, b.trans hs.2.2⟩
    · exact ⟨hr, rfl⟩
/-- The scan stands at the end. -/
theorem scanL_at_end : ∀ (n : Nat) (r : Rd), r.Ok → (r.s.size : Int) - r.pos ≤ n → (r.s.size : Int) ≤ (scanL n r).pos := by
  intro n
  induction n with
  | zero => intro r hr h; simp only [scanL]; omega
  | succ n ih =>
    intro r hr h
    by_cases hc : r.pos < (r.s.size : Int)
    · simp only [scanL]
      rw [if_pos hc]
      have hs := hr.step hc
      have := ih r.step hs.1 (by rw [hs.2.2]; omega)
      rw [hs.2.2] at this
      exact this
    · rw [scanL_end _ r hc]; omega

/-- Where the rest of a line ends. -/
theorem endOf_tail (s : ByteArray) (k : Nat) (hk : (k : Int) ≤ endOf s) : endOf (s.extract k s.size) = endOf s - k := by
  have hbd := endOf_bd s
  have hz := size_tail s k (by omega)
  have hb : ∀ i : Nat, bt (s.extract k s.size) (i : Int) = bt s ((i : Int) + k) := fun i => bt_tail s k i (by omega) (by omega)
  rcases ix_cases s with ⟨h1, h2⟩ | ⟨o, ho, h4, h5, h6⟩
  · have es : endOf s = (s.size : Int) := by unfold endOf; rw [h1, if_neg (by omega)]
    rw [es] at hk ⊢
    unfold endOf
    rcases ix_cases (s.extract k s.size) with ⟨g1, _⟩ | ⟨p, hp, g4, g5, _⟩
    · rw [g1, if_neg (by omega), hz]; omega
    · exfalso
      rw [hb p] at g5
      have := h2 (p + k) (by omega)
      rw [Int.natCast_add] at this
      exact this g5
  · have es : endOf s = if 1 ≤ (o : Int) ∧ bt s ((o : Int) - 1) = 13 then (o : Int) - 1 else (o : Int) := by unfold endOf; rw [ho, if_pos (by omega)]
    have hko : k ≤ o := by rw [es] at hk; split at hk <;> omega
    rw [es] at hk ⊢
    unfold endOf
    rcases ix_cases (s.extract k s.size) with ⟨_, g2⟩ | ⟨p, hp, g4, g5, g6⟩
    · exfalso
      have := g2 (o - k) (by omega)
      rw [hb, show (((o - k : Nat) : Int)) + k = o by omega] at this
      exact this h5
    · have hpo : p = o - k := by
        rw [hb p] at g5
        have c1 : ¬ p + k < o := fun c => h6 (p + k) c (by rw [Int.natCast_add]; exact g5)
        have c2 : ¬ o - k < p := fun c => g6 (o - k) c (by rw [hb, show (((o - k : Nat) : Int)) + k = o by omega]; exact h5)
        omega
      rw [hp, if_pos (show (0 : Int) ≤ (p : Int) by omega), hpo]
      by_cases c : 1 ≤ (o : Int) ∧ bt s ((o : Int) - 1) = 13
      · rw [if_pos c] at hk ⊢
        have h1 : 1 ≤ o - k := by omega
        have := hb (o - k - 1)
        rw [show (((o - k - 1 : Nat) : Int)) = ((o - k : Nat) : Int) - 1 by omega] at this
        rw [if_pos ⟨by omega, by rw [this, show ((o - k : Nat) : Int) - 1 + k = (o : Int) - 1 by omega]; exact c.2⟩]
        omega
      · rw [if_neg c] at hk ⊢
        by_cases h1 : 1 ≤ o - k
        · have := hb (o - k - 1)
          rw [show (((o - k - 1 : Nat) : Int)) = ((o - k : Nat) : Int) - 1 by omega] at this
          rw [if_neg (fun h => c ⟨by omega, by rw [← h.2, this, show ((o - k : Nat) : Int) - 1 + k = (o : Int) - 1 by omega]⟩)]
          omega
        · rw [if_neg (fun h => h1 (by omega))]
          omega
theorem lineOf_tail (s : ByteArray) (k : Nat) (hk : (k : Int) ≤ endOf s) : lineOf (s.extract k s.size) = (lineOf s).extract k (lineOf s).size := by
  have hbd := endOf_bd s
  have hz := size_tail s k (by omega)
  rw [lineOf_end, lineOf_end, endOf_tail s k hk]
  apply ByteArray.ext
  simp only [ByteArray.data_extract, ByteArray.size_extract]
  rw [Array.extract_extract, Array.extract_extract]
  have e : s.size = s.data.size := rfl
  congr 1 <;> omega
theorem lineOf_len (s : ByteArray) : ((lineOf s).size : Int) = endOf s := by
  have hbd := endOf_bd s
  rw [lineOf_end, ByteArray.size_extract]; omega

end Go.Proofs.Ytdknppomjcpihaa.PPy

namespace Go.Proofs.Ytdknppomjcpihaa.PPy
open Go.RowKit Go.Proofs.YtdknppomjcpihaaW.PrintWords Go.Proofs.YtdknppomjcpihaaW.PrintLast Go.Proofs.YtdknppomjcpihaaW.PrintMore

def kindOk (k : Int) : Prop := k = 2 ∨ (13 ≤ k ∧ k ≤ 19)
/-- One leaf from where r stands, of kind K, up to T; r2: r with what is open and how deep it is. -/
structure StepLeaf (r r2 : Rd) (K T : Int) : Prop where
  eq : r.step = r2.leaf K T
  s : r2.s = r.s
  pos : r2.pos = r.pos
  ev : r2.ev = r.ev
  any : r2.any = r.any
  colon : r2.colon = r.colon
  lo : r.pos < T
  hi : T ≤ (r.s.size : Int)
  kind : kindOk K
  dep : K ≠ 17 ∧ K ≠ 2 → r2.depth = r.depth

theorem tx_in (s q : ByteArray) (hq : 1 ≤ q.size) : ∀ (n : Nat) (f : Int) (tk : Bool) (i : Int) (b : Bool), 0 ≤ f → tx n s q f tk = (some i, b) → i + (q.size : Int) ≤ (s.size : Int) := by
  intro n
  induction n with
  | zero => intro f tk i b _ h; simp [tx] at h
  | succ n ih =>
    intro f tk i b h0 h
    simp only [tx] at h
    split at h
    · split at h
      · exact ih _ _ _ _ (by omega) h
      · split at h
        · rename_i hh
          have := hp_le hh
          rw [ByteArray.size_extract] at this
          simp at h
          omega
        · exact ih _ _ _ _ (by omega) h
    · simp at h
theorem text_leaf {r : Rd} (h : r.Ok) (hp : r.pos < (r.s.size : Int)) (f m W : Int) (hm : 1 ≤ m ∧ m ≤ 4) (hf : r.pos ≤ f) (hW : kindOk W ∧ W ≠ 17 ∧ W ≠ 2) :
    ∃ (m2 K T : Int), r.text f m W = ({ r with mark := m2 } : Rd).leaf K T ∧ r.pos < T ∧ T ≤ (r.s.size : Int) ∧ kindOk K := by
  have hq := quot_size hm
  have h0 := h.p0
  unfold Rd.text
  split
  · rename_i i _ e
    have h1 := tx_bd _ _ _ _ _ _ _ e
    have h2 := tx_in _ _ hq.1 _ _ _ _ _ (by omega) e
    exact ⟨0, W, _, rfl, by omega, h2, hW.1⟩
  · split
    · exact ⟨0, 2, _, rfl, hp, Int.le_refl _, .inl rfl⟩
    · exact ⟨m, 16, _, rfl, hp, Int.le_refl _, .inr (by omega)⟩
theorem rest_size {r : Rd} (h : r.Ok) (hp : r.pos < (r.s.size : Int)) : (r.rest.size : Int) = (r.s.size : Int) - r.pos := by
  have h0 := h.p0
  unfold Rd.rest
  rw [ByteArray.size_extract]; omega
theorem opAt_hp : ∀ (l : List ByteArray) (q : ByteArray), opAt l q < l.length → hp q (l.getD (opAt l q) ByteArray.empty) = true := by
  intro l
  induction l with
  | nil => intro q h; simp [opAt] at h
  | cons o l ih =>
    intro q h
    simp only [opAt] at h ⊢
    by_cases c : hp q o = true
    · rw [if_pos c]; exact c
    · rw [if_neg c] at h ⊢
      exact ih q (by simpa using h)
theorem opOf_le (q : ByteArray) (h : opAt opL q < 47) : (opOf q).size ≤ q.size := hp_le (opAt_hp opL q h)

/-- One step, in its form. -/
theorem step_form {r : Rd} (h : r.Ok) (hp : r.pos < (r.s.size : Int)) :
    (r.mark = 0 ∧ blankB r.c = true ∧ r.step = { r with pos := r.pos + 1 }) ∨ ∃ r2 K T, StepLeaf r r2 K T := by
  have h0 := h.p0
  have hr := rest_size h hp
  unfold Rd.step
  split
  · rename_i hm
    obtain ⟨m2, K, T, e, h1, h2, h3⟩ := text_leaf h hp r.pos r.mark 16 (by have := h.m; omega) (Int.le_refl _) ⟨.inr (by omega), by omega, by omega⟩
    exact .inr ⟨{ r with mark := m2 }, K, T, by unfold Rd.step; rw [if_pos hm, e], rfl, rfl, rfl, rfl, rfl, h1, h2, h3, fun _ => rfl⟩
  rename_i hm
  split
  · rename_i hb
    exact .inl ⟨by omega, hb, rfl⟩
  rename_i hb
  split
  · rename_i hc
    exact .inr ⟨r, 18, _, by unfold Rd.step; rw [if_neg hm, if_neg hb, if_pos hc], rfl, rfl, rfl, rfl, rfl, hp, Int.le_refl _, .inr (by omega), fun _ => rfl⟩
  rename_i hc
  split
  · rename_i hd
    have e : r.step = r.joined := by unfold Rd.step; rw [if_neg hm, if_neg hb, if_neg hc, if_pos hd]
    unfold Rd.joined at e
    by_cases hj : r.pos + 1 = (r.s.size : Int)
    · rw [if_pos hj] at e
      exact .inr ⟨_, 19, _, e, rfl, rfl, rfl, rfl, rfl, hp, Int.le_refl _, .inr (by omega), fun _ => rfl⟩
    · rw [if_neg hj] at e
      exact .inr ⟨r, 2, _, e, rfl, rfl, rfl, rfl, rfl, by omega, by omega, .inl rfl, fun _ => rfl⟩
  rename_i hd
  split
  · rename_i hg
    have e : r.step = r.begun := by unfold Rd.step; rw [if_neg hm, if_neg hb, if_neg hc, if_neg hd, if_pos hg]
    have hb := begN_bd r.rest 3 0
    obtain ⟨m2, K, T, e2, h1, h2, h3⟩ := text_leaf h hp (r.pos + begN 3 r.rest 0 + ((quot (begM r.rest)).size : Int)) (begM r.rest) 15 (by have := begM_range r.rest; omega) (by omega) ⟨.inr (by omega), by omega, by omega⟩
    exact .inr ⟨{ r with mark := m2 }, K, T, by rw [e]; exact e2, rfl, rfl, rfl, rfl, rfl, h1, h2, h3, fun _ => rfl⟩
  rename_i hg
  split
  · rename_i hl
    have e : r.step = r.name := by unfold Rd.step; rw [if_neg hm, if_neg hb, if_neg hc, if_neg hd, if_neg hg, if_pos hl]
    have hn : r.pos + 1 ≤ nameEnd (r.s.size + 1) r.s r.pos := by
      simp only [nameEnd]
      rw [if_pos hp, if_pos (by simp only [Rd.c] at hl; rw [hl]; rfl)]
      exact (nameEnd_bd r.s r.s.size (r.pos + 1)).1
    exact .inr ⟨r, 13, _, e, rfl, rfl, rfl, rfl, rfl, by omega, (nameEnd_bd r.s (r.s.size + 1) r.pos).2 (by omega), .inr (by omega), fun _ => rfl⟩
  rename_i hl
  split
  · rename_i hn
    have e : r.step = r.number := by unfold Rd.step; rw [if_neg hm, if_neg hb, if_neg hc, if_neg hd, if_neg hg, if_neg hl, if_pos hn]
    have hb := numEnd_bd r.rest (signsB r.rest) (r.s.size + 1) 1
    exact .inr ⟨r, 14, _, e, rfl, rfl, rfl, rfl, rfl, by omega, by have := hb.2 (by omega); omega, .inr (by omega), fun _ => rfl⟩
  rename_i hn
  split
  · rename_i ho
    have e : r.step = r.oper (opOf r.rest) := by unfold Rd.step; rw [if_neg hm, if_neg hb, if_neg hc, if_neg hd, if_neg hg, if_neg hl, if_neg hn, if_pos ho]
    have hs : 1 ≤ (opOf r.rest).size := opL_size _ ho
    have hs3 := opOf_le r.rest ho
    unfold Rd.oper at e
    split at e
    · exact .inr ⟨_, 17, _, e, rfl, rfl, rfl, rfl, rfl, by omega, by omega, .inr (by omega), fun h => absurd rfl h.1⟩
    split at e
    · split at e
      · exact .inr ⟨r, 2, _, e, rfl, rfl, rfl, rfl, rfl, by omega, by omega, .inl rfl, fun _ => rfl⟩
      · exact .inr ⟨_, 17, _, e, rfl, rfl, rfl, rfl, rfl, by omega, by omega, .inr (by omega), fun h => absurd rfl h.1⟩
    · exact .inr ⟨r, 17, _, e, rfl, rfl, rfl, rfl, rfl, by omega, by omega, .inr (by omega), fun _ => rfl⟩
  rename_i ho
  exact .inr ⟨r, 2, _, by unfold Rd.step; rw [if_neg hm, if_neg hb, if_neg hc, if_neg hd, if_neg hg, if_neg hl, if_neg hn, if_neg ho], rfl, rfl, rfl, rfl, rfl, by omega, by omega, .inl rfl, fun _ => rfl⟩

/-- From a on: leaves in order, blanks between them, up to b. -/
def CovF (s : ByteArray) : Int → List S33 → Int → Prop
  | a, [], b => a ≤ b ∧ ∀ i, a ≤ i → i < b → blankB (bt s i) = true
  | a, e :: l, b => e.f0 = 3 ∧ a ≤ e.f2 ∧ e.f2 < e.f3 ∧ e.f3 ≤ (s.size : Int) ∧ kindOk e.f1 ∧ (∀ i, a ≤ i → i < e.f2 → blankB (bt s i) = true) ∧ CovF s e.f3 l b
theorem CovF.blank {s : ByteArray} {b : Int} (hb : blankB (bt s b) = true) : ∀ {l : List S33} {a : Int}, CovF s a l b → CovF s a l (b + 1) := by
  intro l
  induction l with
  | nil =>
    rintro a ⟨h1, h2⟩
    refine ⟨by omega, fun i hi hi2 => ?_⟩
    by_cases c : i = b
    · rw [c]; exact hb
    · exact h2 i hi (by omega)
  | cons e l ih => rintro a ⟨h1, h2, h3, h4, h5, h6, h7⟩; exact ⟨h1, h2, h3, h4, h5, h6, ih h7⟩
theorem CovF.snoc {s : ByteArray} {b K T : Int} (h1 : b < T) (h2 : T ≤ (s.size : Int)) (hk : kindOk K) : ∀ {l : List S33} {a : Int}, CovF s a l b → CovF s a (l ++ [⟨3, K, b, T⟩]) T := by
  intro l
  induction l with
  | nil =>
    rintro a ⟨g1, g2⟩
    exact ⟨rfl, g1, h1, h2, hk, g2, Int.le_refl _, fun i (hi : T ≤ i) (hi2 : i < T) => by omega⟩
  | cons e l ih => rintro a ⟨g1, g2, g3, g4, g5, g6, g7⟩; exact ⟨g1, g2, g3, g4, g5, g6, ih g7⟩
structure Cov (r : Rd) : Prop where
  c : CovF r.s 0 r.ev r.pos
  hi : r.pos ≤ (r.s.size : Int)
  col : r.colon = true → r.any = true ∧ r.depth = 0
theorem Cov.step {r : Rd} (ho : r.Ok) (hp : r.pos < (r.s.size : Int)) (h : Cov r) : Cov r.step := by
  rcases step_form ho hp with ⟨_, hb, e⟩ | ⟨r2, K, T, g⟩
  · rw [e]
    exact ⟨h.c.blank hb, show r.pos + 1 ≤ (r.s.size : Int) by omega, h.col⟩
  · obtain ⟨l1, l2, l3, l4, l5, l6, l7⟩ := leaf_same r2 K T
    rw [g.eq]
    refine ⟨?_, ?_, ?_⟩
    · rw [l1, l2, l7, g.s, g.ev, g.pos]
      exact h.c.snoc g.lo g.hi g.kind
    · rw [l1, l2, g.s]; exact g.hi
    · rw [l4]
      unfold Rd.leaf
      split
      · rename_i hk
        show r2.colon = true → r2.any = true ∧ r2.depth = 0
        rw [g.any, g.colon, g.dep (by omega)]
        exact h.col
      · show (decide (K = 17) && (isColon r2.s r2.pos T && decide (r2.depth = 0))) = true → true = true ∧ r2.depth = 0
        intro hc
        simp at hc
        exact ⟨rfl, hc.2.2⟩
theorem Cov.scan : ∀ (n : Nat) {r : Rd}, r.Ok → Cov r → Cov (scanL n r) := by
  intro n
  induction n with
  | zero => intro r _ h; exact h
  | succ n ih =>
    intro r ho h
    simp only [scanL]
    split
    · rename_i hp
      exact ih (ho.step hp).1 (h.step ho hp)
    · exact h
theorem covers (line : ByteArray) (mark depth : Int) (hz : line.size ≤ 1000000) (hm : 0 ≤ mark) (r : Rd) (hr : scanM line 0 mark depth = r) :
    CovF (lineOf line) 0 r.ev (endOf line) ∧ (0 ≤ r.mark ∧ r.mark ≤ 4) ∧ (0 ≤ r.depth ∧ r.depth ≤ 1048576) ∧ (r.colon = true → r.any = true ∧ r.depth = 0) := by
  have ho : (Rd.init line 0 mark depth).Ok := Rd.Ok.init hz hm
  have hs : (Rd.init line 0 mark depth).s = lineOf line := rfl
  have hp : (Rd.init line 0 mark depth).pos = 0 := rfl
  have h0 : Cov (Rd.init line 0 mark depth) := ⟨⟨by rw [hp]; omega, fun i h1 h2 => by rw [hp] at h2; omega⟩, by rw [hp]; omega, fun h => by exact absurd h (by simp [Rd.init])⟩
  have h1 := h0.scan ((lineOf line).size + 1) ho
  have h2 := scanL_ok ((lineOf line).size + 1) _ ho
  have h3 := scanL_at_end ((lineOf line).size + 1) _ ho (by rw [hs, hp]; omega)
  unfold scanM at hr
  rw [hr] at h1 h2 h3
  have h4 := h1.hi
  have h5 := lineOf_len line
  have hc := h1.c
  rw [h2.2, hs] at hc h4
  rw [hs] at h3
  rw [show r.pos = endOf line by omega] at hc
  exact ⟨hc, h2.1.m, h2.1.d, h1.col⟩

end Go.Proofs.Ytdknppomjcpihaa.PPy

namespace Go.Proofs.Ytdknppomjcpihaa.PPy
open Go.RowKit Go.Proofs.YtdknppomjcpihaaW.PrintWords Go.Proofs.YtdknppomjcpihaaW.PrintLast Go.Proofs.YtdknppomjcpihaaW.PrintMore

theorem bt_natI (s : ByteArray) (i : Nat) (h : i < s.size) : bt s (i : Int) = ((s[i]'h).toNat : Int) := by
  unfold bt
  rw [dif_pos (show (i : Int).toNat < s.size by simpa using h)]
  simp
theorem hp_iff (s q : ByteArray) : hp s q = true ↔ q.size ≤ s.size ∧ ∀ j : Nat, j < q.size → bt s (j : Int) = bt q (j : Int) := by
  unfold hp
  rw [Bool.and_eq_true, decide_eq_true_iff, beq_iff_eq]
  constructor
  · rintro ⟨h1, h2⟩
    refine ⟨h1, fun j hj => ?_⟩
    have e := bytes_ext h2
    have hz : (s.extract 0 q.size).size = q.size := by rw [e]
    rw [bt_natI s j (by omega), bt_natI q j hj]
    have : (s.extract 0 q.size)[j]'(by omega) = q[j]'hj := by congr 1
    rw [ByteArray.getElem_extract] at this
    simp only [Nat.zero_add] at this
    rw [this]
  · rintro ⟨h1, h2⟩
    refine ⟨h1, ?_⟩
    rw [ByteArray.toList_eq, ByteArray.toList_eq]
    have hz : (s.extract 0 q.size).size = q.size := by rw [ByteArray.size_extract]; omega
    apply List.ext_getElem
    · rw [Array.length_toList, Array.length_toList]; exact hz
    · intro j hj1 hj2
      have hj : j < q.size := by rw [Array.length_toList] at hj2; exact hj2
      have := h2 j hj
      rw [bt_natI s j (by omega), bt_natI q j hj] at this
      have e2 : s[j]'(by omega) = q[j]'hj := UInt8.toNat_inj.mp (by omega)
      have e3 : s.data[j]'(by have : s.size = s.data.size := rfl; omega) = q.data[j]'hj := e2
      simpa using e3

/-- P ends in a blank, and Q begins with P. -/
structure Lk (P Q : ByteArray) (n : Nat) : Prop where
  z : P.size = n
  n1 : 1 ≤ n
  le : n ≤ Q.size
  last : bt P ((n : Int) - 1) = 32
  same : ∀ i : Int, 0 ≤ i → i < n → bt Q i = bt P i
theorem Lk.tail {P Q : ByteArray} {n : Nat} (h : Lk P Q n) (k : Nat) (hk : k < n) : Lk (P.extract k P.size) (Q.extract k Q.size) (n - k) := by
  obtain ⟨h1, h2, h3, h4, h5⟩ := h
  refine ⟨by rw [size_tail _ _ (by omega)]; omega, by omega, by rw [size_tail _ _ (by omega)]; omega, ?_, ?_⟩
  · rw [bt_tail _ _ _ (by omega) (by omega), show ((n - k : Nat) : Int) - 1 + k = (n : Int) - 1 by omega]; exact h4
  · intro i h0 hi
    rw [bt_tail _ _ _ (by omega) h0, bt_tail _ _ _ (by omega) h0]
    exact h5 _ (by omega) (by omega)
theorem Lk.hp {P Q : ByteArray} {n : Nat} (h : Lk P Q n) (q : ByteArray) (hq : 1 ≤ q.size) (hb : ∀ j : Nat, j < q.size → bt q (j : Int) ≠ 32) : hp Q q = hp P q := by
  obtain ⟨h1, h2, h3, h4, h5⟩ := h
  rw [Bool.eq_iff_iff, hp_iff, hp_iff]
  constructor
  · rintro ⟨g1, g2⟩
    have hlt : q.size ≤ n - 1 := by
      apply Decidable.byContradiction
      intro hc
      have := g2 (n - 1) (by omega)
      rw [h5 _ (by omega) (by omega), show ((n - 1 : Nat) : Int) = (n : Int) - 1 by omega, h4] at this
      have hb2 := hb (n - 1) (by omega)
      rw [show ((n - 1 : Nat) : Int) = (n : Int) - 1 by omega] at hb2
      exact hb2 this.symm
    exact ⟨by omega, fun j hj => by rw [← h5 _ (by omega) (by omega)]; exact g2 j hj⟩
  · rintro ⟨g1, g2⟩
    exact ⟨by omega, fun j hj => by rw [h5 _ (by omega) (by omega)]; exact g2 j hj⟩
theorem Lk.tx {P Q : ByteArray} {n : Nat} (h : Lk P Q n) (q : ByteArray) (hq : 1 ≤ q.size) (hb : ∀ j : Nat, j < q.size → bt q (j : Int) ≠ 32) :
    ∀ (f g : Nat) (i : Int) (tk tk2 : Bool) (j : Int) (b : Bool), f ≤ g → 0 ≤ i → tx f P q i tk = (some j, b) → ∃ b2, tx g Q q i tk2 = (some j, b2) := by
  intro f
  induction f with
  | zero => intro g i tk tk2 j b _ _ e; simp [PPy.tx] at e
  | succ f ih =>
    intro g i tk tk2 j b hg h0 e
    obtain ⟨g, rfl⟩ : ∃ m, g = m + 1 := ⟨g - 1, by omega⟩
    simp only [PPy.tx] at e ⊢
    by_cases hc : i < (P.size : Int)
    · rw [if_pos hc] at e
      have hz := h.z
      have hle := h.le
      rw [if_pos (by omega), h.same i h0 (by omega)]
      by_cases h9 : bt P i = 92
      · rw [if_pos h9] at e ⊢
        exact ih g (i + 2) _ _ j b (by omega) (by omega) e
      · rw [if_neg h9] at e ⊢
        have := (h.tail i.toNat (by omega)).hp q hq hb
        rw [this]
        split at e
        · rename_i hh
          rw [if_pos hh]
          exact ⟨tk2, by rw [(Prod.mk.inj e).1]⟩
        · rename_i hh
          rw [if_neg hh]
          exact ih g (i + 1) _ _ j b (by omega) (by omega) e
    · rw [if_neg hc] at e; simp at e
theorem Lk.nameEnd {P Q : ByteArray} {n : Nat} (h : Lk P Q n) : ∀ (f g : Nat) (i : Int), 0 ≤ i → i < n → (n : Int) - i ≤ f → (n : Int) - i ≤ g → nameEnd g Q i = nameEnd f P i := by
  intro f
  induction f with
  | zero => intro g i h0 h1 h2 _; omega
  | succ f ih =>
    intro g i h0 h1 h2 h3
    obtain ⟨g, rfl⟩ : ∃ m, g = m + 1 := ⟨g - 1, by omega⟩
    simp only [PPy.nameEnd]
    have hz := h.z
    have hle := h.le
    rw [if_pos (show i < (Q.size : Int) by omega), if_pos (show i < (P.size : Int) by omega), h.same i h0 h1]
    by_cases hi : i = (n : Int) - 1
    · rw [hi, h.last]
      rfl
    · split
      · exact ih g (i + 1) (by omega) (by omega) (by omega) (by omega)
      · rfl
theorem Lk.numEnd {P Q : ByteArray} {n : Nat} (h : Lk P Q n) (sg : Bool) : ∀ (f g : Nat) (i : Int), 1 ≤ i → i < n → (n : Int) - i ≤ f → (n : Int) - i ≤ g → numEnd g Q sg i = numEnd f P sg i := by
  intro f
  induction f with
  | zero => intro g i h0 h1 h2 _; omega
  | succ f ih =>
    intro g i h0 h1 h2 h3
    obtain ⟨g, rfl⟩ : ∃ m, g = m + 1 := ⟨g - 1, by omega⟩
    simp only [PPy.numEnd]
    have hz := h.z
    have hle := h.le
    rw [if_pos (show i < (Q.size : Int) by omega), if_pos (show i < (P.size : Int) by omega), h.same i (by omega) h1, h.same (i - 1) (by omega) (by omega)]
    by_cases hi : i = (n : Int) - 1
    · rw [hi, h.last]
      have e : ∀ x : Int, numStop sg x 32 = true := by intro x; cases sg <;> rfl
      rw [if_pos (e _), if_pos (e _)]
    · split
      · rfl
      · exact ih g (i + 1) (by omega) (by omega) (by omega) (by omega)
theorem Lk.begN {P Q : ByteArray} {n : Nat} (h : Lk P Q n) : ∀ (f : Nat) (i : Int), 0 ≤ i → i < n → begN f Q i = begN f P i ∧ begN f P i < n := by
  intro f
  induction f with
  | zero => intro i _ hi; exact ⟨rfl, hi⟩
  | succ f ih =>
    intro i h0 h1
    simp only [PPy.begN]
    have hz := h.z
    have hle := h.le
    rw [h.same i h0 h1]
    by_cases hc : i < 2 ∧ preB (smallB (bt P i)) = true
    · have hi : i ≠ (n : Int) - 1 := by
        intro e
        rw [e, h.last] at hc
        exact absurd hc.2 (by decide)
      rw [if_pos ⟨hc.1, by omega, hc.2⟩, if_pos ⟨hc.1, by omega, hc.2⟩]
      exact ih (i + 1) (by omega) (by omega)
    · rw [if_neg (fun e => hc ⟨e.1, e.2.2⟩), if_neg (fun e => hc ⟨e.1, e.2.2⟩)]
      exact ⟨rfl, h1⟩
theorem quot_bytes : ∀ (m : Nat), m < 5 → 1 ≤ m → ∀ j : Nat, j < (quot (m : Int)).size → bt (quot (m : Int)) (j : Int) ≠ 32 := by decide +kernel
theorem quot_bytes' (m : Int) (h : 1 ≤ m ∧ m ≤ 4) : ∀ j : Nat, j < (quot m).size → bt (quot m) (j : Int) ≠ 32 := by
  have := quot_bytes m.toNat (by omega) (by omega)
  rwa [Int.toNat_of_nonneg (by omega)] at this
theorem Lk.markOf {P Q : ByteArray} {n : Nat} (h : Lk P Q n) : markOf Q = markOf P := by
  unfold PPy.markOf
  have e := fun (m : Int) (hm : 1 ≤ m ∧ m ≤ 4) => h.hp (quot m) (quot_size hm).1 (quot_bytes' m hm)
  rw [e 1 (by omega), e 2 (by omega), e 3 (by omega), e 4 (by omega)]
theorem Lk.begM {P Q : ByteArray} {n : Nat} (h : Lk P Q n) : begM Q = begM P := by
  have h0 := h.begN 3 0 (Int.le_refl _) (by have := h.n1; omega)
  have hb := begN_bd P 3 0
  unfold PPy.begM
  rw [h0.1]
  have hm := (h.tail (PPy.begN 3 P 0).toNat (by omega)).markOf
  rw [hm]
  by_cases hc : PPy.begN 3 P 0 = 2
  · rw [h.same 0 (by omega) (by omega), h.same 1 (by omega) (by omega)]
  · rw [if_neg (fun e => hc e.1), if_neg (fun e => hc e.1)]
theorem opL_bytes : ∀ k : Nat, k < 47 → 1 ≤ (opL.getD k ByteArray.empty).size ∧ ∀ j : Nat, j < (opL.getD k ByteArray.empty).size → bt (opL.getD k ByteArray.empty) (j : Int) ≠ 32 := by decide +kernel
theorem opAt_congr (P Q : ByteArray) : ∀ (l : List ByteArray), (∀ o ∈ l, hp Q o = hp P o) → opAt l Q = opAt l P := by
  intro l
  induction l with
  | nil => intro _; rfl
  | cons o l ih =>
    intro h
    simp only [opAt]
    rw [h o (List.mem_cons_self), ih (fun x hx => h x (List.mem_cons_of_mem _ hx))]
theorem Lk.opAt {P Q : ByteArray} {n : Nat} (h : Lk P Q n) : opAt opL Q = opAt opL P := by
  apply opAt_congr
  intro o ho
  obtain ⟨k, hk, e⟩ := List.getElem_of_mem ho
  have hb := opL_bytes k hk
  have e2 : opL.getD k ByteArray.empty = o := by rw [List.getD_eq_getElem?_getD, List.getElem?_eq_getElem hk]; exact e
  rw [e2] at hb
  exact h.hp o hb.1 hb.2

def good (k : Int) : Prop := k = 13 ∨ k = 14 ∨ k = 15 ∨ k = 17
theorem leaf_good {r : Rd} {K T : Int} (h : ∀ e ∈ (r.leaf K T).ev, good e.f1) : good K := by
  have := (leaf_same r K T).2.2.2.2.2.2
  rw [this] at h
  exact h ⟨3, K, r.pos, T⟩ (by simp)
theorem leaf_on (r : Rd) (Q : ByteArray) (K T : Int) (hc : isColon Q r.pos T = isColon r.s r.pos T) : ({ r with s := Q } : Rd).leaf K T = { r.leaf K T with s := Q } := by
  unfold Rd.leaf
  split
  · rfl
  · show Rd.mk Q _ _ _ _ _ _ _ = Rd.mk Q _ _ _ _ _ _ _
    rw [hc]
theorem colon_on {P Q : ByteArray} {n : Nat} (h : Lk P Q n) (a t : Int) (h0 : 0 ≤ a) (ht : t ≤ n) (hat : a < t) : isColon Q a t = isColon P a t := by
  have hz := h.z
  have hle := h.le
  unfold isColon
  congr 1
  rw [ByteArray.toList_eq, ByteArray.toList_eq]
  apply List.ext_getElem
  · rw [Array.length_toList, Array.length_toList]
    show (Q.extract a.toNat t.toNat).size = (P.extract a.toNat t.toNat).size
    rw [ByteArray.size_extract, ByteArray.size_extract]; omega
  · intro j hj1 hj2
    have hj : j < (P.extract a.toNat t.toNat).size := by rw [Array.length_toList] at hj2; exact hj2
    have hj' := hj
    rw [ByteArray.size_extract] at hj'
    have hq : j < (Q.extract a.toNat t.toNat).size := by rw [ByteArray.size_extract]; omega
    have e := h.same (a + j) (by omega) (by omega)
    rw [show a + (j : Int) = ((a.toNat + j : Nat) : Int) by omega, bt_natI Q _ (by omega), bt_natI P _ (by omega)] at e
    have e2 : Q[a.toNat + j]'(by omega) = P[a.toNat + j]'(by omega) := UInt8.toNat_inj.mp (by omega)
    have e3 : Q.data[a.toNat + j]'(by have : Q.size = Q.data.size := rfl; omega) = P.data[a.toNat + j]'(by have : P.size = P.data.size := rfl; omega) := e2
    simpa using e3

/-- One step ahead of the blank: the same on both, if it tells a good leaf. -/
theorem lock_step {P Q : ByteArray} {n : Nat} (h : Lk P Q n) (p : Rd) (hs : p.s = P) (hok : p.Ok) (hp : p.pos < n) (hm : p.mark = 0) (hg : ∀ e ∈ p.step.ev, good e.f1) :
    ({ p with s := Q } : Rd).step = { p.step with s := Q } ∧ p.step.mark = 0 ∧ p.step.join = p.join := by
  have h0 := hok.p0
  have hz := h.z
  have hle := h.le
  have hps : p.pos < (p.s.size : Int) := by rw [hs]; omega
  have hc : ({ p with s := Q } : Rd).c = p.c := by unfold Rd.c; rw [hs]; exact h.same _ h0 hp
  have hR := h.tail p.pos.toNat (by omega)
  have e1 : p.rest = P.extract p.pos.toNat P.size := by unfold Rd.rest; rw [hs]
  have e2 : ({ p with s := Q } : Rd).rest = Q.extract p.pos.toNat Q.size := rfl
  have hcR : p.c = bt (P.extract p.pos.toNat P.size) 0 := by
    unfold Rd.c
    rw [hs, bt_tail _ _ _ (by omega) (Int.le_refl _), show (0 : Int) + (p.pos.toNat : Int) = p.pos by omega]
  rw [← e1, ← e2] at hR
  rw [← e1] at hcR
  have hcol : ∀ t : Int, p.pos < t → t ≤ n → isColon Q p.pos t = isColon p.s p.pos t := fun t h1 h2 => by rw [hs]; exact colon_on h p.pos t h0 h2 h1
  have hcolm : ∀ (p2 : Rd) (t : Int), p2.s = p.s → p2.pos = p.pos → p.pos < t → t ≤ n → isColon Q p2.pos t = isColon p2.s p2.pos t := fun p2 t a b c d => by rw [a, b]; exact hcol t c d
  unfold Rd.step at hg ⊢
  have hm2 : ({ p with s := Q } : Rd).mark = 0 := hm
  rw [if_neg (by omega)] at hg
  rw [if_neg (show ¬ ({ p with s := Q } : Rd).mark ≠ 0 by omega), if_neg (show ¬ p.mark ≠ 0 by omega), hc]
  by_cases hb : blankB p.c = true
  · rw [if_pos hb, if_pos hb]
    exact ⟨rfl, hm, rfl⟩
  rw [if_neg hb] at hg
  rw [if_neg hb, if_neg hb]
  by_cases c1 : p.c = 35
  · rw [if_pos c1] at hg
    have := leaf_good hg
    unfold good at this; omega
  rw [if_neg c1] at hg
  rw [if_neg c1, if_neg c1]
  by_cases c2 : p.c = 92
  · rw [if_pos c2] at hg
    unfold Rd.joined at hg
    split at hg
    · have := leaf_good hg; unfold good at this; omega
    · have := leaf_good hg; unfold good at this; omega
  rw [if_neg c2] at hg
  rw [if_neg c2, if_neg c2, hR.begM]
  have hn2 : 2 ≤ n - p.pos.toNat := by
    apply Decidable.byContradiction
    intro hcn
    have := hR.last
    rw [show ((n - p.pos.toNat : Nat) : Int) - 1 = 0 by omega, ← hcR] at this
    rw [this] at hb
    exact hb (by decide)
  by_cases c3 : 0 < begM p.rest
  · rw [if_pos c3] at hg
    rw [if_pos c3, if_pos c3]
    unfold Rd.begun at hg ⊢
    have hbN := hR.begN 3 0 (Int.le_refl _) (by omega)
    have hbb := begN_bd p.rest 3 0
    rw [hR.begM, hbN.1]
    have hmr := begM_range p.rest
    generalize begM p.rest = M at hg c3 hmr ⊢
    generalize PPy.begN 3 p.rest 0 = N at hg hbb ⊢
    have hqb := quot_bytes' M (by omega)
    have hqz := quot_size (m := M) (by omega)
    generalize hF : p.pos + N + ((quot M).size : Int) = F at hg ⊢
    show ({ p with s := Q } : Rd).text F M 15 = _ ∧ _
    unfold Rd.text at hg ⊢
    generalize he : PPy.tx (p.s.size + 1) p.s (quot M) F false = o at hg ⊢
    obtain ⟨o, b⟩ := o
    cases o with
    | none =>
      exfalso
      simp only at hg
      split at hg
      · have := leaf_good hg; unfold good at this; omega
      · have := leaf_good hg; unfold good at this; omega
    | some i =>
      have hin := tx_in _ _ hqz.1 _ _ _ _ _ (by omega) he
      have hlo := tx_bd _ _ _ _ _ _ _ he
      rw [hs] at he hin
      obtain ⟨b2, e3⟩ := h.tx (quot M) hqz.1 hqb (P.size + 1) (Q.size + 1) F false false i b (by omega) (by omega) he
      have e4 : PPy.tx (({ p with s := Q } : Rd).s.size + 1) ({ p with s := Q } : Rd).s (quot M) F false = (some i, b2) := e3
      rw [e4]
      simp only
      have l1 := leaf_on { p with mark := 0 } Q 15 (i + ((quot M).size : Int)) (hcolm _ _ rfl rfl (by omega) (by omega))
      have l2 := leaf_same { p with mark := 0 } 15 (i + ((quot M).size : Int))
      exact ⟨l1, l2.2.2.1, l2.2.2.2.2.2.1⟩
  rw [if_neg c3] at hg
  rw [if_neg c3, if_neg c3]
  by_cases c4 : letterB p.c = true
  · rw [if_pos c4, if_pos c4]
    unfold Rd.name
    have hne := h.nameEnd (P.size + 1) (Q.size + 1) p.pos h0 hp (by omega) (by omega)
    have hnb : p.pos + 1 ≤ nameEnd (P.size + 1) P p.pos ∧ nameEnd (P.size + 1) P p.pos ≤ n := by
      refine ⟨?_, by have := (nameEnd_bd P (P.size + 1) p.pos).2 (by omega); omega⟩
      simp only [PPy.nameEnd]
      unfold Rd.c at c4
      rw [hs] at c4
      rw [if_pos (by omega), if_pos (by rw [c4]; rfl)]
      exact (nameEnd_bd P P.size (p.pos + 1)).1
    rw [show nameEnd (({ p with s := Q } : Rd).s.size + 1) ({ p with s := Q } : Rd).s ({ p with s := Q } : Rd).pos = nameEnd (P.size + 1) P p.pos from hne, hs]
    have l2 := leaf_same p 13 (nameEnd (P.size + 1) P p.pos)
    exact ⟨leaf_on p Q 13 (PPy.nameEnd (P.size + 1) P p.pos) (hcolm _ _ rfl rfl (by omega) (by omega)), l2.2.2.1.trans hm, l2.2.2.2.2.2.1⟩
  rw [if_neg c4] at hg
  rw [if_neg c4, if_neg c4]
  have hnum : numB ({ p with s := Q } : Rd).rest = numB p.rest := by
    unfold numB
    have a1 := hR.z
    have a2 := hR.le
    rw [hR.same 0 (by omega) (by omega), hR.same 1 (by omega) (by omega), show decide (2 ≤ ({ p with s := Q } : Rd).rest.size) = decide (2 ≤ p.rest.size) from by rw [decide_eq_true (by omega), decide_eq_true (by omega)]]
  rw [hnum]
  by_cases c5 : numB p.rest = true
  · rw [if_pos c5, if_pos c5]
    unfold Rd.number
    have a1 := hR.z
    have a2 := hR.le
    have hsg : signsB ({ p with s := Q } : Rd).rest = signsB p.rest := by
      unfold signsB
      rw [hR.same 1 (by omega) (by omega), show decide (({ p with s := Q } : Rd).rest.size < 2) = decide (p.rest.size < 2) from by rw [decide_eq_false (by omega), decide_eq_false (by omega)]]
    have hne := hR.numEnd (signsB p.rest) (p.s.size + 1) (({ p with s := Q } : Rd).s.size + 1) 1 (by omega) (by omega) (by rw [hs]; omega) (by show _ ≤ ((Q.size + 1 : Nat) : Int); omega)
    have hnb := numEnd_bd p.rest (signsB p.rest) (p.s.size + 1) 1
    have hhi := hnb.2 (by omega)
    rw [hsg, hne]
    have l2 := leaf_same p 14 (p.pos + PPy.numEnd (p.s.size + 1) p.rest (signsB p.rest) 1)
    exact ⟨leaf_on p Q 14 (p.pos + PPy.numEnd (p.s.size + 1) p.rest (signsB p.rest) 1) (hcolm _ _ rfl rfl (by omega) (by omega)), l2.2.2.1.trans hm, l2.2.2.2.2.2.1⟩
  rw [if_neg c5] at hg
  rw [if_neg c5, if_neg c5, hR.opAt]
  by_cases c6 : PPy.opAt opL p.rest < 47
  · rw [if_pos c6] at hg
    rw [if_pos c6, if_pos c6]
    have ho : opOf ({ p with s := Q } : Rd).rest = opOf p.rest := by unfold opOf; rw [hR.opAt]
    have hsz : 1 ≤ (opOf p.rest).size := opL_size _ c6
    have hle2 := opOf_le p.rest c6
    have a1 := hR.z
    rw [ho]
    generalize opOf p.rest = op at hg hsz hle2 ⊢
    unfold Rd.oper at hg ⊢
    by_cases k1 : opKind op = 1
    · rw [if_pos k1, if_pos k1]
      have l2 := leaf_same { p with depth := if p.depth + 1 ≤ 1048576 then p.depth + 1 else 1048576 } 17 (p.pos + (op.size : Int))
      exact ⟨leaf_on { p with depth := if p.depth + 1 ≤ 1048576 then p.depth + 1 else 1048576 } Q 17 (p.pos + (op.size : Int)) (hcolm _ _ rfl rfl (by omega) (by omega)), l2.2.2.1.trans hm, l2.2.2.2.2.2.1⟩
    rw [if_neg k1] at hg
    rw [if_neg k1, if_neg k1]
    by_cases k2 : opKind op = 2
    · rw [if_pos k2] at hg
      rw [if_pos k2, if_pos k2]
      by_cases k3 : p.depth = 0
      · rw [if_pos k3] at hg
        have := leaf_good hg
        unfold good at this; omega
      · rw [if_neg k3, if_neg k3]
        have l2 := leaf_same { p with depth := p.depth - 1 } 17 (p.pos + (op.size : Int))
        exact ⟨leaf_on { p with depth := p.depth - 1 } Q 17 (p.pos + (op.size : Int)) (hcolm _ _ rfl rfl (by omega) (by omega)), l2.2.2.1.trans hm, l2.2.2.2.2.2.1⟩
    · rw [if_neg k2, if_neg k2]
      have l2 := leaf_same p 17 (p.pos + (op.size : Int))
      exact ⟨leaf_on p Q 17 (p.pos + (op.size : Int)) (hcolm _ _ rfl rfl (by omega) (by omega)), l2.2.2.1.trans hm, l2.2.2.2.2.2.1⟩
  · rw [if_neg c6] at hg
    have := leaf_good hg
    unfold good at this; omega

theorem ev_pre : ∀ (n : Nat) (r : Rd), r.Ok → ∃ l, (scanL n r).ev = r.ev ++ l := by
  intro n
  induction n with
  | zero => intro r _; exact ⟨[], by simp [scanL]⟩
  | succ n ih =>
    intro r hr
    simp only [scanL]
    split
    · rename_i hp
      obtain ⟨l, hl⟩ := ih r.step (hr.step hp).1
      rcases step_form hr hp with ⟨_, _, e⟩ | ⟨r2, K, T, g⟩
      · exact ⟨l, by rw [hl, e]⟩
      · exact ⟨[⟨3, K, r2.pos, T⟩] ++ l, by rw [hl, g.eq, (leaf_same r2 K T).2.2.2.2.2.2, g.ev, List.append_assoc]⟩
    · exact ⟨[], by simp⟩
/-- Both readers, up to the blank's end. -/
theorem lock {P Q : ByteArray} {n : Nat} (h : Lk P Q n) (hQ : Q.size ≤ 1000000) : ∀ (m : Nat) (p : Rd), p.s = P → p.Ok → p.mark = 0 → (n : Int) - p.pos ≤ m → (∀ e ∈ (scanL m p).ev, good e.f1) →
    ∀ (M M2 : Nat), (Q.size : Int) - p.pos ≤ M → (Q.size : Int) - n ≤ M2 →
    scanL M { p with s := Q } = scanL M2 { scanL m p with s := Q } ∧ (scanL m p).mark = 0 ∧ (scanL m p).join = p.join := by
  intro m
  have hz := h.z
  have hle := h.le
  have okQ : ∀ p : Rd, p.Ok → ({ p with s := Q } : Rd).Ok := fun p hp => ⟨hp.p0, hp.el, hQ, hp.m, hp.d⟩
  induction m with
  | zero =>
    intro p hs hok hm hn hg M M2 h1 h2
    simp only [scanL]
    exact ⟨scanL_fuel _ _ _ (okQ p hok) h1 (show (Q.size : Int) - p.pos ≤ M2 by omega), hm, trivial⟩
  | succ m ih =>
    intro p hs hok hm hn hg M M2 h1 h2
    by_cases hc : p.pos < (p.s.size : Int)
    · have hcn : p.pos < n := by rw [hs] at hc; omega
      obtain ⟨M, rfl⟩ : ∃ k, M = k + 1 := ⟨M - 1, by omega⟩
      have hst := hok.step hc
      have e0 : scanL (m + 1) p = scanL m p.step := by simp only [scanL]; rw [if_pos hc]
      rw [e0] at hg ⊢
      obtain ⟨l, hl⟩ := ev_pre m p.step hst.1
      have hg1 : ∀ e ∈ p.step.ev, good e.f1 := fun e he => hg e (by rw [hl]; exact List.mem_append_left _ he)
      obtain ⟨g1, g2, g3⟩ := lock_step h p hs hok hcn hm hg1
      have hgo := ih p.step (hst.2.2.trans hs) hst.1 g2 (by omega) hg M M2 (by omega) h2
      refine ⟨?_, hgo.2.1, hgo.2.2.trans g3⟩
      rw [← hgo.1, ← g1]
      simp only [scanL]
      rw [if_pos (show p.pos < (Q.size : Int) by omega)]
    · rw [scanL_end _ p hc]
      exact ⟨scanL_fuel _ _ _ (okQ p hok) h1 (show (Q.size : Int) - p.pos ≤ M2 by rw [hs] at hc; omega), hm, rfl⟩

theorem size_app (a b : ByteArray) : (a ++ b).size = a.size + b.size := ByteArray.size_append
theorem bt_app_l (a b : ByteArray) (i : Int) (h0 : 0 ≤ i) (h : i < (a.size : Int)) : bt (a ++ b) i = bt a i := by
  have hz := size_app a b
  obtain ⟨k, rfl⟩ : ∃ k : Nat, i = k := ⟨i.toNat, by omega⟩
  rw [bt_natI _ k (by omega), bt_natI _ k (by omega)]
  rw [ByteArray.getElem_append_left (by omega)]
theorem bt_app_r (a b : ByteArray) (i : Nat) (h : i < b.size) : bt (a ++ b) ((a.size : Int) + i) = bt b i := by
  have hz := size_app a b
  rw [show (a.size : Int) + (i : Int) = ((a.size + i : Nat) : Int) by omega, bt_natI _ _ (by omega), bt_natI _ i h]
  rw [ByteArray.getElem_append_right (by omega)]
  congr 3
  omega
theorem ext_app_r (a b : ByteArray) : (a ++ b).extract a.size (a ++ b).size = b := by
  rw [size_app]
  exact ByteArray.extract_append_eq_right rfl rfl
/-- What stands behind a blank is read by itself. -/
theorem split_main (a b : ByteArray) (depth : Int) (ha : a.size ≤ 2000) (hb : b.size ≤ 2000) (hnl : ∀ i : Nat, i < a.size → bt a (i : Int) ≠ 10) (x y z : Rd)
    (hx : scanM (a ++ ⟨#[32]⟩) 0 0 depth = x) (hy : scanM b 0 0 x.depth = y) (hz : scanM ((a ++ ⟨#[32]⟩) ++ b) 0 0 depth = z) (hg : ∀ e ∈ x.ev, good e.f1) :
    z.ev = x.ev ++ y.ev.map (shE ((a.size : Int) + 1)) ∧ z.mark = y.mark ∧ z.depth = y.depth ∧ z.join = y.join ∧ z.any = (x.any || y.any) ∧ z.colon = if y.any = true then y.colon else x.colon := by
  obtain ⟨P, hP⟩ : ∃ P, a ++ ⟨#[32]⟩ = P := ⟨_, rfl⟩
  have hPz : P.size = a.size + 1 := by rw [← hP, size_app]; rfl
  have hPa : ∀ i : Int, 0 ≤ i → i < (a.size : Int) → bt P i = bt a i := fun i h0 h1 => by rw [← hP]; exact bt_app_l _ _ _ h0 h1
  have hPl : bt P (a.size : Int) = 32 := by
    have := bt_app_r a ⟨#[32]⟩ 0 (by decide)
    rw [hP, show ((0 : Nat) : Int) = 0 from rfl, Int.add_zero] at this
    exact this.trans (by decide)
  have hP10 : ∀ i : Nat, i < P.size → bt P (i : Int) ≠ 10 := by
    intro i hi
    by_cases h : i < a.size
    · rw [hPa _ (by omega) (by omega)]; exact hnl i h
    · rw [show i = a.size by omega, hPl]; decide
  rw [hP] at hx hz
  have hPend : endOf P = (P.size : Int) := by
    unfold endOf
    rcases ix_cases P with ⟨h1, _⟩ | ⟨o, ho, h4, h5, _⟩
    · rw [h1, if_neg (by omega)]
    · exact absurd h5 (hP10 o h4)
  have hPline : lineOf P = P := by rw [lineOf_end, hPend, Int.toNat_natCast]; exact ByteArray.extract_zero_size
  have hWz : (P ++ b).size = P.size + b.size := size_app _ _
  have hWend : (P.size : Int) ≤ endOf (P ++ b) := by
    unfold endOf
    rcases ix_cases (P ++ b) with ⟨h1, _⟩ | ⟨o, ho, h4, h5, _⟩
    · rw [h1, if_neg (by omega)]; omega
    · have ho2 : P.size ≤ o := by
        apply Decidable.byContradiction
        intro hc
        rw [bt_app_l P b _ (by omega) (by omega)] at h5
        exact hP10 o (by omega) h5
      rw [ho, if_pos (by omega)]
      by_cases hc : 1 ≤ (o : Int) ∧ bt (P ++ b) ((o : Int) - 1) = 13
      · rw [if_pos hc]
        by_cases h2 : o = P.size
        · have := hc.2
          rw [h2, bt_app_l P b _ (by omega) (by omega), show (P.size : Int) - 1 = (a.size : Int) by omega, hPl] at this
          exact absurd this (by decide)
        · omega
      · rw [if_neg hc]; omega
  have hQt := lineOf_tail (P ++ b) P.size hWend
  rw [ext_app_r] at hQt
  have hQlen := lineOf_len (P ++ b)
  have hQle := lineOf_size (P ++ b)
  obtain ⟨Q, hQ⟩ : ∃ Q, lineOf (P ++ b) = Q := ⟨_, rfl⟩
  rw [hQ] at hQt hQlen hQle
  have hLk : Lk P Q P.size := by
    refine ⟨rfl, by omega, by omega, by rw [show (P.size : Int) - 1 = (a.size : Int) by omega]; exact hPl, ?_⟩
    intro i h0 h1
    have e := lineOf_end (P ++ b)
    rw [hQ] at e
    have hEz : ((P ++ b).extract 0 (endOf (P ++ b)).toNat).size = Q.size := by rw [e]
    rw [ByteArray.size_extract] at hEz
    obtain ⟨k, rfl⟩ : ∃ k : Nat, i = k := ⟨i.toNat, by omega⟩
    rw [← bt_app_l P b k h0 h1, e]
    have hk : k < ((P ++ b).extract 0 (endOf (P ++ b)).toNat).size := by rw [ByteArray.size_extract]; omega
    rw [bt_natI _ k hk, bt_natI _ k (by omega), ByteArray.getElem_extract]
    simp
  have okx : (Rd.init P 0 0 depth).Ok := Rd.Ok.init (by omega) (by omega)
  have okz : (Rd.init (P ++ b) 0 0 depth).Ok := Rd.Ok.init (by omega) (by omega)
  have ezi : Rd.init (P ++ b) 0 0 depth = { Rd.init P 0 0 depth with s := Q } := by unfold Rd.init; rw [hQ]
  unfold scanM at hx hz hy
  rw [hPline] at hx
  rw [hQ, ezi] at hz
  have hm0 : (Rd.init P 0 0 depth).mark = 0 := rfl
  have hp0 : (Rd.init P 0 0 depth).pos = 0 := rfl
  have hlk := lock hLk (by omega) (P.size + 1) (Rd.init P 0 0 depth) hPline okx hm0 (by rw [hp0]; omega) (by rw [hx]; exact hg) (Q.size + 1) (Q.size + 1) (by rw [hp0]; omega) (by omega)
  rw [hx] at hlk
  have hxo := scanL_ok (P.size + 1) _ okx
  rw [hx] at hxo
  have hxe := scanL_at_end (P.size + 1) _ okx (by rw [hp0]; show ((lineOf P).size : Int) - 0 ≤ _; rw [hPline]; omega)
  have hxc := (Cov.scan (P.size + 1) okx ⟨⟨by rw [hp0]; omega, fun i h1 h2 => by rw [hp0] at h2; omega⟩, by rw [hp0]; omega, fun h => absurd h (by simp [Rd.init])⟩).hi
  rw [hx] at hxe hxc
  have hxs : x.s = P := hxo.2.trans hPline
  have hxp : x.pos = (P.size : Int) := by
    have : (Rd.init P 0 0 depth).s = P := hPline
    rw [this] at hxe
    rw [hxs] at hxc
    omega
  have hQs2 : (lineOf b).size = Q.size - P.size := by rw [hQt, size_tail _ _ (by omega)]
  have hbl := lineOf_size b
  have oky : (Rd.init b 0 0 x.depth).Ok := Rd.Ok.init (by omega) (by omega)
  have hd := hxo.1.d
  have hsh : Sh P.size x.ev x.any x.colon { x with s := Q } (Rd.init b 0 0 x.depth) := by
    refine ⟨by show P.size ≤ Q.size; omega, hQt, by show (0 : Int) ≤ if (0 : Int) < 0 then 0 else 0; decide, ?_, ?_, ?_, ?_, ?_, ?_, ?_⟩
    · show x.pos = (if (0 : Int) < 0 then 0 else 0) + (P.size : Int); rw [if_neg (by decide), hxp]; omega
    · show x.ev = x.ev ++ List.map _ []; simp
    · show x.mark = (if (0 : Int) ≤ 4 then 0 else 0); rw [hlk.2.1]; rfl
    · show x.depth = (if x.depth < 0 then 0 else if x.depth ≤ 1048576 then x.depth else 1048576); rw [if_neg (by omega), if_pos (by omega)]
    · show x.join = false; exact hlk.2.2
    · show x.any = (x.any || false); simp
    · show x.colon = if false = true then _ else x.colon; rw [if_neg (by decide)]
  have hz2 : scanL (Q.size + 1) { x with s := Q } = z := by rw [← hlk.1, hz]
  have hy2 : scanL (Q.size + 1) (Rd.init b 0 0 x.depth) = y := by
    rw [← hy]
    exact scanL_fuel _ _ _ oky (by show ((lineOf b).size : Int) - 0 ≤ _; omega) (by show ((lineOf b).size : Int) - 0 ≤ _; omega)
  have hfin := hsh.scan (Q.size + 1)
  rw [hz2, hy2] at hfin
  have ek : ((P.size : Nat) : Int) = (a.size : Int) + 1 := by omega
  refine ⟨by rw [hfin.ev, ek], hfin.mark, hfin.depth, hfin.join, hfin.any, hfin.colon⟩

end Go.Proofs.Ytdknppomjcpihaa.PPy
