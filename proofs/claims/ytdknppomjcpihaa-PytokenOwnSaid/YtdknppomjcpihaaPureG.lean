/- What one step of the reader does: a blank is passed over, or one leaf is told; nothing of a line is lost. No Go in it. -/
import Derived.Test.YtdknppomjcpihaaPureF
namespace Go.Proofs.Ytdknppomjcpihaa.PPy
open Go.RowKit Go.Proofs.YtdknppomjcpihaaW.PrintWords Go.Proofs.YtdknppomjcpihaaW.PrintLast Go.Proofs.YtdknppomjcpihaaW.PrintMore

def kindOk (k : Int) : Prop := k = 2 ∨ (13 ≤ k ∧ k ≤ 19)
/-- One leaf from where r stands, of kind K, up to T; r2: r with what is open and how deep it is. -/
structure StepLeaf (r r2 : Rd) (K T : Int) : Prop where
  eq : r.step = r2.leaf K T
  s : r2.s = r.s
  pos : r2.pos = r.pos
  ev : r2.ev = r.ev
  any : r2.any = r.any
  colon : r2.colon = r.colon
  lo : r.pos < T
  hi : T ≤ (r.s.size : Int)
  kind : kindOk K
  dep : K ≠ 17 ∧ K ≠ 2 → r2.depth = r.depth

theorem tx_in (s q : ByteArray) (hq : 1 ≤ q.size) : ∀ (n : Nat) (f : Int) (tk : Bool) (i : Int) (b : Bool), 0 ≤ f → tx n s q f tk = (some i, b) → i + (q.size : Int) ≤ (s.size : Int) := by
  intro n
  induction n with
  | zero => intro f tk i b _ h; simp [tx] at h
  | succ n ih =>
    intro f tk i b h0 h
    simp only [tx] at h
    split at h
    · split at h
      · exact ih _ _ _ _ (by omega) h
      · split at h
        · rename_i hh
          have := hp_le hh
          rw [ByteArray.size_extract] at this
          simp at h
          omega
        · exact ih _ _ _ _ (by omega) h
    · simp at h
theorem text_leaf {r : Rd} (h : r.Ok) (hp : r.pos < (r.s.size : Int)) (f m W : Int) (hm : 1 ≤ m ∧ m ≤ 4) (hf : r.pos ≤ f) (hW : kindOk W ∧ W ≠ 17 ∧ W ≠ 2) :
    ∃ (m2 K T : Int), r.text f m W = ({ r with mark := m2 } : Rd).leaf K T ∧ r.pos < T ∧ T ≤ (r.s.size : Int) ∧ kindOk K := by
  have hq := quot_size hm
  have h0 := h.p0
  unfold Rd.text
  split
  · rename_i i _ e
    have h1 := tx_bd _ _ _ _ _ _ _ e
    have h2 := tx_in _ _ hq.1 _ _ _ _ _ (by omega) e
    exact ⟨0, W, _, rfl, by omega, h2, hW.1⟩
  · split
    · exact ⟨0, 2, _, rfl, hp, Int.le_refl _, .inl rfl⟩
    · exact ⟨m, 16, _, rfl, hp, Int.le_refl _, .inr (by omega)⟩
theorem rest_size {r : Rd} (h : r.Ok) (hp : r.pos < (r.s.size : Int)) : (r.rest.size : Int) = (r.s.size : Int) - r.pos := by
  have h0 := h.p0
  unfold Rd.rest
  rw [ByteArray.size_extract]; omega
theorem opAt_hp : ∀ (l : List ByteArray) (q : ByteArray), opAt l q < l.length → hp q (l.getD (opAt l q) ByteArray.empty) = true := by
  intro l
  induction l with
  | nil => intro q h; simp [opAt] at h
  | cons o l ih =>
    intro q h
    simp only [opAt] at h ⊢
    by_cases c : hp q o = true
    · rw [if_pos c]; exact c
    · rw [if_neg c] at h ⊢
      exact ih q (by simpa using h)
theorem opOf_le (q : ByteArray) (h : opAt opL q < 47) : (opOf q).size ≤ q.size := hp_le (opAt_hp opL q h)

/-- One step, in its form. -/
theorem step_form {r : Rd} (h : r.Ok) (hp : r.pos < (r.s.size : Int)) :
    (r.mark = 0 ∧ blankB r.c = true ∧ r.step = { r with pos := r.pos + 1 }) ∨ ∃ r2 K T, StepLeaf r r2 K T := by
  have h0 := h.p0
  have hr := rest_size h hp
  unfold Rd.step
  split
  · rename_i hm
    obtain ⟨m2, K, T, e, h1, h2, h3⟩ := text_leaf h hp r.pos r.mark 16 (by have := h.m; omega) (Int.le_refl _) ⟨.inr (by omega), by omega, by omega⟩
    exact .inr ⟨{ r with mark := m2 }, K, T, by unfold Rd.step; rw [if_pos hm, e], rfl, rfl, rfl, rfl, rfl, h1, h2, h3, fun _ => rfl⟩
  rename_i hm
  split
  · rename_i hb
    exact .inl ⟨by omega, hb, rfl⟩
  rename_i hb
  split
  · rename_i hc
    exact .inr ⟨r, 18, _, by unfold Rd.step; rw [if_neg hm, if_neg hb, if_pos hc], rfl, rfl, rfl, rfl, rfl, hp, Int.le_refl _, .inr (by omega), fun _ => rfl⟩
  rename_i hc
  split
  · rename_i hd
    have e : r.step = r.joined := by unfold Rd.step; rw [if_neg hm, if_neg hb, if_neg hc, if_pos hd]
    unfold Rd.joined at e
    by_cases hj : r.pos + 1 = (r.s.size : Int)
    · rw [if_pos hj] at e
      exact .inr ⟨_, 19, _, e, rfl, rfl, rfl, rfl, rfl, hp, Int.le_refl _, .inr (by omega), fun _ => rfl⟩
    · rw [if_neg hj] at e
      exact .inr ⟨r, 2, _, e, rfl, rfl, rfl, rfl, rfl, by omega, by omega, .inl rfl, fun _ => rfl⟩
  rename_i hd
  split
  · rename_i hg
    have e : r.step = r.begun := by unfold Rd.step; rw [if_neg hm, if_neg hb, if_neg hc, if_neg hd, if_pos hg]
    have hb := begN_bd r.rest 3 0
    obtain ⟨m2, K, T, e2, h1, h2, h3⟩ := text_leaf h hp (r.pos + begN 3 r.rest 0 + ((quot (begM r.rest)).size : Int)) (begM r.rest) 15 (by have := begM_range r.rest; omega) (by omega) ⟨.inr (by omega), by omega, by omega⟩
    exact .inr ⟨{ r with mark := m2 }, K, T, by rw [e]; exact e2, rfl, rfl, rfl, rfl, rfl, h1, h2, h3, fun _ => rfl⟩
  rename_i hg
  split
  · rename_i hl
    have e : r.step = r.name := by unfold Rd.step; rw [if_neg hm, if_neg hb, if_neg hc, if_neg hd, if_neg hg, if_pos hl]
    have hn : r.pos + 1 ≤ nameEnd (r.s.size + 1) r.s r.pos := by
      simp only [nameEnd]
      rw [if_pos hp, if_pos (by simp only [Rd.c] at hl; rw [hl]; rfl)]
      exact (nameEnd_bd r.s r.s.size (r.pos + 1)).1
    exact .inr ⟨r, 13, _, e, rfl, rfl, rfl, rfl, rfl, by omega, (nameEnd_bd r.s (r.s.size + 1) r.pos).2 (by omega), .inr (by omega), fun _ => rfl⟩
  rename_i hl
  split
  · rename_i hn
    have e : r.step = r.number := by unfold Rd.step; rw [if_neg hm, if_neg hb, if_neg hc, if_neg hd, if_neg hg, if_neg hl, if_pos hn]
    have hb := numEnd_bd r.rest (signsB r.rest) (r.s.size + 1) 1
    exact .inr ⟨r, 14, _, e, rfl, rfl, rfl, rfl, rfl, by omega, by have := hb.2 (by omega); omega, .inr (by omega), fun _ => rfl⟩
  rename_i hn
  split
  · rename_i ho
    have e : r.step = r.oper (opOf r.rest) := by unfold Rd.step; rw [if_neg hm, if_neg hb, if_neg hc, if_neg hd, if_neg hg, if_neg hl, if_neg hn, if_pos ho]
    have hs : 1 ≤ (opOf r.rest).size := opL_size _ ho
    have hs3 := opOf_le r.rest ho
    unfold Rd.oper at e
    split at e
    · exact .inr ⟨_, 17, _, e, rfl, rfl, rfl, rfl, rfl, by omega, by omega, .inr (by omega), fun h => absurd rfl h.1⟩
    split at e
    · split at e
      · exact .inr ⟨r, 2, _, e, rfl, rfl, rfl, rfl, rfl, by omega, by omega, .inl rfl, fun _ => rfl⟩
      · exact .inr ⟨_, 17, _, e, rfl, rfl, rfl, rfl, rfl, by omega, by omega, .inr (by omega), fun h => absurd rfl h.1⟩
    · exact .inr ⟨r, 17, _, e, rfl, rfl, rfl, rfl, rfl, by omega, by omega, .inr (by omega), fun _ => rfl⟩
  rename_i ho
  exact .inr ⟨r, 2, _, by unfold Rd.step; rw [if_neg hm, if_neg hb, if_neg hc, if_neg hd, if_neg hg, if_neg hl, if_neg hn, if_neg ho], rfl, rfl, rfl, rfl, rfl, by omega, by omega, .inl rfl, fun _ => rfl⟩

/-- From a on: leaves in order, blanks between them, up to b. -/
def CovF (s : ByteArray) : Int → List S33 → Int → Prop
  | a, [], b => a ≤ b ∧ ∀ i, a ≤ i → i < b → blankB (bt s i) = true
  | a, e :: l, b => e.f0 = 3 ∧ a ≤ e.f2 ∧ e.f2 < e.f3 ∧ e.f3 ≤ (s.size : Int) ∧ kindOk e.f1 ∧ (∀ i, a ≤ i → i < e.f2 → blankB (bt s i) = true) ∧ CovF s e.f3 l b
theorem CovF.blank {s : ByteArray} {b : Int} (hb : blankB (bt s b) = true) : ∀ {l : List S33} {a : Int}, CovF s a l b → CovF s a l (b + 1) := by
  intro l
  induction l with
  | nil =>
    rintro a ⟨h1, h2⟩
    refine ⟨by omega, fun i hi hi2 => ?_⟩
    by_cases c : i = b
    · rw [c]; exact hb
    · exact h2 i hi (by omega)
  | cons e l ih => rintro a ⟨h1, h2, h3, h4, h5, h6, h7⟩; exact ⟨h1, h2, h3, h4, h5, h6, ih h7⟩
theorem CovF.snoc {s : ByteArray} {b K T : Int} (h1 : b < T) (h2 : T ≤ (s.size : Int)) (hk : kindOk K) : ∀ {l : List S33} {a : Int}, CovF s a l b → CovF s a (l ++ [⟨3, K, b, T⟩]) T := by
  intro l
  induction l with
  | nil =>
    rintro a ⟨g1, g2⟩
    exact ⟨rfl, g1, h1, h2, hk, g2, Int.le_refl _, fun i (hi : T ≤ i) (hi2 : i < T) => by omega⟩
  | cons e l ih => rintro a ⟨g1, g2, g3, g4, g5, g6, g7⟩; exact ⟨g1, g2, g3, g4, g5, g6, ih g7⟩
structure Cov (r : Rd) : Prop where
  c : CovF r.s 0 r.ev r.pos
  hi : r.pos ≤ (r.s.size : Int)
  col : r.colon = true → r.any = true ∧ r.depth = 0
theorem Cov.step {r : Rd} (ho : r.Ok) (hp : r.pos < (r.s.size : Int)) (h : Cov r) : Cov r.step := by
  rcases step_form ho hp with ⟨_, hb, e⟩ | ⟨r2, K, T, g⟩
  · rw [e]
    exact ⟨h.c.blank hb, show r.pos + 1 ≤ (r.s.size : Int) by omega, h.col⟩
  · obtain ⟨l1, l2, l3, l4, l5, l6, l7⟩ := leaf_same r2 K T
    rw [g.eq]
    refine ⟨?_, ?_, ?_⟩
    · rw [l1, l2, l7, g.s, g.ev, g.pos]
      exact h.c.snoc g.lo g.hi g.kind
    · rw [l1, l2, g.s]; exact g.hi
    · rw [l4]
      unfold Rd.leaf
      split
      · rename_i hk
        show r2.colon = true → r2.any = true ∧ r2.depth = 0
        rw [g.any, g.colon, g.dep (by omega)]
        exact h.col
      · show (decide (K = 17) && (isColon r2.s r2.pos T && decide (r2.depth = 0))) = true → true = true ∧ r2.depth = 0
        intro hc
        simp at hc
        exact ⟨rfl, hc.2.2⟩
theorem Cov.scan : ∀ (n : Nat) {r : Rd}, r.Ok → Cov r → Cov (scanL n r) := by
  intro n
  induction n with
  | zero => intro r _ h; exact h
  | succ n ih =>
    intro r ho h
    simp only [scanL]
    split
    · rename_i hp
      exact ih (ho.step hp).1 (h.step ho hp)
    · exact h
theorem covers (line : ByteArray) (mark depth : Int) (hz : line.size ≤ 1000000) (hm : 0 ≤ mark) (r : Rd) (hr : scanM line 0 mark depth = r) :
    CovF (lineOf line) 0 r.ev (endOf line) ∧ (0 ≤ r.mark ∧ r.mark ≤ 4) ∧ (0 ≤ r.depth ∧ r.depth ≤ 1048576) ∧ (r.colon = true → r.any = true ∧ r.depth = 0) := by
  have ho : (Rd.init line 0 mark depth).Ok := Rd.Ok.init hz hm
  have hs : (Rd.init line 0 mark depth).s = lineOf line := rfl
  have hp : (Rd.init line 0 mark depth).pos = 0 := rfl
  have h0 : Cov (Rd.init line 0 mark depth) := ⟨⟨by rw [hp]; omega, fun i h1 h2 => by rw [hp] at h2; omega⟩, by rw [hp]; omega, fun h => by exact absurd h (by simp [Rd.init])⟩
  have h1 := h0.scan ((lineOf line).size + 1) ho
  have h2 := scanL_ok ((lineOf line).size + 1) _ ho
  have h3 := scanL_at_end ((lineOf line).size + 1) _ ho (by rw [hs, hp]; omega)
  unfold scanM at hr
  rw [hr] at h1 h2 h3
  have h4 := h1.hi
  have h5 := lineOf_len line
  have hc := h1.c
  rw [h2.2, hs] at hc h4
  rw [hs] at h3
  rw [show r.pos = endOf line by omega] at hc
  exact ⟨hc, h2.1.m, h2.1.d, h1.col⟩

end Go.Proofs.Ytdknppomjcpihaa.PPy
