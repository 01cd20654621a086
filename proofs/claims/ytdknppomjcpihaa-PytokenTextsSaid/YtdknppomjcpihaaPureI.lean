/- What stands behind a blank is read by itself. No Go in it. -/
import Derived.Test.YtdknppomjcpihaaPureG
namespace Go.Proofs.Ytdknppomjcpihaa.PPy
open Go.RowKit Go.Proofs.YtdknppomjcpihaaW.PrintWords Go.Proofs.YtdknppomjcpihaaW.PrintLast Go.Proofs.YtdknppomjcpihaaW.PrintMore

theorem bt_natI (s : ByteArray) (i : Nat) (h : i < s.size) : bt s (i : Int) = ((s[i]'h).toNat : Int) := by
  unfold bt
  rw [dif_pos (show (i : Int).toNat < s.size by simpa using h)]
  simp
theorem hp_iff (s q : ByteArray) : hp s q = true ↔ q.size ≤ s.size ∧ ∀ j : Nat, j < q.size → bt s (j : Int) = bt q (j : Int) := by
  unfold hp
  rw [Bool.and_eq_true, decide_eq_true_iff, beq_iff_eq]
  constructor
  · rintro ⟨h1, h2⟩
    refine ⟨h1, fun j hj => ?_⟩
    have e := bytes_ext h2
    have hz : (s.extract 0 q.size).size = q.size := by rw [e]
    rw [bt_natI s j (by omega), bt_natI q j hj]
    have : (s.extract 0 q.size)[j]'(by omega) = q[j]'hj := by congr 1
    rw [ByteArray.getElem_extract] at this
    simp only [Nat.zero_add] at this
    rw [this]
  · rintro ⟨h1, h2⟩
    refine ⟨h1, ?_⟩
    rw [ByteArray.toList_eq, ByteArray.toList_eq]
    have hz : (s.extract 0 q.size).size = q.size := by rw [ByteArray.size_extract]; omega
    apply List.ext_getElem
    · rw [Array.length_toList, Array.length_toList]; exact hz
    · intro j hj1 hj2
      have hj : j < q.size := by rw [Array.length_toList] at hj2; exact hj2
      have := h2 j hj
      rw [bt_natI s j (by omega), bt_natI q j hj] at this
      have e2 : s[j]'(by omega) = q[j]'hj := UInt8.toNat_inj.mp (by omega)
      have e3 : s.data[j]'(by have : s.size = s.data.size := rfl; omega) = q.data[j]'hj := e2
      simpa using e3

/-- P ends in a blank, and Q begins with P. -/
structure Lk (P Q : ByteArray) (n : Nat) : Prop where
  z : P.size = n
  n1 : 1 ≤ n
  le : n ≤ Q.size
  last : bt P ((n : Int) - 1) = 32
  same : ∀ i : Int, 0 ≤ i → i < n → bt Q i = bt P i
theorem Lk.tail {P Q : ByteArray} {n : Nat} (h : Lk P Q n) (k : Nat) (hk : k < n) : Lk (P.extract k P.size) (Q.extract k Q.size) (n - k) := by
  obtain ⟨h1, h2, h3, h4, h5⟩ := h
  refine ⟨by rw [size_tail _ _ (by omega)]; omega, by omega, by rw [size_tail _ _ (by omega)]; omega, ?_, ?_⟩
  · rw [bt_tail _ _ _ (by omega) (by omega), show ((n - k : Nat) : Int) - 1 + k = (n : Int) - 1 by omega]; exact h4
  · intro i h0 hi
    rw [bt_tail _ _ _ (by omega) h0, bt_tail _ _ _ (by omega) h0]
    exact h5 _ (by omega) (by omega)
theorem Lk.hp {P Q : ByteArray} {n : Nat} (h : Lk P Q n) (q : ByteArray) (hq : 1 ≤ q.size) (hb : ∀ j : Nat, j < q.size → bt q (j : Int) ≠ 32) : hp Q q = hp P q := by
  obtain ⟨h1, h2, h3, h4, h5⟩ := h
  rw [Bool.eq_iff_iff, hp_iff, hp_iff]
  constructor
  · rintro ⟨g1, g2⟩
    have hlt : q.size ≤ n - 1 := by
      apply Decidable.byContradiction
      intro hc
      have := g2 (n - 1) (by omega)
      rw [h5 _ (by omega) (by omega), show ((n - 1 : Nat) : Int) = (n : Int) - 1 by omega, h4] at this
      have hb2 := hb (n - 1) (by omega)
      rw [show ((n - 1 : Nat) : Int) = (n : Int) - 1 by omega] at hb2
      exact hb2 this.symm
    exact ⟨by omega, fun j hj => by rw [← h5 _ (by omega) (by omega)]; exact g2 j hj⟩
  · rintro ⟨g1, g2⟩
    exact ⟨by omega, fun j hj => by rw [h5 _ (by omega) (by omega)]; exact g2 j hj⟩
theorem Lk.tx {P Q : ByteArray} {n : Nat} (h : Lk P Q n) (q : ByteArray) (hq : 1 ≤ q.size) (hb : ∀ j : Nat, j < q.size → bt q (j : Int) ≠ 32) :
    ∀ (f g : Nat) (i : Int) (tk tk2 : Bool) (j : Int) (b : Bool), f ≤ g → 0 ≤ i → tx f P q i tk = (some j, b) → ∃ b2, tx g Q q i tk2 = (some j, b2) := by
  intro f
  induction f with
  | zero => intro g i tk tk2 j b _ _ e; simp [PPy.tx] at e
  | succ f ih =>
    intro g i tk tk2 j b hg h0 e
    obtain ⟨g, rfl⟩ : ∃ m, g = m + 1 := ⟨g - 1, by omega⟩
    simp only [PPy.tx] at e ⊢
    by_cases hc : i < (P.size : Int)
    · rw [if_pos hc] at e
      have hz := h.z
      have hle := h.le
      rw [if_pos (by omega), h.same i h0 (by omega)]
      by_cases h9 : bt P i = 92
      · rw [if_pos h9] at e ⊢
        exact ih g (i + 2) _ _ j b (by omega) (by omega) e
      · rw [if_neg h9] at e ⊢
        have := (h.tail i.toNat (by omega)).hp q hq hb
        rw [this]
        split at e
        · rename_i hh
          rw [if_pos hh]
          exact ⟨tk2, by rw [(Prod.mk.inj e).1]⟩
        · rename_i hh
          rw [if_neg hh]
          exact ih g (i + 1) _ _ j b (by omega) (by omega) e
    · rw [if_neg hc] at e; simp at e
theorem Lk.nameEnd {P Q : ByteArray} {n : Nat} (h : Lk P Q n) : ∀ (f g : Nat) (i : Int), 0 ≤ i → i < n → (n : Int) - i ≤ f → (n : Int) - i ≤ g → nameEnd g Q i = nameEnd f P i := by
  intro f
  induction f with
  | zero => intro g i h0 h1 h2 _; omega
  | succ f ih =>
    intro g i h0 h1 h2 h3
    obtain ⟨g, rfl⟩ : ∃ m, g = m + 1 := ⟨g - 1, by omega⟩
    simp only [PPy.nameEnd]
    have hz := h.z
    have hle := h.le
    rw [if_pos (show i < (Q.size : Int) by omega), if_pos (show i < (P.size : Int) by omega), h.same i h0 h1]
    by_cases hi : i = (n : Int) - 1
    · rw [hi, h.last]
      rfl
    · split
      · exact ih g (i + 1) (by omega) (by omega) (by omega) (by omega)
      · rfl
theorem Lk.numEnd {P Q : ByteArray} {n : Nat} (h : Lk P Q n) (sg : Bool) : ∀ (f g : Nat) (i : Int), 1 ≤ i → i < n → (n : Int) - i ≤ f → (n : Int) - i ≤ g → numEnd g Q sg i = numEnd f P sg i := by
  intro f
  induction f with
  | zero => intro g i h0 h1 h2 _; omega
  | succ f ih =>
    intro g i h0 h1 h2 h3
    obtain ⟨g, rfl⟩ : ∃ m, g = m + 1 := ⟨g - 1, by omega⟩
    simp only [PPy.numEnd]
    have hz := h.z
    have hle := h.le
    rw [if_pos (show i < (Q.size : Int) by omega), if_pos (show i < (P.size : Int) by omega), h.same i (by omega) h1, h.same (i - 1) (by omega) (by omega)]
    by_cases hi : i = (n : Int) - 1
    · rw [hi, h.last]
      have e : ∀ x : Int, numStop sg x 32 = true := by intro x; cases sg <;> rfl
      rw [if_pos (e _), if_pos (e _)]
    · split
      · rfl
      · exact ih g (i + 1) (by omega) (by omega) (by omega) (by omega)
theorem Lk.begN {P Q : ByteArray} {n : Nat} (h : Lk P Q n) : ∀ (f : Nat) (i : Int), 0 ≤ i → i < n → begN f Q i = begN f P i ∧ begN f P i < n := by
  intro f
  induction f with
  | zero => intro i _ hi; exact ⟨rfl, hi⟩
  | succ f ih =>
    intro i h0 h1
    simp only [PPy.begN]
    have hz := h.z
    have hle := h.le
    rw [h.same i h0 h1]
    by_cases hc : i < 2 ∧ preB (smallB (bt P i)) = true
    · have hi : i ≠ (n : Int) - 1 := by
        intro e
        rw [e, h.last] at hc
        exact absurd hc.2 (by decide)
      rw [if_pos ⟨hc.1, by omega, hc.2⟩, if_pos ⟨hc.1, by omega, hc.2⟩]
      exact ih (i + 1) (by omega) (by omega)
    · rw [if_neg (fun e => hc ⟨e.1, e.2.2⟩), if_neg (fun e => hc ⟨e.1, e.2.2⟩)]
      exact ⟨rfl, h1⟩
theorem quot_bytes : ∀ (m : Nat), m < 5 → 1 ≤ m → ∀ j : Nat, j < (quot (m : Int)).size → bt (quot (m : Int)) (j : Int) ≠ 32 := by decide +kernel
theorem quot_bytes' (m : Int) (h : 1 ≤ m ∧ m ≤ 4) : ∀ j : Nat, j < (quot m).size → bt (quot m) (j : Int) ≠ 32 := by
  have := quot_bytes m.toNat (by omega) (by omega)
  rwa [Int.toNat_of_nonneg (by omega)] at this
theorem Lk.markOf {P Q : ByteArray} {n : Nat} (h : Lk P Q n) : markOf Q = markOf P := by
  unfold PPy.markOf
  have e := fun (m : Int) (hm : 1 ≤ m ∧ m ≤ 4) => h.hp (quot m) (quot_size hm).1 (quot_bytes' m hm)
  rw [e 1 (by omega), e 2 (by omega), e 3 (by omega), e 4 (by omega)]
theorem Lk.begM {P Q : ByteArray} {n : Nat} (h : Lk P Q n) : begM Q = begM P := by
  have h0 := h.begN 3 0 (Int.le_refl _) (by have := h.n1; omega)
  have hb := begN_bd P 3 0
  unfold PPy.begM
  rw [h0.1]
  have hm := (h.tail (PPy.begN 3 P 0).toNat (by omega)).markOf
  rw [hm]
  by_cases hc : PPy.begN 3 P 0 = 2
  · rw [h.same 0 (by omega) (by omega), h.same 1 (by omega) (by omega)]
  · rw [if_neg (fun e => hc e.1), if_neg (fun e => hc e.1)]
theorem opL_bytes : ∀ k : Nat, k < 47 → 1 ≤ (opL.getD k ByteArray.empty).size ∧ ∀ j : Nat, j < (opL.getD k ByteArray.empty).size → bt (opL.getD k ByteArray.empty) (j : Int) ≠ 32 := by decide +kernel
theorem opAt_congr (P Q : ByteArray) : ∀ (l : List ByteArray), (∀ o ∈ l, hp Q o = hp P o) → opAt l Q = opAt l P := by
  intro l
  induction l with
  | nil => intro _; rfl
  | cons o l ih =>
    intro h
    simp only [opAt]
    rw [h o (List.mem_cons_self), ih (fun x hx => h x (List.mem_cons_of_mem _ hx))]
theorem Lk.opAt {P Q : ByteArray} {n : Nat} (h : Lk P Q n) : opAt opL Q = opAt opL P := by
  apply opAt_congr
  intro o ho
  obtain ⟨k, hk, e⟩ := List.getElem_of_mem ho
  have hb := opL_bytes k hk
  have e2 : opL.getD k ByteArray.empty = o := by rw [List.getD_eq_getElem?_getD, List.getElem?_eq_getElem hk]; exact e
  rw [e2] at hb
  exact h.hp o hb.1 hb.2

def good (k : Int) : Prop := k = 13 ∨ k = 14 ∨ k = 15 ∨ k = 17
theorem leaf_good {r : Rd} {K T : Int} (h : ∀ e ∈ (r.leaf K T).ev, good e.f1) : good K := by
  have := (leaf_same r K T).2.2.2.2.2.2
  rw [this] at h
  exact h ⟨3, K, r.pos, T⟩ (by simp)
theorem leaf_on (r : Rd) (Q : ByteArray) (K T : Int) (hc : isColon Q r.pos T = isColon r.s r.pos T) : ({ r with s := Q } : Rd).leaf K T = { r.leaf K T with s := Q } := by
  unfold Rd.leaf
  split
  · rfl
  · show Rd.mk Q _ _ _ _ _ _ _ = Rd.mk Q _ _ _ _ _ _ _
    rw [hc]
theorem colon_on {P Q : ByteArray} {n : Nat} (h : Lk P Q n) (a t : Int) (h0 : 0 ≤ a) (ht : t ≤ n) (hat : a < t) : isColon Q a t = isColon P a t := by
  have hz := h.z
  have hle := h.le
  unfold isColon
  congr 1
  rw [ByteArray.toList_eq, ByteArray.toList_eq]
  apply List.ext_getElem
  · rw [Array.length_toList, Array.length_toList]
    show (Q.extract a.toNat t.toNat).size = (P.extract a.toNat t.toNat).size
    rw [ByteArray.size_extract, ByteArray.size_extract]; omega
  · intro j hj1 hj2
    have hj : j < (P.extract a.toNat t.toNat).size := by rw [Array.length_toList] at hj2; exact hj2
    have hj' := hj
    rw [ByteArray.size_extract] at hj'
    have hq : j < (Q.extract a.toNat t.toNat).size := by rw [ByteArray.size_extract]; omega
    have e := h.same (a + j) (by omega) (by omega)
    rw [show a + (j : Int) = ((a.toNat + j : Nat) : Int) by omega, bt_natI Q _ (by omega), bt_natI P _ (by omega)] at e
    have e2 : Q[a.toNat + j]'(by omega) = P[a.toNat + j]'(by omega) := UInt8.toNat_inj.mp (by omega)
    have e3 : Q.data[a.toNat + j]'(by have : Q.size = Q.data.size := rfl; omega) = P.data[a.toNat + j]'(by have : P.size = P.data.size := rfl; omega) := e2
    simpa using e3

/-- One step ahead of the blank: the same on both, if it tells a good leaf. -/
theorem lock_step {P Q : ByteArray} {n : Nat} (h : Lk P Q n) (p : Rd) (hs : p.s = P) (hok : p.Ok) (hp : p.pos < n) (hm : p.mark = 0) (hg : ∀ e ∈ p.step.ev, good e.f1) :
    ({ p with s := Q } : Rd).step = { p.step with s := Q } ∧ p.step.mark = 0 ∧ p.step.join = p.join := by
  have h0 := hok.p0
  have hz := h.z
  have hle := h.le
  have hps : p.pos < (p.s.size : Int) := by rw [hs]; omega
  have hc : ({ p with s := Q } : Rd).c = p.c := by unfold Rd.c; rw [hs]; exact h.same _ h0 hp
  have hR := h.tail p.pos.toNat (by omega)
  have e1 : p.rest = P.extract p.pos.toNat P.size := by unfold Rd.rest; rw [hs]
  have e2 : ({ p with s := Q } : Rd).rest = Q.extract p.pos.toNat Q.size := rfl
  have hcR : p.c = bt (P.extract p.pos.toNat P.size) 0 := by
    unfold Rd.c
    rw [hs, bt_tail _ _ _ (by omega) (Int.le_refl _), show (0 : Int) + (p.pos.toNat : Int) = p.pos by omega]
  rw [← e1, ← e2] at hR
  rw [← e1] at hcR
  have hcol : ∀ t : Int, p.pos < t → t ≤ n → isColon Q p.pos t = isColon p.s p.pos t := fun t h1 h2 => by rw [hs]; exact colon_on h p.pos t h0 h2 h1
  have hcolm : ∀ (p2 : Rd) (t : Int), p2.s = p.s → p2.pos = p.pos → p.pos < t → t ≤ n → isColon Q p2.pos t = isColon p2.s p2.pos t := fun p2 t a b c d => by rw [a, b]; exact hcol t c d
  unfold Rd.step at hg ⊢
  have hm2 : ({ p with s := Q } : Rd).mark = 0 := hm
  rw [if_neg (by omega)] at hg
  rw [if_neg (show ¬ ({ p with s := Q } : Rd).mark ≠ 0 by omega), if_neg (show ¬ p.mark ≠ 0 by omega), hc]
  by_cases hb : blankB p.c = true
  · rw [if_pos hb, if_pos hb]
    exact ⟨rfl, hm, rfl⟩
  rw [if_neg hb] at hg
  rw [if_neg hb, if_neg hb]
  by_cases c1 : p.c = 35
  · rw [if_pos c1] at hg
    have := leaf_good hg
    unfold good at this; omega
  rw [if_neg c1] at hg
  rw [if_neg c1, if_neg c1]
  by_cases c2 : p.c = 92
  · rw [if_pos c2] at hg
    unfold Rd.joined at hg
    split at hg
    · have := leaf_good hg; unfold good at this; omega
    · have := leaf_good hg; unfold good at this; omega
  rw [if_neg c2] at hg
  rw [if_neg c2, if_neg c2, hR.begM]
  have hn2 : 2 ≤ n - p.pos.toNat := by
    apply Decidable.byContradiction
    intro hcn
    have := hR.last
    rw [show ((n - p.pos.toNat : Nat) : Int) - 1 = 0 by omega, ← hcR] at this
    rw [this] at hb
    exact hb (by decide)
  by_cases c3 : 0 < begM p.rest
  · rw [if_pos c3] at hg
    rw [if_pos c3, if_pos c3]
    unfold Rd.begun at hg ⊢
    have hbN := hR.begN 3 0 (Int.le_refl _) (by omega)
    have hbb := begN_bd p.rest 3 0
    rw [hR.begM, hbN.1]
    have hmr := begM_range p.rest
    generalize begM p.rest = M at hg c3 hmr ⊢
    generalize PPy.begN 3 p.rest 0 = N at hg hbb ⊢
    have hqb := quot_bytes' M (by omega)
    have hqz := quot_size (m := M) (by omega)
    generalize hF : p.pos + N + ((quot M).size : Int) = F at hg ⊢
    show ({ p with s := Q } : Rd).text F M 15 = _ ∧ _
    unfold Rd.text at hg ⊢
    generalize he : PPy.tx (p.s.size + 1) p.s (quot M) F false = o at hg ⊢
    obtain ⟨o, b⟩ := o
    cases o with
    | none =>
      exfalso
      simp only at hg
      split at hg
      · have := leaf_good hg; unfold good at this; omega
      · have := leaf_good hg; unfold good at this; omega
    | some i =>
      have hin := tx_in _ _ hqz.1 _ _ _ _ _ (by omega) he
      have hlo := tx_bd _ _ _ _ _ _ _ he
      rw [hs] at he hin
      obtain ⟨b2, e3⟩ := h.tx (quot M) hqz.1 hqb (P.size + 1) (Q.size + 1) F false false i b (by omega) (by omega) he
      have e4 : PPy.tx (({ p with s := Q } : Rd).s.size + 1) ({ p with s := Q } : Rd).s (quot M) F false = (some i, b2) := e3
      rw [e4]
      simp only
      have l1 := leaf_on { p with mark := 0 } Q 15 (i + ((quot M).size : Int)) (hcolm _ _ rfl rfl (by omega) (by omega))
      have l2 := leaf_same { p with mark := 0 } 15 (i + ((quot M).size : Int))
      exact ⟨l1, l2.2.2.1, l2.2.2.2.2.2.1⟩
  rw [if_neg c3] at hg
  rw [if_neg c3, if_neg c3]
  by_cases c4 : letterB p.c = true
  · rw [if_pos c4, if_pos c4]
    unfold Rd.name
    have hne := h.nameEnd (P.size + 1) (Q.size + 1) p.pos h0 hp (by omega) (by omega)
    have hnb : p.pos + 1 ≤ nameEnd (P.size + 1) P p.pos ∧ nameEnd (P.size + 1) P p.pos ≤ n := by
      refine ⟨?_, by have := (nameEnd_bd P (P.size + 1) p.pos).2 (by omega); omega⟩
      simp only [PPy.nameEnd]
      unfold Rd.c at c4
      rw [hs] at c4
      rw [if_pos (by omega), if_pos (by rw [c4]; rfl)]
      exact (nameEnd_bd P P.size (p.pos + 1)).1
    rw [show nameEnd (({ p with s := Q } : Rd).s.size + 1) ({ p with s := Q } : Rd).s ({ p with s := Q } : Rd).pos = nameEnd (P.size + 1) P p.pos from hne, hs]
    have l2 := leaf_same p 13 (nameEnd (P.size + 1) P p.pos)
    exact ⟨leaf_on p Q 13 (PPy.nameEnd (P.size + 1) P p.pos) (hcolm _ _ rfl rfl (by omega) (by omega)), l2.2.2.1.trans hm, l2.2.2.2.2.2.1⟩
  rw [if_neg c4] at hg
  rw [if_neg c4, if_neg c4]
  have hnum : numB ({ p with s := Q } : Rd).rest = numB p.rest := by
    unfold numB
    have a1 := hR.z
    have a2 := hR.le
    rw [hR.same 0 (by omega) (by omega), hR.same 1 (by omega) (by omega), show decide (2 ≤ ({ p with s := Q } : Rd).rest.size) = decide (2 ≤ p.rest.size) from by rw [decide_eq_true (by omega), decide_eq_true (by omega)]]
  rw [hnum]
  by_cases c5 : numB p.rest = true
  · rw [if_pos c5, if_pos c5]
    unfold Rd.number
    have a1 := hR.z
    have a2 := hR.le
    have hsg : signsB ({ p with s := Q } : Rd).rest = signsB p.rest := by
      unfold signsB
      rw [hR.same 1 (by omega) (by omega), show decide (({ p with s := Q } : Rd).rest.size < 2) = decide (p.rest.size < 2) from by rw [decide_eq_false (by omega), decide_eq_false (by omega)]]
    have hne := hR.numEnd (signsB p.rest) (p.s.size + 1) (({ p with s := Q } : Rd).s.size + 1) 1 (by omega) (by omega) (by rw [hs]; omega) (by show _ ≤ ((Q.size + 1 : Nat) : Int); omega)
    have hnb := numEnd_bd p.rest (signsB p.rest) (p.s.size + 1) 1
    have hhi := hnb.2 (by omega)
    rw [hsg, hne]
    have l2 := leaf_same p 14 (p.pos + PPy.numEnd (p.s.size + 1) p.rest (signsB p.rest) 1)
    exact ⟨leaf_on p Q 14 (p.pos + PPy.numEnd (p.s.size + 1) p.rest (signsB p.rest) 1) (hcolm _ _ rfl rfl (by omega) (by omega)), l2.2.2.1.trans hm, l2.2.2.2.2.2.1⟩
  rw [if_neg c5] at hg
  rw [if_neg c5, if_neg c5, hR.opAt]
  by_cases c6 : PPy.opAt opL p.rest < 47
  · rw [if_pos c6] at hg
    rw [if_pos c6, if_pos c6]
    have ho : opOf ({ p with s := Q } : Rd).rest = opOf p.rest := by unfold opOf; rw [hR.opAt]
    have hsz : 1 ≤ (opOf p.rest).size := opL_size _ c6
    have hle2 := opOf_le p.rest c6
    have a1 := hR.z
    rw [ho]
    generalize opOf p.rest = op at hg hsz hle2 ⊢
    unfold Rd.oper at hg ⊢
    by_cases k1 : opKind op = 1
    · rw [if_pos k1, if_pos k1]
      have l2 := leaf_same { p with depth := if p.depth + 1 ≤ 1048576 then p.depth + 1 else 1048576 } 17 (p.pos + (op.size : Int))
      exact ⟨leaf_on { p with depth := if p.depth + 1 ≤ 1048576 then p.depth + 1 else 1048576 } Q 17 (p.pos + (op.size : Int)) (hcolm _ _ rfl rfl (by omega) (by omega)), l2.2.2.1.trans hm, l2.2.2.2.2.2.1⟩
    rw [if_neg k1] at hg
    rw [if_neg k1, if_neg k1]
    by_cases k2 : opKind op = 2
    · rw [if_pos k2] at hg
      rw [if_pos k2, if_pos k2]
      by_cases k3 : p.depth = 0
      · rw [if_pos k3] at hg
        have := leaf_good hg
        unfold good at this; omega
      · rw [if_neg k3, if_neg k3]
        have l2 := leaf_same { p with depth := p.depth - 1 } 17 (p.pos + (op.size : Int))
        exact ⟨leaf_on { p with depth := p.depth - 1 } Q 17 (p.pos + (op.size : Int)) (hcolm _ _ rfl rfl (by omega) (by omega)), l2.2.2.1.trans hm, l2.2.2.2.2.2.1⟩
    · rw [if_neg k2, if_neg k2]
      have l2 := leaf_same p 17 (p.pos + (op.size : Int))
      exact ⟨leaf_on p Q 17 (p.pos + (op.size : Int)) (hcolm _ _ rfl rfl (by omega) (by omega)), l2.2.2.1.trans hm, l2.2.2.2.2.2.1⟩
  · rw [if_neg c6] at hg
    have := leaf_good hg
    unfold good at this; omega

theorem ev_pre : ∀ (n : Nat) (r : Rd), r.Ok → ∃ l, (scanL n r).ev = r.ev ++ l := by
  intro n
  induction n with
  | zero => intro r _; exact ⟨[], by simp [scanL]⟩
  | succ n ih =>
    intro r hr
    simp only [scanL]
    split
    · rename_i hp
      obtain ⟨l, hl⟩ := ih r.step (hr.step hp).1
      rcases step_form hr hp with ⟨_, _, e⟩ | ⟨r2, K, T, g⟩
      · exact ⟨l, by rw [hl, e]⟩
      · exact ⟨[⟨3, K, r2.pos, T⟩] ++ l, by rw [hl, g.eq, (leaf_same r2 K T).2.2.2.2.2.2, g.ev, List.append_assoc]⟩
    · exact ⟨[], by simp⟩
/-- Both readers, up to the blank's end. -/
theorem lock {P Q : ByteArray} {n : Nat} (h : Lk P Q n) (hQ : Q.size ≤ 1000000) : ∀ (m : Nat) (p : Rd), p.s = P → p.Ok → p.mark = 0 → (n : Int) - p.pos ≤ m → (∀ e ∈ (scanL m p).ev, good e.f1) →
    ∀ (M M2 : Nat), (Q.size : Int) - p.pos ≤ M → (Q.size : Int) - n ≤ M2 →
    scanL M { p with s := Q } = scanL M2 { scanL m p with s := Q } ∧ (scanL m p).mark = 0 ∧ (scanL m p).join = p.join := by
  intro m
  have hz := h.z
  have hle := h.le
  have okQ : ∀ p : Rd, p.Ok → ({ p with s := Q } : Rd).Ok := fun p hp => ⟨hp.p0, hp.el, hQ, hp.m, hp.d⟩
  induction m with
  | zero =>
    intro p hs hok hm hn hg M M2 h1 h2
    simp only [scanL]
    exact ⟨scanL_fuel _ _ _ (okQ p hok) h1 (show (Q.size : Int) - p.pos ≤ M2 by omega), hm, trivial⟩
  | succ m ih =>
    intro p hs hok hm hn hg M M2 h1 h2
    by_cases hc : p.pos < (p.s.size : Int)
    · have hcn : p.pos < n := by rw [hs] at hc; omega
      obtain ⟨M, rfl⟩ : ∃ k, M = k + 1 := ⟨M - 1, by omega⟩
      have hst := hok.step hc
      have e0 : scanL (m + 1) p = scanL m p.step := by simp only [scanL]; rw [if_pos hc]
      rw [e0] at hg ⊢
      obtain ⟨l, hl⟩ := ev_pre m p.step hst.1
      have hg1 : ∀ e ∈ p.step.ev, good e.f1 := fun e he => hg e (by rw [hl]; exact List.mem_append_left _ he)
      obtain ⟨g1, g2, g3⟩ := lock_step h p hs hok hcn hm hg1
      have hgo := ih p.step (hst.2.2.trans hs) hst.1 g2 (by omega) hg M M2 (by omega) h2
      refine ⟨?_, hgo.2.1, hgo.2.2.trans g3⟩
      rw [← hgo.1, ← g1]
      simp only [scanL]
      rw [if_pos (show p.pos < (Q.size : Int) by omega)]
    · rw [scanL_end _ p hc]
      exact ⟨scanL_fuel _ _ _ (okQ p hok) h1 (show (Q.size : Int) - p.pos ≤ M2 by rw [hs] at hc; omega), hm, rfl⟩

theorem size_app (a b : ByteArray) : (a ++ b).size = a.size + b.size := ByteArray.size_append
theorem bt_app_l (a b : ByteArray) (i : Int) (h0 : 0 ≤ i) (h : i < (a.size : Int)) : bt (a ++ b) i = bt a i := by
  have hz := size_app a b
  obtain ⟨k, rfl⟩ : ∃ k : Nat, i = k := ⟨i.toNat, by omega⟩
  rw [bt_natI _ k (by omega), bt_natI _ k (by omega)]
  rw [ByteArray.getElem_append_left (by omega)]
theorem bt_app_r (a b : ByteArray) (i : Nat) (h : i < b.size) : bt (a ++ b) ((a.size : Int) + i) = bt b i := by
  have hz := size_app a b
  rw [show (a.size : Int) + (i : Int) = ((a.size + i : Nat) : Int) by omega, bt_natI _ _ (by omega), bt_natI _ i h]
  rw [ByteArray.getElem_append_right (by omega)]
  congr 3
  omega
theorem ext_app_r (a b : ByteArray) : (a ++ b).extract a.size (a ++ b).size = b := by
  rw [size_app]
  exact ByteArray.extract_append_eq_right rfl rfl
/-- What stands behind a blank is read by itself. -/
theorem split_main (a b : ByteArray) (depth : Int) (ha : a.size ≤ 2000) (hb : b.size ≤ 2000) (hnl : ∀ i : Nat, i < a.size → bt a (i : Int) ≠ 10) (x y z : Rd)
    (hx : scanM (a ++ ⟨#[32]⟩) 0 0 depth = x) (hy : scanM b 0 0 x.depth = y) (hz : scanM ((a ++ ⟨#[32]⟩) ++ b) 0 0 depth = z) (hg : ∀ e ∈ x.ev, good e.f1) :
    z.ev = x.ev ++ y.ev.map (shE ((a.size : Int) + 1)) ∧ z.mark = y.mark ∧ z.depth = y.depth ∧ z.join = y.join ∧ z.any = (x.any || y.any) ∧ z.colon = if y.any = true then y.colon else x.colon := by
  obtain ⟨P, hP⟩ : ∃ P, a ++ ⟨#[32]⟩ = P := ⟨_, rfl⟩
  have hPz : P.size = a.size + 1 := by rw [← hP, size_app]; rfl
  have hPa : ∀ i : Int, 0 ≤ i → i < (a.size : Int) → bt P i = bt a i := fun i h0 h1 => by rw [← hP]; exact bt_app_l _ _ _ h0 h1
  have hPl : bt P (a.size : Int) = 32 := by
    have := bt_app_r a ⟨#[32]⟩ 0 (by decide)
    rw [hP, show ((0 : Nat) : Int) = 0 from rfl, Int.add_zero] at this
    exact this.trans (by decide)
  have hP10 : ∀ i : Nat, i < P.size → bt P (i : Int) ≠ 10 := by
    intro i hi
    by_cases h : i < a.size
    · rw [hPa _ (by omega) (by omega)]; exact hnl i h
    · rw [show i = a.size by omega, hPl]; decide
  rw [hP] at hx hz
  have hPend : endOf P = (P.size : Int) := by
    unfold endOf
    rcases ix_cases P with ⟨h1, _⟩ | ⟨o, ho, h4, h5, _⟩
    · rw [h1, if_neg (by omega)]
    · exact absurd h5 (hP10 o h4)
  have hPline : lineOf P = P := by rw [lineOf_end, hPend, Int.toNat_natCast]; exact ByteArray.extract_zero_size
  have hWz : (P ++ b).size = P.size + b.size := size_app _ _
  have hWend : (P.size : Int) ≤ endOf (P ++ b) := by
    unfold endOf
    rcases ix_cases (P ++ b) with ⟨h1, _⟩ | ⟨o, ho, h4, h5, _⟩
    · rw [h1, if_neg (by omega)]; omega
    · have ho2 : P.size ≤ o := by
        apply Decidable.byContradiction
        intro hc
        rw [bt_app_l P b _ (by omega) (by omega)] at h5
        exact hP10 o (by omega) h5
      rw [ho, if_pos (by omega)]
      by_cases hc : 1 ≤ (o : Int) ∧ bt (P ++ b) ((o : Int) - 1) = 13
      · rw [if_pos hc]
        by_cases h2 : o = P.size
        · have := hc.2
          rw [h2, bt_app_l P b _ (by omega) (by omega), show (P.size : Int) - 1 = (a.size : Int) by omega, hPl] at this
          exact absurd this (by decide)
        · omega
      · rw [if_neg hc]; omega
  have hQt := lineOf_tail (P ++ b) P.size hWend
  rw [ext_app_r] at hQt
  have hQlen := lineOf_len (P ++ b)
  have hQle := lineOf_size (P ++ b)
  obtain ⟨Q, hQ⟩ : ∃ Q, lineOf (P ++ b) = Q := ⟨_, rfl⟩
  rw [hQ] at hQt hQlen hQle
  have hLk : Lk P Q P.size := by
    refine ⟨rfl, by omega, by omega, by rw [show (P.size : Int) - 1 = (a.size : Int) by omega]; exact hPl, ?_⟩
    intro i h0 h1
    have e := lineOf_end (P ++ b)
    rw [hQ] at e
    have hEz : ((P ++ b).extract 0 (endOf (P ++ b)).toNat).size = Q.size := by rw [e]
    rw [ByteArray.size_extract] at hEz
    obtain ⟨k, rfl⟩ : ∃ k : Nat, i = k := ⟨i.toNat, by omega⟩
    rw [← bt_app_l P b k h0 h1, e]
    have hk : k < ((P ++ b).extract 0 (endOf (P ++ b)).toNat).size := by rw [ByteArray.size_extract]; omega
    rw [bt_natI _ k hk, bt_natI _ k (by omega), ByteArray.getElem_extract]
    simp
  have okx : (Rd.init P 0 0 depth).Ok := Rd.Ok.init (by omega) (by omega)
  have okz : (Rd.init (P ++ b) 0 0 depth).Ok := Rd.Ok.init (by omega) (by omega)
  have ezi : Rd.init (P ++ b) 0 0 depth = { Rd.init P 0 0 depth with s := Q } := by unfold Rd.init; rw [hQ]
  unfold scanM at hx hz hy
  rw [hPline] at hx
  rw [hQ, ezi] at hz
  have hm0 : (Rd.init P 0 0 depth).mark = 0 := rfl
  have hp0 : (Rd.init P 0 0 depth).pos = 0 := rfl
  have hlk := lock hLk (by omega) (P.size + 1) (Rd.init P 0 0 depth) hPline okx hm0 (by rw [hp0]; omega) (by rw [hx]; exact hg) (Q.size + 1) (Q.size + 1) (by rw [hp0]; omega) (by omega)
  rw [hx] at hlk
  have hxo := scanL_ok (P.size + 1) _ okx
  rw [hx] at hxo
  have hxe := scanL_at_end (P.size + 1) _ okx (by rw [hp0]; show ((lineOf P).size : Int) - 0 ≤ _; rw [hPline]; omega)
  have hxc := (Cov.scan (P.size + 1) okx ⟨⟨by rw [hp0]; omega, fun i h1 h2 => by rw [hp0] at h2; omega⟩, by rw [hp0]; omega, fun h => absurd h (by simp [Rd.init])⟩).hi
  rw [hx] at hxe hxc
  have hxs : x.s = P := hxo.2.trans hPline
  have hxp : x.pos = (P.size : Int) := by
    have : (Rd.init P 0 0 depth).s = P := hPline
    rw [this] at hxe
    rw [hxs] at hxc
    omega
  have hQs2 : (lineOf b).size = Q.size - P.size := by rw [hQt, size_tail _ _ (by omega)]
  have hbl := lineOf_size b
  have oky : (Rd.init b 0 0 x.depth).Ok := Rd.Ok.init (by omega) (by omega)
  have hd := hxo.1.d
  have hsh : Sh P.size x.ev x.any x.colon { x with s := Q } (Rd.init b 0 0 x.depth) := by
    refine ⟨by show P.size ≤ Q.size; omega, hQt, by show (0 : Int) ≤ if (0 : Int) < 0 then 0 else 0; decide, ?_, ?_, ?_, ?_, ?_, ?_, ?_⟩
    · show x.pos = (if (0 : Int) < 0 then 0 else 0) + (P.size : Int); rw [if_neg (by decide), hxp]; omega
    · show x.ev = x.ev ++ List.map _ []; simp
    · show x.mark = (if (0 : Int) ≤ 4 then 0 else 0); rw [hlk.2.1]; rfl
    · show x.depth = (if x.depth < 0 then 0 else if x.depth ≤ 1048576 then x.depth else 1048576); rw [if_neg (by omega), if_pos (by omega)]
    · show x.join = false; exact hlk.2.2
    · show x.any = (x.any || false); simp
    · show x.colon = if false = true then _ else x.colon; rw [if_neg (by decide)]
  have hz2 : scanL (Q.size + 1) { x with s := Q } = z := by rw [← hlk.1, hz]
  have hy2 : scanL (Q.size + 1) (Rd.init b 0 0 x.depth) = y := by
    rw [← hy]
    exact scanL_fuel _ _ _ oky (by show ((lineOf b).size : Int) - 0 ≤ _; omega) (by show ((lineOf b).size : Int) - 0 ≤ _; omega)
  have hfin := hsh.scan (Q.size + 1)
  rw [hz2, hy2] at hfin
  have ek : ((P.size : Nat) : Int) = (a.size : Int) + 1 := by omega
  refine ⟨by rw [hfin.ev, ek], hfin.mark, hfin.depth, hfin.join, hfin.any, hfin.colon⟩

end Go.Proofs.Ytdknppomjcpihaa.PPy
