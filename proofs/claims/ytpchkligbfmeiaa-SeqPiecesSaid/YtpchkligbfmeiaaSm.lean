/- What Splice makes of a row: plain. -/
import Derived.Test.YtpchkligbfmeiaaFn
namespace Go.Proofs.Ytpchkligbfmeiaa.Se
open Go.RowKit Go.Proofs.YtpchkligbfmeiaaW.PrintWords Go.Proofs.YtpchkligbfmeiaaW.PrintLast Go.Proofs.YtpchkligbfmeiaaW.PrintMore
set_option linter.unusedVariables false
set_option linter.unusedSimpArgs false

def sumI : List Int → Int
  | [] => 0
  | x :: r => x + sumI r
theorem sumI_append : ∀ a b : List Int, sumI (a ++ b) = sumI a + sumI b
  | [], b => by simp [sumI]
  | x :: a, b => by simp only [List.cons_append, sumI, sumI_append a b]; omega
theorem sumI_pos : ∀ {l : List Int}, (∀ x ∈ l, 0 ≤ x) → 0 ≤ sumI l
  | [], _ => by simp [sumI]
  | x :: r, h => by
    have := sumI_pos (l := r) fun y hy => h y (List.mem_cons_of_mem _ hy)
    have := h x List.mem_cons_self
    simp only [sumI]
    omega
theorem sumL_zip : ∀ (xs : List ByteArray) (ys : List Int), xs.length = ys.length → sumL (xs.zip ys) = sumI ys
  | [], [], _ => rfl
  | x :: xs, y :: ys, h => by simp only [List.zip_cons_cons, sumL, sumI, sumL_zip xs ys (by simpa using h)]
  | [], _ :: _, h => by simp at h
  | _ :: _, [], h => by simp at h
def capS (z : Int) : Int := if 1099511627777 < z then 1099511627777 else z
theorem capS_step {s y : Int} (hs : 0 ≤ s) (hy : 0 ≤ y) : (if (1099511627777 : Int) < capS s + y then 1099511627777 else capS s + y) = capS (s + y) := by
  unfold capS
  by_cases h : (1099511627777 : Int) < s
  · rw [if_pos h]
    split <;> rename_i h1 <;> (split <;> omega)
  · rw [if_neg h]
theorem capS_bd {s : Int} (hs : 0 ≤ s) : 0 ≤ capS s ∧ capS s ≤ 1099511627777 := by unfold capS; split <;> omega
def OkS (y : Int) : Prop := 0 ≤ y ∧ y ≤ 1099511627776

/-- What Splice makes of a row. -/
inductive SplR (l : Items) (i n : Int) (xs : List ByteArray) (ys : List Int) : Int → Items → Prop
  | bad : (i < 0 ∨ n < 0 ∨ (l.length : Int) < i ∨ (l.length : Int) - i < n) → SplR l i n xs ys 5 l
  | len : 0 ≤ i → 0 ≤ n → i + n ≤ (l.length : Int) → xs.length ≠ ys.length → SplR l i n xs ys 1 l
  | size : 0 ≤ i → 0 ≤ n → i + n ≤ (l.length : Int) → xs.length = ys.length → (∃ y ∈ ys, ¬ OkS y) → SplR l i n xs ys 1 l
  | big : 0 ≤ i → 0 ≤ n → i + n ≤ (l.length : Int) → xs.length = ys.length → (∀ y ∈ ys, OkS y) →
      (2097152 < (l.length : Int) - n + (xs.length : Int) ∨ 1099511627776 < sumL (l.take i.toNat ++ (xs.zip ys ++ (l.drop i.toNat).drop n.toNat))) → SplR l i n xs ys 2 l
  | ok : 0 ≤ i → 0 ≤ n → i + n ≤ (l.length : Int) → xs.length = ys.length → (∀ y ∈ ys, OkS y) →
      (l.length : Int) - n + (xs.length : Int) ≤ 2097152 → sumL (l.take i.toNat ++ (xs.zip ys ++ (l.drop i.toNat).drop n.toNat)) ≤ 1099511627776 →
      SplR l i n xs ys 0 (l.take i.toNat ++ (xs.zip ys ++ (l.drop i.toNat).drop n.toNat))
theorem At.keep {w w' : World} : ∀ {t : Tr} {v : Value}, At w t v → (∀ (k : Nat) (row : Array Value), w.heap[k]? = some (.cells row 58 (0, 0)) → w'.heap[k]? = some (.cells row 58 (0, 0))) → At w' t v
  | .nil, _, h, _ => h
  | .node l it z r, v, ⟨b, vl, vr, h1, h2, h3, h4⟩, hm => ⟨b, vl, vr, h1, hm b _ h2, h3.keep hm, h4.keep hm⟩
/-- All nodes lie as they lay. -/
def K58 (W W' : World) : Prop := ∀ (k : Nat) (row : Array Value), W.heap[k]? = some (.cells row 58 (0, 0)) → W'.heap[k]? = some (.cells row 58 (0, 0))
theorem K58.refl (W : World) : K58 W W := fun _ _ h => h
theorem K58.trans {A B C : World} (h : K58 A B) (k : K58 B C) : K58 A C := fun i r hi => k i r (h i r hi)
theorem At.k58 {W W' : World} {t : Tr} {v : Value} (h : At W t v) (hk : K58 W W') : At W' t v := h.keep hk
theorem K58.of_below {W W' : World} (h : Below W.heap.size W W') : K58 W W' := fun k row hk => (h.block k (blk_lt hk)).trans hk
/-- All nodes lie as they lay, and whatever lay is as it was but for block p. -/
structure KG (p : Nat) (w w' : World) : Prop where
  k : K58 w w'
  g : w.grownBy w' (some p)
theorem KG.refl (p : Nat) (w : World) : KG p w w := ⟨K58.refl w, rfl, rfl, rfl, Nat.le_refl _, fun _ _ _ => rfl⟩
theorem KG.of_below {p : Nat} {w w' : World} (h : Below w.heap.size w w') : KG p w w' := ⟨K58.of_below h, h.os, h.tape, h.output, h.size, fun k hk _ => h.block k hk⟩
theorem KG.trans {p : Nat} {a b c : World} (h : KG p a b) (k : KG p b c) : KG p a c :=
  ⟨h.k.trans k.k, k.g.os.trans h.g.os, k.g.tape.trans h.g.tape, k.g.output.trans h.g.output, Nat.le_trans h.g.size k.g.size, fun i hi hne => (k.g.block i (Nat.lt_of_lt_of_le hi h.g.size) hne).trans (h.g.block i hi hne)⟩
def SplP (B p : Nat) (l : Items) (i n : Int) (xs : List ByteArray) (ys : List Int) (w w' : World) (e : Ending) : Prop :=
  ∃ er l', e = .returned (.int .i64 er) ∧ SplR l i n xs ys er l' ∧ SAt w' B p l' ∧ Below B w w' ∧ KG p w w'

theorem int_at {w : World} {A : Option Addr} {n : Nat} {ys : List Int} (h : (Kd.int .i64).C w A n ys) {k : Nat} {y : Int} (hk : ys[k]? = some y) : ∃ ad, A = some ad ∧ w.cell? (ad.add k) = some (.int .i64 y) := by
  have hl := (List.getElem?_eq_some_iff.1 hk).1
  obtain ⟨ad, hA, hr⟩ := h.2.2 (by have := h.1; omega)
  obtain ⟨c, _, hc, hcell⟩ := hr k y hk
  have := hcell 0 (.int .i64 y) (by rw [show c = [.int .i64 y] from hc]; rfl)
  exact ⟨ad, hA, by simpa [Kd.int, Kd.scalar] using this⟩
theorem take_snoc {α : Type} {k : Nat} {l : List α} {y : α} (h : l[k]? = some y) : l.take (k + 1) = l.take k ++ [y] := by
  rw [List.take_add_one, h]; rfl
/-- The row is stored anew. -/
theorem SAt.store {w : World} {B p : Nat} {u : Value} {t : Tr} {v : Value} (hp : w.heap[p]? = some (.cells #[u] 48 (0, 0))) (hB : B ≤ p) (ht : At w t v) (hf : FitL (toL t)) : SAt (w.setCell ⟨p, 0, none⟩ v) B p (toL t) := by
  have hb := blk_set hp 0 v
  refine ⟨⟨t, v, hb, ht.keep (fun k row hk => ?_), rfl, hf, hB⟩⟩
  have hne : k ≠ p := by
    rintro rfl
    rw [hp] at hk
    simp at hk
  rw [Below.heap_setCell w ⟨p, 0, none⟩ v k hne]
  exact hk
theorem K58.store {w : World} {p : Nat} {u : Value} (v : Value) (hp : w.heap[p]? = some (.cells #[u] 48 (0, 0))) : K58 w (w.setCell ⟨p, 0, none⟩ v) := by
  intro k row hk
  have hne : k ≠ p := by
    rintro rfl
    rw [hp] at hk
    simp at hk
  rw [Below.heap_setCell w ⟨p, 0, none⟩ v k hne]
  exact hk
theorem KG.store {w : World} {p : Nat} {u : Value} (v : Value) (hp : w.heap[p]? = some (.cells #[u] 48 (0, 0))) : KG p w (w.setCell ⟨p, 0, none⟩ v) :=
  ⟨K58.store v hp, rfl, rfl, rfl, by simp, fun k hk hne => Below.heap_setCell w ⟨p, 0, none⟩ v k (fun e => hne (by rw [e]))⟩
end Go.Proofs.Ytpchkligbfmeiaa.Se
