/- A row that is changed item by item: plain. -/
import Derived.Test.YtpchkligbfmeiaaMb
namespace Go.Proofs.Ytpchkligbfmeiaa.Se
open Go.RowKit Go.Shelf Go.Proofs.YtpchkligbfmeiaaW.PrintWords Go.Proofs.YtpchkligbfmeiaaW.PrintLast Go.Proofs.YtpchkligbfmeiaaW.PrintMore
set_option linter.unusedVariables false
set_option linter.unusedSimpArgs false
theorem exec_cutLH {t e : TypeId} (hu : Try.prog.underlying t = some (.slice e)) (hi : (Try.prog.info? e).map (·.size) = some 1) (A : Option Addr) (n c k : Nat) (hk : k + 1 ≤ c) (ρ : Operand → Value) (o : Oper) (X H H2 : Operand) (ho : o.op = .slice t X (some H) (some H2) none) (hX : ρ X = .slice A n c) (hH : ρ H = .int .i64 (k : Int)) (hH2 : ρ H2 = .int .i64 ((k : Int) + 1)) (w : World) :
    (execOp ρ o).run Try.prog w = .ok (.value (.slice (if c = k then A else A.map (·.add (k * 1))) 1 (c - k))) w := by
  have hs := run_sliceAt_slice (P := Try.prog) w t (.slice A n c) (some (.int .i64 (k : Int))) (some (.int .i64 ((k : Int) + 1))) none (by rw [hu]; simp [Program.elem, hu])
  have hel : Try.prog.elem t = e := by simp [Program.elem, hu]
  obtain ⟨i, hi, hsz⟩ := Option.map_eq_some_iff.1 hi
  rw [run_slice_lh w t A n c (by rw [hu, hel]) .i64 .i64 (k : Int) ((k : Int) + 1) (by omega) (by omega) (by omega), hel] at hs
  have e1 : ((k : Int) + 1).toNat - (k : Int).toNat = 1 := by omega
  unfold execOp
  simp only [ho, hX, hH, hH2, Option.map_some, Option.map_none, Sem.run_bind, hs, sizeOf, typeInfo, hi, hsz, sliced, Result.andThen, Sem.run_pure]
  simp [sizeOf, typeInfo, hi, hsz, sliced, Result.andThen, e1]

theorem spl_del {a c : Items} {x : ByteArray × Int} {er : Int} {l' : Items} (h : SplR (a ++ x :: c) (a.length : Int) 1 [] [] er l') (hn : (a ++ x :: c).length ≤ 2097152) (hs : sumL (a ++ c) ≤ 1099511627776) : er = 0 ∧ l' = a ++ c := by
  have e1 : ((a ++ x :: c).drop a.length).drop 1 = c := by simp
  have e0 : (a ++ x :: c).take a.length = a := by simp
  simp only [List.length_append, List.length_cons] at hn
  cases h with
  | bad h => simp only [List.length_append, List.length_cons] at h; omega
  | len _ _ _ h => simp at h
  | size _ _ _ _ h => simp at h
  | big _ _ _ _ _ h =>
    rw [Int.toNat_natCast, e0] at h
    simp only [List.length_append, List.length_cons, List.length_nil, List.zip_nil_left, List.nil_append, Int.toNat_one, e1] at h
    omega
  | ok =>
    refine ⟨rfl, ?_⟩
    rw [Int.toNat_natCast, e0]
    simp only [List.zip_nil_left, List.nil_append, Int.toNat_one, e1]
theorem spl_ins {a c : Items} {x : ByteArray} {y er : Int} {l' : Items} (h : SplR (a ++ c) (a.length : Int) 0 [x] [y] er l') (hy : OkS y) (hn : (a ++ c).length + 1 ≤ 2097152) (hs : sumL (a ++ (x, y) :: c) ≤ 1099511627776) : er = 0 ∧ l' = a ++ (x, y) :: c := by
  have e1 : ((a ++ c).drop a.length).drop 0 = c := by simp
  have e0 : (a ++ c).take a.length = a := by simp
  simp only [List.length_append] at hn
  cases h with
  | bad h => simp only [List.length_append] at h; omega
  | len _ _ _ h => simp at h
  | size _ _ _ _ h =>
    obtain ⟨z, hz, h⟩ := h
    simp at hz
    subst hz
    exact absurd hy h
  | big _ _ _ _ _ h =>
    rw [Int.toNat_natCast, e0] at h
    simp only [List.length_append, List.length_cons, List.length_nil, List.zip_cons_cons, List.zip_nil_left, List.cons_append, List.nil_append, Int.toNat_zero, e1] at h
    omega
  | ok =>
    refine ⟨rfl, ?_⟩
    rw [Int.toNat_natCast, e0]
    simp only [List.zip_cons_cons, List.zip_nil_left, List.cons_append, List.nil_append, Int.toNat_zero, e1]
theorem spl_ok {l : Items} {i n : Int} {xs : List ByteArray} {ys : List Int} {l' : Items} (h : SplR l i n xs ys 0 l') :
    ∃ (a b c : Items), l = a ++ (b ++ c) ∧ (a.length : Int) = i ∧ (b.length : Int) = n ∧ xs.length = ys.length ∧ (∀ y ∈ ys, OkS y) ∧ l' = a ++ (xs.zip ys ++ c) ∧ l'.length ≤ 2097152 ∧ sumL l' ≤ 1099511627776 := by
  cases h with
  | ok h0 h1 h2 h3 h4 h5 h6 =>
    refine ⟨l.take i.toNat, (l.drop i.toNat).take n.toNat, (l.drop i.toNat).drop n.toNat, by rw [List.take_append_drop, List.take_append_drop], ?_, ?_, h3, h4, rfl, ?_, h6⟩
    · rw [List.length_take]; omega
    · rw [List.length_take, List.length_drop]; omega
    · simp only [List.length_append, List.length_take, List.length_drop, List.length_zip]
      omega
theorem spl_not {l : Items} {i n er : Int} {xs : List ByteArray} {ys : List Int} {l' : Items} (h : SplR l i n xs ys er l') (he : er ≠ 0) : l' = l := by
  cases h <;> first | rfl | exact absurd rfl he
theorem drop_cons {α : Type} {l : List α} {k : Nat} {x : α} (h : l[k]? = some x) : l.drop k = x :: l.drop (k + 1) := by
  obtain ⟨hk, h⟩ := List.getElem?_eq_some_iff.1 h
  rw [List.drop_eq_getElem_cons hk, h]
theorem sum_drop {a b c : Items} (hp : ∀ x ∈ b, 0 ≤ x.2) (k : Nat) : sumL (a ++ (b.drop k ++ c)) ≤ sumL (a ++ (b ++ c)) := by
  have h := sumL_append (b.take k) (b.drop k)
  rw [List.take_append_drop] at h
  have := sumL_pos (l := b.take k) fun x hx => hp x (List.mem_of_mem_take hx)
  simp only [sumL_append]
  omega
/-- The sum of the acts' items, each counted as 301 at most. -/
def totm : List ActM → Nat
  | [] => 0
  | a :: r => min a.xs.length 301 + totm r
theorem totm_append : ∀ a b : List ActM, totm (a ++ b) = totm a + totm b
  | [], b => by simp [totm]
  | x :: a, b => by simp only [List.cons_append, totm, totm_append a b]; omega
theorem totm_small : ∀ {l : List ActM}, totm l ≤ 300 → tot l ≤ 300
  | [], _ => by simp [tot]
  | x :: l, h => by
    simp only [totm] at h
    have h1 : totm l = tot l := by
      have : ∀ {l : List ActM}, totm l ≤ 300 → totm l = tot l := by
        intro l
        induction l with
        | nil => simp [tot, totm]
        | cons y r ih => intro h; simp only [totm] at h; simp only [tot, totm]; have := ih (by omega); omega
      exact this (by omega)
    simp only [tot]
    omega
/-- Whatever lay below n is as it was but for blocks p, q. -/
structure GQ (p q n : Nat) (w w' : World) : Prop where
  os : w'.os = w.os
  tape : w'.tape = w.tape
  output : w'.output = w.output
  size : w.heap.size ≤ w'.heap.size
  block : ∀ k, k < n → k ≠ p → k ≠ q → w'.heap[k]? = w.heap[k]?
theorem GQ.refl (p q n : Nat) (w : World) : GQ p q n w w := ⟨rfl, rfl, rfl, Nat.le_refl _, fun _ _ _ _ => rfl⟩
theorem GQ.trans {p q n : Nat} {a b c : World} (h : GQ p q n a b) (k : GQ p q n b c) : GQ p q n a c :=
  ⟨k.os.trans h.os, k.tape.trans h.tape, k.output.trans h.output, Nat.le_trans h.size k.size, fun i hi hne hne2 => (k.block i hi hne hne2).trans (h.block i hi hne hne2)⟩
theorem GQ.mono {p q n m : Nat} {a b : World} (h : GQ p q n a b) (hm : m ≤ n) : GQ p q m a b := ⟨h.os, h.tape, h.output, h.size, fun i hi => h.block i (by omega)⟩
theorem KG.gq {p q n : Nat} {a b : World} (h : KG p a b) (hn : n ≤ a.heap.size) : GQ p q n a b := ⟨h.g.os, h.g.tape, h.g.output, h.g.size, fun i hi hne _ => h.g.block i (by omega) (by simpa using hne)⟩
theorem KG.gq2 {p q n : Nat} {a b : World} (h : KG q a b) (hn : n ≤ a.heap.size) : GQ p q n a b := ⟨h.g.os, h.g.tape, h.g.output, h.g.size, fun i hi _ hne => h.g.block i (by omega) (by simpa using hne)⟩
theorem GQ.of_below {p q n : Nat} {a b : World} (h : Below n a b) : GQ p q n a b := ⟨h.os, h.tape, h.output, h.size, fun i hi _ _ => h.block i hi⟩
theorem GQ.below {p q n m : Nat} {a b : World} (h : GQ p q n a b) (hm : m ≤ n) (hp : m ≤ p) (hq : m ≤ q) : Below m a b := ⟨h.os, h.tape, h.output, h.size, fun i hi => h.block i (by omega) (by omega) (by omega)⟩
theorem GQ.cell {p q n : Nat} {a b : World} (h : GQ p q n a b) {x : Addr} {v : Value} (hx : x.block < n) (hne : x.block ≠ p) (hne2 : x.block ≠ q) (hc : a.cell? x = some v) : b.cell? x = some v :=
  (World.cell?_of_block (h.block _ hx hne hne2)).trans hc
/-- A row stays while another is changed. -/
theorem SAt.other {a b : World} {p q B : Nat} {l : Items} (h : SAt a B q l) (hg : KG p a b) (hne : q ≠ p) : SAt b B q l := by
  obtain ⟨t, v, h1, h2, h3, h4, h5⟩ := h.out
  exact ⟨⟨t, v, (hg.g.block q (blk_lt h1) (by simpa using hne)).trans h1, h2.k58 hg.k, h3, h4, h5⟩⟩
theorem atr_det {l : Items} {i : Int} {it it' : ByteArray} {z z' er er' : Int} (h : AtR l i it z er) (h' : AtR l i it' z' er') : it' = it ∧ z' = z ∧ er' = er := by
  rcases h with ⟨_, _, h, rfl⟩ | ⟨hn, rfl, rfl, rfl⟩
  · rcases h' with ⟨_, _, h', rfl⟩ | ⟨hn, _⟩
    · rw [h] at h'
      injection h' with h'
      injection h' with h1 h2
      exact ⟨h1.symm, h2.symm, rfl⟩
    · exact absurd ⟨by omega, by omega⟩ hn
  · rcases h' with ⟨h1, h2, _⟩ | ⟨_, rfl, rfl, rfl⟩
    · exact absurd ⟨h1, h2⟩ hn
    · exact ⟨rfl, rfl, rfl⟩
theorem numb_getL : ∀ (a : Int) (l : Items) (k : Nat) (y : NItem), (numb a l)[k]? = some y → ∃ z, l[k]? = some (y.2, z)
  | _, [], _, _, h => by simp [numb] at h
  | a, x :: l, 0, y, h => by
    simp [numb] at h
    subst h
    exact ⟨x.2, by simp⟩
  | a, x :: l, k + 1, y, h => by
    obtain ⟨z, hz⟩ := numb_getL (a + 1) l k y (by simpa [numb] using h)
    exact ⟨z, by simpa using hz⟩
theorem prefix_get {α : Type} {pre l : List α} {x : α} (h : pre ++ [x] <+: l) : l[pre.length]? = some x := by
  obtain ⟨r, rfl⟩ := h
  simp
end Go.Proofs.Ytpchkligbfmeiaa.Se
