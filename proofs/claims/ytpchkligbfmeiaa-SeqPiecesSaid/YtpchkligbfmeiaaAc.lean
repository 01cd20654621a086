/- The arguments: acts, as they are handed in. -/
import Derived.Test.YtpchkligbfmeiaaSx
import Derived.Deep.Slices
import Derived.Deep.Strs
import Derived.ChangeSame
namespace Go.Proofs.Ytpchkligbfmeiaa.Se
open Go.RowKit Go.Proofs.YtpchkligbfmeiaaW.PrintWords Go.Proofs.YtpchkligbfmeiaaW.PrintLast Go.Proofs.YtpchkligbfmeiaaW.PrintMore
open Go.WideShapes Go.ChangeShapes
set_option linter.unusedVariables false
set_option linter.unusedSimpArgs false
/-- An act. -/
structure ActM where
  d : Int
  i : Int
  n : Int
  xs : List ByteArray
  ys : List Int
/-- Its two rows stand behind these. -/
structure Legs (w : World) (a : ActM) (A1 : Option Addr) (c1 : Nat) (A2 : Option Addr) (c2 : Nat) : Prop where
  le1 : a.xs.length ≤ c1
  le2 : a.ys.length ≤ c2
  x : Kd.string.C w A1 a.xs.length a.xs
  y : (Kd.int .i64).C w A2 a.ys.length a.ys
theorem Legs.below {w w' : World} {a : ActM} {A1 A2 : Option Addr} {c1 c2 : Nat} (h : Legs w a A1 c1 A2 c2) (hb : Below w.heap.size w w') : Legs w' a A1 c1 A2 c2 := ⟨h.le1, h.le2, Kd.C_below h.x hb, Kd.C_below h.y hb⟩
def RAct (w : World) (a : ActM) (cs : List Value) : Prop := ∃ A1 c1 A2 c2, cs = [.int .i64 a.d, .int .i64 a.i, .int .i64 a.n, .slice A1 a.xs.length c1, .slice A2 a.ys.length c2] ∧ Legs w a A1 c1 A2 c2
theorem act_at {w : World} {ad : Addr} {n : Nat} {l : List ActM} {k : Nat} {a : ActM} (h : ReadsRow (RAct w) 5 w (some ad) n l) (ha : l[k]? = some a) :
    ∃ A1 c1 A2 c2, Legs w a A1 c1 A2 c2 ∧ w.cell? (ad.add (k * 5)) = some (.int .i64 a.d) ∧ w.cell? ⟨(ad.add (k * 5)).block, (ad.add (k * 5)).off + 1, none⟩ = some (.int .i64 a.i) ∧ w.cell? ⟨(ad.add (k * 5)).block, (ad.add (k * 5)).off + 2, none⟩ = some (.int .i64 a.n) ∧
      w.cell? ⟨(ad.add (k * 5)).block, (ad.add (k * 5)).off + 3, none⟩ = some (.slice A1 a.xs.length c1) ∧ w.cell? ⟨(ad.add (k * 5)).block, (ad.add (k * 5)).off + 4, none⟩ = some (.slice A2 a.ys.length c2) := by
  have hl := (List.getElem?_eq_some_iff.1 ha).1
  obtain ⟨ad', hA, hr⟩ := h.2.2 (by have := h.1; omega)
  injection hA with hA
  subst hA
  obtain ⟨c, hc5, ⟨A1, c1, A2, c2, hc, hL⟩, hcell⟩ := hr k a ha
  subst hc
  have e : ∀ j u, ([Value.int .i64 a.d, .int .i64 a.i, .int .i64 a.n, .slice A1 a.xs.length c1, .slice A2 a.ys.length c2] : List Value)[j]? = some u → w.cell? ((ad.add (k * 5)).add j) = some u := fun j u h => by
    rw [Go.Deep.add_add]
    exact hcell j u h
  exact ⟨A1, c1, A2, c2, hL, e 0 _ rfl, e 1 _ rfl, e 2 _ rfl, e 3 _ rfl, e 4 _ rfl⟩
section
variable {H : Type} {enc : TypeId × Value → H} {w : World} {base : Nat} {spare : Nat → Bool} {held : Bool}
theorem list_of {α : Type} {P : Nat → α → Prop} : ∀ n, (∀ i, i < n → ∃ a, P i a) → ∃ l : List α, l.length = n ∧ ∀ i a, l[i]? = some a → P i a
  | 0, _ => ⟨[], rfl, fun i a h => by simp at h⟩
  | n + 1, h => by
    obtain ⟨l, hl, hp⟩ := list_of n (fun i hi => h i (by omega))
    obtain ⟨a, ha⟩ := h n (by omega)
    refine ⟨l ++ [a], by simp [hl], fun i b hb => ?_⟩
    by_cases hi : i < l.length
    · rw [List.getElem?_append_left hi] at hb
      exact hp i b hb
    · have hil := (List.getElem?_eq_some_iff.1 hb).1
      rw [List.length_append, List.length_singleton] at hil
      have : i = l.length := by omega
      subst this
      simp at hb
      subst hb
      rw [hl]
      exact ha
theorem int_of {fuel : Nat} {cs : List Value} {y : DataW H × List MemPlace} (h : DataW.trod enc Try.prog w base spare held fuel 3 cs = some y) : ∃ a, cs = [.int .i64 a] := by
  cases fuel with
  | zero => simp [DataW.trod] at h
  | succ f =>
    unfold DataW.trod at h
    rw [Try.underlying3] at h
    split at h <;> simp_all
theorem str_of {fuel : Nat} {cs : List Value} {y : DataW H × List MemPlace} (h : DataW.trod enc Try.prog w base spare held fuel 9 cs = some y) : ∃ a, cs = [.string a] := by
  cases fuel with
  | zero => simp [DataW.trod] at h
  | succ f =>
    unfold DataW.trod at h
    rw [Try.underlying9] at h
    split at h <;> simp_all
theorem cells3 : Try.prog.cellsOf 3 = 1 := by kernel_rfl
theorem cells9 : Try.prog.cellsOf 9 = 1 := by kernel_rfl
theorem cells23 : Try.prog.cellsOf 23 = 1 := by kernel_rfl
theorem cells24 : Try.prog.cellsOf 24 = 1 := by kernel_rfl
theorem cells26 : Try.prog.cellsOf 26 = 5 := by kernel_rfl
theorem strs_of {fuel : Nat} {cs : List Value} {y : DataW H × List MemPlace} (h : DataW.trod enc Try.prog w base spare held fuel 23 cs = some y) : ∃ (xs : List ByteArray) (A : Option Addr) (c : Nat), cs = [.slice A xs.length c] ∧ xs.length ≤ c ∧ Kd.string.C w A xs.length xs := by
  rcases Deep.open_slice1 Try.underlying23 cells9 h with ⟨h0, _⟩ | ⟨a, len, cap, m, k, V, D, Pl, hcs, hb, hl, hm, hmm, hx, hi⟩
  · exact ⟨[], none, 0, h0, Nat.le_refl _, rfl, by decide, fun hp => by simp at hp⟩
  · have hnm : len ≤ m := by rw [hmm]; split <;> omega
    obtain ⟨xs, hxl, hp⟩ := list_of (P := fun i (q : ByteArray) => w.cell? (a.add i) = some (.string q)) len (fun i hin => by
      obtain ⟨hc, ht⟩ := hi i (by omega)
      obtain ⟨q, hq⟩ := str_of ht
      injection hq with hq
      exact ⟨q, by rw [hc, hq]⟩)
    refine ⟨xs, some a, cap, by rw [hxl]; exact hcs, by omega, rfl, by have : cap ≤ maxLen := hm; unfold maxLen at this; omega, fun _ => ⟨a, rfl, fun j q hq => ⟨[.string q], rfl, rfl, fun i u hu => ?_⟩⟩⟩
    cases i with
    | zero =>
      have e : Value.string q = u := by simpa using hu
      rw [← e]
      have := hp j q hq
      simpa [Kd.string, Kd.scalar] using this
    | succ i => simp at hu
theorem ints_of {fuel : Nat} {cs : List Value} {y : DataW H × List MemPlace} (h : DataW.trod enc Try.prog w base spare held fuel 24 cs = some y) : ∃ (xs : List Int) (A : Option Addr) (c : Nat), cs = [.slice A xs.length c] ∧ xs.length ≤ c ∧ (Kd.int .i64).C w A xs.length xs := by
  rcases Deep.open_slice1 Try.underlying24 cells3 h with ⟨h0, _⟩ | ⟨a, len, cap, m, k, V, D, Pl, hcs, hb, hl, hm, hmm, hx, hi⟩
  · exact ⟨[], none, 0, h0, Nat.le_refl _, rfl, by decide, fun hp => by simp at hp⟩
  · have hnm : len ≤ m := by rw [hmm]; split <;> omega
    obtain ⟨xs, hxl, hp⟩ := list_of (P := fun i (q : Int) => w.cell? (a.add i) = some (.int .i64 q)) len (fun i hin => by
      obtain ⟨hc, ht⟩ := hi i (by omega)
      obtain ⟨q, hq⟩ := int_of ht
      injection hq with hq
      exact ⟨q, by rw [hc, hq]⟩)
    refine ⟨xs, some a, cap, by rw [hxl]; exact hcs, by omega, rfl, by have : cap ≤ maxLen := hm; unfold maxLen at this; omega, fun _ => ⟨a, rfl, fun j q hq => ⟨[.int .i64 q], rfl, rfl, fun i u hu => ?_⟩⟩⟩
    cases i with
    | zero =>
      have e : Value.int .i64 q = u := by simpa using hu
      rw [← e]
      have := hp j q hq
      simpa [Kd.int, Kd.scalar] using this
    | succ i => simp at hu
theorem act_of {fuel : Nat} {cs : List Value} {y : DataW H × List MemPlace} (h : DataW.trod enc Try.prog w base spare held fuel 26 cs = some y) : ∃ a : ActM, RAct w a cs := by
  obtain ⟨zs, n, _, hx, hl, hlen, hf⟩ := DataW.trod_struct Try.underlying26 h
  rw [cells26] at hl
  match zs, hlen with
  | [y0, y1, y2, y3, y4], _ =>
    have t0 := hf 0 _ rfl
    have t1 := hf 1 _ rfl
    have t2 := hf 2 _ rfl
    have t3 := hf 3 _ rfl
    have t4 := hf 4 _ rfl
    match cs, hl with
    | [b0, b1, b2, b3, b4], _ =>
      simp [cells3, cells23, cells24] at t0 t1 t2 t3 t4
      obtain ⟨d, hd⟩ := int_of t0
      obtain ⟨i, hi⟩ := int_of t1
      obtain ⟨m, hm⟩ := int_of t2
      obtain ⟨xs, A1, c1, h1, l1, C1⟩ := strs_of t3
      obtain ⟨ys, A2, c2, h2, l2, C2⟩ := ints_of t4
      injection hd with hd
      injection hi with hi
      injection hm with hm
      injection h1 with h1
      injection h2 with h2
      subst hd hi hm h1 h2
      exact ⟨⟨d, i, m, xs, ys⟩, A1, c1, A2, c2, rfl, l1, l2, C1, C2⟩
theorem acts_of {fuel : Nat} {A : Option Addr} {n c : Nat} {y : DataW H × List MemPlace} (h : DataW.trod enc Try.prog w base spare held fuel 22 [.slice A n c] = some y) : ∃ l : List ActM, ReadsRow (RAct w) 5 w A n l := by
  rcases Deep.open_slice Try.underlying22 h with ⟨h0, _⟩ | ⟨a, len, cap, m, k, D, Pl, hcs, hb, hl, hm, hmm, hx, hi⟩
  · injection h0 with h0
    injection h0 with h1 h2 h3
    exact ⟨[], by rw [h2]; rfl, by omega, fun hp => by omega⟩
  · injection hcs with hcs
    injection hcs with h1 h2 h3
    subst h1; subst h2; subst h3
    rw [cells26] at hi
    have hnm : n ≤ m := by rw [hmm]; split <;> omega
    obtain ⟨l, hll, hp⟩ := list_of (P := fun i (q : ActM) => ∃ cs, cs.length = 5 ∧ RAct w q cs ∧ ∀ j u, cs[j]? = some u → w.cell? (a.add (i * 5 + j)) = some u) n (fun i hin => by
      obtain ⟨cs', hc, ht⟩ := hi i (by omega)
      obtain ⟨_, hcl, hat⟩ := World.cells?_some hc
      obtain ⟨q, hq⟩ := act_of ht
      refine ⟨q, cs', hcl, hq, fun j u hu => ?_⟩
      have hj : j < 5 := by rw [← hcl]; exact (List.getElem?_eq_some_iff.1 hu).1
      rw [← Go.Deep.add_add, hat j hj]
      exact hu)
    exact ⟨l, hll, by have : c ≤ maxLen := hm; unfold maxLen at this; omega, fun _ => ⟨a, rfl, fun j q hq => hp j q hq⟩⟩
end
end Go.Proofs.Ytpchkligbfmeiaa.Se
