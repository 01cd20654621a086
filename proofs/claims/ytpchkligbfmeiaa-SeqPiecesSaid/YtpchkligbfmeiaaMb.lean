/- What stays while a row is changed: helpers for SeqMeanwhile and SeqPieces. -/
import Derived.Test.YtpchkligbfmeiaaNi
import Derived.Test.YtpchkligbfmeiaaRg
import Derived.Test.YtpchkligbfmeiaaGr
import Derived.RangeFuncBox
namespace Go.Proofs.Ytpchkligbfmeiaa.Se
open Go.RowKit Go.Shelf Go.Proofs.YtpchkligbfmeiaaW.PrintWords Go.Proofs.YtpchkligbfmeiaaW.PrintLast Go.Proofs.YtpchkligbfmeiaaW.PrintMore
set_option linter.unusedVariables false
set_option linter.unusedSimpArgs false
theorem reads_below {w w' : World} {A : Option Addr} {n : Nat} {l : List ActM} (h : ReadsRow (RAct w) 5 w A n l) (hb : Below w.heap.size w w') : ReadsRow (RAct w') 5 w' A n l :=
  ⟨h.1, h.2.1, fun hp => by
    obtain ⟨ad, hA, hr⟩ := h.2.2 hp
    refine ⟨ad, hA, fun k a ha => ?_⟩
    obtain ⟨cs, hc5, ⟨A1, c1, A2, c2, hc, hL⟩, hcell⟩ := hr k a ha
    exact ⟨cs, hc5, ⟨A1, c1, A2, c2, hc, hL.below hb⟩, fun j u hu => pw_cell_below hb (hcell j u hu)⟩⟩
theorem SAt.self {w : World} {B p : Nat} {l : Items} (h : SAt w B p l) : SAt w p p l := by
  obtain ⟨t, v, h1, h2, h3, h4, h5⟩ := h.out
  exact ⟨⟨t, v, h1, h2, h3, h4, Nat.le_refl _⟩⟩
/-- Whatever lay below n is as it was but for block p. -/
structure GB (p n : Nat) (w w' : World) : Prop where
  os : w'.os = w.os
  tape : w'.tape = w.tape
  output : w'.output = w.output
  size : w.heap.size ≤ w'.heap.size
  block : ∀ k, k < n → k ≠ p → w'.heap[k]? = w.heap[k]?
theorem GB.refl (p n : Nat) (w : World) : GB p n w w := ⟨rfl, rfl, rfl, Nat.le_refl _, fun _ _ _ => rfl⟩
theorem GB.trans {p n : Nat} {a b c : World} (h : GB p n a b) (k : GB p n b c) : GB p n a c :=
  ⟨k.os.trans h.os, k.tape.trans h.tape, k.output.trans h.output, Nat.le_trans h.size k.size, fun i hi hne => (k.block i hi hne).trans (h.block i hi hne)⟩
theorem GB.mono {p n m : Nat} {a b : World} (h : GB p n a b) (hm : m ≤ n) : GB p m a b := ⟨h.os, h.tape, h.output, h.size, fun i hi hne => h.block i (by omega) hne⟩
theorem KG.gb {p n : Nat} {a b : World} (h : KG p a b) (hn : n ≤ a.heap.size) : GB p n a b := ⟨h.g.os, h.g.tape, h.g.output, h.g.size, fun i hi hne => h.g.block i (by omega) (by simpa using hne)⟩
theorem GB.of_below {p n : Nat} {a b : World} (h : Below n a b) : GB p n a b := ⟨h.os, h.tape, h.output, h.size, fun i hi _ => h.block i hi⟩
theorem GB.below {p n m : Nat} {a b : World} (h : GB p n a b) (hm : m ≤ n) (hp : m ≤ p) : Below m a b := ⟨h.os, h.tape, h.output, h.size, fun i hi => h.block i (by omega) (by omega)⟩
theorem GB.setCell {p n : Nat} {a b : World} (h : GB p n a b) {q : Addr} (hq : n ≤ q.block) (v : Value) : GB p n a (b.setCell q v) :=
  h.trans (GB.of_below ((Below.refl n b).setCell hq v))
theorem GB.cell {p n : Nat} {a b : World} (h : GB p n a b) {x : Addr} {v : Value} (hx : x.block < n) (hne : x.block ≠ p) (hc : a.cell? x = some v) : b.cell? x = some v :=
  (World.cell?_of_block (h.block _ hx hne)).trans hc
theorem GB.own {β : Type} {p n B : Nat} {w₀ : World} (h0 : n ≤ w₀.heap.size) (hn : n ≤ B) : OwnFrom B (fun (_ : β) W => GB p n w₀ W) := fun s W W' row hs hg hr =>
  hs.trans ⟨hg.os, hg.tape, hg.output, hg.size, fun i hi hne => hg.block i (by have := hs.size; omega) (fun e => by
    have := (hr i e.symm).1
    omega)⟩
theorem KG.cell {p : Nat} {a b : World} (h : KG p a b) {x : Addr} {v : Value} (hne : x.block ≠ p) (hc : a.cell? x = some v) : b.cell? x = some v :=
  h.g.cell hc (by simpa using hne)
/-- A row stays where no cells turn. -/
theorem SAt.kept {W W' : World} {row : Option Nat} {B p : Nat} {l : Items} (h : SAt W B p l) (hg : W.grownBy W' row) (hr : ∀ r, row = some r → ∃ o : Obj, W.heap[r]? = some o ∧ o.isCells = false) : SAt W' B p l := by
  obtain ⟨t, v, h1, h2, h3, h4, h5⟩ := h.out
  exact ⟨⟨t, v, row_kept h1 hg hr, h2.keep (fun k row hk => row_kept hk hg hr), h3, h4, h5⟩⟩
/-- .. and where a box is written. -/
theorem SAt.box {W : World} {b B p : Nat} {l : Items} {u : Value} {t : TypeId} (h : SAt W B p l) (hb : W.heap[b]? = some (.cells #[u] t (0, 0))) (h48 : t ≠ 48) (h58 : t ≠ 58) (v : Value) : SAt (W.setCell ⟨b, 0, none⟩ v) B p l := by
  obtain ⟨t', v', h1, h2, h3, h4, h5⟩ := h.out
  have hpb : p ≠ b := blk_ne h1 hb (fun e => h48 e.symm)
  refine ⟨⟨t', v', blk_far h1 hpb _, h2.keep (fun k row hk => ?_), h3, h4, h5⟩⟩
  exact blk_far hk (blk_ne hk hb (fun e => h58 e.symm)) _
theorem k58_box {W : World} {b : Nat} {u : Value} {t : TypeId} (hb : W.heap[b]? = some (.cells #[u] t (0, 0))) (h58 : t ≠ 58) (v : Value) : K58 W (W.setCell ⟨b, 0, none⟩ v) :=
  fun k row hk => blk_far hk (blk_ne hk hb (fun e => h58 e.symm)) _
/-- A row of another kind grows: all nodes lie as they lay. -/
theorem k58_appended {W w1 : World} {n₀ B : Nat} {t e : TypeId} {size : Nat} {v v' : Value} {k : Nat} {xs : List Value} {tmp : Obj}
    (hv1 : Boxed w1 B t v) (ht : t ≠ 58) (he : e ≠ 58) (hrow : W.ownsRow n₀ e size v k xs) (hgrow : (W.alloc tmp).grownBy w1 v.ownBlock) : K58 W (w1.setCell ⟨B, 0, none⟩ v') := by
  refine K58.trans (fun i row hi => ?_) (k58_box hv1 ht v')
  have h1 : (W.alloc tmp).heap[i]? = some (.cells row 58 (0, 0)) := (Below.heap_alloc W tmp i (blk_lt hi)).trans hi
  refine (hgrow.block i (blk_lt h1) (fun e' => ?_)).trans h1
  rcases hrow.2 with ⟨rfl, _⟩ | ⟨g, cap, cur, rfl, _, hgb, _⟩
  · simp [Value.ownBlock] at e'
  · obtain rfl : i = g := by simpa [Value.ownBlock] using e'
    rw [hi] at hgb
    injection hgb with hgb
    injection hgb with _ hgb
    exact he hgb.symm
theorem KG.others {p B : Nat} {a b : World} {l : Items} (h : KG p a b) (hs : SAt a B p l) : KeepsOthers a b :=
  KeepsOthers.of_grownBy h.g (fun j o e hj => by
    cases e
    obtain ⟨t, v, h1, _⟩ := hs.out
    rw [h1] at hj
    cases hj
    rfl)
theorem numb_get : ∀ (a : Int) (l : Items) (k : Nat) (y : NItem), (numb a l)[k]? = some y → y.1 = a + (k : Int)
  | _, [], _, _, h => by simp [numb] at h
  | a, x :: l, 0, y, h => by
    simp [numb] at h
    subst h
    simp
  | a, x :: l, k + 1, y, h => by
    have := numb_get (a + 1) l k y (by simpa [numb] using h)
    omega
theorem prefix_snoc {α : Type} {pre l : List α} {y : α} (h : pre <+: l) (hy : l[pre.length]? = some y) : pre ++ [y] <+: l := by
  obtain ⟨r, rfl⟩ := h
  rw [List.getElem?_append_right (Nat.le_refl _), Nat.sub_self] at hy
  cases r with
  | nil => simp at hy
  | cons z r =>
    simp at hy
    subst hy
    exact ⟨r, by simp⟩
theorem prefix_last {α : Type} {pre l : List α} {x y : α} (h : pre ++ [x] <+: l) (hy : l[pre.length]? = some y) : x = y := by
  obtain ⟨r, rfl⟩ := h
  simpa using hy
theorem add_block (ad : Addr) (k : Nat) : (ad.add k).block = ad.block := by unfold Addr.add; split <;> rfl
theorem nilX (w : World) : Kd.string.C w none 0 [] := ⟨rfl, by decide, fun hp => by simp at hp⟩
theorem nilY (w : World) : (Kd.int .i64).C w none 0 [] := ⟨rfl, by decide, fun hp => by simp at hp⟩
/-- The strings that a slice owns, read off its cells. -/
theorem row_cells {w : World} {base : Nat} {v : Value} {ys : List NItem} (h : w.ownsRow base 9 1 v ys.length (ys.map fun x => Value.string x.2)) :
    ∃ A c, v = .slice A ys.length c ∧ ∀ (k : Nat) (q : NItem), ys[k]? = some q → ∃ ad : Addr, A = some ad ∧ ad.block < w.heap.size ∧ (∃ cur, w.heap[ad.block]? = some (.cells cur 9 (0, 0))) ∧ w.cell? (ad.add k) = some (.string q.2) := by
  rcases h.2 with ⟨rfl, h0⟩ | ⟨g, cap, cur, rfl, _, hg, hle, _, hsz, htk⟩
  · exact ⟨none, 0, by rw [h0], fun k q hq => by
      have := (List.getElem?_eq_some_iff.1 hq).1
      omega⟩
  · refine ⟨some ⟨g, 0, none⟩, cap, rfl, fun k q hq => ⟨_, rfl, blk_lt hg, ⟨cur, hg⟩, ?_⟩⟩
    have hk := (List.getElem?_eq_some_iff.1 hq).1
    rw [add_plain, cell_of_row w g k cur 9 (0, 0) hg]
    have h2 : (cur.toList.take (ys.length * 1))[k]? = some (Value.string q.2) := by
      rw [htk]
      simp [hq]
    rw [List.getElem?_take_of_lt (by omega)] at h2
    simpa using h2
end Go.Proofs.Ytpchkligbfmeiaa.Se
