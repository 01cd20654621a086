/- MdemphKnown walked. -/
import Derived.Test.YtjfpkldknchnkaaKa
namespace Go.Proofs.Ytjfpkldknchnkaa.Me
open Go.RowKit Go.Proofs.YtjfpkldknchnkaaW.PrintWords Go.Proofs.YtjfpkldknchnkaaW.PrintLast Go.Proofs.YtjfpkldknchnkaaW.PrintMore
attribute [local go_sem] max2_int min2_int max_two min_two max_three min_three max_four min_four
set_option linter.unusedVariables false
set_option linter.unusedSimpArgs false
def allocs : World → List Obj → World
  | w, [] => w
  | w, o :: l => allocs (w.alloc o) l
theorem allocs_ok : ∀ (l : List Obj) (w : World), (∀ i o, l[i]? = some o → (allocs w l).heap[w.heap.size + i]? = some o) ∧ Below w.heap.size w (allocs w l)
  | [], w => ⟨fun i o h => by simp at h, Below.refl _ w⟩
  | o :: l, w => by
    obtain ⟨h1, h2⟩ := allocs_ok l (w.alloc o)
    have hs : (w.alloc o).heap.size = w.heap.size + 1 := by simp
    have hb : Below w.heap.size w (w.alloc o) := below_alloc (Below.refl _ w) _
    refine ⟨fun i x hx => ?_, hb.trans (h2.mono (by omega))⟩
    cases i with
    | zero =>
      simp at hx
      subst hx
      exact (h2.block w.heap.size (by omega)).trans (heap_alloc_new _ _)
    | succ i =>
      have := h1 i x (by simpa using hx)
      rw [hs, show w.heap.size + 1 + i = w.heap.size + (i + 1) by omega] at this
      exact this
theorem alloc_size {w v : World} {o : Obj} {b : Nat} (h : w.alloc o = v) (hb : w.heap.size = b) : v.heap.size = b + 1 := by rw [← h]; simp [hb]
/-- A row of the table, in memory. -/
def RowAt (W : World) (tb : Nat) (k : Nat) : Prop := ∃ s l A n c, tab[k]? = some (s, l) ∧ W.cell? ⟨tb, k * 2, none⟩ = some (.string s) ∧ W.cell? ⟨tb, k * 2 + 1, none⟩ = some (.slice A n c) ∧ ReadsRow RPr 3 W A n l
theorem row_pairs {w : World} {g : Nat} (l : List Pr) (cs : Array Value) (h : ∀ k x, l[k]? = some x → ∀ j u, (prc x).toList[j]? = some u → cs[k * 3 + j]? = some u) (hb : w.heap[g]? = some (.cells cs 39 (0, 0))) (hz : l.length < 9223372036854775807) : ReadsRow RPr 3 w (some ⟨g, 0, none⟩) l.length l :=
  ⟨rfl, by omega, fun _ => ⟨_, rfl, fun k a ha => ⟨(prc a).toList, rfl, rfl, fun j u hu => by
    rw [add_plain, cell_of_row _ _ _ _ _ _ hb]
    exact h k a ha j u hu⟩⟩⟩
theorem row_nilp {w : World} : ReadsRow RPr 3 w none 0 [] := ⟨rfl, by decide, fun h => by omega⟩
theorem one_p (x : Pr) : ∀ k y, [x][k]? = some y → ∀ j u, (prc y).toList[j]? = some u → (#[.int .i64 x.a, .int .i64 x.b, .bool x.s] : Array Value)[k * 3 + j]? = some u := by
  intro k y hy j u hu
  match k, hy with
  | 0, hy =>
    simp at hy
    subst hy
    match j, hu with
    | 0, hu => exact hu
    | 1, hu => exact hu
    | 2, hu => exact hu
theorem two_p (x z : Pr) : ∀ k y, [x, z][k]? = some y → ∀ j u, (prc y).toList[j]? = some u → (#[.int .i64 x.a, .int .i64 x.b, .bool x.s, .int .i64 z.a, .int .i64 z.b, .bool z.s] : Array Value)[k * 3 + j]? = some u := by
  intro k y hy j u hu
  match k, hy with
  | 0, hy =>
    simp at hy
    subst hy
    match j, hu with
    | 0, hu => exact hu
    | 1, hu => exact hu
    | 2, hu => exact hu
  | 1, hy =>
    simp at hy
    subst hy
    match j, hu with
    | 0, hu => exact hu
    | 1, hu => exact hu
    | 2, hu => exact hu
theorem three_p (x z v : Pr) : ∀ k y, [x, z, v][k]? = some y → ∀ j u, (prc y).toList[j]? = some u → (#[.int .i64 x.a, .int .i64 x.b, .bool x.s, .int .i64 z.a, .int .i64 z.b, .bool z.s, .int .i64 v.a, .int .i64 v.b, .bool v.s] : Array Value)[k * 3 + j]? = some u := by
  intro k y hy j u hu
  match k, hy with
  | 0, hy =>
    simp at hy
    subst hy
    match j, hu with
    | 0, hu => exact hu
    | 1, hu => exact hu
    | 2, hu => exact hu
  | 1, hy =>
    simp at hy
    subst hy
    match j, hu with
    | 0, hu => exact hu
    | 1, hu => exact hu
    | 2, hu => exact hu
  | 2, hy =>
    simp at hy
    subst hy
    match j, hu with
    | 0, hu => exact hu
    | 1, hu => exact hu
    | 2, hu => exact hu
theorem tab_at (W : World) (b : Nat) (h0 : W.heap[b]? = some (.cells #[.int .i64 0, .int .i64 3, .bool false] 39 (0, 0))) (h1 : W.heap[b + 1]? = some (.cells #[.int .i64 0, .int .i64 5, .bool true] 39 (0, 0))) (h2 : W.heap[b + 2]? = some (.cells #[.int .i64 0, .int .i64 7, .bool false, .int .i64 1, .int .i64 6, .bool true] 39 (0, 0))) (h3 : W.heap[b + 3]? = some (.cells #[.int .i64 1, .int .i64 4, .bool false] 39 (0, 0))) (h4 : W.heap[b + 4]? = some (.cells #[.int .i64 0, .int .i64 11, .bool false, .int .i64 3, .int .i64 10, .bool false, .int .i64 4, .int .i64 7, .bool false] 39 (0, 0))) (h5 : W.heap[b + 5]? = some (.cells #[.int .i64 1, .int .i64 4, .bool false] 39 (0, 0))) (h6 : W.heap[b + 6]? = some (.cells #[.int .i64 0, .int .i64 3, .bool false] 39 (0, 0))) (h7 : W.heap[b + 7]? = some (.cells #[.int .i64 0, .int .i64 6, .bool false] 39 (0, 0))) (h8 : W.heap[b + 8]? = some (.cells #[.int .i64 0, .int .i64 5, .bool false] 39 (0, 0))) (h9 : W.heap[b + 9]? = some (.cells #[.int .i64 0, .int .i64 5, .bool false] 39 (0, 0))) (h10 : W.heap[b + 10]? = some (.cells #[.int .i64 0, .int .i64 4, .bool false] 39 (0, 0))) (h11 : W.heap[b + 11]? = some (.cells #[.int .i64 0, .int .i64 6, .bool false] 39 (0, 0))) (h12 : W.heap[b + 12]? = some (.cells #[.int .i64 1, .int .i64 7, .bool false] 39 (0, 0))) (h13 : W.heap[b + 13]? = some (.cells #[.int .i64 0, .int .i64 9, .bool true, .int .i64 2, .int .i64 7, .bool true] 39 (0, 0))) (h14 : W.heap[b + 14]? = some (.cells #[.int .i64 0, .int .i64 9, .bool false, .int .i64 2, .int .i64 7, .bool true] 39 (0, 0))) (h15 : W.heap[b + 15]? = some (.cells #[.int .i64 0, .int .i64 7, .bool true] 39 (0, 0))) (h16 : W.heap[b + 16]? = some (.cells #[.int .i64 0, .int .i64 9, .bool true, .int .i64 2, .int .i64 5, .bool false] 39 (0, 0))) (h17 : W.heap[b + 17]? = some (.cells #[.int .i64 0, .int .i64 9, .bool false, .int .i64 1, .int .i64 6, .bool true] 39 (0, 0))) (h18 : W.heap[b + 18]? = some (.cells #[.int .i64 0, .int .i64 3, .bool false] 39 (0, 0))) (ht : W.heap[b + 19]? = some (.cells #[.string ⟨#[42, 97, 42]⟩, .slice (some ⟨b, 0, none⟩) 1 1, .string ⟨#[42, 42, 97, 42, 42]⟩, .slice (some ⟨b + 1, 0, none⟩) 1 1, .string ⟨#[42, 42, 42, 97, 42, 42, 42]⟩, .slice (some ⟨b + 2, 0, none⟩) 2 2, .string ⟨#[97, 95, 98, 95, 99]⟩, .slice none 0 0, .string ⟨#[97, 42, 98, 42, 99]⟩, .slice (some ⟨b + 3, 0, none⟩) 1 1, .string ⟨#[42, 97, 32, 42, 42, 98, 42, 32, 99, 42, 42]⟩, .slice (some ⟨b + 4, 0, none⟩) 3 3, .string ⟨#[42, 42, 97, 42]⟩, .slice (some ⟨b + 5, 0, none⟩) 1 1, .string ⟨#[42, 97, 42, 42]⟩, .slice (some ⟨b + 6, 0, none⟩) 1 1, .string ⟨#[42, 97, 42, 42, 98, 42]⟩, .slice (some ⟨b + 7, 0, none⟩) 1 1, .string ⟨#[97, 42, 32, 98, 42]⟩, .slice none 0 0, .string ⟨#[95, 97, 95, 98, 95]⟩, .slice (some ⟨b + 8, 0, none⟩) 1 1, .string ⟨#[95, 40, 97, 41, 95]⟩, .slice (some ⟨b + 9, 0, none⟩) 1 1, .string ⟨#[42, 40, 97, 42, 41]⟩, .slice (some ⟨b + 10, 0, none⟩) 1 1, .string ⟨#[42, 97, 32, 95, 98, 42, 32, 99, 95]⟩, .slice (some ⟨b + 11, 0, none⟩) 1 1, .string ⟨#[42, 42, 97, 32, 95, 98, 42, 32, 99, 95]⟩, .slice (some ⟨b + 12, 0, none⟩) 1 1, .string ⟨#[42, 42, 42, 42, 97, 42, 42, 42, 42]⟩, .slice (some ⟨b + 13, 0, none⟩) 2 2, .string ⟨#[42, 97, 42, 42, 98, 42, 42, 99, 42]⟩, .slice (some ⟨b + 14, 0, none⟩) 2 2, .string ⟨#[42, 42, 97, 42, 98, 42, 42]⟩, .slice (some ⟨b + 15, 0, none⟩) 1 1, .string ⟨#[42, 42, 42, 97, 42, 32, 98, 42, 42]⟩, .slice (some ⟨b + 16, 0, none⟩) 2 2, .string ⟨#[42, 42, 42, 97, 42, 42, 32, 98, 42]⟩, .slice (some ⟨b + 17, 0, none⟩) 2 2, .string ⟨#[42, 32, 97, 32, 42]⟩, .slice none 0 0, .string ⟨#[42, 128, 42]⟩, .slice (some ⟨b + 18, 0, none⟩) 1 1, .string ⟨#[97, 42, 42, 98, 42]⟩, .slice none 0 0] 49 (0, 0))) : ∀ k, k < 23 → RowAt W (b + 19) k := by
  intro k hk
  match k, hk with
  | 0, _ => exact ⟨_, _, _, _, _, rfl, cell_of_row _ _ _ _ _ _ ht, cell_of_row _ _ _ _ _ _ ht, row_pairs [⟨0, 3, false⟩] _ (one_p ⟨0, 3, false⟩) h0 (by decide)⟩
  | 1, _ => exact ⟨_, _, _, _, _, rfl, cell_of_row _ _ _ _ _ _ ht, cell_of_row _ _ _ _ _ _ ht, row_pairs [⟨0, 5, true⟩] _ (one_p ⟨0, 5, true⟩) h1 (by decide)⟩
  | 2, _ => exact ⟨_, _, _, _, _, rfl, cell_of_row _ _ _ _ _ _ ht, cell_of_row _ _ _ _ _ _ ht, row_pairs [⟨0, 7, false⟩, ⟨1, 6, true⟩] _ (two_p ⟨0, 7, false⟩ ⟨1, 6, true⟩) h2 (by decide)⟩
  | 3, _ => exact ⟨_, _, _, _, _, rfl, cell_of_row _ _ _ _ _ _ ht, cell_of_row _ _ _ _ _ _ ht, row_nilp⟩
  | 4, _ => exact ⟨_, _, _, _, _, rfl, cell_of_row _ _ _ _ _ _ ht, cell_of_row _ _ _ _ _ _ ht, row_pairs [⟨1, 4, false⟩] _ (one_p ⟨1, 4, false⟩) h3 (by decide)⟩
  | 5, _ => exact ⟨_, _, _, _, _, rfl, cell_of_row _ _ _ _ _ _ ht, cell_of_row _ _ _ _ _ _ ht, row_pairs [⟨0, 11, false⟩, ⟨3, 10, false⟩, ⟨4, 7, false⟩] _ (three_p ⟨0, 11, false⟩ ⟨3, 10, false⟩ ⟨4, 7, false⟩) h4 (by decide)⟩
  | 6, _ => exact ⟨_, _, _, _, _, rfl, cell_of_row _ _ _ _ _ _ ht, cell_of_row _ _ _ _ _ _ ht, row_pairs [⟨1, 4, false⟩] _ (one_p ⟨1, 4, false⟩) h5 (by decide)⟩
  | 7, _ => exact ⟨_, _, _, _, _, rfl, cell_of_row _ _ _ _ _ _ ht, cell_of_row _ _ _ _ _ _ ht, row_pairs [⟨0, 3, false⟩] _ (one_p ⟨0, 3, false⟩) h6 (by decide)⟩
  | 8, _ => exact ⟨_, _, _, _, _, rfl, cell_of_row _ _ _ _ _ _ ht, cell_of_row _ _ _ _ _ _ ht, row_pairs [⟨0, 6, false⟩] _ (one_p ⟨0, 6, false⟩) h7 (by decide)⟩
  | 9, _ => exact ⟨_, _, _, _, _, rfl, cell_of_row _ _ _ _ _ _ ht, cell_of_row _ _ _ _ _ _ ht, row_nilp⟩
  | 10, _ => exact ⟨_, _, _, _, _, rfl, cell_of_row _ _ _ _ _ _ ht, cell_of_row _ _ _ _ _ _ ht, row_pairs [⟨0, 5, false⟩] _ (one_p ⟨0, 5, false⟩) h8 (by decide)⟩
  | 11, _ => exact ⟨_, _, _, _, _, rfl, cell_of_row _ _ _ _ _ _ ht, cell_of_row _ _ _ _ _ _ ht, row_pairs [⟨0, 5, false⟩] _ (one_p ⟨0, 5, false⟩) h9 (by decide)⟩
  | 12, _ => exact ⟨_, _, _, _, _, rfl, cell_of_row _ _ _ _ _ _ ht, cell_of_row _ _ _ _ _ _ ht, row_pairs [⟨0, 4, false⟩] _ (one_p ⟨0, 4, false⟩) h10 (by decide)⟩
  | 13, _ => exact ⟨_, _, _, _, _, rfl, cell_of_row _ _ _ _ _ _ ht, cell_of_row _ _ _ _ _ _ ht, row_pairs [⟨0, 6, false⟩] _ (one_p ⟨0, 6, false⟩) h11 (by decide)⟩
  | 14, _ => exact ⟨_, _, _, _, _, rfl, cell_of_row _ _ _ _ _ _ ht, cell_of_row _ _ _ _ _ _ ht, row_pairs [⟨1, 7, false⟩] _ (one_p ⟨1, 7, false⟩) h12 (by decide)⟩
  | 15, _ => exact ⟨_, _, _, _, _, rfl, cell_of_row _ _ _ _ _ _ ht, cell_of_row _ _ _ _ _ _ ht, row_pairs [⟨0, 9, true⟩, ⟨2, 7, true⟩] _ (two_p ⟨0, 9, true⟩ ⟨2, 7, true⟩) h13 (by decide)⟩
  | 16, _ => exact ⟨_, _, _, _, _, rfl, cell_of_row _ _ _ _ _ _ ht, cell_of_row _ _ _ _ _ _ ht, row_pairs [⟨0, 9, false⟩, ⟨2, 7, true⟩] _ (two_p ⟨0, 9, false⟩ ⟨2, 7, true⟩) h14 (by decide)⟩
  | 17, _ => exact ⟨_, _, _, _, _, rfl, cell_of_row _ _ _ _ _ _ ht, cell_of_row _ _ _ _ _ _ ht, row_pairs [⟨0, 7, true⟩] _ (one_p ⟨0, 7, true⟩) h15 (by decide)⟩
  | 18, _ => exact ⟨_, _, _, _, _, rfl, cell_of_row _ _ _ _ _ _ ht, cell_of_row _ _ _ _ _ _ ht, row_pairs [⟨0, 9, true⟩, ⟨2, 5, false⟩] _ (two_p ⟨0, 9, true⟩ ⟨2, 5, false⟩) h16 (by decide)⟩
  | 19, _ => exact ⟨_, _, _, _, _, rfl, cell_of_row _ _ _ _ _ _ ht, cell_of_row _ _ _ _ _ _ ht, row_pairs [⟨0, 9, false⟩, ⟨1, 6, true⟩] _ (two_p ⟨0, 9, false⟩ ⟨1, 6, true⟩) h17 (by decide)⟩
  | 20, _ => exact ⟨_, _, _, _, _, rfl, cell_of_row _ _ _ _ _ _ ht, cell_of_row _ _ _ _ _ _ ht, row_nilp⟩
  | 21, _ => exact ⟨_, _, _, _, _, rfl, cell_of_row _ _ _ _ _ _ ht, cell_of_row _ _ _ _ _ _ ht, row_pairs [⟨0, 3, false⟩] _ (one_p ⟨0, 3, false⟩) h18 (by decide)⟩
  | 22, _ => exact ⟨_, _, _, _, _, rfl, cell_of_row _ _ _ _ _ _ ht, cell_of_row _ _ _ _ _ _ ht, row_nilp⟩
  | k + 23, hk => omega
theorem RowAt.below {W W' : World} {tb k : Nat} (h : RowAt W tb k) (hb : Below W.heap.size W W') : RowAt W' tb k := by
  obtain ⟨s, l, A, n, c, h1, h2, h3, h4⟩ := h
  exact ⟨s, l, A, n, c, h1, pw_cell_below hb h2, pw_cell_below hb h3, rows_below h4 hb⟩
def OddAt (W : World) (tb : Nat) (k : Nat) : Prop := ∃ l A n c, odd[k]? = some l ∧ n ≤ 10 ∧ W.cell? ⟨tb, k, none⟩ = some (.slice A n c) ∧ ReadsRow RRn 5 W A n l
theorem OddAt.below {W W' : World} {tb k : Nat} (h : OddAt W tb k) (hb : Below W.heap.size W W') : OddAt W' tb k := by
  obtain ⟨l, A, n, c, h1, h0, h2, h4⟩ := h
  exact ⟨l, A, n, c, h1, h0, pw_cell_below hb h2, rows_below h4 hb⟩
theorem two_r (x z : Rn) : ∀ k y, [x, z][k]? = some y → ∀ j u, (rnc y).toList[j]? = some u → (#[.int .i64 x.a, .int .i64 x.n, .int .u8 x.c, .bool x.o, .bool x.k, .int .i64 z.a, .int .i64 z.n, .int .u8 z.c, .bool z.o, .bool z.k] : Array Value)[k * 5 + j]? = some u := by
  intro k y hy j u hu
  match k, hy with
  | 0, hy =>
    simp at hy
    subst hy
    match j, hu with
    | 0, hu => exact hu
    | 1, hu => exact hu
    | 2, hu => exact hu
    | 3, hu => exact hu
    | 4, hu => exact hu
  | 1, hy =>
    simp at hy
    subst hy
    match j, hu with
    | 0, hu => exact hu
    | 1, hu => exact hu
    | 2, hu => exact hu
    | 3, hu => exact hu
    | 4, hu => exact hu
theorem three_r (x z v : Rn) : ∀ k y, [x, z, v][k]? = some y → ∀ j u, (rnc y).toList[j]? = some u → (#[.int .i64 x.a, .int .i64 x.n, .int .u8 x.c, .bool x.o, .bool x.k, .int .i64 z.a, .int .i64 z.n, .int .u8 z.c, .bool z.o, .bool z.k, .int .i64 v.a, .int .i64 v.n, .int .u8 v.c, .bool v.o, .bool v.k] : Array Value)[k * 5 + j]? = some u := by
  intro k y hy j u hu
  match k, hy with
  | 0, hy =>
    simp at hy
    subst hy
    match j, hu with
    | 0, hu => exact hu
    | 1, hu => exact hu
    | 2, hu => exact hu
    | 3, hu => exact hu
    | 4, hu => exact hu
  | 1, hy =>
    simp at hy
    subst hy
    match j, hu with
    | 0, hu => exact hu
    | 1, hu => exact hu
    | 2, hu => exact hu
    | 3, hu => exact hu
    | 4, hu => exact hu
  | 2, hy =>
    simp at hy
    subst hy
    match j, hu with
    | 0, hu => exact hu
    | 1, hu => exact hu
    | 2, hu => exact hu
    | 3, hu => exact hu
    | 4, hu => exact hu
theorem odd_at (W : World) (g : Nat) (h0 : W.heap[g]? = some (.cells #[.int .i64 (-1), .int .i64 1, .int .u8 42, .bool true, .bool false, .int .i64 1, .int .i64 1, .int .u8 42, .bool false, .bool true] 23 (0, 0))) (h1 : W.heap[g + 1]? = some (.cells #[.int .i64 0, .int .i64 2, .int .u8 42, .bool true, .bool false, .int .i64 1, .int .i64 1, .int .u8 42, .bool false, .bool true] 23 (0, 0))) (h2 : W.heap[g + 2]? = some (.cells #[.int .i64 0, .int .i64 0, .int .u8 42, .bool true, .bool false, .int .i64 1, .int .i64 1, .int .u8 42, .bool false, .bool true] 23 (0, 0))) (h3 : W.heap[g + 3]? = some (.cells #[.int .i64 0, .int .i64 1, .int .u8 120, .bool true, .bool false, .int .i64 1, .int .i64 1, .int .u8 42, .bool false, .bool true] 23 (0, 0))) (h4 : W.heap[g + 4]? = some (.cells #[.int .i64 1, .int .i64 1, .int .u8 42, .bool false, .bool true, .int .i64 0, .int .i64 1, .int .u8 42, .bool true, .bool false] 23 (0, 0))) (h5 : W.heap[g + 5]? = some (.cells #[.int .i64 0, .int .i64 1, .int .u8 42, .bool true, .bool false, .int .i64 1, .int .i64 9223372036854775807, .int .u8 42, .bool false, .bool true] 23 (0, 0))) (h6 : W.heap[g + 6]? = some (.cells #[.int .i64 0, .int .i64 1, .int .u8 42, .bool true, .bool false, .int .i64 1048576, .int .i64 1, .int .u8 42, .bool false, .bool true] 23 (0, 0))) (h7 : W.heap[g + 7]? = some (.cells #[.int .i64 0, .int .i64 1, .int .u8 42, .bool true, .bool false, .int .i64 1, .int .i64 1, .int .u8 42, .bool false, .bool true, .int .i64 9223372036854775807, .int .i64 1, .int .u8 95, .bool false, .bool false] 23 (0, 0))) (ht : W.heap[g + 8]? = some (.cells #[.slice (some ⟨g, 0, none⟩) 2 2, .slice (some ⟨g + 1, 0, none⟩) 2 2, .slice (some ⟨g + 2, 0, none⟩) 2 2, .slice (some ⟨g + 3, 0, none⟩) 2 2, .slice (some ⟨g + 4, 0, none⟩) 2 2, .slice (some ⟨g + 5, 0, none⟩) 2 2, .slice (some ⟨g + 6, 0, none⟩) 2 2, .slice (some ⟨g + 7, 0, none⟩) 3 3] 31 (0, 0))) : ∀ k, k < 8 → OddAt W (g + 8) k := by
  intro k hk
  match k, hk with
  | 0, _ => exact ⟨[⟨-1, 1, 42, true, false⟩, ⟨1, 1, 42, false, true⟩], _, _, _, rfl, by decide, cell_of_row _ _ _ _ _ _ ht, row_runs W (g) [⟨-1, 1, 42, true, false⟩, ⟨1, 1, 42, false, true⟩] (by decide) _ (two_r ⟨-1, 1, 42, true, false⟩ ⟨1, 1, 42, false, true⟩) h0 (by decide)⟩
  | 1, _ => exact ⟨[⟨0, 2, 42, true, false⟩, ⟨1, 1, 42, false, true⟩], _, _, _, rfl, by decide, cell_of_row _ _ _ _ _ _ ht, row_runs W (g + 1) [⟨0, 2, 42, true, false⟩, ⟨1, 1, 42, false, true⟩] (by decide) _ (two_r ⟨0, 2, 42, true, false⟩ ⟨1, 1, 42, false, true⟩) h1 (by decide)⟩
  | 2, _ => exact ⟨[⟨0, 0, 42, true, false⟩, ⟨1, 1, 42, false, true⟩], _, _, _, rfl, by decide, cell_of_row _ _ _ _ _ _ ht, row_runs W (g + 2) [⟨0, 0, 42, true, false⟩, ⟨1, 1, 42, false, true⟩] (by decide) _ (two_r ⟨0, 0, 42, true, false⟩ ⟨1, 1, 42, false, true⟩) h2 (by decide)⟩
  | 3, _ => exact ⟨[⟨0, 1, 120, true, false⟩, ⟨1, 1, 42, false, true⟩], _, _, _, rfl, by decide, cell_of_row _ _ _ _ _ _ ht, row_runs W (g + 3) [⟨0, 1, 120, true, false⟩, ⟨1, 1, 42, false, true⟩] (by decide) _ (two_r ⟨0, 1, 120, true, false⟩ ⟨1, 1, 42, false, true⟩) h3 (by decide)⟩
  | 4, _ => exact ⟨[⟨1, 1, 42, false, true⟩, ⟨0, 1, 42, true, false⟩], _, _, _, rfl, by decide, cell_of_row _ _ _ _ _ _ ht, row_runs W (g + 4) [⟨1, 1, 42, false, true⟩, ⟨0, 1, 42, true, false⟩] (by decide) _ (two_r ⟨1, 1, 42, false, true⟩ ⟨0, 1, 42, true, false⟩) h4 (by decide)⟩
  | 5, _ => exact ⟨[⟨0, 1, 42, true, false⟩, ⟨1, 9223372036854775807, 42, false, true⟩], _, _, _, rfl, by decide, cell_of_row _ _ _ _ _ _ ht, row_runs W (g + 5) [⟨0, 1, 42, true, false⟩, ⟨1, 9223372036854775807, 42, false, true⟩] (by decide) _ (two_r ⟨0, 1, 42, true, false⟩ ⟨1, 9223372036854775807, 42, false, true⟩) h5 (by decide)⟩
  | 6, _ => exact ⟨[⟨0, 1, 42, true, false⟩, ⟨1048576, 1, 42, false, true⟩], _, _, _, rfl, by decide, cell_of_row _ _ _ _ _ _ ht, row_runs W (g + 6) [⟨0, 1, 42, true, false⟩, ⟨1048576, 1, 42, false, true⟩] (by decide) _ (two_r ⟨0, 1, 42, true, false⟩ ⟨1048576, 1, 42, false, true⟩) h6 (by decide)⟩
  | 7, _ => exact ⟨[⟨0, 1, 42, true, false⟩, ⟨1, 1, 42, false, true⟩, ⟨9223372036854775807, 1, 95, false, false⟩], _, _, _, rfl, by decide, cell_of_row _ _ _ _ _ _ ht, row_runs W (g + 7) [⟨0, 1, 42, true, false⟩, ⟨1, 1, 42, false, true⟩, ⟨9223372036854775807, 1, 95, false, false⟩] (by decide) _ (three_r ⟨0, 1, 42, true, false⟩ ⟨1, 1, 42, false, true⟩ ⟨9223372036854775807, 1, 95, false, false⟩) h7 (by decide)⟩
  | k + 8, hk => omega
set_option maxRecDepth 100000 in
set_option maxHeartbeats 32000000 in
theorem known_c (w : World) : Calls Try.prog 8 #[] w fun e w' => BoolP w true e w' := by
  obtain ⟨b, hb⟩ : ∃ q, w.heap.size = q := ⟨_, rfl⟩
  obtain ⟨v1, hv1⟩ : ∃ q, w.alloc (.cells #[.int .i64 0, .int .i64 3, .bool false] 39) = q := ⟨_, rfl⟩
  have sv1 : v1.heap.size = b + 1 := alloc_size hv1 hb
  obtain ⟨v2, hv2⟩ : ∃ q, v1.alloc (.cells #[.int .i64 0, .int .i64 5, .bool true] 39) = q := ⟨_, rfl⟩
  have sv2 : v2.heap.size = b + 2 := alloc_size hv2 sv1
  obtain ⟨v3, hv3⟩ : ∃ q, v2.alloc (.cells #[.int .i64 0, .int .i64 7, .bool false, .int .i64 1, .int .i64 6, .bool true] 39) = q := ⟨_, rfl⟩
  have sv3 : v3.heap.size = b + 3 := alloc_size hv3 sv2
  obtain ⟨v4, hv4⟩ : ∃ q, v3.alloc (.cells #[.int .i64 1, .int .i64 4, .bool false] 39) = q := ⟨_, rfl⟩
  have sv4 : v4.heap.size = b + 4 := alloc_size hv4 sv3
  obtain ⟨v5, hv5⟩ : ∃ q, v4.alloc (.cells #[.int .i64 0, .int .i64 11, .bool false, .int .i64 3, .int .i64 10, .bool false, .int .i64 4, .int .i64 7, .bool false] 39) = q := ⟨_, rfl⟩
  have sv5 : v5.heap.size = b + 5 := alloc_size hv5 sv4
  obtain ⟨v6, hv6⟩ : ∃ q, v5.alloc (.cells #[.int .i64 1, .int .i64 4, .bool false] 39) = q := ⟨_, rfl⟩
  have sv6 : v6.heap.size = b + 6 := alloc_size hv6 sv5
  obtain ⟨v7, hv7⟩ : ∃ q, v6.alloc (.cells #[.int .i64 0, .int .i64 3, .bool false] 39) = q := ⟨_, rfl⟩
  have sv7 : v7.heap.size = b + 7 := alloc_size hv7 sv6
  obtain ⟨v8, hv8⟩ : ∃ q, v7.alloc (.cells #[.int .i64 0, .int .i64 6, .bool false] 39) = q := ⟨_, rfl⟩
  have sv8 : v8.heap.size = b + 8 := alloc_size hv8 sv7
  obtain ⟨v9, hv9⟩ : ∃ q, v8.alloc (.cells #[.int .i64 0, .int .i64 5, .bool false] 39) = q := ⟨_, rfl⟩
  have sv9 : v9.heap.size = b + 9 := alloc_size hv9 sv8
  obtain ⟨v10, hv10⟩ : ∃ q, v9.alloc (.cells #[.int .i64 0, .int .i64 5, .bool false] 39) = q := ⟨_, rfl⟩
  have sv10 : v10.heap.size = b + 10 := alloc_size hv10 sv9
  obtain ⟨v11, hv11⟩ : ∃ q, v10.alloc (.cells #[.int .i64 0, .int .i64 4, .bool false] 39) = q := ⟨_, rfl⟩
  have sv11 : v11.heap.size = b + 11 := alloc_size hv11 sv10
  obtain ⟨v12, hv12⟩ : ∃ q, v11.alloc (.cells #[.int .i64 0, .int .i64 6, .bool false] 39) = q := ⟨_, rfl⟩
  have sv12 : v12.heap.size = b + 12 := alloc_size hv12 sv11
  obtain ⟨v13, hv13⟩ : ∃ q, v12.alloc (.cells #[.int .i64 1, .int .i64 7, .bool false] 39) = q := ⟨_, rfl⟩
  have sv13 : v13.heap.size = b + 13 := alloc_size hv13 sv12
  obtain ⟨v14, hv14⟩ : ∃ q, v13.alloc (.cells #[.int .i64 0, .int .i64 9, .bool true, .int .i64 2, .int .i64 7, .bool true] 39) = q := ⟨_, rfl⟩
  have sv14 : v14.heap.size = b + 14 := alloc_size hv14 sv13
  obtain ⟨v15, hv15⟩ : ∃ q, v14.alloc (.cells #[.int .i64 0, .int .i64 9, .bool false, .int .i64 2, .int .i64 7, .bool true] 39) = q := ⟨_, rfl⟩
  have sv15 : v15.heap.size = b + 15 := alloc_size hv15 sv14
  obtain ⟨v16, hv16⟩ : ∃ q, v15.alloc (.cells #[.int .i64 0, .int .i64 7, .bool true] 39) = q := ⟨_, rfl⟩
  have sv16 : v16.heap.size = b + 16 := alloc_size hv16 sv15
  obtain ⟨v17, hv17⟩ : ∃ q, v16.alloc (.cells #[.int .i64 0, .int .i64 9, .bool true, .int .i64 2, .int .i64 5, .bool false] 39) = q := ⟨_, rfl⟩
  have sv17 : v17.heap.size = b + 17 := alloc_size hv17 sv16
  obtain ⟨v18, hv18⟩ : ∃ q, v17.alloc (.cells #[.int .i64 0, .int .i64 9, .bool false, .int .i64 1, .int .i64 6, .bool true] 39) = q := ⟨_, rfl⟩
  have sv18 : v18.heap.size = b + 18 := alloc_size hv18 sv17
  obtain ⟨v19, hv19⟩ : ∃ q, v18.alloc (.cells #[.int .i64 0, .int .i64 3, .bool false] 39) = q := ⟨_, rfl⟩
  have sv19 : v19.heap.size = b + 19 := alloc_size hv19 sv18
  obtain ⟨v20, hv20⟩ : ∃ q, v19.alloc (.cells #[.string ⟨#[42, 97, 42]⟩, .slice (some ⟨b, 0, none⟩) 1 1, .string ⟨#[42, 42, 97, 42, 42]⟩, .slice (some ⟨b + 1, 0, none⟩) 1 1, .string ⟨#[42, 42, 42, 97, 42, 42, 42]⟩, .slice (some ⟨b + 2, 0, none⟩) 2 2, .string ⟨#[97, 95, 98, 95, 99]⟩, .slice none 0 0, .string ⟨#[97, 42, 98, 42, 99]⟩, .slice (some ⟨b + 3, 0, none⟩) 1 1, .string ⟨#[42, 97, 32, 42, 42, 98, 42, 32, 99, 42, 42]⟩, .slice (some ⟨b + 4, 0, none⟩) 3 3, .string ⟨#[42, 42, 97, 42]⟩, .slice (some ⟨b + 5, 0, none⟩) 1 1, .string ⟨#[42, 97, 42, 42]⟩, .slice (some ⟨b + 6, 0, none⟩) 1 1, .string ⟨#[42, 97, 42, 42, 98, 42]⟩, .slice (some ⟨b + 7, 0, none⟩) 1 1, .string ⟨#[97, 42, 32, 98, 42]⟩, .slice none 0 0, .string ⟨#[95, 97, 95, 98, 95]⟩, .slice (some ⟨b + 8, 0, none⟩) 1 1, .string ⟨#[95, 40, 97, 41, 95]⟩, .slice (some ⟨b + 9, 0, none⟩) 1 1, .string ⟨#[42, 40, 97, 42, 41]⟩, .slice (some ⟨b + 10, 0, none⟩) 1 1, .string ⟨#[42, 97, 32, 95, 98, 42, 32, 99, 95]⟩, .slice (some ⟨b + 11, 0, none⟩) 1 1, .string ⟨#[42, 42, 97, 32, 95, 98, 42, 32, 99, 95]⟩, .slice (some ⟨b + 12, 0, none⟩) 1 1, .string ⟨#[42, 42, 42, 42, 97, 42, 42, 42, 42]⟩, .slice (some ⟨b + 13, 0, none⟩) 2 2, .string ⟨#[42, 97, 42, 42, 98, 42, 42, 99, 42]⟩, .slice (some ⟨b + 14, 0, none⟩) 2 2, .string ⟨#[42, 42, 97, 42, 98, 42, 42]⟩, .slice (some ⟨b + 15, 0, none⟩) 1 1, .string ⟨#[42, 42, 42, 97, 42, 32, 98, 42, 42]⟩, .slice (some ⟨b + 16, 0, none⟩) 2 2, .string ⟨#[42, 42, 42, 97, 42, 42, 32, 98, 42]⟩, .slice (some ⟨b + 17, 0, none⟩) 2 2, .string ⟨#[42, 32, 97, 32, 42]⟩, .slice none 0 0, .string ⟨#[42, 128, 42]⟩, .slice (some ⟨b + 18, 0, none⟩) 1 1, .string ⟨#[97, 42, 42, 98, 42]⟩, .slice none 0 0] 49) = q := ⟨_, rfl⟩
  have sv20 : v20.heap.size = b + 20 := alloc_size hv20 sv19
  obtain ⟨vL, hvL⟩ : ∃ q : List Obj, q = [.cells #[.int .i64 0, .int .i64 3, .bool false] 39, .cells #[.int .i64 0, .int .i64 5, .bool true] 39, .cells #[.int .i64 0, .int .i64 7, .bool false, .int .i64 1, .int .i64 6, .bool true] 39, .cells #[.int .i64 1, .int .i64 4, .bool false] 39, .cells #[.int .i64 0, .int .i64 11, .bool false, .int .i64 3, .int .i64 10, .bool false, .int .i64 4, .int .i64 7, .bool false] 39, .cells #[.int .i64 1, .int .i64 4, .bool false] 39, .cells #[.int .i64 0, .int .i64 3, .bool false] 39, .cells #[.int .i64 0, .int .i64 6, .bool false] 39, .cells #[.int .i64 0, .int .i64 5, .bool false] 39, .cells #[.int .i64 0, .int .i64 5, .bool false] 39, .cells #[.int .i64 0, .int .i64 4, .bool false] 39, .cells #[.int .i64 0, .int .i64 6, .bool false] 39, .cells #[.int .i64 1, .int .i64 7, .bool false] 39, .cells #[.int .i64 0, .int .i64 9, .bool true, .int .i64 2, .int .i64 7, .bool true] 39, .cells #[.int .i64 0, .int .i64 9, .bool false, .int .i64 2, .int .i64 7, .bool true] 39, .cells #[.int .i64 0, .int .i64 7, .bool true] 39, .cells #[.int .i64 0, .int .i64 9, .bool true, .int .i64 2, .int .i64 5, .bool false] 39, .cells #[.int .i64 0, .int .i64 9, .bool false, .int .i64 1, .int .i64 6, .bool true] 39, .cells #[.int .i64 0, .int .i64 3, .bool false] 39, .cells #[.string ⟨#[42, 97, 42]⟩, .slice (some ⟨b, 0, none⟩) 1 1, .string ⟨#[42, 42, 97, 42, 42]⟩, .slice (some ⟨b + 1, 0, none⟩) 1 1, .string ⟨#[42, 42, 42, 97, 42, 42, 42]⟩, .slice (some ⟨b + 2, 0, none⟩) 2 2, .string ⟨#[97, 95, 98, 95, 99]⟩, .slice none 0 0, .string ⟨#[97, 42, 98, 42, 99]⟩, .slice (some ⟨b + 3, 0, none⟩) 1 1, .string ⟨#[42, 97, 32, 42, 42, 98, 42, 32, 99, 42, 42]⟩, .slice (some ⟨b + 4, 0, none⟩) 3 3, .string ⟨#[42, 42, 97, 42]⟩, .slice (some ⟨b + 5, 0, none⟩) 1 1, .string ⟨#[42, 97, 42, 42]⟩, .slice (some ⟨b + 6, 0, none⟩) 1 1, .string ⟨#[42, 97, 42, 42, 98, 42]⟩, .slice (some ⟨b + 7, 0, none⟩) 1 1, .string ⟨#[97, 42, 32, 98, 42]⟩, .slice none 0 0, .string ⟨#[95, 97, 95, 98, 95]⟩, .slice (some ⟨b + 8, 0, none⟩) 1 1, .string ⟨#[95, 40, 97, 41, 95]⟩, .slice (some ⟨b + 9, 0, none⟩) 1 1, .string ⟨#[42, 40, 97, 42, 41]⟩, .slice (some ⟨b + 10, 0, none⟩) 1 1, .string ⟨#[42, 97, 32, 95, 98, 42, 32, 99, 95]⟩, .slice (some ⟨b + 11, 0, none⟩) 1 1, .string ⟨#[42, 42, 97, 32, 95, 98, 42, 32, 99, 95]⟩, .slice (some ⟨b + 12, 0, none⟩) 1 1, .string ⟨#[42, 42, 42, 42, 97, 42, 42, 42, 42]⟩, .slice (some ⟨b + 13, 0, none⟩) 2 2, .string ⟨#[42, 97, 42, 42, 98, 42, 42, 99, 42]⟩, .slice (some ⟨b + 14, 0, none⟩) 2 2, .string ⟨#[42, 42, 97, 42, 98, 42, 42]⟩, .slice (some ⟨b + 15, 0, none⟩) 1 1, .string ⟨#[42, 42, 42, 97, 42, 32, 98, 42, 42]⟩, .slice (some ⟨b + 16, 0, none⟩) 2 2, .string ⟨#[42, 42, 42, 97, 42, 42, 32, 98, 42]⟩, .slice (some ⟨b + 17, 0, none⟩) 2 2, .string ⟨#[42, 32, 97, 32, 42]⟩, .slice none 0 0, .string ⟨#[42, 128, 42]⟩, .slice (some ⟨b + 18, 0, none⟩) 1 1, .string ⟨#[97, 42, 42, 98, 42]⟩, .slice none 0 0] 49] := ⟨_, rfl⟩
  have hvA : v20 = allocs w vL := by
    rw [hvL]
    subst hv1
    subst hv2
    subst hv3
    subst hv4
    subst hv5
    subst hv6
    subst hv7
    subst hv8
    subst hv9
    subst hv10
    subst hv11
    subst hv12
    subst hv13
    subst hv14
    subst hv15
    subst hv16
    subst hv17
    subst hv18
    subst hv19
    subst hv20
    rfl
  have Bv : Aside0 (Below w.heap.size w v20) := ⟨by rw [hvA]; exact (allocs_ok _ _).2⟩
  have Fv1 : Aside0 (v20.heap[b]? = some (.cells #[.int .i64 0, .int .i64 3, .bool false] 39 (0, 0))) := ⟨by
    have h := (allocs_ok vL w).1 0 _ (by rw [hvL]; rfl)
    rw [hb, ← hvA] at h
    exact h⟩
  have Fv2 : Aside0 (v20.heap[b + 1]? = some (.cells #[.int .i64 0, .int .i64 5, .bool true] 39 (0, 0))) := ⟨by
    have h := (allocs_ok vL w).1 1 _ (by rw [hvL]; rfl)
    rw [hb, ← hvA] at h
    exact h⟩
  have Fv3 : Aside0 (v20.heap[b + 2]? = some (.cells #[.int .i64 0, .int .i64 7, .bool false, .int .i64 1, .int .i64 6, .bool true] 39 (0, 0))) := ⟨by
    have h := (allocs_ok vL w).1 2 _ (by rw [hvL]; rfl)
    rw [hb, ← hvA] at h
    exact h⟩
  have Fv4 : Aside0 (v20.heap[b + 3]? = some (.cells #[.int .i64 1, .int .i64 4, .bool false] 39 (0, 0))) := ⟨by
    have h := (allocs_ok vL w).1 3 _ (by rw [hvL]; rfl)
    rw [hb, ← hvA] at h
    exact h⟩
  have Fv5 : Aside0 (v20.heap[b + 4]? = some (.cells #[.int .i64 0, .int .i64 11, .bool false, .int .i64 3, .int .i64 10, .bool false, .int .i64 4, .int .i64 7, .bool false] 39 (0, 0))) := ⟨by
    have h := (allocs_ok vL w).1 4 _ (by rw [hvL]; rfl)
    rw [hb, ← hvA] at h
    exact h⟩
  have Fv6 : Aside0 (v20.heap[b + 5]? = some (.cells #[.int .i64 1, .int .i64 4, .bool false] 39 (0, 0))) := ⟨by
    have h := (allocs_ok vL w).1 5 _ (by rw [hvL]; rfl)
    rw [hb, ← hvA] at h
    exact h⟩
  have Fv7 : Aside0 (v20.heap[b + 6]? = some (.cells #[.int .i64 0, .int .i64 3, .bool false] 39 (0, 0))) := ⟨by
    have h := (allocs_ok vL w).1 6 _ (by rw [hvL]; rfl)
    rw [hb, ← hvA] at h
    exact h⟩
  have Fv8 : Aside0 (v20.heap[b + 7]? = some (.cells #[.int .i64 0, .int .i64 6, .bool false] 39 (0, 0))) := ⟨by
    have h := (allocs_ok vL w).1 7 _ (by rw [hvL]; rfl)
    rw [hb, ← hvA] at h
    exact h⟩
  have Fv9 : Aside0 (v20.heap[b + 8]? = some (.cells #[.int .i64 0, .int .i64 5, .bool false] 39 (0, 0))) := ⟨by
    have h := (allocs_ok vL w).1 8 _ (by rw [hvL]; rfl)
    rw [hb, ← hvA] at h
    exact h⟩
  have Fv10 : Aside0 (v20.heap[b + 9]? = some (.cells #[.int .i64 0, .int .i64 5, .bool false] 39 (0, 0))) := ⟨by
    have h := (allocs_ok vL w).1 9 _ (by rw [hvL]; rfl)
    rw [hb, ← hvA] at h
    exact h⟩
  have Fv11 : Aside0 (v20.heap[b + 10]? = some (.cells #[.int .i64 0, .int .i64 4, .bool false] 39 (0, 0))) := ⟨by
    have h := (allocs_ok vL w).1 10 _ (by rw [hvL]; rfl)
    rw [hb, ← hvA] at h
    exact h⟩
  have Fv12 : Aside0 (v20.heap[b + 11]? = some (.cells #[.int .i64 0, .int .i64 6, .bool false] 39 (0, 0))) := ⟨by
    have h := (allocs_ok vL w).1 11 _ (by rw [hvL]; rfl)
    rw [hb, ← hvA] at h
    exact h⟩
  have Fv13 : Aside0 (v20.heap[b + 12]? = some (.cells #[.int .i64 1, .int .i64 7, .bool false] 39 (0, 0))) := ⟨by
    have h := (allocs_ok vL w).1 12 _ (by rw [hvL]; rfl)
    rw [hb, ← hvA] at h
    exact h⟩
  have Fv14 : Aside0 (v20.heap[b + 13]? = some (.cells #[.int .i64 0, .int .i64 9, .bool true, .int .i64 2, .int .i64 7, .bool true] 39 (0, 0))) := ⟨by
    have h := (allocs_ok vL w).1 13 _ (by rw [hvL]; rfl)
    rw [hb, ← hvA] at h
    exact h⟩
  have Fv15 : Aside0 (v20.heap[b + 14]? = some (.cells #[.int .i64 0, .int .i64 9, .bool false, .int .i64 2, .int .i64 7, .bool true] 39 (0, 0))) := ⟨by
    have h := (allocs_ok vL w).1 14 _ (by rw [hvL]; rfl)
    rw [hb, ← hvA] at h
    exact h⟩
  have Fv16 : Aside0 (v20.heap[b + 15]? = some (.cells #[.int .i64 0, .int .i64 7, .bool true] 39 (0, 0))) := ⟨by
    have h := (allocs_ok vL w).1 15 _ (by rw [hvL]; rfl)
    rw [hb, ← hvA] at h
    exact h⟩
  have Fv17 : Aside0 (v20.heap[b + 16]? = some (.cells #[.int .i64 0, .int .i64 9, .bool true, .int .i64 2, .int .i64 5, .bool false] 39 (0, 0))) := ⟨by
    have h := (allocs_ok vL w).1 16 _ (by rw [hvL]; rfl)
    rw [hb, ← hvA] at h
    exact h⟩
  have Fv18 : Aside0 (v20.heap[b + 17]? = some (.cells #[.int .i64 0, .int .i64 9, .bool false, .int .i64 1, .int .i64 6, .bool true] 39 (0, 0))) := ⟨by
    have h := (allocs_ok vL w).1 17 _ (by rw [hvL]; rfl)
    rw [hb, ← hvA] at h
    exact h⟩
  have Fv19 : Aside0 (v20.heap[b + 18]? = some (.cells #[.int .i64 0, .int .i64 3, .bool false] 39 (0, 0))) := ⟨by
    have h := (allocs_ok vL w).1 18 _ (by rw [hvL]; rfl)
    rw [hb, ← hvA] at h
    exact h⟩
  have Fv20 : Aside0 (v20.heap[b + 19]? = some (.cells #[.string ⟨#[42, 97, 42]⟩, .slice (some ⟨b, 0, none⟩) 1 1, .string ⟨#[42, 42, 97, 42, 42]⟩, .slice (some ⟨b + 1, 0, none⟩) 1 1, .string ⟨#[42, 42, 42, 97, 42, 42, 42]⟩, .slice (some ⟨b + 2, 0, none⟩) 2 2, .string ⟨#[97, 95, 98, 95, 99]⟩, .slice none 0 0, .string ⟨#[97, 42, 98, 42, 99]⟩, .slice (some ⟨b + 3, 0, none⟩) 1 1, .string ⟨#[42, 97, 32, 42, 42, 98, 42, 32, 99, 42, 42]⟩, .slice (some ⟨b + 4, 0, none⟩) 3 3, .string ⟨#[42, 42, 97, 42]⟩, .slice (some ⟨b + 5, 0, none⟩) 1 1, .string ⟨#[42, 97, 42, 42]⟩, .slice (some ⟨b + 6, 0, none⟩) 1 1, .string ⟨#[42, 97, 42, 42, 98, 42]⟩, .slice (some ⟨b + 7, 0, none⟩) 1 1, .string ⟨#[97, 42, 32, 98, 42]⟩, .slice none 0 0, .string ⟨#[95, 97, 95, 98, 95]⟩, .slice (some ⟨b + 8, 0, none⟩) 1 1, .string ⟨#[95, 40, 97, 41, 95]⟩, .slice (some ⟨b + 9, 0, none⟩) 1 1, .string ⟨#[42, 40, 97, 42, 41]⟩, .slice (some ⟨b + 10, 0, none⟩) 1 1, .string ⟨#[42, 97, 32, 95, 98, 42, 32, 99, 95]⟩, .slice (some ⟨b + 11, 0, none⟩) 1 1, .string ⟨#[42, 42, 97, 32, 95, 98, 42, 32, 99, 95]⟩, .slice (some ⟨b + 12, 0, none⟩) 1 1, .string ⟨#[42, 42, 42, 42, 97, 42, 42, 42, 42]⟩, .slice (some ⟨b + 13, 0, none⟩) 2 2, .string ⟨#[42, 97, 42, 42, 98, 42, 42, 99, 42]⟩, .slice (some ⟨b + 14, 0, none⟩) 2 2, .string ⟨#[42, 42, 97, 42, 98, 42, 42]⟩, .slice (some ⟨b + 15, 0, none⟩) 1 1, .string ⟨#[42, 42, 42, 97, 42, 32, 98, 42, 42]⟩, .slice (some ⟨b + 16, 0, none⟩) 2 2, .string ⟨#[42, 42, 42, 97, 42, 42, 32, 98, 42]⟩, .slice (some ⟨b + 17, 0, none⟩) 2 2, .string ⟨#[42, 32, 97, 32, 42]⟩, .slice none 0 0, .string ⟨#[42, 128, 42]⟩, .slice (some ⟨b + 18, 0, none⟩) 1 1, .string ⟨#[97, 42, 42, 98, 42]⟩, .slice none 0 0] 49 (0, 0))) := ⟨by
    have h := (allocs_ok vL w).1 19 _ (by rw [hvL]; rfl)
    rw [hb, ← hvA] at h
    exact h⟩
  clear hvA hvL
  go_enter Try.func8, Try.ntmps8
  go_upto_region 2 with (fail)
  have HT : Aside0 (∀ k, k < 23 → RowAt v20 (b + 19) k) := ⟨tab_at v20 b Fv1.out Fv2.out Fv3.out Fv4.out Fv5.out Fv6.out Fv7.out Fv8.out Fv9.out Fv10.out Fv11.out Fv12.out Fv13.out Fv14.out Fv15.out Fv16.out Fv17.out Fv18.out Fv19.out Fv20.out⟩
  clear hv1 sv1 Fv1 hv2 sv2 Fv2 hv3 sv3 Fv3 hv4 sv4 Fv4 hv5 sv5 Fv5 hv6 sv6 Fv6 hv7 sv7 Fv7 hv8 sv8 Fv8 hv9 sv9 Fv9 hv10 sv10 Fv10 hv11 sv11 Fv11 hv12 sv12 Fv12 hv13 sv13 Fv13 hv14 sv14 Fv14 hv15 sv15 Fv15 hv16 sv16 Fv16 hv17 sv17 Fv17 hv18 sv18 Fv18 hv19 sv19 Fv19 hv20 sv20 Fv20
  obtain ⟨T, hT⟩ : ∃ q, v20 = q := ⟨_, rfl⟩
  rw [hT] at HT Bv ⊢
  clear hT
  go_upto_block 0 with (fail)
  go_cut [] from 17 (fun wc => Aside0 (Below T.heap.size T wc))
  case first =>
    go_wp2_with (fail)
    go_loopg [2] 23 (fun gk v2 wr => ∃ k : Nat, v2 = .int .i64 (k : Int) ∧ Aside0 (k + gk = 23) ∧ Aside0 (Below T.heap.size T wr))
    case atStart => exact ⟨0, rfl, ⟨rfl⟩, ⟨Below.refl _ T⟩⟩
    case round =>
      obtain ⟨k, rfl, HK, HB⟩ := hrel
      by_cases hk : k < 23
      case neg =>
        have hkk : ¬ ((k : Int) < 23) := by omega
        go_wp2_with (fail)
        go_meet
        case rel => exact HB
      case pos =>
        obtain ⟨gn, rfl⟩ : ∃ gn, gk = gn + 1 := ⟨gk - 1, by have := HK.out; omega⟩
        obtain ⟨s, l, A, n, c, h1, c0, c1, hr⟩ := (HT.out k hk).below HB.out
        obtain ⟨tp, ts, tz, tn⟩ := tab_is h1
        have TP := Aside0.mk tp
        have TS := Aside0.mk ts
        have HR := Aside0.mk hr
        have HRA := Aside0.mk ((HT.out k hk).below HB.out)
        have HC0 := Aside0.mk c0
        have HC1 := Aside0.mk c1
        have k0 : (0 : Int) ≤ (k : Int) := by omega
        have k1 : (k : Int) < 23 := by omega
        have hwk : IntKind.i64.wrap ((k : Int) + 1) = (k : Int) + 1 := IntWalk.i64_in _ (by omega)
        clear tp ts hr h1
        go_upto_region 6 with (fail)
        refine (runs_c s 0 99 wr tz).mono ?_
        rintro _ w2 ⟨A2, n2, c2, rfl, hr2, hb2⟩
        have hn2 : n2 ≤ 100000000 := by have := hr2.1; omega
        have HR2 := Aside0.mk hr2
        have HB2 := Aside0.mk hb2
        clear hr2 hb2
        go_upto_region 6 with (fail)
        refine (pairs_c A2 n2 c2 _ w2 HR2.out hn2).mono ?_
        rintro _ w3 ⟨A3, n3, c3, R, rfl, hp, hs, hr3, hb3⟩
        obtain rfl := srt_uniq (hp.trans TP.out) hs TS.out
        obtain rfl : n3 = n := hr3.1.symm.trans HR.out.1
        have hB3 : Below wr.heap.size wr w3 := HB2.out.trans (hb3.mono HB2.out.size)
        have HBT : Aside0 (Below T.heap.size T w3) := ⟨HB.out.trans (hB3.mono HB.out.size)⟩
        have HR3 := Aside0.mk hr3
        have HRW := Aside0.mk (rows_below HR.out hB3)
        have d0 : w3.cell? ⟨b + 19, k * 2, none⟩ = some (.string s) := pw_cell_below hB3 HC0.out
        have d1 : w3.cell? ⟨b + 19, k * 2 + 1, none⟩ = some (.slice A n3 c) := pw_cell_below hB3 HC1.out
        have HD1 := Aside0.mk d1
        have hne : ((n3 : Int) != (n3 : Int)) = false := by simp
        clear c0 c1 hp hs hr3 hb3 hB3 HR
        go_upto_block 2 with (fail)
        go_wp2_with (fail)
        go_loopg [4] n3 (fun gj v4 wj => ∃ j : Nat, v4 = .int .i64 (j : Int) ∧ Aside0 (j + gj = n3) ∧ Aside0 (Below w3.heap.size w3 wj))
        case atStart => exact ⟨0, rfl, ⟨by omega⟩, ⟨Below.refl _ w3⟩⟩
        case round =>
          obtain ⟨j, rfl, HJ, HBJ⟩ := hrel
          by_cases hj : j < n3
          case neg =>
            have hjj : ¬ ((j : Int) < (n3 : Int)) := by omega
            have HBE : Aside0 (Below T.heap.size T wr) := ⟨HBT.out.trans (HBJ.out.mono HBT.out.size)⟩
            go_wp2_with (fail)
            go_roundg gn
            case measure => exact Nat.lt_succ_self _
            case rel => exact ⟨k + 1, by simp, ⟨by have := HK.out; omega⟩, HBE⟩
          case pos =>
            obtain ⟨gj, rfl⟩ : ∃ gj, gk = gj + 1 := ⟨gk - 1, by have := HJ.out; omega⟩
            obtain ⟨x, hx⟩ : ∃ x, R[j]? = some x := ⟨_, List.getElem?_eq_getElem (by rw [HR3.out.1]; exact hj)⟩
            obtain ⟨ad3, hA3, _⟩ := HR3.out.2.2 (by omega)
            obtain ⟨ad, hA, _⟩ := HRW.out.2.2 (by omega)
            subst hA3
            subst hA
            obtain ⟨x0, x1, x2⟩ := pr_at (rows_below HR3.out HBJ.out) hx
            obtain ⟨y0, y1, y2⟩ := pr_at (rows_below HRW.out HBJ.out) hx
            have e1 : wr.cell? ⟨b + 19, k * 2 + 1, none⟩ = some (.slice (some ad) n3 c) := pw_cell_below HBJ.out HD1.out
            have j0 : (0 : Int) ≤ (j : Int) := by omega
            have j1 : (j : Int) < (n3 : Int) := by omega
            have hwj : IntKind.i64.wrap ((j : Int) + 1) = (j : Int) + 1 := IntWalk.i64_in _ (by have := HRW.out.2.1; omega)
            clear hx d0 d1 hne
            go_upto_region 11 with (fail)
            go_quiet (fail)
            have HBJ2 : Aside0 (Below w3.heap.size w3 (wr.drewN nq)) := ⟨pw_below_drewN HBJ.out nq⟩
            go_wp2_with (fail)
            go_roundg gj
            case measure => exact Nat.lt_succ_self _
            case rel => exact ⟨j + 1, by simp, ⟨by have := HJ.out; omega⟩, HBJ2⟩
  case rest =>
    have HBT := hcut
    clear hcut
    obtain ⟨d, hd⟩ : ∃ q, wc.heap.size = q := ⟨_, rfl⟩
    obtain ⟨p1, hp1⟩ : ∃ q, wc.alloc (.cells zrun 23) = q := ⟨_, rfl⟩
    have hsp1 : p1.heap.size = d + 1 := by rw [← hp1]; simp [hd]
    have hzd : p1.heap[d]? = some (.cells zrun 23 (0, 0)) := by rw [← hp1, ← hd]; exact heap_alloc_new _ _
    have hbd : Below wc.heap.size wc p1 := by rw [← hp1]; exact below_alloc (Below.refl _ wc) _
    have fzd := fun j => blk_frozen hzd j
    have z0d : p1.cell? ⟨d, 0, none⟩ = some (.int .i64 0) := cell_of_row _ _ _ _ _ _ hzd
    have z1d : p1.cell? ⟨d, 1, none⟩ = some (.int .i64 0) := cell_of_row _ _ _ _ _ _ hzd
    have z2d : p1.cell? ⟨d, 2, none⟩ = some (.int .u8 0) := cell_of_row _ _ _ _ _ _ hzd
    have z3d : p1.cell? ⟨d, 3, none⟩ = some (.bool false) := cell_of_row _ _ _ _ _ _ hzd
    have z4d : p1.cell? ⟨d, 4, none⟩ = some (.bool false) := cell_of_row _ _ _ _ _ _ hzd
    have HZd := Aside0.mk hzd
    have HBd := Aside0.mk hbd
    clear hzd hbd
    go_upto_region 14 with (fail)
    obtain ⟨P, hP⟩ : ∃ q, ((((p1.setCell ⟨d, 0, none⟩ (.int .i64 0)).setCell ⟨d, 1, none⟩ (.int .i64 1)).setCell ⟨d, 2, none⟩ (.int .u8 42)).setCell ⟨d, 3, none⟩ (.bool true)).setCell ⟨d, 4, none⟩ (.bool false) = q := ⟨_, rfl⟩
    rw [hP]
    have HP : Aside0 (P.heap[d]? = some (.cells (rnc ⟨0, 1, 42, true, false⟩) 23 (0, 0))) := ⟨by rw [← hP]; exact five_row HZd.out _ _ _ _ _⟩
    have HBP : Aside0 (Below wc.heap.size wc P) := ⟨by rw [← hP]; exact five_below HBd.out (by omega) _ _ _ _ _⟩
    clear hP hp1 fzd z0d z1d z2d z3d z4d hsp1
    obtain ⟨e, he⟩ : ∃ q, P.heap.size = q := ⟨_, rfl⟩
    obtain ⟨p3, hp3⟩ : ∃ q, P.alloc (.cells zrun 23) = q := ⟨_, rfl⟩
    have hsp3 : p3.heap.size = e + 1 := by rw [← hp3]; simp [he]
    have hze : p3.heap[e]? = some (.cells zrun 23 (0, 0)) := by rw [← hp3, ← he]; exact heap_alloc_new _ _
    have hbe : Below P.heap.size P p3 := by rw [← hp3]; exact below_alloc (Below.refl _ P) _
    have fze := fun j => blk_frozen hze j
    have z0e : p3.cell? ⟨e, 0, none⟩ = some (.int .i64 0) := cell_of_row _ _ _ _ _ _ hze
    have z1e : p3.cell? ⟨e, 1, none⟩ = some (.int .i64 0) := cell_of_row _ _ _ _ _ _ hze
    have z2e : p3.cell? ⟨e, 2, none⟩ = some (.int .u8 0) := cell_of_row _ _ _ _ _ _ hze
    have z3e : p3.cell? ⟨e, 3, none⟩ = some (.bool false) := cell_of_row _ _ _ _ _ _ hze
    have z4e : p3.cell? ⟨e, 4, none⟩ = some (.bool false) := cell_of_row _ _ _ _ _ _ hze
    have HZe := Aside0.mk hze
    have HBe := Aside0.mk hbe
    clear hze hbe
    go_upto_region 15 with (fail)
    obtain ⟨Q, hQ⟩ : ∃ q, ((((p3.setCell ⟨e, 0, none⟩ (.int .i64 1)).setCell ⟨e, 1, none⟩ (.int .i64 1)).setCell ⟨e, 2, none⟩ (.int .u8 42)).setCell ⟨e, 3, none⟩ (.bool false)).setCell ⟨e, 4, none⟩ (.bool true) = q := ⟨_, rfl⟩
    rw [hQ]
    have HQ : Aside0 (Q.heap[e]? = some (.cells (rnc ⟨1, 1, 42, false, true⟩) 23 (0, 0))) := ⟨by rw [← hQ]; exact five_row HZe.out _ _ _ _ _⟩
    have HBQ : Aside0 (Below P.heap.size P Q) := ⟨by rw [← hQ]; exact five_below HBe.out (by omega) _ _ _ _ _⟩
    clear hQ hp3 fze z0e z1e z2e z3e z4e hsp3
    have HQD : Aside0 (Q.heap[d]? = some (.cells (rnc ⟨0, 1, 42, true, false⟩) 23 (0, 0))) := ⟨(HBQ.out.block d (blk_lt HP.out)).trans HP.out⟩
    have HTQ : Aside0 (Below T.heap.size T Q) := ⟨(HBT.out.trans (HBP.out.mono HBT.out.size)).trans (HBQ.out.mono (Nat.le_trans HBT.out.size HBP.out.size))⟩
    obtain ⟨g, hg⟩ : ∃ q, Q.heap.size = q := ⟨_, rfl⟩
    obtain ⟨u1, hu1⟩ : ∃ q, Q.alloc (.cells #[.int .i64 (-1), .int .i64 1, .int .u8 42, .bool true, .bool false, .int .i64 1, .int .i64 1, .int .u8 42, .bool false, .bool true] 23) = q := ⟨_, rfl⟩
    have su1 : u1.heap.size = g + 1 := alloc_size hu1 hg
    obtain ⟨u2, hu2⟩ : ∃ q, u1.alloc (.cells #[.int .i64 0, .int .i64 2, .int .u8 42, .bool true, .bool false, .int .i64 1, .int .i64 1, .int .u8 42, .bool false, .bool true] 23) = q := ⟨_, rfl⟩
    have su2 : u2.heap.size = g + 2 := alloc_size hu2 su1
    obtain ⟨u3, hu3⟩ : ∃ q, u2.alloc (.cells #[.int .i64 0, .int .i64 0, .int .u8 42, .bool true, .bool false, .int .i64 1, .int .i64 1, .int .u8 42, .bool false, .bool true] 23) = q := ⟨_, rfl⟩
    have su3 : u3.heap.size = g + 3 := alloc_size hu3 su2
    obtain ⟨u4, hu4⟩ : ∃ q, u3.alloc (.cells #[.int .i64 0, .int .i64 1, .int .u8 120, .bool true, .bool false, .int .i64 1, .int .i64 1, .int .u8 42, .bool false, .bool true] 23) = q := ⟨_, rfl⟩
    have su4 : u4.heap.size = g + 4 := alloc_size hu4 su3
    obtain ⟨u5, hu5⟩ : ∃ q, u4.alloc (.cells #[.int .i64 1, .int .i64 1, .int .u8 42, .bool false, .bool true, .int .i64 0, .int .i64 1, .int .u8 42, .bool true, .bool false] 23) = q := ⟨_, rfl⟩
    have su5 : u5.heap.size = g + 5 := alloc_size hu5 su4
    obtain ⟨u6, hu6⟩ : ∃ q, u5.alloc (.cells #[.int .i64 0, .int .i64 1, .int .u8 42, .bool true, .bool false, .int .i64 1, .int .i64 9223372036854775807, .int .u8 42, .bool false, .bool true] 23) = q := ⟨_, rfl⟩
    have su6 : u6.heap.size = g + 6 := alloc_size hu6 su5
    obtain ⟨u7, hu7⟩ : ∃ q, u6.alloc (.cells #[.int .i64 0, .int .i64 1, .int .u8 42, .bool true, .bool false, .int .i64 1048576, .int .i64 1, .int .u8 42, .bool false, .bool true] 23) = q := ⟨_, rfl⟩
    have su7 : u7.heap.size = g + 7 := alloc_size hu7 su6
    obtain ⟨u8, hu8⟩ : ∃ q, u7.alloc (.cells #[.int .i64 0, .int .i64 1, .int .u8 42, .bool true, .bool false, .int .i64 1, .int .i64 1, .int .u8 42, .bool false, .bool true, .int .i64 9223372036854775807, .int .i64 1, .int .u8 95, .bool false, .bool false] 23) = q := ⟨_, rfl⟩
    have su8 : u8.heap.size = g + 8 := alloc_size hu8 su7
    obtain ⟨u9, hu9⟩ : ∃ q, u8.alloc (.cells #[.slice (some ⟨g, 0, none⟩) 2 2, .slice (some ⟨g + 1, 0, none⟩) 2 2, .slice (some ⟨g + 2, 0, none⟩) 2 2, .slice (some ⟨g + 3, 0, none⟩) 2 2, .slice (some ⟨g + 4, 0, none⟩) 2 2, .slice (some ⟨g + 5, 0, none⟩) 2 2, .slice (some ⟨g + 6, 0, none⟩) 2 2, .slice (some ⟨g + 7, 0, none⟩) 3 3] 31) = q := ⟨_, rfl⟩
    have su9 : u9.heap.size = g + 9 := alloc_size hu9 su8
    obtain ⟨uL, huL⟩ : ∃ q : List Obj, q = [.cells #[.int .i64 (-1), .int .i64 1, .int .u8 42, .bool true, .bool false, .int .i64 1, .int .i64 1, .int .u8 42, .bool false, .bool true] 23, .cells #[.int .i64 0, .int .i64 2, .int .u8 42, .bool true, .bool false, .int .i64 1, .int .i64 1, .int .u8 42, .bool false, .bool true] 23, .cells #[.int .i64 0, .int .i64 0, .int .u8 42, .bool true, .bool false, .int .i64 1, .int .i64 1, .int .u8 42, .bool false, .bool true] 23, .cells #[.int .i64 0, .int .i64 1, .int .u8 120, .bool true, .bool false, .int .i64 1, .int .i64 1, .int .u8 42, .bool false, .bool true] 23, .cells #[.int .i64 1, .int .i64 1, .int .u8 42, .bool false, .bool true, .int .i64 0, .int .i64 1, .int .u8 42, .bool true, .bool false] 23, .cells #[.int .i64 0, .int .i64 1, .int .u8 42, .bool true, .bool false, .int .i64 1, .int .i64 9223372036854775807, .int .u8 42, .bool false, .bool true] 23, .cells #[.int .i64 0, .int .i64 1, .int .u8 42, .bool true, .bool false, .int .i64 1048576, .int .i64 1, .int .u8 42, .bool false, .bool true] 23, .cells #[.int .i64 0, .int .i64 1, .int .u8 42, .bool true, .bool false, .int .i64 1, .int .i64 1, .int .u8 42, .bool false, .bool true, .int .i64 9223372036854775807, .int .i64 1, .int .u8 95, .bool false, .bool false] 23, .cells #[.slice (some ⟨g, 0, none⟩) 2 2, .slice (some ⟨g + 1, 0, none⟩) 2 2, .slice (some ⟨g + 2, 0, none⟩) 2 2, .slice (some ⟨g + 3, 0, none⟩) 2 2, .slice (some ⟨g + 4, 0, none⟩) 2 2, .slice (some ⟨g + 5, 0, none⟩) 2 2, .slice (some ⟨g + 6, 0, none⟩) 2 2, .slice (some ⟨g + 7, 0, none⟩) 3 3] 31] := ⟨_, rfl⟩
    have huA : u9 = allocs Q uL := by
      rw [huL]
      subst hu1
      subst hu2
      subst hu3
      subst hu4
      subst hu5
      subst hu6
      subst hu7
      subst hu8
      subst hu9
      rfl
    have Bu : Aside0 (Below Q.heap.size Q u9) := ⟨by rw [huA]; exact (allocs_ok _ _).2⟩
    have Fu1 : Aside0 (u9.heap[g]? = some (.cells #[.int .i64 (-1), .int .i64 1, .int .u8 42, .bool true, .bool false, .int .i64 1, .int .i64 1, .int .u8 42, .bool false, .bool true] 23 (0, 0))) := ⟨by
      have h := (allocs_ok uL Q).1 0 _ (by rw [huL]; rfl)
      rw [hg, ← huA] at h
      exact h⟩
    have Fu2 : Aside0 (u9.heap[g + 1]? = some (.cells #[.int .i64 0, .int .i64 2, .int .u8 42, .bool true, .bool false, .int .i64 1, .int .i64 1, .int .u8 42, .bool false, .bool true] 23 (0, 0))) := ⟨by
      have h := (allocs_ok uL Q).1 1 _ (by rw [huL]; rfl)
      rw [hg, ← huA] at h
      exact h⟩
    have Fu3 : Aside0 (u9.heap[g + 2]? = some (.cells #[.int .i64 0, .int .i64 0, .int .u8 42, .bool true, .bool false, .int .i64 1, .int .i64 1, .int .u8 42, .bool false, .bool true] 23 (0, 0))) := ⟨by
      have h := (allocs_ok uL Q).1 2 _ (by rw [huL]; rfl)
      rw [hg, ← huA] at h
      exact h⟩
    have Fu4 : Aside0 (u9.heap[g + 3]? = some (.cells #[.int .i64 0, .int .i64 1, .int .u8 120, .bool true, .bool false, .int .i64 1, .int .i64 1, .int .u8 42, .bool false, .bool true] 23 (0, 0))) := ⟨by
      have h := (allocs_ok uL Q).1 3 _ (by rw [huL]; rfl)
      rw [hg, ← huA] at h
      exact h⟩
    have Fu5 : Aside0 (u9.heap[g + 4]? = some (.cells #[.int .i64 1, .int .i64 1, .int .u8 42, .bool false, .bool true, .int .i64 0, .int .i64 1, .int .u8 42, .bool true, .bool false] 23 (0, 0))) := ⟨by
      have h := (allocs_ok uL Q).1 4 _ (by rw [huL]; rfl)
      rw [hg, ← huA] at h
      exact h⟩
    have Fu6 : Aside0 (u9.heap[g + 5]? = some (.cells #[.int .i64 0, .int .i64 1, .int .u8 42, .bool true, .bool false, .int .i64 1, .int .i64 9223372036854775807, .int .u8 42, .bool false, .bool true] 23 (0, 0))) := ⟨by
      have h := (allocs_ok uL Q).1 5 _ (by rw [huL]; rfl)
      rw [hg, ← huA] at h
      exact h⟩
    have Fu7 : Aside0 (u9.heap[g + 6]? = some (.cells #[.int .i64 0, .int .i64 1, .int .u8 42, .bool true, .bool false, .int .i64 1048576, .int .i64 1, .int .u8 42, .bool false, .bool true] 23 (0, 0))) := ⟨by
      have h := (allocs_ok uL Q).1 6 _ (by rw [huL]; rfl)
      rw [hg, ← huA] at h
      exact h⟩
    have Fu8 : Aside0 (u9.heap[g + 7]? = some (.cells #[.int .i64 0, .int .i64 1, .int .u8 42, .bool true, .bool false, .int .i64 1, .int .i64 1, .int .u8 42, .bool false, .bool true, .int .i64 9223372036854775807, .int .i64 1, .int .u8 95, .bool false, .bool false] 23 (0, 0))) := ⟨by
      have h := (allocs_ok uL Q).1 7 _ (by rw [huL]; rfl)
      rw [hg, ← huA] at h
      exact h⟩
    have Fu9 : Aside0 (u9.heap[g + 8]? = some (.cells #[.slice (some ⟨g, 0, none⟩) 2 2, .slice (some ⟨g + 1, 0, none⟩) 2 2, .slice (some ⟨g + 2, 0, none⟩) 2 2, .slice (some ⟨g + 3, 0, none⟩) 2 2, .slice (some ⟨g + 4, 0, none⟩) 2 2, .slice (some ⟨g + 5, 0, none⟩) 2 2, .slice (some ⟨g + 6, 0, none⟩) 2 2, .slice (some ⟨g + 7, 0, none⟩) 3 3] 31 (0, 0))) := ⟨by
      have h := (allocs_ok uL Q).1 8 _ (by rw [huL]; rfl)
      rw [hg, ← huA] at h
      exact h⟩
    clear huA huL
    have bQ := Below.refl Q.heap.size Q
    have bu1 : Below Q.heap.size Q u1 := bQ.trans (Below.mono (by rw [← hu1]; exact below_alloc (Below.refl _ Q) _ : Below Q.heap.size Q u1) bQ.size)
    have bu2 : Below Q.heap.size Q u2 := bu1.trans (Below.mono (by rw [← hu2]; exact below_alloc (Below.refl _ u1) _ : Below u1.heap.size u1 u2) bu1.size)
    have bu3 : Below Q.heap.size Q u3 := bu2.trans (Below.mono (by rw [← hu3]; exact below_alloc (Below.refl _ u2) _ : Below u2.heap.size u2 u3) bu2.size)
    have bu4 : Below Q.heap.size Q u4 := bu3.trans (Below.mono (by rw [← hu4]; exact below_alloc (Below.refl _ u3) _ : Below u3.heap.size u3 u4) bu3.size)
    have bu5 : Below Q.heap.size Q u5 := bu4.trans (Below.mono (by rw [← hu5]; exact below_alloc (Below.refl _ u4) _ : Below u4.heap.size u4 u5) bu4.size)
    have bu6 : Below Q.heap.size Q u6 := bu5.trans (Below.mono (by rw [← hu6]; exact below_alloc (Below.refl _ u5) _ : Below u5.heap.size u5 u6) bu5.size)
    have bu7 : Below Q.heap.size Q u7 := bu6.trans (Below.mono (by rw [← hu7]; exact below_alloc (Below.refl _ u6) _ : Below u6.heap.size u6 u7) bu6.size)
    have qd0 := (bQ.block d (blk_lt HQD.out)).trans HQD.out
    have qe0 := (bQ.block e (blk_lt HQ.out)).trans HQ.out
    have xd00 : Q.cell? ⟨d, 0, none⟩ = some (.int .i64 0) := cell_of_row _ _ _ _ _ _ qd0
    have xd01 : Q.cell? ⟨d, 1, none⟩ = some (.int .i64 1) := cell_of_row _ _ _ _ _ _ qd0
    have xd02 : Q.cell? ⟨d, 2, none⟩ = some (.int .u8 42) := cell_of_row _ _ _ _ _ _ qd0
    have xd03 : Q.cell? ⟨d, 3, none⟩ = some (.bool true) := cell_of_row _ _ _ _ _ _ qd0
    have xd04 : Q.cell? ⟨d, 4, none⟩ = some (.bool false) := cell_of_row _ _ _ _ _ _ qd0
    have xe00 : Q.cell? ⟨e, 0, none⟩ = some (.int .i64 1) := cell_of_row _ _ _ _ _ _ qe0
    have xe01 : Q.cell? ⟨e, 1, none⟩ = some (.int .i64 1) := cell_of_row _ _ _ _ _ _ qe0
    have xe02 : Q.cell? ⟨e, 2, none⟩ = some (.int .u8 42) := cell_of_row _ _ _ _ _ _ qe0
    have xe03 : Q.cell? ⟨e, 3, none⟩ = some (.bool false) := cell_of_row _ _ _ _ _ _ qe0
    have xe04 : Q.cell? ⟨e, 4, none⟩ = some (.bool true) := cell_of_row _ _ _ _ _ _ qe0
    have qd1 := (bu1.block d (blk_lt HQD.out)).trans HQD.out
    have qe1 := (bu1.block e (blk_lt HQ.out)).trans HQ.out
    have xd10 : u1.cell? ⟨d, 0, none⟩ = some (.int .i64 0) := cell_of_row _ _ _ _ _ _ qd1
    have xd11 : u1.cell? ⟨d, 1, none⟩ = some (.int .i64 1) := cell_of_row _ _ _ _ _ _ qd1
    have xd12 : u1.cell? ⟨d, 2, none⟩ = some (.int .u8 42) := cell_of_row _ _ _ _ _ _ qd1
    have xd13 : u1.cell? ⟨d, 3, none⟩ = some (.bool true) := cell_of_row _ _ _ _ _ _ qd1
    have xd14 : u1.cell? ⟨d, 4, none⟩ = some (.bool false) := cell_of_row _ _ _ _ _ _ qd1
    have xe10 : u1.cell? ⟨e, 0, none⟩ = some (.int .i64 1) := cell_of_row _ _ _ _ _ _ qe1
    have xe11 : u1.cell? ⟨e, 1, none⟩ = some (.int .i64 1) := cell_of_row _ _ _ _ _ _ qe1
    have xe12 : u1.cell? ⟨e, 2, none⟩ = some (.int .u8 42) := cell_of_row _ _ _ _ _ _ qe1
    have xe13 : u1.cell? ⟨e, 3, none⟩ = some (.bool false) := cell_of_row _ _ _ _ _ _ qe1
    have xe14 : u1.cell? ⟨e, 4, none⟩ = some (.bool true) := cell_of_row _ _ _ _ _ _ qe1
    have qd2 := (bu2.block d (blk_lt HQD.out)).trans HQD.out
    have qe2 := (bu2.block e (blk_lt HQ.out)).trans HQ.out
    have xd20 : u2.cell? ⟨d, 0, none⟩ = some (.int .i64 0) := cell_of_row _ _ _ _ _ _ qd2
    have xd21 : u2.cell? ⟨d, 1, none⟩ = some (.int .i64 1) := cell_of_row _ _ _ _ _ _ qd2
    have xd22 : u2.cell? ⟨d, 2, none⟩ = some (.int .u8 42) := cell_of_row _ _ _ _ _ _ qd2
    have xd23 : u2.cell? ⟨d, 3, none⟩ = some (.bool true) := cell_of_row _ _ _ _ _ _ qd2
    have xd24 : u2.cell? ⟨d, 4, none⟩ = some (.bool false) := cell_of_row _ _ _ _ _ _ qd2
    have xe20 : u2.cell? ⟨e, 0, none⟩ = some (.int .i64 1) := cell_of_row _ _ _ _ _ _ qe2
    have xe21 : u2.cell? ⟨e, 1, none⟩ = some (.int .i64 1) := cell_of_row _ _ _ _ _ _ qe2
    have xe22 : u2.cell? ⟨e, 2, none⟩ = some (.int .u8 42) := cell_of_row _ _ _ _ _ _ qe2
    have xe23 : u2.cell? ⟨e, 3, none⟩ = some (.bool false) := cell_of_row _ _ _ _ _ _ qe2
    have xe24 : u2.cell? ⟨e, 4, none⟩ = some (.bool true) := cell_of_row _ _ _ _ _ _ qe2
    have qd3 := (bu3.block d (blk_lt HQD.out)).trans HQD.out
    have qe3 := (bu3.block e (blk_lt HQ.out)).trans HQ.out
    have xd30 : u3.cell? ⟨d, 0, none⟩ = some (.int .i64 0) := cell_of_row _ _ _ _ _ _ qd3
    have xd31 : u3.cell? ⟨d, 1, none⟩ = some (.int .i64 1) := cell_of_row _ _ _ _ _ _ qd3
    have xd32 : u3.cell? ⟨d, 2, none⟩ = some (.int .u8 42) := cell_of_row _ _ _ _ _ _ qd3
    have xd33 : u3.cell? ⟨d, 3, none⟩ = some (.bool true) := cell_of_row _ _ _ _ _ _ qd3
    have xd34 : u3.cell? ⟨d, 4, none⟩ = some (.bool false) := cell_of_row _ _ _ _ _ _ qd3
    have xe30 : u3.cell? ⟨e, 0, none⟩ = some (.int .i64 1) := cell_of_row _ _ _ _ _ _ qe3
    have xe31 : u3.cell? ⟨e, 1, none⟩ = some (.int .i64 1) := cell_of_row _ _ _ _ _ _ qe3
    have xe32 : u3.cell? ⟨e, 2, none⟩ = some (.int .u8 42) := cell_of_row _ _ _ _ _ _ qe3
    have xe33 : u3.cell? ⟨e, 3, none⟩ = some (.bool false) := cell_of_row _ _ _ _ _ _ qe3
    have xe34 : u3.cell? ⟨e, 4, none⟩ = some (.bool true) := cell_of_row _ _ _ _ _ _ qe3
    have qd4 := (bu4.block d (blk_lt HQD.out)).trans HQD.out
    have qe4 := (bu4.block e (blk_lt HQ.out)).trans HQ.out
    have xd40 : u4.cell? ⟨d, 0, none⟩ = some (.int .i64 0) := cell_of_row _ _ _ _ _ _ qd4
    have xd41 : u4.cell? ⟨d, 1, none⟩ = some (.int .i64 1) := cell_of_row _ _ _ _ _ _ qd4
    have xd42 : u4.cell? ⟨d, 2, none⟩ = some (.int .u8 42) := cell_of_row _ _ _ _ _ _ qd4
    have xd43 : u4.cell? ⟨d, 3, none⟩ = some (.bool true) := cell_of_row _ _ _ _ _ _ qd4
    have xd44 : u4.cell? ⟨d, 4, none⟩ = some (.bool false) := cell_of_row _ _ _ _ _ _ qd4
    have xe40 : u4.cell? ⟨e, 0, none⟩ = some (.int .i64 1) := cell_of_row _ _ _ _ _ _ qe4
    have xe41 : u4.cell? ⟨e, 1, none⟩ = some (.int .i64 1) := cell_of_row _ _ _ _ _ _ qe4
    have xe42 : u4.cell? ⟨e, 2, none⟩ = some (.int .u8 42) := cell_of_row _ _ _ _ _ _ qe4
    have xe43 : u4.cell? ⟨e, 3, none⟩ = some (.bool false) := cell_of_row _ _ _ _ _ _ qe4
    have xe44 : u4.cell? ⟨e, 4, none⟩ = some (.bool true) := cell_of_row _ _ _ _ _ _ qe4
    have qd5 := (bu5.block d (blk_lt HQD.out)).trans HQD.out
    have qe5 := (bu5.block e (blk_lt HQ.out)).trans HQ.out
    have xd50 : u5.cell? ⟨d, 0, none⟩ = some (.int .i64 0) := cell_of_row _ _ _ _ _ _ qd5
    have xd51 : u5.cell? ⟨d, 1, none⟩ = some (.int .i64 1) := cell_of_row _ _ _ _ _ _ qd5
    have xd52 : u5.cell? ⟨d, 2, none⟩ = some (.int .u8 42) := cell_of_row _ _ _ _ _ _ qd5
    have xd53 : u5.cell? ⟨d, 3, none⟩ = some (.bool true) := cell_of_row _ _ _ _ _ _ qd5
    have xd54 : u5.cell? ⟨d, 4, none⟩ = some (.bool false) := cell_of_row _ _ _ _ _ _ qd5
    have xe50 : u5.cell? ⟨e, 0, none⟩ = some (.int .i64 1) := cell_of_row _ _ _ _ _ _ qe5
    have xe51 : u5.cell? ⟨e, 1, none⟩ = some (.int .i64 1) := cell_of_row _ _ _ _ _ _ qe5
    have xe52 : u5.cell? ⟨e, 2, none⟩ = some (.int .u8 42) := cell_of_row _ _ _ _ _ _ qe5
    have xe53 : u5.cell? ⟨e, 3, none⟩ = some (.bool false) := cell_of_row _ _ _ _ _ _ qe5
    have xe54 : u5.cell? ⟨e, 4, none⟩ = some (.bool true) := cell_of_row _ _ _ _ _ _ qe5
    have qd6 := (bu6.block d (blk_lt HQD.out)).trans HQD.out
    have qe6 := (bu6.block e (blk_lt HQ.out)).trans HQ.out
    have xd60 : u6.cell? ⟨d, 0, none⟩ = some (.int .i64 0) := cell_of_row _ _ _ _ _ _ qd6
    have xd61 : u6.cell? ⟨d, 1, none⟩ = some (.int .i64 1) := cell_of_row _ _ _ _ _ _ qd6
    have xd62 : u6.cell? ⟨d, 2, none⟩ = some (.int .u8 42) := cell_of_row _ _ _ _ _ _ qd6
    have xd63 : u6.cell? ⟨d, 3, none⟩ = some (.bool true) := cell_of_row _ _ _ _ _ _ qd6
    have xd64 : u6.cell? ⟨d, 4, none⟩ = some (.bool false) := cell_of_row _ _ _ _ _ _ qd6
    have xe60 : u6.cell? ⟨e, 0, none⟩ = some (.int .i64 1) := cell_of_row _ _ _ _ _ _ qe6
    have xe61 : u6.cell? ⟨e, 1, none⟩ = some (.int .i64 1) := cell_of_row _ _ _ _ _ _ qe6
    have xe62 : u6.cell? ⟨e, 2, none⟩ = some (.int .u8 42) := cell_of_row _ _ _ _ _ _ qe6
    have xe63 : u6.cell? ⟨e, 3, none⟩ = some (.bool false) := cell_of_row _ _ _ _ _ _ qe6
    have xe64 : u6.cell? ⟨e, 4, none⟩ = some (.bool true) := cell_of_row _ _ _ _ _ _ qe6
    have qd7 := (bu7.block d (blk_lt HQD.out)).trans HQD.out
    have qe7 := (bu7.block e (blk_lt HQ.out)).trans HQ.out
    have xd70 : u7.cell? ⟨d, 0, none⟩ = some (.int .i64 0) := cell_of_row _ _ _ _ _ _ qd7
    have xd71 : u7.cell? ⟨d, 1, none⟩ = some (.int .i64 1) := cell_of_row _ _ _ _ _ _ qd7
    have xd72 : u7.cell? ⟨d, 2, none⟩ = some (.int .u8 42) := cell_of_row _ _ _ _ _ _ qd7
    have xd73 : u7.cell? ⟨d, 3, none⟩ = some (.bool true) := cell_of_row _ _ _ _ _ _ qd7
    have xd74 : u7.cell? ⟨d, 4, none⟩ = some (.bool false) := cell_of_row _ _ _ _ _ _ qd7
    have xe70 : u7.cell? ⟨e, 0, none⟩ = some (.int .i64 1) := cell_of_row _ _ _ _ _ _ qe7
    have xe71 : u7.cell? ⟨e, 1, none⟩ = some (.int .i64 1) := cell_of_row _ _ _ _ _ _ qe7
    have xe72 : u7.cell? ⟨e, 2, none⟩ = some (.int .u8 42) := cell_of_row _ _ _ _ _ _ qe7
    have xe73 : u7.cell? ⟨e, 3, none⟩ = some (.bool false) := cell_of_row _ _ _ _ _ _ qe7
    have xe74 : u7.cell? ⟨e, 4, none⟩ = some (.bool true) := cell_of_row _ _ _ _ _ _ qe7
    clear qd0 qe0 qd1 qe1 qd2 qe2 qd3 qe3 qd4 qe4 qd5 qe5 qd6 qe6 qd7 qe7 bQ bu1 bu2 bu3 bu4 bu5 bu6 bu7
    go_upto_region 16 with (fail)
    have HO : Aside0 (∀ k, k < 8 → OddAt u9 (g + 8) k) := ⟨odd_at u9 g Fu1.out Fu2.out Fu3.out Fu4.out Fu5.out Fu6.out Fu7.out Fu8.out Fu9.out⟩
    have HTU : Aside0 (Below T.heap.size T u9) := ⟨HTQ.out.trans (Bu.out.mono HTQ.out.size)⟩
    have HUD : Aside0 (u9.heap[d]? = some (.cells (rnc ⟨0, 1, 42, true, false⟩) 23 (0, 0))) := ⟨(Bu.out.block d (blk_lt HQD.out)).trans HQD.out⟩
    have HUE : Aside0 (u9.heap[e]? = some (.cells (rnc ⟨1, 1, 42, false, true⟩) 23 (0, 0))) := ⟨(Bu.out.block e (blk_lt HQ.out)).trans HQ.out⟩
    clear hu1 su1 Fu1 hu2 su2 Fu2 hu3 su3 Fu3 hu4 su4 Fu4 hu5 su5 Fu5 hu6 su6 Fu6 hu7 su7 Fu7 hu8 su8 Fu8 hu9 su9 Fu9 xd00 xe00 xd10 xe10 xd20 xe20 xd30 xe30 xd40 xe40 xd50 xe50 xd60 xe60 xd70 xe70 xd01 xe01 xd11 xe11 xd21 xe21 xd31 xe31 xd41 xe41 xd51 xe51 xd61 xe61 xd71 xe71 xd02 xe02 xd12 xe12 xd22 xe22 xd32 xe32 xd42 xe42 xd52 xe52 xd62 xe62 xd72 xe72 xd03 xe03 xd13 xe13 xd23 xe23 xd33 xe33 xd43 xe43 xd53 xe53 xd63 xe63 xd73 xe73 xd04 xe04 xd14 xe14 xd24 xe24 xd34 xe34 xd44 xe44 xd54 xe54 xd64 xe64 xd74 xe74
    obtain ⟨U, hU⟩ : ∃ q, u9 = q := ⟨_, rfl⟩
    rw [hU] at HO HTU HUD HUE ⊢
    clear hU
    go_upto_block 4 with (fail)
    go_cut [] from 17 (fun wc => Aside0 (Below U.heap.size U wc))
    case first =>
      go_wp2_with (fail)
      go_loopg [8] 8 (fun gk v8 wr => ∃ k : Nat, v8 = .int .i64 (k : Int) ∧ Aside0 (k + gk = 8) ∧ Aside0 (Below U.heap.size U wr))
      case atStart => exact ⟨0, rfl, ⟨rfl⟩, ⟨Below.refl _ U⟩⟩
      case round =>
        obtain ⟨k, rfl, HK, HB⟩ := hrel
        by_cases hk : k < 8
        case neg =>
          have hkk : ¬ ((k : Int) < 8) := by omega
          go_wp2_with (fail)
          go_meet
          case rel => exact HB
        case pos =>
          obtain ⟨gn, rfl⟩ : ∃ gn, gk = gn + 1 := ⟨gk - 1, by have := HK.out; omega⟩
          obtain ⟨l, A, n, c, h1, hn, c0, hr⟩ := (HO.out k hk).below HB.out
          have HR := Aside0.mk hr
          have HE := Aside0.mk (odd_is h1)
          have k0 : (0 : Int) ≤ (k : Int) := by omega
          have k1 : (k : Int) < 8 := by omega
          have hwk : IntKind.i64.wrap ((k : Int) + 1) = (k : Int) + 1 := IntWalk.i64_in _ (by omega)
          clear hr h1
          go_upto_if 167 with (fail)
          refine (pairs_c A n c l wr HR.out (by omega)).mono ?_
          rintro _ w3 ⟨A3, n3, c3, R, rfl, hp, hs, hr3, hb3⟩
          rw [HE.out] at hp
          obtain rfl := List.Perm.eq_nil hp
          obtain rfl : n3 = 0 := hr3.1.symm
          have HB3 : Aside0 (Below U.heap.size U w3) := ⟨HB.out.trans (hb3.mono HB.out.size)⟩
          clear hp hs hr3 hb3
          go_wp2_with (fail)
          go_roundg gn
          case measure => exact Nat.lt_succ_self _
          case rel => exact ⟨k + 1, by simp, ⟨by have := HK.out; omega⟩, HB3⟩
    case rest =>
      have HUC := hcut
      clear hcut
      have hwd : wc.heap[d]? = some (.cells (rnc ⟨0, 1, 42, true, false⟩) 23 (0, 0)) := (HUC.out.block d (blk_lt HUD.out)).trans HUD.out
      have hwe : wc.heap[e]? = some (.cells (rnc ⟨1, 1, 42, false, true⟩) 23 (0, 0)) := (HUC.out.block e (blk_lt HUE.out)).trans HUE.out
      have HWD := Aside0.mk hwd
      have xd0 : wc.cell? ⟨d, 0, none⟩ = some (.int .i64 0) := cell_of_row _ _ _ _ _ _ hwd
      have xd1 : wc.cell? ⟨d, 1, none⟩ = some (.int .i64 1) := cell_of_row _ _ _ _ _ _ hwd
      have xd2 : wc.cell? ⟨d, 2, none⟩ = some (.int .u8 42) := cell_of_row _ _ _ _ _ _ hwd
      have xd3 : wc.cell? ⟨d, 3, none⟩ = some (.bool true) := cell_of_row _ _ _ _ _ _ hwd
      have xd4 : wc.cell? ⟨d, 4, none⟩ = some (.bool false) := cell_of_row _ _ _ _ _ _ hwd
      have xe0 : wc.cell? ⟨e, 0, none⟩ = some (.int .i64 1) := cell_of_row _ _ _ _ _ _ hwe
      have xe1 : wc.cell? ⟨e, 1, none⟩ = some (.int .i64 1) := cell_of_row _ _ _ _ _ _ hwe
      have xe2 : wc.cell? ⟨e, 2, none⟩ = some (.int .u8 42) := cell_of_row _ _ _ _ _ _ hwe
      have xe3 : wc.cell? ⟨e, 3, none⟩ = some (.bool false) := cell_of_row _ _ _ _ _ _ hwe
      have xe4 : wc.cell? ⟨e, 4, none⟩ = some (.bool true) := cell_of_row _ _ _ _ _ _ hwe
      obtain ⟨f, hf⟩ : ∃ q, wc.heap.size = q := ⟨_, rfl⟩
      obtain ⟨y1, hy1⟩ : ∃ q, wc.alloc (.cells #[.int .i64 0, .int .i64 1, .int .u8 42, .bool true, .bool false, .int .i64 1, .int .i64 1, .int .u8 42, .bool false, .bool true] 23) = q := ⟨_, rfl⟩
      have ny1 : y1.heap[f]? = some (.cells #[.int .i64 0, .int .i64 1, .int .u8 42, .bool true, .bool false, .int .i64 1, .int .i64 1, .int .u8 42, .bool false, .bool true] 23 (0, 0)) := by rw [← hy1, ← hf]; exact heap_alloc_new _ _
      have ly1 : Below wc.heap.size wc y1 := by rw [← hy1]; exact below_alloc (Below.refl _ wc) _
      have Ny1 := Aside0.mk ny1
      have Ly1 := Aside0.mk ly1
      clear ny1 ly1
      clear hwd hwe
      go_upto_region 22 with (fail)
      refine (pairs_c (some ⟨f, 0, none⟩) 2 2 [⟨0, 1, 42, true, false⟩, ⟨1, 1, 42, false, true⟩] y1 (row_runs y1 f [⟨0, 1, 42, true, false⟩, ⟨1, 1, 42, false, true⟩] (by decide) _ (two_r ⟨0, 1, 42, true, false⟩ ⟨1, 1, 42, false, true⟩) Ny1.out (by decide)) (by decide)).mono ?_
      rintro _ z1 ⟨A1, nz1, cz1, R, rfl, hp, hs, hrz1, hbz1⟩
      rw [two_ok.1] at hp
      obtain rfl := srt_uniq hp hs (by simp)
      obtain rfl : nz1 = 1 := hrz1.1.symm
      obtain ⟨az1, rfl, _⟩ := hrz1.2.2 (by decide)
      have HRz1 := Aside0.mk hrz1
      have HBz1 : Aside0 (Below wc.heap.size wc z1) := ⟨Ly1.out.trans (hbz1.mono Ly1.out.size)⟩
      clear hp hs hrz1 hbz1 hy1
      have hzd : z1.heap[d]? = some (.cells (rnc ⟨0, 1, 42, true, false⟩) 23 (0, 0)) := (HBz1.out.block d (blk_lt HWD.out)).trans HWD.out
      clear xd0 xe0 xd1 xe1 xd2 xe2 xd3 xe3 xd4 xe4
      have xd0 : z1.cell? ⟨d, 0, none⟩ = some (.int .i64 0) := cell_of_row _ _ _ _ _ _ hzd
      have xd1 : z1.cell? ⟨d, 1, none⟩ = some (.int .i64 1) := cell_of_row _ _ _ _ _ _ hzd
      have xd2 : z1.cell? ⟨d, 2, none⟩ = some (.int .u8 42) := cell_of_row _ _ _ _ _ _ hzd
      have xd3 : z1.cell? ⟨d, 3, none⟩ = some (.bool true) := cell_of_row _ _ _ _ _ _ hzd
      have xd4 : z1.cell? ⟨d, 4, none⟩ = some (.bool false) := cell_of_row _ _ _ _ _ _ hzd
      obtain ⟨k, hk⟩ : ∃ q, z1.heap.size = q := ⟨_, rfl⟩
      obtain ⟨y2, hy2⟩ : ∃ q, z1.alloc (.cells #[.int .i64 0, .int .i64 1, .int .u8 42, .bool true, .bool false, .int .i64 1048575, .int .i64 1, .int .u8 42, .bool false, .bool true] 23) = q := ⟨_, rfl⟩
      have ny2 : y2.heap[k]? = some (.cells #[.int .i64 0, .int .i64 1, .int .u8 42, .bool true, .bool false, .int .i64 1048575, .int .i64 1, .int .u8 42, .bool false, .bool true] 23 (0, 0)) := by rw [← hy2, ← hk]; exact heap_alloc_new _ _
      have ly2 : Below z1.heap.size z1 y2 := by rw [← hy2]; exact below_alloc (Below.refl _ z1) _
      have Ny2 := Aside0.mk ny2
      have Ly2 := Aside0.mk ly2
      clear ny2 ly2
      clear hzd
      go_upto_region 23 with (fail)
      refine (pairs_c (some ⟨k, 0, none⟩) 2 2 [⟨0, 1, 42, true, false⟩, ⟨1048575, 1, 42, false, true⟩] y2 (row_runs y2 k [⟨0, 1, 42, true, false⟩, ⟨1048575, 1, 42, false, true⟩] (by decide) _ (two_r ⟨0, 1, 42, true, false⟩ ⟨1048575, 1, 42, false, true⟩) Ny2.out (by decide)) (by decide)).mono ?_
      rintro _ z2 ⟨A2, nz2, cz2, R, rfl, hp, hs, hrz2, hbz2⟩
      rw [two_ok.2] at hp
      obtain rfl := srt_uniq hp hs (by simp)
      obtain rfl : nz2 = 1 := hrz2.1.symm
      obtain ⟨az2, rfl, _⟩ := hrz2.2.2 (by decide)
      have HRz2 := Aside0.mk hrz2
      have HBz2 : Aside0 (Below z1.heap.size z1 z2) := ⟨Ly2.out.trans (hbz2.mono Ly2.out.size)⟩
      clear hp hs hrz2 hbz2 hy2
      clear xd0 xd1 xd2 xd3 xd4
      go_upto_region 24 with (fail)
      refine (lookq_c ⟨#[42, 42]⟩ 0 1 9 z2 (by decide)).mono ?_
      rintro _ z3 ⟨r, is, ⟨rfl, hbz3⟩, hr⟩
      obtain ⟨rfl, rfl⟩ := hr.uniq (look_of lk1)
      have HBz3 := Aside0.mk hbz3
      clear hbz3 hr
      obtain ⟨m1, hm1⟩ : ∃ q, z3.heap.size = q := ⟨_, rfl⟩
      obtain ⟨q1, hq1⟩ : ∃ q, z3.alloc (.cells zrun 23) = q := ⟨_, rfl⟩
      have hsq1 : q1.heap.size = m1 + 1 := by rw [← hq1]; simp [hm1]
      have hzm1 : q1.heap[m1]? = some (.cells zrun 23 (0, 0)) := by rw [← hq1, ← hm1]; exact heap_alloc_new _ _
      have hbm1 : Below z3.heap.size z3 q1 := by rw [← hq1]; exact below_alloc (Below.refl _ z3) _
      have fzm1 := fun j => blk_frozen hzm1 j
      have z0m1 : q1.cell? ⟨m1, 0, none⟩ = some (.int .i64 0) := cell_of_row _ _ _ _ _ _ hzm1
      have z1m1 : q1.cell? ⟨m1, 1, none⟩ = some (.int .i64 0) := cell_of_row _ _ _ _ _ _ hzm1
      have z2m1 : q1.cell? ⟨m1, 2, none⟩ = some (.int .u8 0) := cell_of_row _ _ _ _ _ _ hzm1
      have z3m1 : q1.cell? ⟨m1, 3, none⟩ = some (.bool false) := cell_of_row _ _ _ _ _ _ hzm1
      have z4m1 : q1.cell? ⟨m1, 4, none⟩ = some (.bool false) := cell_of_row _ _ _ _ _ _ hzm1
      have HZm1 := Aside0.mk hzm1
      have HBm1 := Aside0.mk hbm1
      clear hzm1 hbm1
      go_upto_region 24 with (fail)
      obtain ⟨V1, hV1⟩ : ∃ q, ((((q1.setCell ⟨m1, 0, none⟩ (.int .i64 zeroR.a)).setCell ⟨m1, 1, none⟩ (.int .i64 zeroR.n)).setCell ⟨m1, 2, none⟩ (.int .u8 zeroR.c)).setCell ⟨m1, 3, none⟩ (.bool zeroR.o)).setCell ⟨m1, 4, none⟩ (.bool zeroR.k) = q := ⟨_, rfl⟩
      rw [hV1]
      have HV1 : Aside0 (V1.heap[m1]? = some (.cells (rnc zeroR) 23 (0, 0))) := ⟨by rw [← hV1]; exact five_row HZm1.out _ _ _ _ _⟩
      have HBV1 : Aside0 (Below z3.heap.size z3 V1) := ⟨by rw [← hV1]; exact five_below HBm1.out (by omega) _ _ _ _ _⟩
      clear hV1 hq1 fzm1 z0m1 z1m1 z2m1 z3m1 z4m1 hsq1
      go_upto_region 25 with (fail)
      refine (lookq_c ⟨#[42, 42, 42]⟩ 1 1 2 V1 (by decide)).mono ?_
      rintro _ z4 ⟨r, is, ⟨rfl, hbz4⟩, hr⟩
      obtain ⟨rfl, rfl⟩ := hr.uniq (look_of lk2)
      have HBz4 := Aside0.mk hbz4
      clear hbz4 hr
      obtain ⟨m2, hm2⟩ : ∃ q, z4.heap.size = q := ⟨_, rfl⟩
      obtain ⟨q2, hq2⟩ : ∃ q, z4.alloc (.cells zrun 23) = q := ⟨_, rfl⟩
      have hsq2 : q2.heap.size = m2 + 1 := by rw [← hq2]; simp [hm2]
      have hzm2 : q2.heap[m2]? = some (.cells zrun 23 (0, 0)) := by rw [← hq2, ← hm2]; exact heap_alloc_new _ _
      have hbm2 : Below z4.heap.size z4 q2 := by rw [← hq2]; exact below_alloc (Below.refl _ z4) _
      have fzm2 := fun j => blk_frozen hzm2 j
      have z0m2 : q2.cell? ⟨m2, 0, none⟩ = some (.int .i64 0) := cell_of_row _ _ _ _ _ _ hzm2
      have z1m2 : q2.cell? ⟨m2, 1, none⟩ = some (.int .i64 0) := cell_of_row _ _ _ _ _ _ hzm2
      have z2m2 : q2.cell? ⟨m2, 2, none⟩ = some (.int .u8 0) := cell_of_row _ _ _ _ _ _ hzm2
      have z3m2 : q2.cell? ⟨m2, 3, none⟩ = some (.bool false) := cell_of_row _ _ _ _ _ _ hzm2
      have z4m2 : q2.cell? ⟨m2, 4, none⟩ = some (.bool false) := cell_of_row _ _ _ _ _ _ hzm2
      have HZm2 := Aside0.mk hzm2
      have HBm2 := Aside0.mk hbm2
      clear hzm2 hbm2
      go_upto_region 25 with (fail)
      obtain ⟨V2, hV2⟩ : ∃ q, ((((q2.setCell ⟨m2, 0, none⟩ (.int .i64 1)).setCell ⟨m2, 1, none⟩ (.int .i64 1)).setCell ⟨m2, 2, none⟩ (.int .u8 42)).setCell ⟨m2, 3, none⟩ (.bool false)).setCell ⟨m2, 4, none⟩ (.bool false) = q := ⟨_, rfl⟩
      rw [hV2]
      have HV2 : Aside0 (V2.heap[m2]? = some (.cells (rnc ⟨1, 1, 42, false, false⟩) 23 (0, 0))) := ⟨by rw [← hV2]; exact five_row HZm2.out _ _ _ _ _⟩
      have HBV2 : Aside0 (Below z4.heap.size z4 V2) := ⟨by rw [← hV2]; exact five_below HBm2.out (by omega) _ _ _ _ _⟩
      clear hV2 hq2 fzm2 z0m2 z1m2 z2m2 z3m2 z4m2 hsq2
      go_upto_region 26 with (fail)
      refine (lookq_c ⟨#[42]⟩ (-1) 0 9 V2 (by decide)).mono ?_
      rintro _ z5 ⟨r, is, ⟨rfl, hbz5⟩, hr⟩
      obtain ⟨rfl, rfl⟩ := hr.uniq (look_of lk3)
      have HBz5 := Aside0.mk hbz5
      clear hbz5 hr
      obtain ⟨m3, hm3⟩ : ∃ q, z5.heap.size = q := ⟨_, rfl⟩
      obtain ⟨q3, hq3⟩ : ∃ q, z5.alloc (.cells zrun 23) = q := ⟨_, rfl⟩
      have hsq3 : q3.heap.size = m3 + 1 := by rw [← hq3]; simp [hm3]
      have hzm3 : q3.heap[m3]? = some (.cells zrun 23 (0, 0)) := by rw [← hq3, ← hm3]; exact heap_alloc_new _ _
      have hbm3 : Below z5.heap.size z5 q3 := by rw [← hq3]; exact below_alloc (Below.refl _ z5) _
      have fzm3 := fun j => blk_frozen hzm3 j
      have z0m3 : q3.cell? ⟨m3, 0, none⟩ = some (.int .i64 0) := cell_of_row _ _ _ _ _ _ hzm3
      have z1m3 : q3.cell? ⟨m3, 1, none⟩ = some (.int .i64 0) := cell_of_row _ _ _ _ _ _ hzm3
      have z2m3 : q3.cell? ⟨m3, 2, none⟩ = some (.int .u8 0) := cell_of_row _ _ _ _ _ _ hzm3
      have z3m3 : q3.cell? ⟨m3, 3, none⟩ = some (.bool false) := cell_of_row _ _ _ _ _ _ hzm3
      have z4m3 : q3.cell? ⟨m3, 4, none⟩ = some (.bool false) := cell_of_row _ _ _ _ _ _ hzm3
      have HZm3 := Aside0.mk hzm3
      have HBm3 := Aside0.mk hbm3
      clear hzm3 hbm3
      go_upto_region 26 with (fail)
      obtain ⟨V3, hV3⟩ : ∃ q, ((((q3.setCell ⟨m3, 0, none⟩ (.int .i64 zeroR.a)).setCell ⟨m3, 1, none⟩ (.int .i64 zeroR.n)).setCell ⟨m3, 2, none⟩ (.int .u8 zeroR.c)).setCell ⟨m3, 3, none⟩ (.bool zeroR.o)).setCell ⟨m3, 4, none⟩ (.bool zeroR.k) = q := ⟨_, rfl⟩
      rw [hV3]
      have HV3 : Aside0 (V3.heap[m3]? = some (.cells (rnc zeroR) 23 (0, 0))) := ⟨by rw [← hV3]; exact five_row HZm3.out _ _ _ _ _⟩
      have HBV3 : Aside0 (Below z5.heap.size z5 V3) := ⟨by rw [← hV3]; exact five_below HBm3.out (by omega) _ _ _ _ _⟩
      clear hV3 hq3 fzm3 z0m3 z1m3 z2m3 z3m3 z4m3 hsq3
      have b45 : Below V2.heap.size V2 V3 := HBz5.out.trans (HBV3.out.mono HBz5.out.size)
      have b34 : Below V1.heap.size V1 V2 := HBz4.out.trans (HBV2.out.mono HBz4.out.size)
      have b23 : Below z2.heap.size z2 V1 := HBz3.out.trans (HBV1.out.mono HBz3.out.size)
      have b35 : Below V1.heap.size V1 V3 := b34.trans (b45.mono b34.size)
      have b25 : Below z2.heap.size z2 V3 := b23.trans (b35.mono b23.size)
      have b15 : Below z1.heap.size z1 V3 := HBz2.out.trans (b25.mono HBz2.out.size)
      have b05 : Below wc.heap.size wc V3 := HBz1.out.trans (b15.mono HBz1.out.size)
      have bU5 : Below U.heap.size U V3 := HUC.out.trans (b05.mono HUC.out.size)
      have bT5 : Below T.heap.size T V3 := HTU.out.trans (bU5.mono HTU.out.size)
      have HBA : Aside0 (Below w.heap.size w V3) := ⟨Bv.out.trans (bT5.mono Bv.out.size)⟩
      obtain ⟨p0, p1x, p2⟩ := pr_at (k := 0) (rows_below HRz1.out b15) rfl
      obtain ⟨o0, o1, o2⟩ := pr_at (k := 0) (rows_below HRz2.out b25) rfl
      have hm2 : V3.heap[m2]? = some (.cells (rnc ⟨1, 1, 42, false, false⟩) 23 (0, 0)) := (b45.block m2 (blk_lt HV2.out)).trans HV2.out
      have xm0 : V3.cell? ⟨m2, 0, none⟩ = some (.int .i64 1) := cell_of_row _ _ _ _ _ _ hm2
      have xm1 : V3.cell? ⟨m2, 1, none⟩ = some (.int .i64 1) := cell_of_row _ _ _ _ _ _ hm2
      have xm2 : V3.cell? ⟨m2, 2, none⟩ = some (.int .u8 42) := cell_of_row _ _ _ _ _ _ hm2
      have xm3 : V3.cell? ⟨m2, 3, none⟩ = some (.bool false) := cell_of_row _ _ _ _ _ _ hm2
      have xm4 : V3.cell? ⟨m2, 4, none⟩ = some (.bool false) := cell_of_row _ _ _ _ _ _ hm2
      have ead : ∀ ad : Addr, ad.add 0 = ad := fun ad => by cases ad; simp [Addr.add]
      simp only [Nat.zero_mul] at p0 p1x p2 o0 o1 o2
      rw [ead] at p0 p1x p2 o0 o1 o2
      clear ead hm2 b45 b34 b23 b35 b25 b15 b05 bU5 bT5
      go_wp2_with (first
        | (go_at_call 13; refine (pairs_c none 0 0 [] V3 ⟨rfl, by decide, fun h => by omega⟩ (by decide)).mono ?_; rintro _ w5 ⟨A5, n5, c5, R5, rfl, hp5, hs5, hr5, hb5⟩; obtain rfl := List.Perm.eq_nil hp5; obtain rfl : n5 = 0 := hr5.1.symm; have HB5 := Aside0.mk hb5; have HRD := Aside0.mk (reads_c w5); clear hp5 hs5 hr5 hb5)
        | (go_at_call 11; refine HRD.out.mono ?_; rintro _ w6 ⟨rfl, h6⟩; have HB6 := Aside0.mk h6; clear h6))
      go_ret
      exact ⟨rfl, HBA.out.trans ((HB5.out.trans (HB6.out.mono HB5.out.size)).mono HBA.out.size)⟩
end Go.Proofs.Ytjfpkldknchnkaa.Me
