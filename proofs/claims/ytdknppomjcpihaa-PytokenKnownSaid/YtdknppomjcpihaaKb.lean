/- PytokenKnown walked. -/
import Derived.Test.YtdknppomjcpihaaKa
import Derived.Great.BuildSlice
namespace Go.Proofs.Ytdknppomjcpihaa.PPy
open Go.RowKit Go.Proofs.YtdknppomjcpihaaW.PrintWords Go.Proofs.YtdknppomjcpihaaW.PrintLast Go.Proofs.YtdknppomjcpihaaW.PrintMore
attribute [local go_sem high] eqA33
attribute [local go_sem] max2_int min2_int max_two min_two max_three min_three max_four min_four
set_option linter.unusedVariables false
set_option linter.unusedSimpArgs false
def allocs : World → List Obj → World
  | w, [] => w
  | w, o :: l => allocs (w.alloc o) l
theorem allocs_ok : ∀ (l : List Obj) (w : World), (∀ i o, l[i]? = some o → (allocs w l).heap[w.heap.size + i]? = some o) ∧ Below w.heap.size w (allocs w l)
  | [], w => ⟨fun i o h => by simp at h, Below.refl _ w⟩
  | o :: l, w => by
    obtain ⟨h1, h2⟩ := allocs_ok l (w.alloc o)
    have hs : (w.alloc o).heap.size = w.heap.size + 1 := by simp
    have hb : Below w.heap.size w (w.alloc o) := below_alloc (Below.refl _ w) _
    refine ⟨fun i x hx => ?_, hb.trans (h2.mono (by omega))⟩
    cases i with
    | zero =>
      simp at hx
      subst hx
      exact (h2.block w.heap.size (by omega)).trans (heap_alloc_new _ _)
    | succ i =>
      have := h1 i x (by simpa using hx)
      rw [hs, show w.heap.size + 1 + i = w.heap.size + (i + 1) by omega] at this
      exact this
theorem alloc_size {w v : World} {o : Obj} {b : Nat} (h : w.alloc o = v) (hb : w.heap.size = b) : v.heap.size = b + 1 := by rw [← h]; simp [hb]
theorem pk_cell_below {w w' : World} {p : Addr} {u : Value} (hb : Below w.heap.size w w') (h : w.cell? p = some u) : w'.cell? p = some u := by
  have hlt : p.block < w.heap.size := by
    unfold World.cell? at h
    cases hh : w.heap[p.block]? with
    | none => rw [hh] at h; simp at h
    | some o => exact (Array.getElem?_eq_some_iff.1 hh).1
  rw [hb.cell hlt]
  exact h
theorem pk_blk_lt {W : World} {g : Nat} {o : Obj} (h : W.heap[g]? = some o) : g < W.heap.size := (Array.getElem?_eq_some_iff.1 h).1
/-- A row of bytes, and one of ints, in memory. -/
def U8s (W : World) (v : Value) (l : List Int) : Prop := ∃ A c, v = .slice A l.length c ∧ ∀ j x, l[j]? = some x → ∃ g, A = some ⟨g, 0, none⟩ ∧ W.cell? ⟨g, j, none⟩ = some (.int .u8 x)
def I64s (W : World) (v : Value) (l : List Int) : Prop := ∃ A c, v = .slice A l.length c ∧ ∀ j x, l[j]? = some x → ∃ g, A = some ⟨g, 0, none⟩ ∧ W.cell? ⟨g, j, none⟩ = some (.int .i64 x)
theorem U8s.of {W : World} {g n c : Nat} (l : List Int) (hn : l.length = n) (h : W.heap[g]? = some (.cells (l.map (Value.int .u8)).toArray 5 (0, 0))) : U8s W (.slice (some ⟨g, 0, none⟩) n c) l :=
  ⟨some ⟨g, 0, none⟩, c, by rw [hn], fun j x hx => ⟨g, rfl, by rw [cell_of_row _ _ _ _ _ _ h]; simp [hx]⟩⟩
theorem I64s.of {W : World} {g n c : Nat} (l : List Int) (hn : l.length = n) (h : W.heap[g]? = some (.cells (l.map (Value.int .i64)).toArray 3 (0, 0))) : I64s W (.slice (some ⟨g, 0, none⟩) n c) l :=
  ⟨some ⟨g, 0, none⟩, c, by rw [hn], fun j x hx => ⟨g, rfl, by rw [cell_of_row _ _ _ _ _ _ h]; simp [hx]⟩⟩
theorem U8s.nil {W : World} : U8s W (.slice none 0 0) [] := ⟨none, 0, rfl, fun j x hx => by simp at hx⟩
theorem I64s.nil {W : World} : I64s W (.slice none 0 0) [] := ⟨none, 0, rfl, fun j x hx => by simp at hx⟩
theorem U8s.below {W W' : World} {v : Value} {l : List Int} (h : U8s W v l) (hb : Below W.heap.size W W') : U8s W' v l := by
  obtain ⟨A, c, h1, h2⟩ := h
  exact ⟨A, c, h1, fun j x hx => by obtain ⟨g, h3, h4⟩ := h2 j x hx; exact ⟨g, h3, pk_cell_below hb h4⟩⟩
theorem I64s.below {W W' : World} {v : Value} {l : List Int} (h : I64s W v l) (hb : Below W.heap.size W W') : I64s W' v l := by
  obtain ⟨A, c, h1, h2⟩ := h
  exact ⟨A, c, h1, fun j x hx => by obtain ⟨g, h3, h4⟩ := h2 j x hx; exact ⟨g, h3, pk_cell_below hb h4⟩⟩
/-- A row of the table, in memory. -/
def RowAt (W : World) (tb : Nat) (k : Nat) : Prop := ∃ r v2 v3, tab[k]? = some r ∧ W.cell? ⟨tb, k * 6, none⟩ = some (.string r.s) ∧ W.cell? ⟨tb, k * 6 + 1, none⟩ = some (.int .u8 r.ma) ∧ W.cell? ⟨tb, k * 6 + 2, none⟩ = some v2 ∧ W.cell? ⟨tb, k * 6 + 3, none⟩ = some v3 ∧ W.cell? ⟨tb, k * 6 + 4, none⟩ = some (.int .u8 r.op) ∧ W.cell? ⟨tb, k * 6 + 5, none⟩ = some (.int .i64 r.dp) ∧ U8s W v2 r.ks ∧ I64s W v3 r.zs
theorem RowAt.below {W W' : World} {tb k : Nat} (h : RowAt W tb k) (hb : Below W.heap.size W W') : RowAt W' tb k := by
  obtain ⟨r, v2, v3, h1, c0, c1, c2, c3, c4, c5, h2, h3⟩ := h
  exact ⟨r, v2, v3, h1, pk_cell_below hb c0, pk_cell_below hb c1, pk_cell_below hb c2, pk_cell_below hb c3, pk_cell_below hb c4, pk_cell_below hb c5, h2.below hb, h3.below hb⟩
set_option maxRecDepth 100000 in
theorem tab_at (W : World) (b : Nat) (h0 : W.heap[b]? = some (.cells ([13, 17, 13, 17, 15, 17, 14, 17, 18].map (Value.int .u8)).toArray 5 (0, 0))) (h1 : W.heap[b + 1]? = some (.cells ([1, 1, 1, 1, 5, 1, 6, 1, 3].map (Value.int .i64)).toArray 3 (0, 0))) (h2 : W.heap[b + 2]? = some (.cells ([16].map (Value.int .u8)).toArray 5 (0, 0))) (h3 : W.heap[b + 3]? = some (.cells ([5].map (Value.int .i64)).toArray 3 (0, 0))) (h4 : W.heap[b + 4]? = some (.cells ([16, 17, 14].map (Value.int .u8)).toArray 5 (0, 0))) (h5 : W.heap[b + 5]? = some (.cells ([4, 1, 1].map (Value.int .i64)).toArray 3 (0, 0))) (h6 : W.heap[b + 6]? = some (.cells ([16].map (Value.int .u8)).toArray 5 (0, 0))) (h7 : W.heap[b + 7]? = some (.cells ([3].map (Value.int .i64)).toArray 3 (0, 0))) (h8 : W.heap[b + 8]? = some (.cells ([16].map (Value.int .u8)).toArray 5 (0, 0))) (h9 : W.heap[b + 9]? = some (.cells ([2].map (Value.int .i64)).toArray 3 (0, 0))) (h10 : W.heap[b + 10]? = some (.cells ([2].map (Value.int .u8)).toArray 5 (0, 0))) (h11 : W.heap[b + 11]? = some (.cells ([1].map (Value.int .i64)).toArray 3 (0, 0))) (h12 : W.heap[b + 12]? = some (.cells ([2].map (Value.int .u8)).toArray 5 (0, 0))) (h13 : W.heap[b + 13]? = some (.cells ([2].map (Value.int .i64)).toArray 3 (0, 0))) (h14 : W.heap[b + 14]? = some (.cells ([2, 2, 13, 19].map (Value.int .u8)).toArray 5 (0, 0))) (h15 : W.heap[b + 15]? = some (.cells ([1, 1, 1, 1].map (Value.int .i64)).toArray 3 (0, 0))) (h16 : W.heap[b + 16]? = some (.cells ([14, 17, 14].map (Value.int .u8)).toArray 5 (0, 0))) (h17 : W.heap[b + 17]? = some (.cells ([3, 1, 1].map (Value.int .i64)).toArray 3 (0, 0))) (h18 : W.heap[b + 18]? = some (.cells ([14].map (Value.int .u8)).toArray 5 (0, 0))) (h19 : W.heap[b + 19]? = some (.cells ([4].map (Value.int .i64)).toArray 3 (0, 0))) (h20 : W.heap[b + 20]? = some (.cells ([17].map (Value.int .u8)).toArray 5 (0, 0))) (h21 : W.heap[b + 21]? = some (.cells ([3].map (Value.int .i64)).toArray 3 (0, 0))) (h22 : W.heap[b + 22]? = some (.cells ([17, 14].map (Value.int .u8)).toArray 5 (0, 0))) (h23 : W.heap[b + 23]? = some (.cells ([1, 2].map (Value.int .i64)).toArray 3 (0, 0))) (h24 : W.heap[b + 24]? = some (.cells ([13, 17, 13, 2].map (Value.int .u8)).toArray 5 (0, 0))) (h25 : W.heap[b + 25]? = some (.cells ([1, 2, 1, 1].map (Value.int .i64)).toArray 3 (0, 0))) (h26 : W.heap[b + 26]? = some (.cells ([15].map (Value.int .u8)).toArray 5 (0, 0))) (h27 : W.heap[b + 27]? = some (.cells ([12].map (Value.int .i64)).toArray 3 (0, 0))) (h28 : W.heap[b + 28]? = some (.cells ([15].map (Value.int .u8)).toArray 5 (0, 0))) (h29 : W.heap[b + 29]? = some (.cells ([2].map (Value.int .i64)).toArray 3 (0, 0))) (h30 : W.heap[b + 30]? = some (.cells ([16].map (Value.int .u8)).toArray 5 (0, 0))) (h31 : W.heap[b + 31]? = some (.cells ([4].map (Value.int .i64)).toArray 3 (0, 0))) (h32 : W.heap[b + 32]? = some (.cells ([16].map (Value.int .u8)).toArray 5 (0, 0))) (h33 : W.heap[b + 33]? = some (.cells ([4].map (Value.int .i64)).toArray 3 (0, 0))) (h34 : W.heap[b + 34]? = some (.cells ([13, 15].map (Value.int .u8)).toArray 5 (0, 0))) (h35 : W.heap[b + 35]? = some (.cells ([2, 3].map (Value.int .i64)).toArray 3 (0, 0))) (h36 : W.heap[b + 36]? = some (.cells ([13, 2].map (Value.int .u8)).toArray 5 (0, 0))) (h37 : W.heap[b + 37]? = some (.cells ([3, 1].map (Value.int .i64)).toArray 3 (0, 0))) (h38 : W.heap[b + 38]? = some (.cells ([17, 17, 17].map (Value.int .u8)).toArray 5 (0, 0))) (h39 : W.heap[b + 39]? = some (.cells ([1, 1, 1].map (Value.int .i64)).toArray 3 (0, 0))) (h40 : W.heap[b + 40]? = some (.cells ([16].map (Value.int .u8)).toArray 5 (0, 0))) (h41 : W.heap[b + 41]? = some (.cells ([3].map (Value.int .i64)).toArray 3 (0, 0))) (h42 : W.heap[b + 42]? = some (.cells ([13, 13, 19].map (Value.int .u8)).toArray 5 (0, 0))) (h43 : W.heap[b + 43]? = some (.cells ([1, 1, 1].map (Value.int .i64)).toArray 3 (0, 0))) (h44 : W.heap[b + 44]? = some (.cells ([13].map (Value.int .u8)).toArray 5 (0, 0))) (h45 : W.heap[b + 45]? = some (.cells ([1].map (Value.int .i64)).toArray 3 (0, 0))) (ht : W.heap[b + 46]? = some (.cells #[.string ⟨#[120, 32, 61, 32, 102, 40, 34, 97, 32, 98, 34, 44, 32, 49, 46, 53, 101, 45, 51, 41, 32, 35, 32, 99]⟩, .int .u8 0, .slice (some ⟨b, 0, none⟩) 9 9, .slice (some ⟨b + 1, 0, none⟩) 9 9, .int .u8 0, .int .i64 0, .string ⟨#[114, 39, 39, 39, 120, 10]⟩, .int .u8 0, .slice (some ⟨b + 2, 0, none⟩) 1 1, .slice (some ⟨b + 3, 0, none⟩) 1 1, .int .u8 1, .int .i64 0, .string ⟨#[121, 39, 39, 39, 32, 43, 32, 49]⟩, .int .u8 1, .slice (some ⟨b + 4, 0, none⟩) 3 3, .slice (some ⟨b + 5, 0, none⟩) 3 3, .int .u8 0, .int .i64 0, .string ⟨#[39, 97, 92, 10]⟩, .int .u8 0, .slice (some ⟨b + 6, 0, none⟩) 1 1, .slice (some ⟨b + 7, 0, none⟩) 1 1, .int .u8 3, .int .i64 0, .string ⟨#[98, 39]⟩, .int .u8 3, .slice (some ⟨b + 8, 0, none⟩) 1 1, .slice (some ⟨b + 9, 0, none⟩) 1 1, .int .u8 0, .int .i64 0, .string ⟨#[98]⟩, .int .u8 4, .slice (some ⟨b + 10, 0, none⟩) 1 1, .slice (some ⟨b + 11, 0, none⟩) 1 1, .int .u8 0, .int .i64 0, .string ⟨#[39, 97]⟩, .int .u8 0, .slice (some ⟨b + 12, 0, none⟩) 1 1, .slice (some ⟨b + 13, 0, none⟩) 1 1, .int .u8 0, .int .i64 0, .string ⟨#[41, 32, 92, 32, 120, 32, 92]⟩, .int .u8 0, .slice (some ⟨b + 14, 0, none⟩) 4 4, .slice (some ⟨b + 15, 0, none⟩) 4 4, .int .u8 0, .int .i64 0, .string ⟨#[48, 120, 69, 43, 49]⟩, .int .u8 0, .slice (some ⟨b + 16, 0, none⟩) 3 3, .slice (some ⟨b + 17, 0, none⟩) 3 3, .int .u8 0, .int .i64 0, .string ⟨#[49, 101, 43, 53]⟩, .int .u8 0, .slice (some ⟨b + 18, 0, none⟩) 1 1, .slice (some ⟨b + 19, 0, none⟩) 1 1, .int .u8 0, .int .i64 0, .string ⟨#[46, 46, 46]⟩, .int .u8 0, .slice (some ⟨b + 20, 0, none⟩) 1 1, .slice (some ⟨b + 21, 0, none⟩) 1 1, .int .u8 0, .int .i64 0, .string ⟨#[46, 46, 53]⟩, .int .u8 0, .slice (some ⟨b + 22, 0, none⟩) 2 2, .slice (some ⟨b + 23, 0, none⟩) 2 2, .int .u8 0, .int .i64 0, .string ⟨#[97, 33, 61, 98, 33]⟩, .int .u8 0, .slice (some ⟨b + 24, 0, none⟩) 4 4, .slice (some ⟨b + 25, 0, none⟩) 4 4, .int .u8 0, .int .i64 0, .string ⟨#[34, 34, 34, 97, 92, 34, 34, 34, 98, 34, 34, 34]⟩, .int .u8 0, .slice (some ⟨b + 26, 0, none⟩) 1 1, .slice (some ⟨b + 27, 0, none⟩) 1 1, .int .u8 0, .int .i64 0, .string ⟨#[39, 39, 10]⟩, .int .u8 0, .slice (some ⟨b + 28, 0, none⟩) 1 1, .slice (some ⟨b + 29, 0, none⟩) 1 1, .int .u8 0, .int .i64 0, .string ⟨#[39, 39, 39, 39]⟩, .int .u8 0, .slice (some ⟨b + 30, 0, none⟩) 1 1, .slice (some ⟨b + 31, 0, none⟩) 1 1, .int .u8 1, .int .i64 0, .string ⟨#[39, 39, 39, 92, 13, 10]⟩, .int .u8 0, .slice (some ⟨b + 32, 0, none⟩) 1 1, .slice (some ⟨b + 33, 0, none⟩) 1 1, .int .u8 1, .int .i64 0, .string ⟨#[98, 117, 39, 120, 39]⟩, .int .u8 0, .slice (some ⟨b + 34, 0, none⟩) 2 2, .slice (some ⟨b + 35, 0, none⟩) 2 2, .int .u8 0, .int .i64 0, .string ⟨#[255, 95, 57, 0]⟩, .int .u8 0, .slice (some ⟨b + 36, 0, none⟩) 2 2, .slice (some ⟨b + 37, 0, none⟩) 2 2, .int .u8 0, .int .i64 0, .string ⟨#[123, 91, 40, 13, 10, 41]⟩, .int .u8 0, .slice (some ⟨b + 38, 0, none⟩) 3 3, .slice (some ⟨b + 39, 0, none⟩) 3 3, .int .u8 0, .int .i64 3, .string ⟨#[12, 9, 32, 10]⟩, .int .u8 2, .slice (some ⟨b + 40, 0, none⟩) 1 1, .slice (some ⟨b + 41, 0, none⟩) 1 1, .int .u8 2, .int .i64 0, .string ByteArray.empty, .int .u8 2, .slice none 0 0, .slice none 0 0, .int .u8 2, .int .i64 0, .string ⟨#[120, 13, 121, 92, 13, 10]⟩, .int .u8 0, .slice (some ⟨b + 42, 0, none⟩) 3 3, .slice (some ⟨b + 43, 0, none⟩) 3 3, .int .u8 0, .int .i64 0, .string ⟨#[97]⟩, .int .u8 9, .slice (some ⟨b + 44, 0, none⟩) 1 1, .slice (some ⟨b + 45, 0, none⟩) 1 1, .int .u8 0, .int .i64 0] 44 (0, 0))) : ∀ k, k < 24 → RowAt W (b + 46) k := by
  intro k hk
  match k, hk with
  | 0, _ => exact ⟨_, _, _, rfl, cell_of_row _ _ _ _ _ _ ht, cell_of_row _ _ _ _ _ _ ht, cell_of_row _ _ _ _ _ _ ht, cell_of_row _ _ _ _ _ _ ht, cell_of_row _ _ _ _ _ _ ht, cell_of_row _ _ _ _ _ _ ht, U8s.of [13, 17, 13, 17, 15, 17, 14, 17, 18] rfl h0, I64s.of [1, 1, 1, 1, 5, 1, 6, 1, 3] rfl h1⟩
  | 1, _ => exact ⟨_, _, _, rfl, cell_of_row _ _ _ _ _ _ ht, cell_of_row _ _ _ _ _ _ ht, cell_of_row _ _ _ _ _ _ ht, cell_of_row _ _ _ _ _ _ ht, cell_of_row _ _ _ _ _ _ ht, cell_of_row _ _ _ _ _ _ ht, U8s.of [16] rfl h2, I64s.of [5] rfl h3⟩
  | 2, _ => exact ⟨_, _, _, rfl, cell_of_row _ _ _ _ _ _ ht, cell_of_row _ _ _ _ _ _ ht, cell_of_row _ _ _ _ _ _ ht, cell_of_row _ _ _ _ _ _ ht, cell_of_row _ _ _ _ _ _ ht, cell_of_row _ _ _ _ _ _ ht, U8s.of [16, 17, 14] rfl h4, I64s.of [4, 1, 1] rfl h5⟩
  | 3, _ => exact ⟨_, _, _, rfl, cell_of_row _ _ _ _ _ _ ht, cell_of_row _ _ _ _ _ _ ht, cell_of_row _ _ _ _ _ _ ht, cell_of_row _ _ _ _ _ _ ht, cell_of_row _ _ _ _ _ _ ht, cell_of_row _ _ _ _ _ _ ht, U8s.of [16] rfl h6, I64s.of [3] rfl h7⟩
  | 4, _ => exact ⟨_, _, _, rfl, cell_of_row _ _ _ _ _ _ ht, cell_of_row _ _ _ _ _ _ ht, cell_of_row _ _ _ _ _ _ ht, cell_of_row _ _ _ _ _ _ ht, cell_of_row _ _ _ _ _ _ ht, cell_of_row _ _ _ _ _ _ ht, U8s.of [16] rfl h8, I64s.of [2] rfl h9⟩
  | 5, _ => exact ⟨_, _, _, rfl, cell_of_row _ _ _ _ _ _ ht, cell_of_row _ _ _ _ _ _ ht, cell_of_row _ _ _ _ _ _ ht, cell_of_row _ _ _ _ _ _ ht, cell_of_row _ _ _ _ _ _ ht, cell_of_row _ _ _ _ _ _ ht, U8s.of [2] rfl h10, I64s.of [1] rfl h11⟩
  | 6, _ => exact ⟨_, _, _, rfl, cell_of_row _ _ _ _ _ _ ht, cell_of_row _ _ _ _ _ _ ht, cell_of_row _ _ _ _ _ _ ht, cell_of_row _ _ _ _ _ _ ht, cell_of_row _ _ _ _ _ _ ht, cell_of_row _ _ _ _ _ _ ht, U8s.of [2] rfl h12, I64s.of [2] rfl h13⟩
  | 7, _ => exact ⟨_, _, _, rfl, cell_of_row _ _ _ _ _ _ ht, cell_of_row _ _ _ _ _ _ ht, cell_of_row _ _ _ _ _ _ ht, cell_of_row _ _ _ _ _ _ ht, cell_of_row _ _ _ _ _ _ ht, cell_of_row _ _ _ _ _ _ ht, U8s.of [2, 2, 13, 19] rfl h14, I64s.of [1, 1, 1, 1] rfl h15⟩
  | 8, _ => exact ⟨_, _, _, rfl, cell_of_row _ _ _ _ _ _ ht, cell_of_row _ _ _ _ _ _ ht, cell_of_row _ _ _ _ _ _ ht, cell_of_row _ _ _ _ _ _ ht, cell_of_row _ _ _ _ _ _ ht, cell_of_row _ _ _ _ _ _ ht, U8s.of [14, 17, 14] rfl h16, I64s.of [3, 1, 1] rfl h17⟩
  | 9, _ => exact ⟨_, _, _, rfl, cell_of_row _ _ _ _ _ _ ht, cell_of_row _ _ _ _ _ _ ht, cell_of_row _ _ _ _ _ _ ht, cell_of_row _ _ _ _ _ _ ht, cell_of_row _ _ _ _ _ _ ht, cell_of_row _ _ _ _ _ _ ht, U8s.of [14] rfl h18, I64s.of [4] rfl h19⟩
  | 10, _ => exact ⟨_, _, _, rfl, cell_of_row _ _ _ _ _ _ ht, cell_of_row _ _ _ _ _ _ ht, cell_of_row _ _ _ _ _ _ ht, cell_of_row _ _ _ _ _ _ ht, cell_of_row _ _ _ _ _ _ ht, cell_of_row _ _ _ _ _ _ ht, U8s.of [17] rfl h20, I64s.of [3] rfl h21⟩
  | 11, _ => exact ⟨_, _, _, rfl, cell_of_row _ _ _ _ _ _ ht, cell_of_row _ _ _ _ _ _ ht, cell_of_row _ _ _ _ _ _ ht, cell_of_row _ _ _ _ _ _ ht, cell_of_row _ _ _ _ _ _ ht, cell_of_row _ _ _ _ _ _ ht, U8s.of [17, 14] rfl h22, I64s.of [1, 2] rfl h23⟩
  | 12, _ => exact ⟨_, _, _, rfl, cell_of_row _ _ _ _ _ _ ht, cell_of_row _ _ _ _ _ _ ht, cell_of_row _ _ _ _ _ _ ht, cell_of_row _ _ _ _ _ _ ht, cell_of_row _ _ _ _ _ _ ht, cell_of_row _ _ _ _ _ _ ht, U8s.of [13, 17, 13, 2] rfl h24, I64s.of [1, 2, 1, 1] rfl h25⟩
  | 13, _ => exact ⟨_, _, _, rfl, cell_of_row _ _ _ _ _ _ ht, cell_of_row _ _ _ _ _ _ ht, cell_of_row _ _ _ _ _ _ ht, cell_of_row _ _ _ _ _ _ ht, cell_of_row _ _ _ _ _ _ ht, cell_of_row _ _ _ _ _ _ ht, U8s.of [15] rfl h26, I64s.of [12] rfl h27⟩
  | 14, _ => exact ⟨_, _, _, rfl, cell_of_row _ _ _ _ _ _ ht, cell_of_row _ _ _ _ _ _ ht, cell_of_row _ _ _ _ _ _ ht, cell_of_row _ _ _ _ _ _ ht, cell_of_row _ _ _ _ _ _ ht, cell_of_row _ _ _ _ _ _ ht, U8s.of [15] rfl h28, I64s.of [2] rfl h29⟩
  | 15, _ => exact ⟨_, _, _, rfl, cell_of_row _ _ _ _ _ _ ht, cell_of_row _ _ _ _ _ _ ht, cell_of_row _ _ _ _ _ _ ht, cell_of_row _ _ _ _ _ _ ht, cell_of_row _ _ _ _ _ _ ht, cell_of_row _ _ _ _ _ _ ht, U8s.of [16] rfl h30, I64s.of [4] rfl h31⟩
  | 16, _ => exact ⟨_, _, _, rfl, cell_of_row _ _ _ _ _ _ ht, cell_of_row _ _ _ _ _ _ ht, cell_of_row _ _ _ _ _ _ ht, cell_of_row _ _ _ _ _ _ ht, cell_of_row _ _ _ _ _ _ ht, cell_of_row _ _ _ _ _ _ ht, U8s.of [16] rfl h32, I64s.of [4] rfl h33⟩
  | 17, _ => exact ⟨_, _, _, rfl, cell_of_row _ _ _ _ _ _ ht, cell_of_row _ _ _ _ _ _ ht, cell_of_row _ _ _ _ _ _ ht, cell_of_row _ _ _ _ _ _ ht, cell_of_row _ _ _ _ _ _ ht, cell_of_row _ _ _ _ _ _ ht, U8s.of [13, 15] rfl h34, I64s.of [2, 3] rfl h35⟩
  | 18, _ => exact ⟨_, _, _, rfl, cell_of_row _ _ _ _ _ _ ht, cell_of_row _ _ _ _ _ _ ht, cell_of_row _ _ _ _ _ _ ht, cell_of_row _ _ _ _ _ _ ht, cell_of_row _ _ _ _ _ _ ht, cell_of_row _ _ _ _ _ _ ht, U8s.of [13, 2] rfl h36, I64s.of [3, 1] rfl h37⟩
  | 19, _ => exact ⟨_, _, _, rfl, cell_of_row _ _ _ _ _ _ ht, cell_of_row _ _ _ _ _ _ ht, cell_of_row _ _ _ _ _ _ ht, cell_of_row _ _ _ _ _ _ ht, cell_of_row _ _ _ _ _ _ ht, cell_of_row _ _ _ _ _ _ ht, U8s.of [17, 17, 17] rfl h38, I64s.of [1, 1, 1] rfl h39⟩
  | 20, _ => exact ⟨_, _, _, rfl, cell_of_row _ _ _ _ _ _ ht, cell_of_row _ _ _ _ _ _ ht, cell_of_row _ _ _ _ _ _ ht, cell_of_row _ _ _ _ _ _ ht, cell_of_row _ _ _ _ _ _ ht, cell_of_row _ _ _ _ _ _ ht, U8s.of [16] rfl h40, I64s.of [3] rfl h41⟩
  | 21, _ => exact ⟨_, _, _, rfl, cell_of_row _ _ _ _ _ _ ht, cell_of_row _ _ _ _ _ _ ht, cell_of_row _ _ _ _ _ _ ht, cell_of_row _ _ _ _ _ _ ht, cell_of_row _ _ _ _ _ _ ht, cell_of_row _ _ _ _ _ _ ht, U8s.nil, I64s.nil⟩
  | 22, _ => exact ⟨_, _, _, rfl, cell_of_row _ _ _ _ _ _ ht, cell_of_row _ _ _ _ _ _ ht, cell_of_row _ _ _ _ _ _ ht, cell_of_row _ _ _ _ _ _ ht, cell_of_row _ _ _ _ _ _ ht, cell_of_row _ _ _ _ _ _ ht, U8s.of [13, 13, 19] rfl h42, I64s.of [1, 1, 1] rfl h43⟩
  | 23, _ => exact ⟨_, _, _, rfl, cell_of_row _ _ _ _ _ _ ht, cell_of_row _ _ _ _ _ _ ht, cell_of_row _ _ _ _ _ _ ht, cell_of_row _ _ _ _ _ _ ht, cell_of_row _ _ _ _ _ _ ht, cell_of_row _ _ _ _ _ _ ht, U8s.of [13] rfl h44, I64s.of [1] rfl h45⟩
  | k + 24, hk => omega
theorem wpList_bs {P : Program} {ops : Array Oper} {rest : List Oper} {o : Oper} {a : Act} {w : World} {Q : Exit → Act → World → Prop} (hg : o.guard = none) (t e : TypeId) (len : Nat) (parts : Array (Nat × Operand)) (ho : o.op = .buildSlice t len parts) (d : Option Tmp) (hd : o.dst = d)
    (cells : Array Value) (s : Nat) (z : Value) (N : Nat) (hN : w.heap.size = N) (hu : P.underlying t = some (.slice e)) (hi : (P.info? e).map (fun i => (i.zero, i.size)) = some (some z, s)) (hsmall : ¬ len * s > 2 ^ 24) (hpos : ¬ len * s = 0)
    (hf : Instr.fill (fun i => some (i * s, s)) ((Array.range (len * s)).map (z.cells[· % z.cells.size]!)) (parts.map fun (i, x) => (i, a.eval x)).toList = some cells)
    (h : wpList P ops Q rest (a.put d (.slice (some ⟨N, 0, none⟩) len len)) (w.alloc (.cells cells e))) : wpList P ops Q (o :: rest) a w := by
  subst hN hd
  cases hie : P.info? e with
  | none => rw [hie] at hi; cases hi
  | some ie =>
    rw [hie] at hi
    simp only [Option.map_some, Option.some.injEq, Prod.mk.injEq] at hi
    obtain ⟨h1, h2⟩ := hi
    exact wpList_buildSlice hg t e len parts ho cells ie z hu hie h1 (by rw [h2]; exact hsmall) (by rw [h2]; exact hpos) (by rw [h2]; exact hf) h
theorem reads_w2 (w : World) : Calls Try.prog 12 #[] w fun e w' => e = .returned (.bool true) ∧ Below w.heap.size w w' := indenturelaw11_reads.calls true w Pure.reads_true
theorem pk_set {W : World} {g : Nat} {cs : Array Value} {t : TypeId} {f : Nat × Nat} (h : W.heap[g]? = some (.cells cs t f)) (i : Nat) (x : Value) : (W.setCell ⟨g, i, none⟩ x).heap[g]? = some (.cells (cs.setIfInBounds i x) t f) := by
  simp [World.setCell, Array.getElem?_modify, h]
theorem pk_frozen {W : World} {g : Nat} {cs : Array Value} {t : TypeId} (h : W.heap[g]? = some (.cells cs t (0, 0))) (j : Nat) : W.frozen? ⟨g, j, none⟩ = false := by
  simp [World.frozen?, h]
theorem pk_drew {w W : World} (h : Below w.heap.size w W) : Below w.heap.size w W.drew := below_drew h
/-- The box of what a scan tells, after the store. -/
theorem six_set {W : World} {g : Nat} {t : TypeId} {a0 a1 a2 a3 a4 a5 : Value} (h : W.heap[g]? = some (.cells #[a0, a1, a2, a3, a4, a5] t (0, 0))) (x0 x1 x2 x3 x4 x5 : Value) :
    ((((((W.setCell ⟨g, 0, none⟩ x0).setCell ⟨g, 1, none⟩ x1).setCell ⟨g, 2, none⟩ x2).setCell ⟨g, 3, none⟩ x3).setCell ⟨g, 4, none⟩ x4).setCell ⟨g, 5, none⟩ x5).heap[g]? = some (.cells #[x0, x1, x2, x3, x4, x5] t (0, 0)) := by
  have h0 := pk_set h 0 x0
  have h1 := pk_set h0 1 x1
  have h2 := pk_set h1 2 x2
  have h3 := pk_set h2 3 x3
  have h4 := pk_set h3 4 x4
  have h5 := pk_set h4 5 x5
  simpa using h5
theorem six_below {w W : World} {g : Nat} (h : Below w.heap.size w W) (hg : w.heap.size ≤ g) (x0 x1 x2 x3 x4 x5 : Value) :
    Below w.heap.size w ((((((W.setCell ⟨g, 0, none⟩ x0).setCell ⟨g, 1, none⟩ x1).setCell ⟨g, 2, none⟩ x2).setCell ⟨g, 3, none⟩ x3).setCell ⟨g, 4, none⟩ x4).setCell ⟨g, 5, none⟩ x5) :=
  (((((h.setCell (p := ⟨g, 0, none⟩) hg _).setCell (p := ⟨g, 1, none⟩) hg _).setCell (p := ⟨g, 2, none⟩) hg _).setCell (p := ⟨g, 3, none⟩) hg _).setCell (p := ⟨g, 4, none⟩) hg _).setCell (p := ⟨g, 5, none⟩) hg _
theorem six_R {e : World} {W : World} {g n : Nat} {base : Nat} {v : Value} {ev : List S33} {cs : Array Value} (h : k33.R 33 W base (fun _ => True) v ev) (hb : W.heap[g]? = some (.cells cs 25 (0, 0))) (x0 x1 x2 x3 x4 x5 : Value) :
    k33.R 33 ((((((W.setCell ⟨g, 0, none⟩ x0).setCell ⟨g, 1, none⟩ x1).setCell ⟨g, 2, none⟩ x2).setCell ⟨g, 3, none⟩ x3).setCell ⟨g, 4, none⟩ x4).setCell ⟨g, 5, none⟩ x5) base (fun _ => True) v ev := by
  have h0 := pk_set hb 0 x0
  have h1 := pk_set h0 1 x1
  have h2 := pk_set h1 2 x2
  have h3 := pk_set h2 3 x3
  have h4 := pk_set h3 4 x4
  exact Kd.R_set (Kd.R_set (Kd.R_set (Kd.R_set (Kd.R_set (Kd.R_set h hb (by decide) 0 x0) h0 (by decide) 1 x1) h1 (by decide) 2 x2) h2 (by decide) 3 x3) h3 (by decide) 4 x4) h4 (by decide) 5 x5
theorem row_own {W : World} {base : Nat} {A : Option Addr} {n c : Nat} {ev : List S33} (h : k33.R 33 W base (fun _ => True) (.slice A n c) ev) : 0 < n → ∃ g0, A = some ⟨g0, 0, none⟩ := by
  intro hn
  obtain ⟨_, inner, ho, _⟩ := h
  rcases ho.2 with ⟨h, h2⟩ | ⟨g0, cap0, cur, h, _⟩
  · injection h with h1 h2' h3
    omega
  · injection h with h1 h2 h3
    exact ⟨g0, h1⟩
/-- A row of events, to be read. -/
def EvC (W : World) (A : Option Addr) (n : Nat) (ev : List S33) : Prop := n = ev.length ∧ ∀ j, j < ev.length → ∃ g0, A = some ⟨g0, 0, none⟩ ∧ W.cell? ⟨g0, j * 4, none⟩ = some (.int .u8 (rd_T33 ev (j : Int)).f0) ∧ W.cell? ⟨g0, j * 4 + 1, none⟩ = some (.int .u8 (rd_T33 ev (j : Int)).f1) ∧ W.cell? ⟨g0, j * 4 + 2, none⟩ = some (.int .i64 (rd_T33 ev (j : Int)).f2) ∧ W.cell? ⟨g0, j * 4 + 3, none⟩ = some (.int .i64 (rd_T33 ev (j : Int)).f3)
-- What a scan leaves in its box. -/
structure OBox (w0 W : World) (b : Nat) (ev : List S33) (m d : Int) (x y z : Bool) (A : Option Addr) (n c : Nat) : Prop where
  row : EvC W A n ev
  hb : W.heap[b]? = some (.cells #[.slice A n c, .int .u8 m, .int .i64 d, .bool x, .bool y, .bool z] 25 (0, 0))
  bel : Below w0.heap.size w0 W
  fr : w0.heap.size ≤ b
theorem EvC.of {W : World} {base : Nat} {A : Option Addr} {c : Nat} {ev : List S33} (h : k33.R 33 W base (fun _ => True) (.slice A ev.length c) ev) : EvC W A ev.length ev := by
  refine ⟨rfl, fun j hj => ?_⟩
  obtain ⟨g0, rfl⟩ := row_own h (by omega)
  obtain ⟨ad, eA, x0, x1, x2, x3⟩ := at_T33 (Kd.R_reads' h).2.2 (j : Int) (by omega) (by omega)
  cases eA
  have e : (⟨g0, 0, none⟩ : Addr).add ((j : Int).toNat * 4) = ⟨g0, j * 4, none⟩ := by rw [add_plain]; simp
  rw [e] at x0 x1 x2 x3
  exact ⟨g0, rfl, x0, x1, x2, x3⟩
theorem EvC.below {W W' : World} {A : Option Addr} {n : Nat} {ev : List S33} (h : EvC W A n ev) (hb : Below W.heap.size W W') : EvC W' A n ev := by
  refine ⟨h.1, fun j hj => ?_⟩
  obtain ⟨g0, h0, h1, h2, h3, h4⟩ := h.2 j hj
  exact ⟨g0, h0, pk_cell_below hb h1, pk_cell_below hb h2, pk_cell_below hb h3, pk_cell_below hb h4⟩
theorem OBox.below {w0 W W' : World} {b : Nat} {ev : List S33} {m d : Int} {x y z : Bool} {A : Option Addr} {n c : Nat} (h : OBox w0 W b ev m d x y z A n c) (hb : Below W.heap.size W W') : OBox w0 W' b ev m d x y z A n c :=
  ⟨h.row.below hb, (hb.block b (pk_blk_lt h.hb)).trans h.hb, h.bel.trans (hb.mono h.bel.size), h.fr⟩
set_option maxRecDepth 100000 in
set_option maxHeartbeats 32000000 in
theorem known_c (w : World) : Calls Try.prog 8 #[] w fun e w' => e = .returned (.bool true) ∧ Below w.heap.size w w' := by
  obtain ⟨b, hb⟩ : ∃ q, w.heap.size = q := ⟨_, rfl⟩
  obtain ⟨v1, hv1⟩ : ∃ q, w.alloc (.cells ([13, 17, 13, 17, 15, 17, 14, 17, 18].map (Value.int .u8)).toArray 5) = q := ⟨_, rfl⟩
  have sv1 : v1.heap.size = b + 1 := alloc_size hv1 hb
  obtain ⟨v2, hv2⟩ : ∃ q, v1.alloc (.cells ([1, 1, 1, 1, 5, 1, 6, 1, 3].map (Value.int .i64)).toArray 3) = q := ⟨_, rfl⟩
  have sv2 : v2.heap.size = b + 2 := alloc_size hv2 sv1
  obtain ⟨v3, hv3⟩ : ∃ q, v2.alloc (.cells ([16].map (Value.int .u8)).toArray 5) = q := ⟨_, rfl⟩
  have sv3 : v3.heap.size = b + 3 := alloc_size hv3 sv2
  obtain ⟨v4, hv4⟩ : ∃ q, v3.alloc (.cells ([5].map (Value.int .i64)).toArray 3) = q := ⟨_, rfl⟩
  have sv4 : v4.heap.size = b + 4 := alloc_size hv4 sv3
  obtain ⟨v5, hv5⟩ : ∃ q, v4.alloc (.cells ([16, 17, 14].map (Value.int .u8)).toArray 5) = q := ⟨_, rfl⟩
  have sv5 : v5.heap.size = b + 5 := alloc_size hv5 sv4
  obtain ⟨v6, hv6⟩ : ∃ q, v5.alloc (.cells ([4, 1, 1].map (Value.int .i64)).toArray 3) = q := ⟨_, rfl⟩
  have sv6 : v6.heap.size = b + 6 := alloc_size hv6 sv5
  obtain ⟨v7, hv7⟩ : ∃ q, v6.alloc (.cells ([16].map (Value.int .u8)).toArray 5) = q := ⟨_, rfl⟩
  have sv7 : v7.heap.size = b + 7 := alloc_size hv7 sv6
  obtain ⟨v8, hv8⟩ : ∃ q, v7.alloc (.cells ([3].map (Value.int .i64)).toArray 3) = q := ⟨_, rfl⟩
  have sv8 : v8.heap.size = b + 8 := alloc_size hv8 sv7
  obtain ⟨v9, hv9⟩ : ∃ q, v8.alloc (.cells ([16].map (Value.int .u8)).toArray 5) = q := ⟨_, rfl⟩
  have sv9 : v9.heap.size = b + 9 := alloc_size hv9 sv8
  obtain ⟨v10, hv10⟩ : ∃ q, v9.alloc (.cells ([2].map (Value.int .i64)).toArray 3) = q := ⟨_, rfl⟩
  have sv10 : v10.heap.size = b + 10 := alloc_size hv10 sv9
  obtain ⟨v11, hv11⟩ : ∃ q, v10.alloc (.cells ([2].map (Value.int .u8)).toArray 5) = q := ⟨_, rfl⟩
  have sv11 : v11.heap.size = b + 11 := alloc_size hv11 sv10
  obtain ⟨v12, hv12⟩ : ∃ q, v11.alloc (.cells ([1].map (Value.int .i64)).toArray 3) = q := ⟨_, rfl⟩
  have sv12 : v12.heap.size = b + 12 := alloc_size hv12 sv11
  obtain ⟨v13, hv13⟩ : ∃ q, v12.alloc (.cells ([2].map (Value.int .u8)).toArray 5) = q := ⟨_, rfl⟩
  have sv13 : v13.heap.size = b + 13 := alloc_size hv13 sv12
  obtain ⟨v14, hv14⟩ : ∃ q, v13.alloc (.cells ([2].map (Value.int .i64)).toArray 3) = q := ⟨_, rfl⟩
  have sv14 : v14.heap.size = b + 14 := alloc_size hv14 sv13
  obtain ⟨v15, hv15⟩ : ∃ q, v14.alloc (.cells ([2, 2, 13, 19].map (Value.int .u8)).toArray 5) = q := ⟨_, rfl⟩
  have sv15 : v15.heap.size = b + 15 := alloc_size hv15 sv14
  obtain ⟨v16, hv16⟩ : ∃ q, v15.alloc (.cells ([1, 1, 1, 1].map (Value.int .i64)).toArray 3) = q := ⟨_, rfl⟩
  have sv16 : v16.heap.size = b + 16 := alloc_size hv16 sv15
  obtain ⟨v17, hv17⟩ : ∃ q, v16.alloc (.cells ([14, 17, 14].map (Value.int .u8)).toArray 5) = q := ⟨_, rfl⟩
  have sv17 : v17.heap.size = b + 17 := alloc_size hv17 sv16
  obtain ⟨v18, hv18⟩ : ∃ q, v17.alloc (.cells ([3, 1, 1].map (Value.int .i64)).toArray 3) = q := ⟨_, rfl⟩
  have sv18 : v18.heap.size = b + 18 := alloc_size hv18 sv17
  obtain ⟨v19, hv19⟩ : ∃ q, v18.alloc (.cells ([14].map (Value.int .u8)).toArray 5) = q := ⟨_, rfl⟩
  have sv19 : v19.heap.size = b + 19 := alloc_size hv19 sv18
  obtain ⟨v20, hv20⟩ : ∃ q, v19.alloc (.cells ([4].map (Value.int .i64)).toArray 3) = q := ⟨_, rfl⟩
  have sv20 : v20.heap.size = b + 20 := alloc_size hv20 sv19
  obtain ⟨v21, hv21⟩ : ∃ q, v20.alloc (.cells ([17].map (Value.int .u8)).toArray 5) = q := ⟨_, rfl⟩
  have sv21 : v21.heap.size = b + 21 := alloc_size hv21 sv20
  obtain ⟨v22, hv22⟩ : ∃ q, v21.alloc (.cells ([3].map (Value.int .i64)).toArray 3) = q := ⟨_, rfl⟩
  have sv22 : v22.heap.size = b + 22 := alloc_size hv22 sv21
  obtain ⟨v23, hv23⟩ : ∃ q, v22.alloc (.cells ([17, 14].map (Value.int .u8)).toArray 5) = q := ⟨_, rfl⟩
  have sv23 : v23.heap.size = b + 23 := alloc_size hv23 sv22
  obtain ⟨v24, hv24⟩ : ∃ q, v23.alloc (.cells ([1, 2].map (Value.int .i64)).toArray 3) = q := ⟨_, rfl⟩
  have sv24 : v24.heap.size = b + 24 := alloc_size hv24 sv23
  obtain ⟨v25, hv25⟩ : ∃ q, v24.alloc (.cells ([13, 17, 13, 2].map (Value.int .u8)).toArray 5) = q := ⟨_, rfl⟩
  have sv25 : v25.heap.size = b + 25 := alloc_size hv25 sv24
  obtain ⟨v26, hv26⟩ : ∃ q, v25.alloc (.cells ([1, 2, 1, 1].map (Value.int .i64)).toArray 3) = q := ⟨_, rfl⟩
  have sv26 : v26.heap.size = b + 26 := alloc_size hv26 sv25
  obtain ⟨v27, hv27⟩ : ∃ q, v26.alloc (.cells ([15].map (Value.int .u8)).toArray 5) = q := ⟨_, rfl⟩
  have sv27 : v27.heap.size = b + 27 := alloc_size hv27 sv26
  obtain ⟨v28, hv28⟩ : ∃ q, v27.alloc (.cells ([12].map (Value.int .i64)).toArray 3) = q := ⟨_, rfl⟩
  have sv28 : v28.heap.size = b + 28 := alloc_size hv28 sv27
  obtain ⟨v29, hv29⟩ : ∃ q, v28.alloc (.cells ([15].map (Value.int .u8)).toArray 5) = q := ⟨_, rfl⟩
  have sv29 : v29.heap.size = b + 29 := alloc_size hv29 sv28
  obtain ⟨v30, hv30⟩ : ∃ q, v29.alloc (.cells ([2].map (Value.int .i64)).toArray 3) = q := ⟨_, rfl⟩
  have sv30 : v30.heap.size = b + 30 := alloc_size hv30 sv29
  obtain ⟨v31, hv31⟩ : ∃ q, v30.alloc (.cells ([16].map (Value.int .u8)).toArray 5) = q := ⟨_, rfl⟩
  have sv31 : v31.heap.size = b + 31 := alloc_size hv31 sv30
  obtain ⟨v32, hv32⟩ : ∃ q, v31.alloc (.cells ([4].map (Value.int .i64)).toArray 3) = q := ⟨_, rfl⟩
  have sv32 : v32.heap.size = b + 32 := alloc_size hv32 sv31
  obtain ⟨v33, hv33⟩ : ∃ q, v32.alloc (.cells ([16].map (Value.int .u8)).toArray 5) = q := ⟨_, rfl⟩
  have sv33 : v33.heap.size = b + 33 := alloc_size hv33 sv32
  obtain ⟨v34, hv34⟩ : ∃ q, v33.alloc (.cells ([4].map (Value.int .i64)).toArray 3) = q := ⟨_, rfl⟩
  have sv34 : v34.heap.size = b + 34 := alloc_size hv34 sv33
  obtain ⟨v35, hv35⟩ : ∃ q, v34.alloc (.cells ([13, 15].map (Value.int .u8)).toArray 5) = q := ⟨_, rfl⟩
  have sv35 : v35.heap.size = b + 35 := alloc_size hv35 sv34
  obtain ⟨v36, hv36⟩ : ∃ q, v35.alloc (.cells ([2, 3].map (Value.int .i64)).toArray 3) = q := ⟨_, rfl⟩
  have sv36 : v36.heap.size = b + 36 := alloc_size hv36 sv35
  obtain ⟨v37, hv37⟩ : ∃ q, v36.alloc (.cells ([13, 2].map (Value.int .u8)).toArray 5) = q := ⟨_, rfl⟩
  have sv37 : v37.heap.size = b + 37 := alloc_size hv37 sv36
  obtain ⟨v38, hv38⟩ : ∃ q, v37.alloc (.cells ([3, 1].map (Value.int .i64)).toArray 3) = q := ⟨_, rfl⟩
  have sv38 : v38.heap.size = b + 38 := alloc_size hv38 sv37
  obtain ⟨v39, hv39⟩ : ∃ q, v38.alloc (.cells ([17, 17, 17].map (Value.int .u8)).toArray 5) = q := ⟨_, rfl⟩
  have sv39 : v39.heap.size = b + 39 := alloc_size hv39 sv38
  obtain ⟨v40, hv40⟩ : ∃ q, v39.alloc (.cells ([1, 1, 1].map (Value.int .i64)).toArray 3) = q := ⟨_, rfl⟩
  have sv40 : v40.heap.size = b + 40 := alloc_size hv40 sv39
  obtain ⟨v41, hv41⟩ : ∃ q, v40.alloc (.cells ([16].map (Value.int .u8)).toArray 5) = q := ⟨_, rfl⟩
  have sv41 : v41.heap.size = b + 41 := alloc_size hv41 sv40
  obtain ⟨v42, hv42⟩ : ∃ q, v41.alloc (.cells ([3].map (Value.int .i64)).toArray 3) = q := ⟨_, rfl⟩
  have sv42 : v42.heap.size = b + 42 := alloc_size hv42 sv41
  obtain ⟨v43, hv43⟩ : ∃ q, v42.alloc (.cells ([13, 13, 19].map (Value.int .u8)).toArray 5) = q := ⟨_, rfl⟩
  have sv43 : v43.heap.size = b + 43 := alloc_size hv43 sv42
  obtain ⟨v44, hv44⟩ : ∃ q, v43.alloc (.cells ([1, 1, 1].map (Value.int .i64)).toArray 3) = q := ⟨_, rfl⟩
  have sv44 : v44.heap.size = b + 44 := alloc_size hv44 sv43
  obtain ⟨v45, hv45⟩ : ∃ q, v44.alloc (.cells ([13].map (Value.int .u8)).toArray 5) = q := ⟨_, rfl⟩
  have sv45 : v45.heap.size = b + 45 := alloc_size hv45 sv44
  obtain ⟨v46, hv46⟩ : ∃ q, v45.alloc (.cells ([1].map (Value.int .i64)).toArray 3) = q := ⟨_, rfl⟩
  have sv46 : v46.heap.size = b + 46 := alloc_size hv46 sv45
  obtain ⟨v47, hv47⟩ : ∃ q, v46.alloc (.cells #[.string ⟨#[120, 32, 61, 32, 102, 40, 34, 97, 32, 98, 34, 44, 32, 49, 46, 53, 101, 45, 51, 41, 32, 35, 32, 99]⟩, .int .u8 0, .slice (some ⟨b, 0, none⟩) 9 9, .slice (some ⟨b + 1, 0, none⟩) 9 9, .int .u8 0, .int .i64 0, .string ⟨#[114, 39, 39, 39, 120, 10]⟩, .int .u8 0, .slice (some ⟨b + 2, 0, none⟩) 1 1, .slice (some ⟨b + 3, 0, none⟩) 1 1, .int .u8 1, .int .i64 0, .string ⟨#[121, 39, 39, 39, 32, 43, 32, 49]⟩, .int .u8 1, .slice (some ⟨b + 4, 0, none⟩) 3 3, .slice (some ⟨b + 5, 0, none⟩) 3 3, .int .u8 0, .int .i64 0, .string ⟨#[39, 97, 92, 10]⟩, .int .u8 0, .slice (some ⟨b + 6, 0, none⟩) 1 1, .slice (some ⟨b + 7, 0, none⟩) 1 1, .int .u8 3, .int .i64 0, .string ⟨#[98, 39]⟩, .int .u8 3, .slice (some ⟨b + 8, 0, none⟩) 1 1, .slice (some ⟨b + 9, 0, none⟩) 1 1, .int .u8 0, .int .i64 0, .string ⟨#[98]⟩, .int .u8 4, .slice (some ⟨b + 10, 0, none⟩) 1 1, .slice (some ⟨b + 11, 0, none⟩) 1 1, .int .u8 0, .int .i64 0, .string ⟨#[39, 97]⟩, .int .u8 0, .slice (some ⟨b + 12, 0, none⟩) 1 1, .slice (some ⟨b + 13, 0, none⟩) 1 1, .int .u8 0, .int .i64 0, .string ⟨#[41, 32, 92, 32, 120, 32, 92]⟩, .int .u8 0, .slice (some ⟨b + 14, 0, none⟩) 4 4, .slice (some ⟨b + 15, 0, none⟩) 4 4, .int .u8 0, .int .i64 0, .string ⟨#[48, 120, 69, 43, 49]⟩, .int .u8 0, .slice (some ⟨b + 16, 0, none⟩) 3 3, .slice (some ⟨b + 17, 0, none⟩) 3 3, .int .u8 0, .int .i64 0, .string ⟨#[49, 101, 43, 53]⟩, .int .u8 0, .slice (some ⟨b + 18, 0, none⟩) 1 1, .slice (some ⟨b + 19, 0, none⟩) 1 1, .int .u8 0, .int .i64 0, .string ⟨#[46, 46, 46]⟩, .int .u8 0, .slice (some ⟨b + 20, 0, none⟩) 1 1, .slice (some ⟨b + 21, 0, none⟩) 1 1, .int .u8 0, .int .i64 0, .string ⟨#[46, 46, 53]⟩, .int .u8 0, .slice (some ⟨b + 22, 0, none⟩) 2 2, .slice (some ⟨b + 23, 0, none⟩) 2 2, .int .u8 0, .int .i64 0, .string ⟨#[97, 33, 61, 98, 33]⟩, .int .u8 0, .slice (some ⟨b + 24, 0, none⟩) 4 4, .slice (some ⟨b + 25, 0, none⟩) 4 4, .int .u8 0, .int .i64 0, .string ⟨#[34, 34, 34, 97, 92, 34, 34, 34, 98, 34, 34, 34]⟩, .int .u8 0, .slice (some ⟨b + 26, 0, none⟩) 1 1, .slice (some ⟨b + 27, 0, none⟩) 1 1, .int .u8 0, .int .i64 0, .string ⟨#[39, 39, 10]⟩, .int .u8 0, .slice (some ⟨b + 28, 0, none⟩) 1 1, .slice (some ⟨b + 29, 0, none⟩) 1 1, .int .u8 0, .int .i64 0, .string ⟨#[39, 39, 39, 39]⟩, .int .u8 0, .slice (some ⟨b + 30, 0, none⟩) 1 1, .slice (some ⟨b + 31, 0, none⟩) 1 1, .int .u8 1, .int .i64 0, .string ⟨#[39, 39, 39, 92, 13, 10]⟩, .int .u8 0, .slice (some ⟨b + 32, 0, none⟩) 1 1, .slice (some ⟨b + 33, 0, none⟩) 1 1, .int .u8 1, .int .i64 0, .string ⟨#[98, 117, 39, 120, 39]⟩, .int .u8 0, .slice (some ⟨b + 34, 0, none⟩) 2 2, .slice (some ⟨b + 35, 0, none⟩) 2 2, .int .u8 0, .int .i64 0, .string ⟨#[255, 95, 57, 0]⟩, .int .u8 0, .slice (some ⟨b + 36, 0, none⟩) 2 2, .slice (some ⟨b + 37, 0, none⟩) 2 2, .int .u8 0, .int .i64 0, .string ⟨#[123, 91, 40, 13, 10, 41]⟩, .int .u8 0, .slice (some ⟨b + 38, 0, none⟩) 3 3, .slice (some ⟨b + 39, 0, none⟩) 3 3, .int .u8 0, .int .i64 3, .string ⟨#[12, 9, 32, 10]⟩, .int .u8 2, .slice (some ⟨b + 40, 0, none⟩) 1 1, .slice (some ⟨b + 41, 0, none⟩) 1 1, .int .u8 2, .int .i64 0, .string ByteArray.empty, .int .u8 2, .slice none 0 0, .slice none 0 0, .int .u8 2, .int .i64 0, .string ⟨#[120, 13, 121, 92, 13, 10]⟩, .int .u8 0, .slice (some ⟨b + 42, 0, none⟩) 3 3, .slice (some ⟨b + 43, 0, none⟩) 3 3, .int .u8 0, .int .i64 0, .string ⟨#[97]⟩, .int .u8 9, .slice (some ⟨b + 44, 0, none⟩) 1 1, .slice (some ⟨b + 45, 0, none⟩) 1 1, .int .u8 0, .int .i64 0] 44) = q := ⟨_, rfl⟩
  have sv47 : v47.heap.size = b + 47 := alloc_size hv47 sv46
  obtain ⟨vL, hvL⟩ : ∃ q : List Obj, q = [.cells ([13, 17, 13, 17, 15, 17, 14, 17, 18].map (Value.int .u8)).toArray 5, .cells ([1, 1, 1, 1, 5, 1, 6, 1, 3].map (Value.int .i64)).toArray 3, .cells ([16].map (Value.int .u8)).toArray 5, .cells ([5].map (Value.int .i64)).toArray 3, .cells ([16, 17, 14].map (Value.int .u8)).toArray 5, .cells ([4, 1, 1].map (Value.int .i64)).toArray 3, .cells ([16].map (Value.int .u8)).toArray 5, .cells ([3].map (Value.int .i64)).toArray 3, .cells ([16].map (Value.int .u8)).toArray 5, .cells ([2].map (Value.int .i64)).toArray 3, .cells ([2].map (Value.int .u8)).toArray 5, .cells ([1].map (Value.int .i64)).toArray 3, .cells ([2].map (Value.int .u8)).toArray 5, .cells ([2].map (Value.int .i64)).toArray 3, .cells ([2, 2, 13, 19].map (Value.int .u8)).toArray 5, .cells ([1, 1, 1, 1].map (Value.int .i64)).toArray 3, .cells ([14, 17, 14].map (Value.int .u8)).toArray 5, .cells ([3, 1, 1].map (Value.int .i64)).toArray 3, .cells ([14].map (Value.int .u8)).toArray 5, .cells ([4].map (Value.int .i64)).toArray 3, .cells ([17].map (Value.int .u8)).toArray 5, .cells ([3].map (Value.int .i64)).toArray 3, .cells ([17, 14].map (Value.int .u8)).toArray 5, .cells ([1, 2].map (Value.int .i64)).toArray 3, .cells ([13, 17, 13, 2].map (Value.int .u8)).toArray 5, .cells ([1, 2, 1, 1].map (Value.int .i64)).toArray 3, .cells ([15].map (Value.int .u8)).toArray 5, .cells ([12].map (Value.int .i64)).toArray 3, .cells ([15].map (Value.int .u8)).toArray 5, .cells ([2].map (Value.int .i64)).toArray 3, .cells ([16].map (Value.int .u8)).toArray 5, .cells ([4].map (Value.int .i64)).toArray 3, .cells ([16].map (Value.int .u8)).toArray 5, .cells ([4].map (Value.int .i64)).toArray 3, .cells ([13, 15].map (Value.int .u8)).toArray 5, .cells ([2, 3].map (Value.int .i64)).toArray 3, .cells ([13, 2].map (Value.int .u8)).toArray 5, .cells ([3, 1].map (Value.int .i64)).toArray 3, .cells ([17, 17, 17].map (Value.int .u8)).toArray 5, .cells ([1, 1, 1].map (Value.int .i64)).toArray 3, .cells ([16].map (Value.int .u8)).toArray 5, .cells ([3].map (Value.int .i64)).toArray 3, .cells ([13, 13, 19].map (Value.int .u8)).toArray 5, .cells ([1, 1, 1].map (Value.int .i64)).toArray 3, .cells ([13].map (Value.int .u8)).toArray 5, .cells ([1].map (Value.int .i64)).toArray 3, .cells #[.string ⟨#[120, 32, 61, 32, 102, 40, 34, 97, 32, 98, 34, 44, 32, 49, 46, 53, 101, 45, 51, 41, 32, 35, 32, 99]⟩, .int .u8 0, .slice (some ⟨b, 0, none⟩) 9 9, .slice (some ⟨b + 1, 0, none⟩) 9 9, .int .u8 0, .int .i64 0, .string ⟨#[114, 39, 39, 39, 120, 10]⟩, .int .u8 0, .slice (some ⟨b + 2, 0, none⟩) 1 1, .slice (some ⟨b + 3, 0, none⟩) 1 1, .int .u8 1, .int .i64 0, .string ⟨#[121, 39, 39, 39, 32, 43, 32, 49]⟩, .int .u8 1, .slice (some ⟨b + 4, 0, none⟩) 3 3, .slice (some ⟨b + 5, 0, none⟩) 3 3, .int .u8 0, .int .i64 0, .string ⟨#[39, 97, 92, 10]⟩, .int .u8 0, .slice (some ⟨b + 6, 0, none⟩) 1 1, .slice (some ⟨b + 7, 0, none⟩) 1 1, .int .u8 3, .int .i64 0, .string ⟨#[98, 39]⟩, .int .u8 3, .slice (some ⟨b + 8, 0, none⟩) 1 1, .slice (some ⟨b + 9, 0, none⟩) 1 1, .int .u8 0, .int .i64 0, .string ⟨#[98]⟩, .int .u8 4, .slice (some ⟨b + 10, 0, none⟩) 1 1, .slice (some ⟨b + 11, 0, none⟩) 1 1, .int .u8 0, .int .i64 0, .string ⟨#[39, 97]⟩, .int .u8 0, .slice (some ⟨b + 12, 0, none⟩) 1 1, .slice (some ⟨b + 13, 0, none⟩) 1 1, .int .u8 0, .int .i64 0, .string ⟨#[41, 32, 92, 32, 120, 32, 92]⟩, .int .u8 0, .slice (some ⟨b + 14, 0, none⟩) 4 4, .slice (some ⟨b + 15, 0, none⟩) 4 4, .int .u8 0, .int .i64 0, .string ⟨#[48, 120, 69, 43, 49]⟩, .int .u8 0, .slice (some ⟨b + 16, 0, none⟩) 3 3, .slice (some ⟨b + 17, 0, none⟩) 3 3, .int .u8 0, .int .i64 0, .string ⟨#[49, 101, 43, 53]⟩, .int .u8 0, .slice (some ⟨b + 18, 0, none⟩) 1 1, .slice (some ⟨b + 19, 0, none⟩) 1 1, .int .u8 0, .int .i64 0, .string ⟨#[46, 46, 46]⟩, .int .u8 0, .slice (some ⟨b + 20, 0, none⟩) 1 1, .slice (some ⟨b + 21, 0, none⟩) 1 1, .int .u8 0, .int .i64 0, .string ⟨#[46, 46, 53]⟩, .int .u8 0, .slice (some ⟨b + 22, 0, none⟩) 2 2, .slice (some ⟨b + 23, 0, none⟩) 2 2, .int .u8 0, .int .i64 0, .string ⟨#[97, 33, 61, 98, 33]⟩, .int .u8 0, .slice (some ⟨b + 24, 0, none⟩) 4 4, .slice (some ⟨b + 25, 0, none⟩) 4 4, .int .u8 0, .int .i64 0, .string ⟨#[34, 34, 34, 97, 92, 34, 34, 34, 98, 34, 34, 34]⟩, .int .u8 0, .slice (some ⟨b + 26, 0, none⟩) 1 1, .slice (some ⟨b + 27, 0, none⟩) 1 1, .int .u8 0, .int .i64 0, .string ⟨#[39, 39, 10]⟩, .int .u8 0, .slice (some ⟨b + 28, 0, none⟩) 1 1, .slice (some ⟨b + 29, 0, none⟩) 1 1, .int .u8 0, .int .i64 0, .string ⟨#[39, 39, 39, 39]⟩, .int .u8 0, .slice (some ⟨b + 30, 0, none⟩) 1 1, .slice (some ⟨b + 31, 0, none⟩) 1 1, .int .u8 1, .int .i64 0, .string ⟨#[39, 39, 39, 92, 13, 10]⟩, .int .u8 0, .slice (some ⟨b + 32, 0, none⟩) 1 1, .slice (some ⟨b + 33, 0, none⟩) 1 1, .int .u8 1, .int .i64 0, .string ⟨#[98, 117, 39, 120, 39]⟩, .int .u8 0, .slice (some ⟨b + 34, 0, none⟩) 2 2, .slice (some ⟨b + 35, 0, none⟩) 2 2, .int .u8 0, .int .i64 0, .string ⟨#[255, 95, 57, 0]⟩, .int .u8 0, .slice (some ⟨b + 36, 0, none⟩) 2 2, .slice (some ⟨b + 37, 0, none⟩) 2 2, .int .u8 0, .int .i64 0, .string ⟨#[123, 91, 40, 13, 10, 41]⟩, .int .u8 0, .slice (some ⟨b + 38, 0, none⟩) 3 3, .slice (some ⟨b + 39, 0, none⟩) 3 3, .int .u8 0, .int .i64 3, .string ⟨#[12, 9, 32, 10]⟩, .int .u8 2, .slice (some ⟨b + 40, 0, none⟩) 1 1, .slice (some ⟨b + 41, 0, none⟩) 1 1, .int .u8 2, .int .i64 0, .string ByteArray.empty, .int .u8 2, .slice none 0 0, .slice none 0 0, .int .u8 2, .int .i64 0, .string ⟨#[120, 13, 121, 92, 13, 10]⟩, .int .u8 0, .slice (some ⟨b + 42, 0, none⟩) 3 3, .slice (some ⟨b + 43, 0, none⟩) 3 3, .int .u8 0, .int .i64 0, .string ⟨#[97]⟩, .int .u8 9, .slice (some ⟨b + 44, 0, none⟩) 1 1, .slice (some ⟨b + 45, 0, none⟩) 1 1, .int .u8 0, .int .i64 0] 44] := ⟨_, rfl⟩
  have hvA : v47 = allocs w vL := by
    rw [hvL]
    subst hv1
    subst hv2
    subst hv3
    subst hv4
    subst hv5
    subst hv6
    subst hv7
    subst hv8
    subst hv9
    subst hv10
    subst hv11
    subst hv12
    subst hv13
    subst hv14
    subst hv15
    subst hv16
    subst hv17
    subst hv18
    subst hv19
    subst hv20
    subst hv21
    subst hv22
    subst hv23
    subst hv24
    subst hv25
    subst hv26
    subst hv27
    subst hv28
    subst hv29
    subst hv30
    subst hv31
    subst hv32
    subst hv33
    subst hv34
    subst hv35
    subst hv36
    subst hv37
    subst hv38
    subst hv39
    subst hv40
    subst hv41
    subst hv42
    subst hv43
    subst hv44
    subst hv45
    subst hv46
    subst hv47
    rfl
  have Bv : Aside0 (Below w.heap.size w v47) := ⟨by rw [hvA]; exact (allocs_ok _ _).2⟩
  have Fv1 : Aside0 (v47.heap[b]? = some (.cells ([13, 17, 13, 17, 15, 17, 14, 17, 18].map (Value.int .u8)).toArray 5 (0, 0))) := ⟨by
    have h := (allocs_ok vL w).1 0 _ (by rw [hvL]; rfl)
    rw [hb, ← hvA] at h
    exact h⟩
  have Fv2 : Aside0 (v47.heap[b + 1]? = some (.cells ([1, 1, 1, 1, 5, 1, 6, 1, 3].map (Value.int .i64)).toArray 3 (0, 0))) := ⟨by
    have h := (allocs_ok vL w).1 1 _ (by rw [hvL]; rfl)
    rw [hb, ← hvA] at h
    exact h⟩
  have Fv3 : Aside0 (v47.heap[b + 2]? = some (.cells ([16].map (Value.int .u8)).toArray 5 (0, 0))) := ⟨by
    have h := (allocs_ok vL w).1 2 _ (by rw [hvL]; rfl)
    rw [hb, ← hvA] at h
    exact h⟩
  have Fv4 : Aside0 (v47.heap[b + 3]? = some (.cells ([5].map (Value.int .i64)).toArray 3 (0, 0))) := ⟨by
    have h := (allocs_ok vL w).1 3 _ (by rw [hvL]; rfl)
    rw [hb, ← hvA] at h
    exact h⟩
  have Fv5 : Aside0 (v47.heap[b + 4]? = some (.cells ([16, 17, 14].map (Value.int .u8)).toArray 5 (0, 0))) := ⟨by
    have h := (allocs_ok vL w).1 4 _ (by rw [hvL]; rfl)
    rw [hb, ← hvA] at h
    exact h⟩
  have Fv6 : Aside0 (v47.heap[b + 5]? = some (.cells ([4, 1, 1].map (Value.int .i64)).toArray 3 (0, 0))) := ⟨by
    have h := (allocs_ok vL w).1 5 _ (by rw [hvL]; rfl)
    rw [hb, ← hvA] at h
    exact h⟩
  have Fv7 : Aside0 (v47.heap[b + 6]? = some (.cells ([16].map (Value.int .u8)).toArray 5 (0, 0))) := ⟨by
    have h := (allocs_ok vL w).1 6 _ (by rw [hvL]; rfl)
    rw [hb, ← hvA] at h
    exact h⟩
  have Fv8 : Aside0 (v47.heap[b + 7]? = some (.cells ([3].map (Value.int .i64)).toArray 3 (0, 0))) := ⟨by
    have h := (allocs_ok vL w).1 7 _ (by rw [hvL]; rfl)
    rw [hb, ← hvA] at h
    exact h⟩
  have Fv9 : Aside0 (v47.heap[b + 8]? = some (.cells ([16].map (Value.int .u8)).toArray 5 (0, 0))) := ⟨by
    have h := (allocs_ok vL w).1 8 _ (by rw [hvL]; rfl)
    rw [hb, ← hvA] at h
    exact h⟩
  have Fv10 : Aside0 (v47.heap[b + 9]? = some (.cells ([2].map (Value.int .i64)).toArray 3 (0, 0))) := ⟨by
    have h := (allocs_ok vL w).1 9 _ (by rw [hvL]; rfl)
    rw [hb, ← hvA] at h
    exact h⟩
  have Fv11 : Aside0 (v47.heap[b + 10]? = some (.cells ([2].map (Value.int .u8)).toArray 5 (0, 0))) := ⟨by
    have h := (allocs_ok vL w).1 10 _ (by rw [hvL]; rfl)
    rw [hb, ← hvA] at h
    exact h⟩
  have Fv12 : Aside0 (v47.heap[b + 11]? = some (.cells ([1].map (Value.int .i64)).toArray 3 (0, 0))) := ⟨by
    have h := (allocs_ok vL w).1 11 _ (by rw [hvL]; rfl)
    rw [hb, ← hvA] at h
    exact h⟩
  have Fv13 : Aside0 (v47.heap[b + 12]? = some (.cells ([2].map (Value.int .u8)).toArray 5 (0, 0))) := ⟨by
    have h := (allocs_ok vL w).1 12 _ (by rw [hvL]; rfl)
    rw [hb, ← hvA] at h
    exact h⟩
  have Fv14 : Aside0 (v47.heap[b + 13]? = some (.cells ([2].map (Value.int .i64)).toArray 3 (0, 0))) := ⟨by
    have h := (allocs_ok vL w).1 13 _ (by rw [hvL]; rfl)
    rw [hb, ← hvA] at h
    exact h⟩
  have Fv15 : Aside0 (v47.heap[b + 14]? = some (.cells ([2, 2, 13, 19].map (Value.int .u8)).toArray 5 (0, 0))) := ⟨by
    have h := (allocs_ok vL w).1 14 _ (by rw [hvL]; rfl)
    rw [hb, ← hvA] at h
    exact h⟩
  have Fv16 : Aside0 (v47.heap[b + 15]? = some (.cells ([1, 1, 1, 1].map (Value.int .i64)).toArray 3 (0, 0))) := ⟨by
    have h := (allocs_ok vL w).1 15 _ (by rw [hvL]; rfl)
    rw [hb, ← hvA] at h
    exact h⟩
  have Fv17 : Aside0 (v47.heap[b + 16]? = some (.cells ([14, 17, 14].map (Value.int .u8)).toArray 5 (0, 0))) := ⟨by
    have h := (allocs_ok vL w).1 16 _ (by rw [hvL]; rfl)
    rw [hb, ← hvA] at h
    exact h⟩
  have Fv18 : Aside0 (v47.heap[b + 17]? = some (.cells ([3, 1, 1].map (Value.int .i64)).toArray 3 (0, 0))) := ⟨by
    have h := (allocs_ok vL w).1 17 _ (by rw [hvL]; rfl)
    rw [hb, ← hvA] at h
    exact h⟩
  have Fv19 : Aside0 (v47.heap[b + 18]? = some (.cells ([14].map (Value.int .u8)).toArray 5 (0, 0))) := ⟨by
    have h := (allocs_ok vL w).1 18 _ (by rw [hvL]; rfl)
    rw [hb, ← hvA] at h
    exact h⟩
  have Fv20 : Aside0 (v47.heap[b + 19]? = some (.cells ([4].map (Value.int .i64)).toArray 3 (0, 0))) := ⟨by
    have h := (allocs_ok vL w).1 19 _ (by rw [hvL]; rfl)
    rw [hb, ← hvA] at h
    exact h⟩
  have Fv21 : Aside0 (v47.heap[b + 20]? = some (.cells ([17].map (Value.int .u8)).toArray 5 (0, 0))) := ⟨by
    have h := (allocs_ok vL w).1 20 _ (by rw [hvL]; rfl)
    rw [hb, ← hvA] at h
    exact h⟩
  have Fv22 : Aside0 (v47.heap[b + 21]? = some (.cells ([3].map (Value.int .i64)).toArray 3 (0, 0))) := ⟨by
    have h := (allocs_ok vL w).1 21 _ (by rw [hvL]; rfl)
    rw [hb, ← hvA] at h
    exact h⟩
  have Fv23 : Aside0 (v47.heap[b + 22]? = some (.cells ([17, 14].map (Value.int .u8)).toArray 5 (0, 0))) := ⟨by
    have h := (allocs_ok vL w).1 22 _ (by rw [hvL]; rfl)
    rw [hb, ← hvA] at h
    exact h⟩
  have Fv24 : Aside0 (v47.heap[b + 23]? = some (.cells ([1, 2].map (Value.int .i64)).toArray 3 (0, 0))) := ⟨by
    have h := (allocs_ok vL w).1 23 _ (by rw [hvL]; rfl)
    rw [hb, ← hvA] at h
    exact h⟩
  have Fv25 : Aside0 (v47.heap[b + 24]? = some (.cells ([13, 17, 13, 2].map (Value.int .u8)).toArray 5 (0, 0))) := ⟨by
    have h := (allocs_ok vL w).1 24 _ (by rw [hvL]; rfl)
    rw [hb, ← hvA] at h
    exact h⟩
  have Fv26 : Aside0 (v47.heap[b + 25]? = some (.cells ([1, 2, 1, 1].map (Value.int .i64)).toArray 3 (0, 0))) := ⟨by
    have h := (allocs_ok vL w).1 25 _ (by rw [hvL]; rfl)
    rw [hb, ← hvA] at h
    exact h⟩
  have Fv27 : Aside0 (v47.heap[b + 26]? = some (.cells ([15].map (Value.int .u8)).toArray 5 (0, 0))) := ⟨by
    have h := (allocs_ok vL w).1 26 _ (by rw [hvL]; rfl)
    rw [hb, ← hvA] at h
    exact h⟩
  have Fv28 : Aside0 (v47.heap[b + 27]? = some (.cells ([12].map (Value.int .i64)).toArray 3 (0, 0))) := ⟨by
    have h := (allocs_ok vL w).1 27 _ (by rw [hvL]; rfl)
    rw [hb, ← hvA] at h
    exact h⟩
  have Fv29 : Aside0 (v47.heap[b + 28]? = some (.cells ([15].map (Value.int .u8)).toArray 5 (0, 0))) := ⟨by
    have h := (allocs_ok vL w).1 28 _ (by rw [hvL]; rfl)
    rw [hb, ← hvA] at h
    exact h⟩
  have Fv30 : Aside0 (v47.heap[b + 29]? = some (.cells ([2].map (Value.int .i64)).toArray 3 (0, 0))) := ⟨by
    have h := (allocs_ok vL w).1 29 _ (by rw [hvL]; rfl)
    rw [hb, ← hvA] at h
    exact h⟩
  have Fv31 : Aside0 (v47.heap[b + 30]? = some (.cells ([16].map (Value.int .u8)).toArray 5 (0, 0))) := ⟨by
    have h := (allocs_ok vL w).1 30 _ (by rw [hvL]; rfl)
    rw [hb, ← hvA] at h
    exact h⟩
  have Fv32 : Aside0 (v47.heap[b + 31]? = some (.cells ([4].map (Value.int .i64)).toArray 3 (0, 0))) := ⟨by
    have h := (allocs_ok vL w).1 31 _ (by rw [hvL]; rfl)
    rw [hb, ← hvA] at h
    exact h⟩
  have Fv33 : Aside0 (v47.heap[b + 32]? = some (.cells ([16].map (Value.int .u8)).toArray 5 (0, 0))) := ⟨by
    have h := (allocs_ok vL w).1 32 _ (by rw [hvL]; rfl)
    rw [hb, ← hvA] at h
    exact h⟩
  have Fv34 : Aside0 (v47.heap[b + 33]? = some (.cells ([4].map (Value.int .i64)).toArray 3 (0, 0))) := ⟨by
    have h := (allocs_ok vL w).1 33 _ (by rw [hvL]; rfl)
    rw [hb, ← hvA] at h
    exact h⟩
  have Fv35 : Aside0 (v47.heap[b + 34]? = some (.cells ([13, 15].map (Value.int .u8)).toArray 5 (0, 0))) := ⟨by
    have h := (allocs_ok vL w).1 34 _ (by rw [hvL]; rfl)
    rw [hb, ← hvA] at h
    exact h⟩
  have Fv36 : Aside0 (v47.heap[b + 35]? = some (.cells ([2, 3].map (Value.int .i64)).toArray 3 (0, 0))) := ⟨by
    have h := (allocs_ok vL w).1 35 _ (by rw [hvL]; rfl)
    rw [hb, ← hvA] at h
    exact h⟩
  have Fv37 : Aside0 (v47.heap[b + 36]? = some (.cells ([13, 2].map (Value.int .u8)).toArray 5 (0, 0))) := ⟨by
    have h := (allocs_ok vL w).1 36 _ (by rw [hvL]; rfl)
    rw [hb, ← hvA] at h
    exact h⟩
  have Fv38 : Aside0 (v47.heap[b + 37]? = some (.cells ([3, 1].map (Value.int .i64)).toArray 3 (0, 0))) := ⟨by
    have h := (allocs_ok vL w).1 37 _ (by rw [hvL]; rfl)
    rw [hb, ← hvA] at h
    exact h⟩
  have Fv39 : Aside0 (v47.heap[b + 38]? = some (.cells ([17, 17, 17].map (Value.int .u8)).toArray 5 (0, 0))) := ⟨by
    have h := (allocs_ok vL w).1 38 _ (by rw [hvL]; rfl)
    rw [hb, ← hvA] at h
    exact h⟩
  have Fv40 : Aside0 (v47.heap[b + 39]? = some (.cells ([1, 1, 1].map (Value.int .i64)).toArray 3 (0, 0))) := ⟨by
    have h := (allocs_ok vL w).1 39 _ (by rw [hvL]; rfl)
    rw [hb, ← hvA] at h
    exact h⟩
  have Fv41 : Aside0 (v47.heap[b + 40]? = some (.cells ([16].map (Value.int .u8)).toArray 5 (0, 0))) := ⟨by
    have h := (allocs_ok vL w).1 40 _ (by rw [hvL]; rfl)
    rw [hb, ← hvA] at h
    exact h⟩
  have Fv42 : Aside0 (v47.heap[b + 41]? = some (.cells ([3].map (Value.int .i64)).toArray 3 (0, 0))) := ⟨by
    have h := (allocs_ok vL w).1 41 _ (by rw [hvL]; rfl)
    rw [hb, ← hvA] at h
    exact h⟩
  have Fv43 : Aside0 (v47.heap[b + 42]? = some (.cells ([13, 13, 19].map (Value.int .u8)).toArray 5 (0, 0))) := ⟨by
    have h := (allocs_ok vL w).1 42 _ (by rw [hvL]; rfl)
    rw [hb, ← hvA] at h
    exact h⟩
  have Fv44 : Aside0 (v47.heap[b + 43]? = some (.cells ([1, 1, 1].map (Value.int .i64)).toArray 3 (0, 0))) := ⟨by
    have h := (allocs_ok vL w).1 43 _ (by rw [hvL]; rfl)
    rw [hb, ← hvA] at h
    exact h⟩
  have Fv45 : Aside0 (v47.heap[b + 44]? = some (.cells ([13].map (Value.int .u8)).toArray 5 (0, 0))) := ⟨by
    have h := (allocs_ok vL w).1 44 _ (by rw [hvL]; rfl)
    rw [hb, ← hvA] at h
    exact h⟩
  have Fv46 : Aside0 (v47.heap[b + 45]? = some (.cells ([1].map (Value.int .i64)).toArray 3 (0, 0))) := ⟨by
    have h := (allocs_ok vL w).1 45 _ (by rw [hvL]; rfl)
    rw [hb, ← hvA] at h
    exact h⟩
  have Fv47 : Aside0 (v47.heap[b + 46]? = some (.cells #[.string ⟨#[120, 32, 61, 32, 102, 40, 34, 97, 32, 98, 34, 44, 32, 49, 46, 53, 101, 45, 51, 41, 32, 35, 32, 99]⟩, .int .u8 0, .slice (some ⟨b, 0, none⟩) 9 9, .slice (some ⟨b + 1, 0, none⟩) 9 9, .int .u8 0, .int .i64 0, .string ⟨#[114, 39, 39, 39, 120, 10]⟩, .int .u8 0, .slice (some ⟨b + 2, 0, none⟩) 1 1, .slice (some ⟨b + 3, 0, none⟩) 1 1, .int .u8 1, .int .i64 0, .string ⟨#[121, 39, 39, 39, 32, 43, 32, 49]⟩, .int .u8 1, .slice (some ⟨b + 4, 0, none⟩) 3 3, .slice (some ⟨b + 5, 0, none⟩) 3 3, .int .u8 0, .int .i64 0, .string ⟨#[39, 97, 92, 10]⟩, .int .u8 0, .slice (some ⟨b + 6, 0, none⟩) 1 1, .slice (some ⟨b + 7, 0, none⟩) 1 1, .int .u8 3, .int .i64 0, .string ⟨#[98, 39]⟩, .int .u8 3, .slice (some ⟨b + 8, 0, none⟩) 1 1, .slice (some ⟨b + 9, 0, none⟩) 1 1, .int .u8 0, .int .i64 0, .string ⟨#[98]⟩, .int .u8 4, .slice (some ⟨b + 10, 0, none⟩) 1 1, .slice (some ⟨b + 11, 0, none⟩) 1 1, .int .u8 0, .int .i64 0, .string ⟨#[39, 97]⟩, .int .u8 0, .slice (some ⟨b + 12, 0, none⟩) 1 1, .slice (some ⟨b + 13, 0, none⟩) 1 1, .int .u8 0, .int .i64 0, .string ⟨#[41, 32, 92, 32, 120, 32, 92]⟩, .int .u8 0, .slice (some ⟨b + 14, 0, none⟩) 4 4, .slice (some ⟨b + 15, 0, none⟩) 4 4, .int .u8 0, .int .i64 0, .string ⟨#[48, 120, 69, 43, 49]⟩, .int .u8 0, .slice (some ⟨b + 16, 0, none⟩) 3 3, .slice (some ⟨b + 17, 0, none⟩) 3 3, .int .u8 0, .int .i64 0, .string ⟨#[49, 101, 43, 53]⟩, .int .u8 0, .slice (some ⟨b + 18, 0, none⟩) 1 1, .slice (some ⟨b + 19, 0, none⟩) 1 1, .int .u8 0, .int .i64 0, .string ⟨#[46, 46, 46]⟩, .int .u8 0, .slice (some ⟨b + 20, 0, none⟩) 1 1, .slice (some ⟨b + 21, 0, none⟩) 1 1, .int .u8 0, .int .i64 0, .string ⟨#[46, 46, 53]⟩, .int .u8 0, .slice (some ⟨b + 22, 0, none⟩) 2 2, .slice (some ⟨b + 23, 0, none⟩) 2 2, .int .u8 0, .int .i64 0, .string ⟨#[97, 33, 61, 98, 33]⟩, .int .u8 0, .slice (some ⟨b + 24, 0, none⟩) 4 4, .slice (some ⟨b + 25, 0, none⟩) 4 4, .int .u8 0, .int .i64 0, .string ⟨#[34, 34, 34, 97, 92, 34, 34, 34, 98, 34, 34, 34]⟩, .int .u8 0, .slice (some ⟨b + 26, 0, none⟩) 1 1, .slice (some ⟨b + 27, 0, none⟩) 1 1, .int .u8 0, .int .i64 0, .string ⟨#[39, 39, 10]⟩, .int .u8 0, .slice (some ⟨b + 28, 0, none⟩) 1 1, .slice (some ⟨b + 29, 0, none⟩) 1 1, .int .u8 0, .int .i64 0, .string ⟨#[39, 39, 39, 39]⟩, .int .u8 0, .slice (some ⟨b + 30, 0, none⟩) 1 1, .slice (some ⟨b + 31, 0, none⟩) 1 1, .int .u8 1, .int .i64 0, .string ⟨#[39, 39, 39, 92, 13, 10]⟩, .int .u8 0, .slice (some ⟨b + 32, 0, none⟩) 1 1, .slice (some ⟨b + 33, 0, none⟩) 1 1, .int .u8 1, .int .i64 0, .string ⟨#[98, 117, 39, 120, 39]⟩, .int .u8 0, .slice (some ⟨b + 34, 0, none⟩) 2 2, .slice (some ⟨b + 35, 0, none⟩) 2 2, .int .u8 0, .int .i64 0, .string ⟨#[255, 95, 57, 0]⟩, .int .u8 0, .slice (some ⟨b + 36, 0, none⟩) 2 2, .slice (some ⟨b + 37, 0, none⟩) 2 2, .int .u8 0, .int .i64 0, .string ⟨#[123, 91, 40, 13, 10, 41]⟩, .int .u8 0, .slice (some ⟨b + 38, 0, none⟩) 3 3, .slice (some ⟨b + 39, 0, none⟩) 3 3, .int .u8 0, .int .i64 3, .string ⟨#[12, 9, 32, 10]⟩, .int .u8 2, .slice (some ⟨b + 40, 0, none⟩) 1 1, .slice (some ⟨b + 41, 0, none⟩) 1 1, .int .u8 2, .int .i64 0, .string ByteArray.empty, .int .u8 2, .slice none 0 0, .slice none 0 0, .int .u8 2, .int .i64 0, .string ⟨#[120, 13, 121, 92, 13, 10]⟩, .int .u8 0, .slice (some ⟨b + 42, 0, none⟩) 3 3, .slice (some ⟨b + 43, 0, none⟩) 3 3, .int .u8 0, .int .i64 0, .string ⟨#[97]⟩, .int .u8 9, .slice (some ⟨b + 44, 0, none⟩) 1 1, .slice (some ⟨b + 45, 0, none⟩) 1 1, .int .u8 0, .int .i64 0] 44 (0, 0))) := ⟨by
    have h := (allocs_ok vL w).1 46 _ (by rw [hvL]; rfl)
    rw [hb, ← hvA] at h
    exact h⟩
  clear hvA hvL
  go_enter Try.func8, Try.ntmps8
  go_upto_region 2 with (refine wpList_buildFlatAt rfl 37 5 9 _ rfl .u8 [13, 17, 13, 17, 15, 17, 14, 17, 18] b hb (some 18) rfl Try.underlying37 (by kernel_rfl) (by kernel_rfl) rfl (by decide) (by decide) rfl ?_; rw [hv1]; refine wpList_buildFlatAt rfl 42 3 9 _ rfl .i64 [1, 1, 1, 1, 5, 1, 6, 1, 3] (b + 1) sv1 (some 19) rfl Try.underlying42 (by kernel_rfl) (by kernel_rfl) rfl (by decide) (by decide) rfl ?_; rw [hv2]; refine wpList_buildTo rfl 44 _ rfl (some 20) rfl #[.string ⟨#[120, 32, 61, 32, 102, 40, 34, 97, 32, 98, 34, 44, 32, 49, 46, 53, 101, 45, 51, 41, 32, 35, 32, 99]⟩, .int .u8 0, .slice (some ⟨b, 0, none⟩) 9 9, .slice (some ⟨b + 1, 0, none⟩) 9 9, .int .u8 0, .int .i64 0] (by kernel_rfl) ?_; refine wpList_buildFlatAt rfl 37 5 1 _ rfl .u8 [16] (b + 2) sv2 (some 21) rfl Try.underlying37 (by kernel_rfl) (by kernel_rfl) rfl (by decide) (by decide) rfl ?_; rw [hv3]; refine wpList_buildFlatAt rfl 42 3 1 _ rfl .i64 [5] (b + 3) sv3 (some 22) rfl Try.underlying42 (by kernel_rfl) (by kernel_rfl) rfl (by decide) (by decide) rfl ?_; rw [hv4]; refine wpList_buildTo rfl 44 _ rfl (some 23) rfl #[.string ⟨#[114, 39, 39, 39, 120, 10]⟩, .int .u8 0, .slice (some ⟨b + 2, 0, none⟩) 1 1, .slice (some ⟨b + 3, 0, none⟩) 1 1, .int .u8 1, .int .i64 0] (by kernel_rfl) ?_; refine wpList_buildFlatAt rfl 37 5 3 _ rfl .u8 [16, 17, 14] (b + 4) sv4 (some 24) rfl Try.underlying37 (by kernel_rfl) (by kernel_rfl) rfl (by decide) (by decide) rfl ?_; rw [hv5]; refine wpList_buildFlatAt rfl 42 3 3 _ rfl .i64 [4, 1, 1] (b + 5) sv5 (some 25) rfl Try.underlying42 (by kernel_rfl) (by kernel_rfl) rfl (by decide) (by decide) rfl ?_; rw [hv6]; refine wpList_buildTo rfl 44 _ rfl (some 26) rfl #[.string ⟨#[121, 39, 39, 39, 32, 43, 32, 49]⟩, .int .u8 1, .slice (some ⟨b + 4, 0, none⟩) 3 3, .slice (some ⟨b + 5, 0, none⟩) 3 3, .int .u8 0, .int .i64 0] (by kernel_rfl) ?_; refine wpList_buildFlatAt rfl 37 5 1 _ rfl .u8 [16] (b + 6) sv6 (some 27) rfl Try.underlying37 (by kernel_rfl) (by kernel_rfl) rfl (by decide) (by decide) rfl ?_; rw [hv7]; refine wpList_buildFlatAt rfl 42 3 1 _ rfl .i64 [3] (b + 7) sv7 (some 28) rfl Try.underlying42 (by kernel_rfl) (by kernel_rfl) rfl (by decide) (by decide) rfl ?_; rw [hv8]; refine wpList_buildTo rfl 44 _ rfl (some 29) rfl #[.string ⟨#[39, 97, 92, 10]⟩, .int .u8 0, .slice (some ⟨b + 6, 0, none⟩) 1 1, .slice (some ⟨b + 7, 0, none⟩) 1 1, .int .u8 3, .int .i64 0] (by kernel_rfl) ?_; refine wpList_buildFlatAt rfl 37 5 1 _ rfl .u8 [16] (b + 8) sv8 (some 30) rfl Try.underlying37 (by kernel_rfl) (by kernel_rfl) rfl (by decide) (by decide) rfl ?_; rw [hv9]; refine wpList_buildFlatAt rfl 42 3 1 _ rfl .i64 [2] (b + 9) sv9 (some 31) rfl Try.underlying42 (by kernel_rfl) (by kernel_rfl) rfl (by decide) (by decide) rfl ?_; rw [hv10]; refine wpList_buildTo rfl 44 _ rfl (some 32) rfl #[.string ⟨#[98, 39]⟩, .int .u8 3, .slice (some ⟨b + 8, 0, none⟩) 1 1, .slice (some ⟨b + 9, 0, none⟩) 1 1, .int .u8 0, .int .i64 0] (by kernel_rfl) ?_; refine wpList_buildFlatAt rfl 37 5 1 _ rfl .u8 [2] (b + 10) sv10 (some 33) rfl Try.underlying37 (by kernel_rfl) (by kernel_rfl) rfl (by decide) (by decide) rfl ?_; rw [hv11]; refine wpList_buildFlatAt rfl 42 3 1 _ rfl .i64 [1] (b + 11) sv11 (some 34) rfl Try.underlying42 (by kernel_rfl) (by kernel_rfl) rfl (by decide) (by decide) rfl ?_; rw [hv12]; refine wpList_buildTo rfl 44 _ rfl (some 35) rfl #[.string ⟨#[98]⟩, .int .u8 4, .slice (some ⟨b + 10, 0, none⟩) 1 1, .slice (some ⟨b + 11, 0, none⟩) 1 1, .int .u8 0, .int .i64 0] (by kernel_rfl) ?_; refine wpList_buildFlatAt rfl 37 5 1 _ rfl .u8 [2] (b + 12) sv12 (some 36) rfl Try.underlying37 (by kernel_rfl) (by kernel_rfl) rfl (by decide) (by decide) rfl ?_; rw [hv13]; refine wpList_buildFlatAt rfl 42 3 1 _ rfl .i64 [2] (b + 13) sv13 (some 37) rfl Try.underlying42 (by kernel_rfl) (by kernel_rfl) rfl (by decide) (by decide) rfl ?_; rw [hv14]; refine wpList_buildTo rfl 44 _ rfl (some 38) rfl #[.string ⟨#[39, 97]⟩, .int .u8 0, .slice (some ⟨b + 12, 0, none⟩) 1 1, .slice (some ⟨b + 13, 0, none⟩) 1 1, .int .u8 0, .int .i64 0] (by kernel_rfl) ?_; refine wpList_buildFlatAt rfl 37 5 4 _ rfl .u8 [2, 2, 13, 19] (b + 14) sv14 (some 39) rfl Try.underlying37 (by kernel_rfl) (by kernel_rfl) rfl (by decide) (by decide) rfl ?_; rw [hv15]; refine wpList_buildFlatAt rfl 42 3 4 _ rfl .i64 [1, 1, 1, 1] (b + 15) sv15 (some 40) rfl Try.underlying42 (by kernel_rfl) (by kernel_rfl) rfl (by decide) (by decide) rfl ?_; rw [hv16]; refine wpList_buildTo rfl 44 _ rfl (some 41) rfl #[.string ⟨#[41, 32, 92, 32, 120, 32, 92]⟩, .int .u8 0, .slice (some ⟨b + 14, 0, none⟩) 4 4, .slice (some ⟨b + 15, 0, none⟩) 4 4, .int .u8 0, .int .i64 0] (by kernel_rfl) ?_; refine wpList_buildFlatAt rfl 37 5 3 _ rfl .u8 [14, 17, 14] (b + 16) sv16 (some 42) rfl Try.underlying37 (by kernel_rfl) (by kernel_rfl) rfl (by decide) (by decide) rfl ?_; rw [hv17]; refine wpList_buildFlatAt rfl 42 3 3 _ rfl .i64 [3, 1, 1] (b + 17) sv17 (some 43) rfl Try.underlying42 (by kernel_rfl) (by kernel_rfl) rfl (by decide) (by decide) rfl ?_; rw [hv18]; refine wpList_buildTo rfl 44 _ rfl (some 44) rfl #[.string ⟨#[48, 120, 69, 43, 49]⟩, .int .u8 0, .slice (some ⟨b + 16, 0, none⟩) 3 3, .slice (some ⟨b + 17, 0, none⟩) 3 3, .int .u8 0, .int .i64 0] (by kernel_rfl) ?_; refine wpList_buildFlatAt rfl 37 5 1 _ rfl .u8 [14] (b + 18) sv18 (some 45) rfl Try.underlying37 (by kernel_rfl) (by kernel_rfl) rfl (by decide) (by decide) rfl ?_; rw [hv19]; refine wpList_buildFlatAt rfl 42 3 1 _ rfl .i64 [4] (b + 19) sv19 (some 46) rfl Try.underlying42 (by kernel_rfl) (by kernel_rfl) rfl (by decide) (by decide) rfl ?_; rw [hv20]; refine wpList_buildTo rfl 44 _ rfl (some 47) rfl #[.string ⟨#[49, 101, 43, 53]⟩, .int .u8 0, .slice (some ⟨b + 18, 0, none⟩) 1 1, .slice (some ⟨b + 19, 0, none⟩) 1 1, .int .u8 0, .int .i64 0] (by kernel_rfl) ?_; refine wpList_buildFlatAt rfl 37 5 1 _ rfl .u8 [17] (b + 20) sv20 (some 48) rfl Try.underlying37 (by kernel_rfl) (by kernel_rfl) rfl (by decide) (by decide) rfl ?_; rw [hv21]; refine wpList_buildFlatAt rfl 42 3 1 _ rfl .i64 [3] (b + 21) sv21 (some 49) rfl Try.underlying42 (by kernel_rfl) (by kernel_rfl) rfl (by decide) (by decide) rfl ?_; rw [hv22]; refine wpList_buildTo rfl 44 _ rfl (some 50) rfl #[.string ⟨#[46, 46, 46]⟩, .int .u8 0, .slice (some ⟨b + 20, 0, none⟩) 1 1, .slice (some ⟨b + 21, 0, none⟩) 1 1, .int .u8 0, .int .i64 0] (by kernel_rfl) ?_; refine wpList_buildFlatAt rfl 37 5 2 _ rfl .u8 [17, 14] (b + 22) sv22 (some 51) rfl Try.underlying37 (by kernel_rfl) (by kernel_rfl) rfl (by decide) (by decide) rfl ?_; rw [hv23]; refine wpList_buildFlatAt rfl 42 3 2 _ rfl .i64 [1, 2] (b + 23) sv23 (some 52) rfl Try.underlying42 (by kernel_rfl) (by kernel_rfl) rfl (by decide) (by decide) rfl ?_; rw [hv24]; refine wpList_buildTo rfl 44 _ rfl (some 53) rfl #[.string ⟨#[46, 46, 53]⟩, .int .u8 0, .slice (some ⟨b + 22, 0, none⟩) 2 2, .slice (some ⟨b + 23, 0, none⟩) 2 2, .int .u8 0, .int .i64 0] (by kernel_rfl) ?_; refine wpList_buildFlatAt rfl 37 5 4 _ rfl .u8 [13, 17, 13, 2] (b + 24) sv24 (some 54) rfl Try.underlying37 (by kernel_rfl) (by kernel_rfl) rfl (by decide) (by decide) rfl ?_; rw [hv25]; refine wpList_buildFlatAt rfl 42 3 4 _ rfl .i64 [1, 2, 1, 1] (b + 25) sv25 (some 55) rfl Try.underlying42 (by kernel_rfl) (by kernel_rfl) rfl (by decide) (by decide) rfl ?_; rw [hv26]; refine wpList_buildTo rfl 44 _ rfl (some 56) rfl #[.string ⟨#[97, 33, 61, 98, 33]⟩, .int .u8 0, .slice (some ⟨b + 24, 0, none⟩) 4 4, .slice (some ⟨b + 25, 0, none⟩) 4 4, .int .u8 0, .int .i64 0] (by kernel_rfl) ?_; refine wpList_buildFlatAt rfl 37 5 1 _ rfl .u8 [15] (b + 26) sv26 (some 57) rfl Try.underlying37 (by kernel_rfl) (by kernel_rfl) rfl (by decide) (by decide) rfl ?_; rw [hv27]; refine wpList_buildFlatAt rfl 42 3 1 _ rfl .i64 [12] (b + 27) sv27 (some 58) rfl Try.underlying42 (by kernel_rfl) (by kernel_rfl) rfl (by decide) (by decide) rfl ?_; rw [hv28]; refine wpList_buildTo rfl 44 _ rfl (some 59) rfl #[.string ⟨#[34, 34, 34, 97, 92, 34, 34, 34, 98, 34, 34, 34]⟩, .int .u8 0, .slice (some ⟨b + 26, 0, none⟩) 1 1, .slice (some ⟨b + 27, 0, none⟩) 1 1, .int .u8 0, .int .i64 0] (by kernel_rfl) ?_; refine wpList_buildFlatAt rfl 37 5 1 _ rfl .u8 [15] (b + 28) sv28 (some 60) rfl Try.underlying37 (by kernel_rfl) (by kernel_rfl) rfl (by decide) (by decide) rfl ?_; rw [hv29]; refine wpList_buildFlatAt rfl 42 3 1 _ rfl .i64 [2] (b + 29) sv29 (some 61) rfl Try.underlying42 (by kernel_rfl) (by kernel_rfl) rfl (by decide) (by decide) rfl ?_; rw [hv30]; refine wpList_buildTo rfl 44 _ rfl (some 62) rfl #[.string ⟨#[39, 39, 10]⟩, .int .u8 0, .slice (some ⟨b + 28, 0, none⟩) 1 1, .slice (some ⟨b + 29, 0, none⟩) 1 1, .int .u8 0, .int .i64 0] (by kernel_rfl) ?_; refine wpList_buildFlatAt rfl 37 5 1 _ rfl .u8 [16] (b + 30) sv30 (some 63) rfl Try.underlying37 (by kernel_rfl) (by kernel_rfl) rfl (by decide) (by decide) rfl ?_; rw [hv31]; refine wpList_buildFlatAt rfl 42 3 1 _ rfl .i64 [4] (b + 31) sv31 (some 64) rfl Try.underlying42 (by kernel_rfl) (by kernel_rfl) rfl (by decide) (by decide) rfl ?_; rw [hv32]; refine wpList_buildTo rfl 44 _ rfl (some 65) rfl #[.string ⟨#[39, 39, 39, 39]⟩, .int .u8 0, .slice (some ⟨b + 30, 0, none⟩) 1 1, .slice (some ⟨b + 31, 0, none⟩) 1 1, .int .u8 1, .int .i64 0] (by kernel_rfl) ?_; refine wpList_buildFlatAt rfl 37 5 1 _ rfl .u8 [16] (b + 32) sv32 (some 66) rfl Try.underlying37 (by kernel_rfl) (by kernel_rfl) rfl (by decide) (by decide) rfl ?_; rw [hv33]; refine wpList_buildFlatAt rfl 42 3 1 _ rfl .i64 [4] (b + 33) sv33 (some 67) rfl Try.underlying42 (by kernel_rfl) (by kernel_rfl) rfl (by decide) (by decide) rfl ?_; rw [hv34]; refine wpList_buildTo rfl 44 _ rfl (some 68) rfl #[.string ⟨#[39, 39, 39, 92, 13, 10]⟩, .int .u8 0, .slice (some ⟨b + 32, 0, none⟩) 1 1, .slice (some ⟨b + 33, 0, none⟩) 1 1, .int .u8 1, .int .i64 0] (by kernel_rfl) ?_; refine wpList_buildFlatAt rfl 37 5 2 _ rfl .u8 [13, 15] (b + 34) sv34 (some 69) rfl Try.underlying37 (by kernel_rfl) (by kernel_rfl) rfl (by decide) (by decide) rfl ?_; rw [hv35]; refine wpList_buildFlatAt rfl 42 3 2 _ rfl .i64 [2, 3] (b + 35) sv35 (some 70) rfl Try.underlying42 (by kernel_rfl) (by kernel_rfl) rfl (by decide) (by decide) rfl ?_; rw [hv36]; refine wpList_buildTo rfl 44 _ rfl (some 71) rfl #[.string ⟨#[98, 117, 39, 120, 39]⟩, .int .u8 0, .slice (some ⟨b + 34, 0, none⟩) 2 2, .slice (some ⟨b + 35, 0, none⟩) 2 2, .int .u8 0, .int .i64 0] (by kernel_rfl) ?_; refine wpList_buildFlatAt rfl 37 5 2 _ rfl .u8 [13, 2] (b + 36) sv36 (some 72) rfl Try.underlying37 (by kernel_rfl) (by kernel_rfl) rfl (by decide) (by decide) rfl ?_; rw [hv37]; refine wpList_buildFlatAt rfl 42 3 2 _ rfl .i64 [3, 1] (b + 37) sv37 (some 73) rfl Try.underlying42 (by kernel_rfl) (by kernel_rfl) rfl (by decide) (by decide) rfl ?_; rw [hv38]; refine wpList_buildTo rfl 44 _ rfl (some 74) rfl #[.string ⟨#[255, 95, 57, 0]⟩, .int .u8 0, .slice (some ⟨b + 36, 0, none⟩) 2 2, .slice (some ⟨b + 37, 0, none⟩) 2 2, .int .u8 0, .int .i64 0] (by kernel_rfl) ?_; refine wpList_buildFlatAt rfl 37 5 3 _ rfl .u8 [17, 17, 17] (b + 38) sv38 (some 75) rfl Try.underlying37 (by kernel_rfl) (by kernel_rfl) rfl (by decide) (by decide) rfl ?_; rw [hv39]; refine wpList_buildFlatAt rfl 42 3 3 _ rfl .i64 [1, 1, 1] (b + 39) sv39 (some 76) rfl Try.underlying42 (by kernel_rfl) (by kernel_rfl) rfl (by decide) (by decide) rfl ?_; rw [hv40]; refine wpList_buildTo rfl 44 _ rfl (some 77) rfl #[.string ⟨#[123, 91, 40, 13, 10, 41]⟩, .int .u8 0, .slice (some ⟨b + 38, 0, none⟩) 3 3, .slice (some ⟨b + 39, 0, none⟩) 3 3, .int .u8 0, .int .i64 3] (by kernel_rfl) ?_; refine wpList_buildFlatAt rfl 37 5 1 _ rfl .u8 [16] (b + 40) sv40 (some 78) rfl Try.underlying37 (by kernel_rfl) (by kernel_rfl) rfl (by decide) (by decide) rfl ?_; rw [hv41]; refine wpList_buildFlatAt rfl 42 3 1 _ rfl .i64 [3] (b + 41) sv41 (some 79) rfl Try.underlying42 (by kernel_rfl) (by kernel_rfl) rfl (by decide) (by decide) rfl ?_; rw [hv42]; refine wpList_buildTo rfl 44 _ rfl (some 80) rfl #[.string ⟨#[12, 9, 32, 10]⟩, .int .u8 2, .slice (some ⟨b + 40, 0, none⟩) 1 1, .slice (some ⟨b + 41, 0, none⟩) 1 1, .int .u8 2, .int .i64 0] (by kernel_rfl) ?_; refine wpList_buildTo rfl 44 _ rfl (some 81) rfl #[.string ByteArray.empty, .int .u8 2, .slice none 0 0, .slice none 0 0, .int .u8 2, .int .i64 0] (by kernel_rfl) ?_; refine wpList_buildFlatAt rfl 37 5 3 _ rfl .u8 [13, 13, 19] (b + 42) sv42 (some 82) rfl Try.underlying37 (by kernel_rfl) (by kernel_rfl) rfl (by decide) (by decide) rfl ?_; rw [hv43]; refine wpList_buildFlatAt rfl 42 3 3 _ rfl .i64 [1, 1, 1] (b + 43) sv43 (some 83) rfl Try.underlying42 (by kernel_rfl) (by kernel_rfl) rfl (by decide) (by decide) rfl ?_; rw [hv44]; refine wpList_buildTo rfl 44 _ rfl (some 84) rfl #[.string ⟨#[120, 13, 121, 92, 13, 10]⟩, .int .u8 0, .slice (some ⟨b + 42, 0, none⟩) 3 3, .slice (some ⟨b + 43, 0, none⟩) 3 3, .int .u8 0, .int .i64 0] (by kernel_rfl) ?_; refine wpList_buildFlatAt rfl 37 5 1 _ rfl .u8 [13] (b + 44) sv44 (some 85) rfl Try.underlying37 (by kernel_rfl) (by kernel_rfl) rfl (by decide) (by decide) rfl ?_; rw [hv45]; refine wpList_buildFlatAt rfl 42 3 1 _ rfl .i64 [1] (b + 45) sv45 (some 86) rfl Try.underlying42 (by kernel_rfl) (by kernel_rfl) rfl (by decide) (by decide) rfl ?_; rw [hv46]; refine wpList_buildTo rfl 44 _ rfl (some 87) rfl #[.string ⟨#[97]⟩, .int .u8 9, .slice (some ⟨b + 44, 0, none⟩) 1 1, .slice (some ⟨b + 45, 0, none⟩) 1 1, .int .u8 0, .int .i64 0] (by kernel_rfl) ?_; refine wpList_bs rfl 45 44 24 _ rfl (some 88) rfl #[.string ⟨#[120, 32, 61, 32, 102, 40, 34, 97, 32, 98, 34, 44, 32, 49, 46, 53, 101, 45, 51, 41, 32, 35, 32, 99]⟩, .int .u8 0, .slice (some ⟨b, 0, none⟩) 9 9, .slice (some ⟨b + 1, 0, none⟩) 9 9, .int .u8 0, .int .i64 0, .string ⟨#[114, 39, 39, 39, 120, 10]⟩, .int .u8 0, .slice (some ⟨b + 2, 0, none⟩) 1 1, .slice (some ⟨b + 3, 0, none⟩) 1 1, .int .u8 1, .int .i64 0, .string ⟨#[121, 39, 39, 39, 32, 43, 32, 49]⟩, .int .u8 1, .slice (some ⟨b + 4, 0, none⟩) 3 3, .slice (some ⟨b + 5, 0, none⟩) 3 3, .int .u8 0, .int .i64 0, .string ⟨#[39, 97, 92, 10]⟩, .int .u8 0, .slice (some ⟨b + 6, 0, none⟩) 1 1, .slice (some ⟨b + 7, 0, none⟩) 1 1, .int .u8 3, .int .i64 0, .string ⟨#[98, 39]⟩, .int .u8 3, .slice (some ⟨b + 8, 0, none⟩) 1 1, .slice (some ⟨b + 9, 0, none⟩) 1 1, .int .u8 0, .int .i64 0, .string ⟨#[98]⟩, .int .u8 4, .slice (some ⟨b + 10, 0, none⟩) 1 1, .slice (some ⟨b + 11, 0, none⟩) 1 1, .int .u8 0, .int .i64 0, .string ⟨#[39, 97]⟩, .int .u8 0, .slice (some ⟨b + 12, 0, none⟩) 1 1, .slice (some ⟨b + 13, 0, none⟩) 1 1, .int .u8 0, .int .i64 0, .string ⟨#[41, 32, 92, 32, 120, 32, 92]⟩, .int .u8 0, .slice (some ⟨b + 14, 0, none⟩) 4 4, .slice (some ⟨b + 15, 0, none⟩) 4 4, .int .u8 0, .int .i64 0, .string ⟨#[48, 120, 69, 43, 49]⟩, .int .u8 0, .slice (some ⟨b + 16, 0, none⟩) 3 3, .slice (some ⟨b + 17, 0, none⟩) 3 3, .int .u8 0, .int .i64 0, .string ⟨#[49, 101, 43, 53]⟩, .int .u8 0, .slice (some ⟨b + 18, 0, none⟩) 1 1, .slice (some ⟨b + 19, 0, none⟩) 1 1, .int .u8 0, .int .i64 0, .string ⟨#[46, 46, 46]⟩, .int .u8 0, .slice (some ⟨b + 20, 0, none⟩) 1 1, .slice (some ⟨b + 21, 0, none⟩) 1 1, .int .u8 0, .int .i64 0, .string ⟨#[46, 46, 53]⟩, .int .u8 0, .slice (some ⟨b + 22, 0, none⟩) 2 2, .slice (some ⟨b + 23, 0, none⟩) 2 2, .int .u8 0, .int .i64 0, .string ⟨#[97, 33, 61, 98, 33]⟩, .int .u8 0, .slice (some ⟨b + 24, 0, none⟩) 4 4, .slice (some ⟨b + 25, 0, none⟩) 4 4, .int .u8 0, .int .i64 0, .string ⟨#[34, 34, 34, 97, 92, 34, 34, 34, 98, 34, 34, 34]⟩, .int .u8 0, .slice (some ⟨b + 26, 0, none⟩) 1 1, .slice (some ⟨b + 27, 0, none⟩) 1 1, .int .u8 0, .int .i64 0, .string ⟨#[39, 39, 10]⟩, .int .u8 0, .slice (some ⟨b + 28, 0, none⟩) 1 1, .slice (some ⟨b + 29, 0, none⟩) 1 1, .int .u8 0, .int .i64 0, .string ⟨#[39, 39, 39, 39]⟩, .int .u8 0, .slice (some ⟨b + 30, 0, none⟩) 1 1, .slice (some ⟨b + 31, 0, none⟩) 1 1, .int .u8 1, .int .i64 0, .string ⟨#[39, 39, 39, 92, 13, 10]⟩, .int .u8 0, .slice (some ⟨b + 32, 0, none⟩) 1 1, .slice (some ⟨b + 33, 0, none⟩) 1 1, .int .u8 1, .int .i64 0, .string ⟨#[98, 117, 39, 120, 39]⟩, .int .u8 0, .slice (some ⟨b + 34, 0, none⟩) 2 2, .slice (some ⟨b + 35, 0, none⟩) 2 2, .int .u8 0, .int .i64 0, .string ⟨#[255, 95, 57, 0]⟩, .int .u8 0, .slice (some ⟨b + 36, 0, none⟩) 2 2, .slice (some ⟨b + 37, 0, none⟩) 2 2, .int .u8 0, .int .i64 0, .string ⟨#[123, 91, 40, 13, 10, 41]⟩, .int .u8 0, .slice (some ⟨b + 38, 0, none⟩) 3 3, .slice (some ⟨b + 39, 0, none⟩) 3 3, .int .u8 0, .int .i64 3, .string ⟨#[12, 9, 32, 10]⟩, .int .u8 2, .slice (some ⟨b + 40, 0, none⟩) 1 1, .slice (some ⟨b + 41, 0, none⟩) 1 1, .int .u8 2, .int .i64 0, .string ByteArray.empty, .int .u8 2, .slice none 0 0, .slice none 0 0, .int .u8 2, .int .i64 0, .string ⟨#[120, 13, 121, 92, 13, 10]⟩, .int .u8 0, .slice (some ⟨b + 42, 0, none⟩) 3 3, .slice (some ⟨b + 43, 0, none⟩) 3 3, .int .u8 0, .int .i64 0, .string ⟨#[97]⟩, .int .u8 9, .slice (some ⟨b + 44, 0, none⟩) 1 1, .slice (some ⟨b + 45, 0, none⟩) 1 1, .int .u8 0, .int .i64 0] 6 (.agg #[.string ByteArray.empty, .int .u8 0, .slice none 0 0, .slice none 0 0, .int .u8 0, .int .i64 0]) (b + 46) sv46 Try.underlying45 (by kernel_rfl) (by decide) (by decide) (by kernel_rfl) ?_; rw [hv47]; refine wpList_frame (a' := { tmps := #[.bool false, undef, undef, undef, undef, undef, undef, undef, undef, undef, undef, undef, undef, undef, undef, undef, undef, undef, .slice (some ⟨b, 0, none⟩) 9 9, .slice (some ⟨b + 1, 0, none⟩) 9 9, .agg #[.string ⟨#[120, 32, 61, 32, 102, 40, 34, 97, 32, 98, 34, 44, 32, 49, 46, 53, 101, 45, 51, 41, 32, 35, 32, 99]⟩, .int .u8 0, .slice (some ⟨b, 0, none⟩) 9 9, .slice (some ⟨b + 1, 0, none⟩) 9 9, .int .u8 0, .int .i64 0], .slice (some ⟨b + 2, 0, none⟩) 1 1, .slice (some ⟨b + 3, 0, none⟩) 1 1, .agg #[.string ⟨#[114, 39, 39, 39, 120, 10]⟩, .int .u8 0, .slice (some ⟨b + 2, 0, none⟩) 1 1, .slice (some ⟨b + 3, 0, none⟩) 1 1, .int .u8 1, .int .i64 0], .slice (some ⟨b + 4, 0, none⟩) 3 3, .slice (some ⟨b + 5, 0, none⟩) 3 3, .agg #[.string ⟨#[121, 39, 39, 39, 32, 43, 32, 49]⟩, .int .u8 1, .slice (some ⟨b + 4, 0, none⟩) 3 3, .slice (some ⟨b + 5, 0, none⟩) 3 3, .int .u8 0, .int .i64 0], .slice (some ⟨b + 6, 0, none⟩) 1 1, .slice (some ⟨b + 7, 0, none⟩) 1 1, .agg #[.string ⟨#[39, 97, 92, 10]⟩, .int .u8 0, .slice (some ⟨b + 6, 0, none⟩) 1 1, .slice (some ⟨b + 7, 0, none⟩) 1 1, .int .u8 3, .int .i64 0], .slice (some ⟨b + 8, 0, none⟩) 1 1, .slice (some ⟨b + 9, 0, none⟩) 1 1, .agg #[.string ⟨#[98, 39]⟩, .int .u8 3, .slice (some ⟨b + 8, 0, none⟩) 1 1, .slice (some ⟨b + 9, 0, none⟩) 1 1, .int .u8 0, .int .i64 0], .slice (some ⟨b + 10, 0, none⟩) 1 1, .slice (some ⟨b + 11, 0, none⟩) 1 1, .agg #[.string ⟨#[98]⟩, .int .u8 4, .slice (some ⟨b + 10, 0, none⟩) 1 1, .slice (some ⟨b + 11, 0, none⟩) 1 1, .int .u8 0, .int .i64 0], .slice (some ⟨b + 12, 0, none⟩) 1 1, .slice (some ⟨b + 13, 0, none⟩) 1 1, .agg #[.string ⟨#[39, 97]⟩, .int .u8 0, .slice (some ⟨b + 12, 0, none⟩) 1 1, .slice (some ⟨b + 13, 0, none⟩) 1 1, .int .u8 0, .int .i64 0], .slice (some ⟨b + 14, 0, none⟩) 4 4, .slice (some ⟨b + 15, 0, none⟩) 4 4, .agg #[.string ⟨#[41, 32, 92, 32, 120, 32, 92]⟩, .int .u8 0, .slice (some ⟨b + 14, 0, none⟩) 4 4, .slice (some ⟨b + 15, 0, none⟩) 4 4, .int .u8 0, .int .i64 0], .slice (some ⟨b + 16, 0, none⟩) 3 3, .slice (some ⟨b + 17, 0, none⟩) 3 3, .agg #[.string ⟨#[48, 120, 69, 43, 49]⟩, .int .u8 0, .slice (some ⟨b + 16, 0, none⟩) 3 3, .slice (some ⟨b + 17, 0, none⟩) 3 3, .int .u8 0, .int .i64 0], .slice (some ⟨b + 18, 0, none⟩) 1 1, .slice (some ⟨b + 19, 0, none⟩) 1 1, .agg #[.string ⟨#[49, 101, 43, 53]⟩, .int .u8 0, .slice (some ⟨b + 18, 0, none⟩) 1 1, .slice (some ⟨b + 19, 0, none⟩) 1 1, .int .u8 0, .int .i64 0], .slice (some ⟨b + 20, 0, none⟩) 1 1, .slice (some ⟨b + 21, 0, none⟩) 1 1, .agg #[.string ⟨#[46, 46, 46]⟩, .int .u8 0, .slice (some ⟨b + 20, 0, none⟩) 1 1, .slice (some ⟨b + 21, 0, none⟩) 1 1, .int .u8 0, .int .i64 0], .slice (some ⟨b + 22, 0, none⟩) 2 2, .slice (some ⟨b + 23, 0, none⟩) 2 2, .agg #[.string ⟨#[46, 46, 53]⟩, .int .u8 0, .slice (some ⟨b + 22, 0, none⟩) 2 2, .slice (some ⟨b + 23, 0, none⟩) 2 2, .int .u8 0, .int .i64 0], .slice (some ⟨b + 24, 0, none⟩) 4 4, .slice (some ⟨b + 25, 0, none⟩) 4 4, .agg #[.string ⟨#[97, 33, 61, 98, 33]⟩, .int .u8 0, .slice (some ⟨b + 24, 0, none⟩) 4 4, .slice (some ⟨b + 25, 0, none⟩) 4 4, .int .u8 0, .int .i64 0], .slice (some ⟨b + 26, 0, none⟩) 1 1, .slice (some ⟨b + 27, 0, none⟩) 1 1, .agg #[.string ⟨#[34, 34, 34, 97, 92, 34, 34, 34, 98, 34, 34, 34]⟩, .int .u8 0, .slice (some ⟨b + 26, 0, none⟩) 1 1, .slice (some ⟨b + 27, 0, none⟩) 1 1, .int .u8 0, .int .i64 0], .slice (some ⟨b + 28, 0, none⟩) 1 1, .slice (some ⟨b + 29, 0, none⟩) 1 1, .agg #[.string ⟨#[39, 39, 10]⟩, .int .u8 0, .slice (some ⟨b + 28, 0, none⟩) 1 1, .slice (some ⟨b + 29, 0, none⟩) 1 1, .int .u8 0, .int .i64 0], .slice (some ⟨b + 30, 0, none⟩) 1 1, .slice (some ⟨b + 31, 0, none⟩) 1 1, .agg #[.string ⟨#[39, 39, 39, 39]⟩, .int .u8 0, .slice (some ⟨b + 30, 0, none⟩) 1 1, .slice (some ⟨b + 31, 0, none⟩) 1 1, .int .u8 1, .int .i64 0], .slice (some ⟨b + 32, 0, none⟩) 1 1, .slice (some ⟨b + 33, 0, none⟩) 1 1, .agg #[.string ⟨#[39, 39, 39, 92, 13, 10]⟩, .int .u8 0, .slice (some ⟨b + 32, 0, none⟩) 1 1, .slice (some ⟨b + 33, 0, none⟩) 1 1, .int .u8 1, .int .i64 0], .slice (some ⟨b + 34, 0, none⟩) 2 2, .slice (some ⟨b + 35, 0, none⟩) 2 2, .agg #[.string ⟨#[98, 117, 39, 120, 39]⟩, .int .u8 0, .slice (some ⟨b + 34, 0, none⟩) 2 2, .slice (some ⟨b + 35, 0, none⟩) 2 2, .int .u8 0, .int .i64 0], .slice (some ⟨b + 36, 0, none⟩) 2 2, .slice (some ⟨b + 37, 0, none⟩) 2 2, .agg #[.string ⟨#[255, 95, 57, 0]⟩, .int .u8 0, .slice (some ⟨b + 36, 0, none⟩) 2 2, .slice (some ⟨b + 37, 0, none⟩) 2 2, .int .u8 0, .int .i64 0], .slice (some ⟨b + 38, 0, none⟩) 3 3, .slice (some ⟨b + 39, 0, none⟩) 3 3, .agg #[.string ⟨#[123, 91, 40, 13, 10, 41]⟩, .int .u8 0, .slice (some ⟨b + 38, 0, none⟩) 3 3, .slice (some ⟨b + 39, 0, none⟩) 3 3, .int .u8 0, .int .i64 3], .slice (some ⟨b + 40, 0, none⟩) 1 1, .slice (some ⟨b + 41, 0, none⟩) 1 1, .agg #[.string ⟨#[12, 9, 32, 10]⟩, .int .u8 2, .slice (some ⟨b + 40, 0, none⟩) 1 1, .slice (some ⟨b + 41, 0, none⟩) 1 1, .int .u8 2, .int .i64 0], .agg #[.string ByteArray.empty, .int .u8 2, .slice none 0 0, .slice none 0 0, .int .u8 2, .int .i64 0], .slice (some ⟨b + 42, 0, none⟩) 3 3, .slice (some ⟨b + 43, 0, none⟩) 3 3, .agg #[.string ⟨#[120, 13, 121, 92, 13, 10]⟩, .int .u8 0, .slice (some ⟨b + 42, 0, none⟩) 3 3, .slice (some ⟨b + 43, 0, none⟩) 3 3, .int .u8 0, .int .i64 0], .slice (some ⟨b + 44, 0, none⟩) 1 1, .slice (some ⟨b + 45, 0, none⟩) 1 1, .agg #[.string ⟨#[97]⟩, .int .u8 9, .slice (some ⟨b + 44, 0, none⟩) 1 1, .slice (some ⟨b + 45, 0, none⟩) 1 1, .int .u8 0, .int .i64 0], .slice (some ⟨b + 46, 0, none⟩) 24 24, undef, undef, undef, undef, undef, undef, undef, undef, undef, undef, undef, undef, undef, undef, undef, undef, undef, undef, undef, undef, undef, undef, undef, undef, undef, undef, undef, undef, undef, undef, undef, undef, undef, undef, undef, undef, undef, undef, undef, undef, undef, undef, undef, undef, undef, undef, undef, undef, undef, undef, undef, undef, undef, undef, undef, undef, undef, undef, undef, undef, undef, undef, undef, undef, undef, undef, undef, undef, undef, undef, undef, undef, undef, undef, undef, undef, undef, undef, undef, undef, undef, undef, undef, undef, undef, undef, undef, undef, undef, undef, undef, undef, undef, undef, undef, undef, undef, undef, undef, undef, undef, undef, undef, undef, undef, undef, undef, undef, undef, undef, undef, undef, undef, undef, undef, undef, undef, undef, undef, undef, undef, undef, undef, undef, undef, undef, undef, undef, undef, undef, undef, undef, undef, undef, undef, undef, undef, undef, undef, undef, undef, undef, undef, undef, undef, undef, undef, undef, undef, undef, undef, undef, undef, undef, undef, undef, undef, undef, undef, undef, undef, undef, undef, undef, undef, undef, undef, undef, undef, undef, undef, undef, undef, undef, undef, undef, undef, undef, undef, undef, undef, undef, undef, undef, undef, undef, undef, undef, undef, undef, undef, undef, undef, undef, undef, undef, undef, undef, undef, undef, undef, undef, undef, undef, undef, undef, undef, undef, undef, undef, undef], defers := [] }) (by kernel_rfl) ?_)
  have HT : Aside0 (∀ k, k < 24 → RowAt v47 (b + 46) k) := ⟨tab_at v47 b Fv1.out Fv2.out Fv3.out Fv4.out Fv5.out Fv6.out Fv7.out Fv8.out Fv9.out Fv10.out Fv11.out Fv12.out Fv13.out Fv14.out Fv15.out Fv16.out Fv17.out Fv18.out Fv19.out Fv20.out Fv21.out Fv22.out Fv23.out Fv24.out Fv25.out Fv26.out Fv27.out Fv28.out Fv29.out Fv30.out Fv31.out Fv32.out Fv33.out Fv34.out Fv35.out Fv36.out Fv37.out Fv38.out Fv39.out Fv40.out Fv41.out Fv42.out Fv43.out Fv44.out Fv45.out Fv46.out Fv47.out⟩
  clear hv1 sv1 Fv1 hv2 sv2 Fv2 hv3 sv3 Fv3 hv4 sv4 Fv4 hv5 sv5 Fv5 hv6 sv6 Fv6 hv7 sv7 Fv7 hv8 sv8 Fv8 hv9 sv9 Fv9 hv10 sv10 Fv10 hv11 sv11 Fv11 hv12 sv12 Fv12 hv13 sv13 Fv13 hv14 sv14 Fv14 hv15 sv15 Fv15 hv16 sv16 Fv16 hv17 sv17 Fv17 hv18 sv18 Fv18 hv19 sv19 Fv19 hv20 sv20 Fv20 hv21 sv21 Fv21 hv22 sv22 Fv22 hv23 sv23 Fv23 hv24 sv24 Fv24 hv25 sv25 Fv25 hv26 sv26 Fv26 hv27 sv27 Fv27 hv28 sv28 Fv28 hv29 sv29 Fv29 hv30 sv30 Fv30 hv31 sv31 Fv31 hv32 sv32 Fv32 hv33 sv33 Fv33 hv34 sv34 Fv34 hv35 sv35 Fv35 hv36 sv36 Fv36 hv37 sv37 Fv37 hv38 sv38 Fv38 hv39 sv39 Fv39 hv40 sv40 Fv40 hv41 sv41 Fv41 hv42 sv42 Fv42 hv43 sv43 Fv43 hv44 sv44 Fv44 hv45 sv45 Fv45 hv46 sv46 Fv46 hv47 sv47 Fv47
  obtain ⟨T, hT⟩ : ∃ q, v47 = q := ⟨_, rfl⟩
  rw [hT] at HT Bv ⊢
  clear hT
  go_upto_block 0 with (fail)
  go_cut [] from 89 to 174 (fun wc => Aside0 (Below T.heap.size T wc))
  case first =>
    go_wp2_with (fail)
    go_loopg [2] 24 (fun gk v2 wr => ∃ k : Nat, v2 = .int .i64 (k : Int) ∧ Aside0 (k + gk = 24) ∧ Aside0 (Below T.heap.size T wr))
    case atStart => exact ⟨0, rfl, ⟨rfl⟩, ⟨Below.refl _ T⟩⟩
    case round =>
      obtain ⟨k, rfl, HK, HB⟩ := hrel
      by_cases hk : k < 24
      case neg =>
        have hkk : ¬ ((k : Int) < 24) := by omega
        go_wp2_with (fail)
        go_meet
        case rel => exact HB
      case pos =>
        obtain ⟨gn, rfl⟩ : ∃ gn, gk = gn + 1 := ⟨gk - 1, by have := HK.out; omega⟩
        have HRA := Aside0.mk ((HT.out k hk).below HB.out)
        obtain ⟨r, u2, u3, h1, c0, c1, c2, c3, c4, c5, q2, q3⟩ := HRA.out
        obtain ⟨ev, xa, xb, xc, hs, hk2⟩ := tab_is h1
        have HS := Aside0.mk (fun W => pytoken_Scan.calls r.s (-3) r.ma 0 _ _ _ _ _ _ W hs)
        have HKT := Aside0.mk hk2
        have HC := Aside0.mk (And.intro c0 (And.intro c1 (And.intro c2 (And.intro c3 (And.intro c4 c5)))))
        have HQ2 := Aside0.mk q2
        have HQ3 := Aside0.mk q3
        have k0 : (0 : Int) ≤ (k : Int) := by omega
        have k1 : (k : Int) < 24 := by omega
        have hwk : IntKind.i64.wrap ((k : Int) + 1) = (k : Int) + 1 := IntWalk.i64_in _ (by omega)
        clear hs hk2 h1 c2 c3 c4 c5 q2 q3
        go_upto_region 5 with (fail)
        go_cut [3] from 95 to 106 (fun v3 wc => ∃ bb A n c, v3 = .pointer (some ⟨bb, 0, none⟩) ∧ Aside0 (OBox wr wc bb ev r.op r.dp xa xb xc A n c))
        case first =>
          obtain ⟨wS, hwS⟩ : ∃ q, wr.drew = q := ⟨_, rfl⟩
          have LS : Aside0 (Below wr.heap.size wr wS) := ⟨by rw [← hwS]; exact below_drew (Below.refl _ _)⟩
          have s0 := pk_cell_below LS.out c0
          have s1 := pk_cell_below LS.out c1
          refine wp_region_noPanic ?_
          refine wp_region_last_drew (S := (fun w' => w'.cell? ⟨b + 46, k * 6, none⟩ = some (.string r.s) ∧ w'.cell? ⟨b + 46, k * 6 + 1, none⟩ = some (.int .u8 r.ma))) (ds := [12]) (by kernel_rfl) ?_ (fun hHeld => ?_)
          · exact ⟨c0, c1⟩
          refine wpAnyLast_take (i := 0) (v := ?_) rfl (by kernel_rfl) (by kernel_rfl) (by kernel_rfl) (by kernel_rfl) (by kernel_rfl) (fun _ _ _ h => h) (Or.inl ⟨by rfl, ?_⟩) (by assumption) ?_
          rotate_left
          · intro w hSw
            go_simp
            try with_reducible rfl
          simp only [Act.put, List.getElem_toArray, List.getElem_cons_zero, List.getElem_cons_succ, List.setIfInBounds_toArray, List.set_cons_zero, List.set_cons_succ]
          refine wpAnyLast_take (i := 1) (v := ?_) rfl (by kernel_rfl) (by kernel_rfl) (by kernel_rfl) (by kernel_rfl) (by kernel_rfl) (fun _ _ _ h => h) (Or.inl ⟨by rfl, ?_⟩) (by assumption) ?_
          rotate_left
          · intro w hSw
            go_simp
            try with_reducible rfl
          simp only [Act.put, List.getElem_toArray, List.getElem_cons_zero, List.getElem_cons_succ, List.setIfInBounds_toArray, List.set_cons_zero, List.set_cons_succ]
          refine wpAnyLast_take (i := 2) (v := ?_) rfl (by kernel_rfl) (by kernel_rfl) (by kernel_rfl) (by kernel_rfl) (by kernel_rfl) (fun _ _ _ h => h) (Or.inl ⟨by rfl, ?_⟩) (by assumption) ?_
          rotate_left
          · intro w hSw
            go_simp
            try with_reducible rfl
          simp only [Act.put, List.getElem_toArray, List.getElem_cons_zero, List.getElem_cons_succ, List.setIfInBounds_toArray, List.set_cons_zero, List.set_cons_succ]
          refine wpAnyLast_take (i := 3) (v := ?_) rfl (by kernel_rfl) (by kernel_rfl) (by kernel_rfl) (by kernel_rfl) (by kernel_rfl) (fun _ _ _ h => h) (Or.inl ⟨by rfl, ?_⟩) (by assumption) ?_
          rotate_left
          · intro w hSw
            go_simp
            try with_reducible rfl
          simp only [Act.put, List.getElem_toArray, List.getElem_cons_zero, List.getElem_cons_succ, List.setIfInBounds_toArray, List.set_cons_zero, List.set_cons_succ]
          refine wpAnyLast_take (i := 4) (v := ?_) rfl (by kernel_rfl) (by kernel_rfl) (by kernel_rfl) (by kernel_rfl) (by kernel_rfl) (fun _ _ _ h => h) (Or.inl ⟨by rfl, ?_⟩) (by assumption) ?_
          rotate_left
          · intro w hSw
            go_simp
            try with_reducible rfl
          simp only [Act.put, List.getElem_toArray, List.getElem_cons_zero, List.getElem_cons_succ, List.setIfInBounds_toArray, List.set_cons_zero, List.set_cons_succ]
          refine wpAnyLast_take (i := 5) (v := ?_) rfl (by kernel_rfl) (by kernel_rfl) (by kernel_rfl) (by kernel_rfl) (by kernel_rfl) (fun _ _ _ h => h) (Or.inl ⟨by rfl, ?_⟩) (by assumption) ?_
          rotate_left
          · intro w hSw
            go_simp
            try with_reducible rfl
          simp only [Act.put, List.getElem_toArray, List.getElem_cons_zero, List.getElem_cons_succ, List.setIfInBounds_toArray, List.set_cons_zero, List.set_cons_succ]
          refine wpAnyLast_take (i := 6) (v := ?_) rfl (by kernel_rfl) (by kernel_rfl) (by kernel_rfl) (by kernel_rfl) (by kernel_rfl) (fun _ _ _ h => h) (Or.inl ⟨by rfl, ?_⟩) (by assumption) ?_
          rotate_left
          · intro w hSw
            go_simp
            try with_reducible rfl
          simp only [Act.put, List.getElem_toArray, List.getElem_cons_zero, List.getElem_cons_succ, List.setIfInBounds_toArray, List.set_cons_zero, List.set_cons_succ]
          refine wpAnyLast_take (i := 7) (v := ?_) rfl (by kernel_rfl) (by kernel_rfl) (by kernel_rfl) (by kernel_rfl) (by kernel_rfl) (fun _ _ _ h => h) (Or.inl ⟨by rfl, ?_⟩) (by assumption) ?_
          rotate_left
          · intro w hSw
            go_simp
            try with_reducible rfl
          simp only [Act.put, List.getElem_toArray, List.getElem_cons_zero, List.getElem_cons_succ, List.setIfInBounds_toArray, List.set_cons_zero, List.set_cons_succ]
          refine wpAnyLast_take (i := 8) (v := ?_) rfl (by kernel_rfl) (by kernel_rfl) (by kernel_rfl) (by kernel_rfl) (by kernel_rfl) (fun _ _ _ h => h) (Or.inl ⟨by rfl, ?_⟩) (by assumption) ?_
          rotate_left
          · intro w hSw
            go_simp
            try with_reducible rfl
          simp only [Act.put, List.getElem_toArray, List.getElem_cons_zero, List.getElem_cons_succ, List.setIfInBounds_toArray, List.set_cons_zero, List.set_cons_succ]
          refine wpAnyLast_take (i := 9) (v := ?_) rfl (by kernel_rfl) (by kernel_rfl) (by kernel_rfl) (by kernel_rfl) (by kernel_rfl) (fun _ _ _ h => h) (Or.inl ⟨by rfl, ?_⟩) (by assumption) ?_
          rotate_left
          · intro w hSw
            go_simp
            try with_reducible rfl
          simp only [Act.put, List.getElem_toArray, List.getElem_cons_zero, List.getElem_cons_succ, List.setIfInBounds_toArray, List.set_cons_zero, List.set_cons_succ]
          refine wpAnyLast_ready (rs := [10, 11]) (by kernel_rfl) (by simp) ?_
          refine AllReadyL.cons rfl (by decide) (fun K hK => ?_) (AllReadyL.cons rfl (by decide) (fun K hK => ?_) AllReadyL.nil)
          · rw [hwS]
            go_simp
            refine (HS.out wS).mono ?_
            rintro _ w9 ⟨v0, rfl, hR9, hb9⟩
            obtain ⟨A, cc, rfl⟩ := Kd.R_slice hR9
            have HR9 := Aside0.mk hR9
            have HB9 := Aside0.mk hb9
            clear hR9 hb9
            refine hK.out _ _ ⟨pk_cell_below HB9.out s0, pk_cell_below HB9.out s1⟩ (fun hHeld2 => ?_)
            clear hK K hHeld
            have hHeld := hHeld2
            clear hHeld2
            try simp only [Act.put, List.getElem_toArray, List.getElem_cons_zero, List.getElem_cons_succ, List.setIfInBounds_toArray, List.set_cons_zero, List.set_cons_succ]
            obtain ⟨bb, hbb⟩ : ∃ q, w9.heap.size = q := ⟨_, rfl⟩
            obtain ⟨wy, hwy⟩ : ∃ q, w9.alloc (.cells #[.slice none 0 0, .int .u8 0, .int .i64 0, .bool false, .bool false, .bool false] 25) = q := ⟨_, rfl⟩
            have ny : wy.heap[bb]? = some (.cells #[.slice none 0 0, .int .u8 0, .int .i64 0, .bool false, .bool false, .bool false] 25 (0, 0)) := by rw [← hwy, ← hbb]; exact heap_alloc_new _ _
            have ly : Below w9.heap.size w9 wy := by rw [← hwy]; exact below_alloc (Below.refl _ w9) _
            have NY := Aside0.mk ny
            have LY := Aside0.mk ly
            have HBBZ := Aside0.mk hbb
            clear ny ly
            refine wpAnyLast_ready (rs := [11]) (by kernel_rfl) (by simp) ?_
            refine AllReadyL.cons rfl (by decide) (fun K hK => ?_) AllReadyL.nil
            go_simp
            refine hK.out _ _ ⟨pk_cell_below LY.out (pk_cell_below HB9.out s0), pk_cell_below LY.out (pk_cell_below HB9.out s1)⟩ (fun hHeld2 => ?_)
            clear hK K hHeld
            have hHeld := hHeld2
            clear hHeld2
            try simp only [Act.put, List.getElem_toArray, List.getElem_cons_zero, List.getElem_cons_succ, List.setIfInBounds_toArray, List.set_cons_zero, List.set_cons_succ]
            have y0 : wy.cell? ⟨bb, 0, none⟩ = some (.slice none 0 0) := cell_of_row _ _ _ _ _ _ NY.out
            have y1 : wy.cell? ⟨bb, 1, none⟩ = some (.int .u8 0) := cell_of_row _ _ _ _ _ _ NY.out
            have y2 : wy.cell? ⟨bb, 2, none⟩ = some (.int .i64 0) := cell_of_row _ _ _ _ _ _ NY.out
            have y3 : wy.cell? ⟨bb, 3, none⟩ = some (.bool false) := cell_of_row _ _ _ _ _ _ NY.out
            have y4 : wy.cell? ⟨bb, 4, none⟩ = some (.bool false) := cell_of_row _ _ _ _ _ _ NY.out
            have y5 : wy.cell? ⟨bb, 5, none⟩ = some (.bool false) := cell_of_row _ _ _ _ _ _ NY.out
            have fy := fun j => pk_frozen NY.out j
            refine wpAnyLast_ready (rs := [12]) (by kernel_rfl) (by simp) ?_
            refine AllReadyL.cons_last rfl (by decide) (fun K hK => ?_) AllReadyL.nil
            go_simp
            refine hK.out _ _ ?_
            clear hK K hHeld
            try simp only [Act.put, List.getElem_toArray, List.getElem_cons_zero, List.getElem_cons_succ, List.setIfInBounds_toArray, List.set_cons_zero, List.set_cons_succ]
            refine wpAnyLast_done (by kernel_rfl) ?_ _
            refine NoPanic.normal ?_
            go_wp2_with (fail)
            go_meet
            case rel => exact ⟨bb, A, ev.length, cc, rfl, ⟨by
              have hR := Kd.R_below HR9.out LY.out
              have hR2 := six_R (e := wr) (n := 0) hR NY.out (.slice A ev.length cc) (.int .u8 r.op) (.int .i64 r.dp) (.bool xa) (.bool xb) (.bool xc)
              have hC := six_set NY.out (.slice A ev.length cc) (.int .u8 r.op) (.int .i64 r.dp) (.bool xa) (.bool xb) (.bool xc)
              have hB := six_below (g := bb) (LS.out.trans ((HB9.out.trans (LY.out.mono HB9.out.size)).mono LS.out.size)) (by rw [← HBBZ.out]; exact Nat.le_trans LS.out.size HB9.out.size) (.slice A ev.length cc) (.int .u8 r.op) (.int .i64 r.dp) (.bool xa) (.bool xb) (.bool xc)
              exact ⟨EvC.of hR2, hC, hB, by rw [← HBBZ.out]; exact Nat.le_trans LS.out.size HB9.out.size⟩⟩⟩
          · obtain ⟨bb, hbb⟩ : ∃ q, wS.heap.size = q := ⟨_, rfl⟩
            obtain ⟨wy, hwy⟩ : ∃ q, wS.alloc (.cells #[.slice none 0 0, .int .u8 0, .int .i64 0, .bool false, .bool false, .bool false] 25) = q := ⟨_, rfl⟩
            have ny : wy.heap[bb]? = some (.cells #[.slice none 0 0, .int .u8 0, .int .i64 0, .bool false, .bool false, .bool false] 25 (0, 0)) := by rw [← hwy, ← hbb]; exact heap_alloc_new _ _
            have ly : Below wS.heap.size wS wy := by rw [← hwy]; exact below_alloc (Below.refl _ wS) _
            have NY := Aside0.mk ny
            have LY := Aside0.mk ly
            have HBBZ := Aside0.mk hbb
            clear ny ly
            rw [hwS]
            go_simp
            refine hK.out _ _ ⟨pk_cell_below LY.out s0, pk_cell_below LY.out s1⟩ (fun hHeld2 => ?_)
            clear hK K hHeld
            have hHeld := hHeld2
            clear hHeld2
            try simp only [Act.put, List.getElem_toArray, List.getElem_cons_zero, List.getElem_cons_succ, List.setIfInBounds_toArray, List.set_cons_zero, List.set_cons_succ]
            refine wpAnyLast_ready (rs := [10]) (by kernel_rfl) (by simp) ?_
            refine AllReadyL.cons rfl (by decide) (fun K hK => ?_) AllReadyL.nil
            go_simp
            refine (HS.out wy).mono ?_
            rintro _ w9 ⟨v0, rfl, hR9, hb9⟩
            obtain ⟨A, cc, rfl⟩ := Kd.R_slice hR9
            have HR9 := Aside0.mk hR9
            have HB9 := Aside0.mk hb9
            clear hR9 hb9
            refine hK.out _ _ ⟨pk_cell_below HB9.out (pk_cell_below LY.out s0), pk_cell_below HB9.out (pk_cell_below LY.out s1)⟩ (fun hHeld2 => ?_)
            clear hK K hHeld
            have hHeld := hHeld2
            clear hHeld2
            try simp only [Act.put, List.getElem_toArray, List.getElem_cons_zero, List.getElem_cons_succ, List.setIfInBounds_toArray, List.set_cons_zero, List.set_cons_succ]
            have NY9 : Aside0 (w9.heap[bb]? = some (.cells #[.slice none 0 0, .int .u8 0, .int .i64 0, .bool false, .bool false, .bool false] 25 (0, 0))) := ⟨(HB9.out.block bb (pk_blk_lt NY.out)).trans NY.out⟩
            have y0 : w9.cell? ⟨bb, 0, none⟩ = some (.slice none 0 0) := cell_of_row _ _ _ _ _ _ NY9.out
            have y1 : w9.cell? ⟨bb, 1, none⟩ = some (.int .u8 0) := cell_of_row _ _ _ _ _ _ NY9.out
            have y2 : w9.cell? ⟨bb, 2, none⟩ = some (.int .i64 0) := cell_of_row _ _ _ _ _ _ NY9.out
            have y3 : w9.cell? ⟨bb, 3, none⟩ = some (.bool false) := cell_of_row _ _ _ _ _ _ NY9.out
            have y4 : w9.cell? ⟨bb, 4, none⟩ = some (.bool false) := cell_of_row _ _ _ _ _ _ NY9.out
            have y5 : w9.cell? ⟨bb, 5, none⟩ = some (.bool false) := cell_of_row _ _ _ _ _ _ NY9.out
            have fy := fun j => pk_frozen NY9.out j
            refine wpAnyLast_ready (rs := [12]) (by kernel_rfl) (by simp) ?_
            refine AllReadyL.cons_last rfl (by decide) (fun K hK => ?_) AllReadyL.nil
            go_simp
            refine hK.out _ _ ?_
            clear hK K hHeld
            try simp only [Act.put, List.getElem_toArray, List.getElem_cons_zero, List.getElem_cons_succ, List.setIfInBounds_toArray, List.set_cons_zero, List.set_cons_succ]
            refine wpAnyLast_done (by kernel_rfl) ?_ _
            refine NoPanic.normal ?_
            go_wp2_with (fail)
            go_meet
            case rel => exact ⟨bb, A, ev.length, cc, rfl, ⟨by
              have hR2 := six_R (e := wr) (n := 0) HR9.out NY9.out (.slice A ev.length cc) (.int .u8 r.op) (.int .i64 r.dp) (.bool xa) (.bool xb) (.bool xc)
              have hC := six_set NY9.out (.slice A ev.length cc) (.int .u8 r.op) (.int .i64 r.dp) (.bool xa) (.bool xb) (.bool xc)
              have hB := six_below (g := bb) (LS.out.trans ((LY.out.trans (HB9.out.mono LY.out.size)).mono LS.out.size)) (by rw [← HBBZ.out]; exact LS.out.size) (.slice A ev.length cc) (.int .u8 r.op) (.int .i64 r.dp) (.bool xa) (.bool xb) (.bool xc)
              exact ⟨EvC.of hR2, hC, hB, by rw [← HBBZ.out]; exact LS.out.size⟩⟩⟩

        case rest =>
          obtain ⟨bb, A, n, cO, rfl, HO⟩ := hcut
          obtain ⟨wE, hwE⟩ : ∃ q, wc = q := ⟨_, rfl⟩
          rw [hwE] at HO ⊢
          clear hwE c0 c1
          obtain ⟨A2, m2, rfl, hk2⟩ := HQ2.out
          obtain ⟨A3, m3, rfl, hz3⟩ := HQ3.out
          obtain ⟨n2, hn2⟩ : ∃ q, ev.length = q := ⟨_, rfl⟩
          obtain rfl : n = n2 := HO.out.row.1.trans hn2
          have e1 : r.ks.length = n := by rw [← HKT.out.1]; exact hn2
          have e2 : r.zs.length = n := by rw [← HKT.out.2.1]; exact hn2
          rw [e1] at HC
          rw [e2] at HC
          have HN2 : Aside0 (ev.length = n ∧ n ≤ 100) := ⟨hn2, by rw [← hn2]; exact HKT.out.2.2.1⟩
          have HK2 := Aside0.mk hk2
          have HZ3 := Aside0.mk hz3
          clear e1 e2 hn2 hk2 hz3 HQ2 HQ3
          obtain ⟨_, _, c2, c3, c4, c5⟩ := HC.out
          have d2 := pk_cell_below HO.out.bel c2
          have d4 := pk_cell_below HO.out.bel c4
          have d5 := pk_cell_below HO.out.bel c5
          clear c2 c3 c4 c5
          have y0 : wE.cell? ⟨bb, 0, none⟩ = some (.slice A n cO) := cell_of_row _ _ _ _ _ _ HO.out.hb
          have y1 : wE.cell? ⟨bb, 1, none⟩ = some (.int .u8 r.op) := cell_of_row _ _ _ _ _ _ HO.out.hb
          have y2 : wE.cell? ⟨bb, 2, none⟩ = some (.int .i64 r.dp) := cell_of_row _ _ _ _ _ _ HO.out.hb
          have q1 : (r.op != r.op) = false := by simp
          have q2 : (r.dp != r.dp) = false := by simp
          have q3 : ((n : Int) != (n : Int)) = false := by simp
          go_upto_region 6 with (fail)
          go_quiet (fail)
          obtain ⟨wF, hwF⟩ : ∃ q, wE.drewN nq = q := ⟨_, rfl⟩
          rw [hwF]
          have HOF : Aside0 (OBox wr wF bb ev r.op r.dp xa xb xc A n cO) := ⟨by rw [← hwF]; exact HO.out.below (pw_below_drewN (Below.refl _ wE) nq)⟩
          clear d2 d4 d5 y0 y1 y2 q1 q2 q3 hwF HO
          obtain ⟨wR, hwR⟩ : ∃ q, wr = q := ⟨_, rfl⟩
          rw [hwR] at HB HRA HC HK2 HZ3 HOF
          clear hwR
          have y0 : wF.cell? ⟨bb, 0, none⟩ = some (.slice A n cO) := cell_of_row _ _ _ _ _ _ HOF.out.hb
          go_upto_block 2 with (fail)
          go_wp2_with (fail)
          go_loopg [4] n (fun gj v4 wj => ∃ j : Nat, v4 = .int .i64 (j : Int) ∧ Aside0 (j + gj = n) ∧ Aside0 (Below wF.heap.size wF wj))
          case atStart => exact ⟨0, rfl, ⟨by omega⟩, ⟨Below.refl _ wF⟩⟩
          case round =>
            obtain ⟨j, rfl, HJ, HBJ⟩ := hrel
            have hbx := (HBJ.out.block bb (pk_blk_lt HOF.out.hb)).trans HOF.out.hb
            have x9 : wr.cell? ⟨bb, 0, none⟩ = some (.slice A n cO) := cell_of_row _ _ _ _ _ _ hbx
            clear hbx y0
            by_cases hj : j < n
            case neg =>
              have hjj : ¬ ((j : Int) < (n : Int)) := by omega
              have HBE : Aside0 (Below T.heap.size T wr) := ⟨HB.out.trans ((HOF.out.bel.trans (HBJ.out.mono HOF.out.bel.size)).mono HB.out.size)⟩
              go_wp2_with (fail)
              go_roundg gn
              case measure => exact Nat.lt_succ_self _
              case rel => exact ⟨k + 1, by simp, ⟨by have := HK.out; omega⟩, HBE⟩
            case pos =>
              obtain ⟨gj, rfl⟩ : ∃ gj', gk = gj' + 1 := ⟨gk - 1, by have := HJ.out; omega⟩
              obtain ⟨g0, hA, x0, x1, x2, x3⟩ := (HOF.out.row.below HBJ.out).2 j (by rw [HN2.out.1]; exact hj)
              subst hA
              obtain ⟨kk0, kz, kb0, kb1⟩ := HKT.out.2.2.2 j (by rw [HN2.out.1]; exact hj)
              obtain ⟨⟨e0, e1, e2, e3⟩, hE⟩ : ∃ q, rd_T33 ev (j : Int) = q := ⟨_, rfl⟩
              rw [hE] at x0 x1 x2 x3 kk0 kz kb0 kb1
              dsimp only at x0 x1 x2 x3 kk0 kz kb0 kb1
              obtain ⟨ga, hA2, w2c⟩ := HK2.out j _ kk0
              subst hA2
              obtain ⟨gz, hA3, w3c⟩ := HZ3.out j _ kz
              subst hA3
              have bRF : Below wR.heap.size wR wr := HOF.out.bel.trans (HBJ.out.mono HOF.out.bel.size)
              have w2d := pk_cell_below bRF w2c
              have w3d := pk_cell_below bRF w3c
              obtain ⟨_, _, c2, c3, _, _⟩ := HC.out
              have d2 := pk_cell_below bRF c2
              have d3 := pk_cell_below bRF c3
              have hwz : IntKind.i64.wrap (e3 - e2) = e3 - e2 := IntWalk.i64_in _ (by omega)
              have hwj : IntKind.i64.wrap ((j : Int) + 1) = (j : Int) + 1 := IntWalk.i64_in _ (by have := HN2.out.2; omega)
              have j0 : (0 : Int) ≤ (j : Int) := by omega
              have j1 : (j : Int) < (n : Int) := by omega
              clear kk0 kz kb0 kb1 hE w2c w3c bRF c2 c3
              go_upto_region 12 with (fail)
              obtain ⟨wX, hwX⟩ : ∃ q, wr.alloc (.cells #[.int .u8 e0, .int .u8 e1, .int .i64 e2, .int .i64 e3] 33) = q := ⟨_, rfl⟩
              rw [hwX]
              obtain ⟨gx, hgx⟩ : ∃ q, wr.heap.size = q := ⟨_, rfl⟩
              rw [hgx]
              have nx : wX.heap[gx]? = some (.cells #[.int .u8 e0, .int .u8 e1, .int .i64 e2, .int .i64 e3] 33 (0, 0)) := by rw [← hwX, ← hgx]; exact heap_alloc_new _ _
              have lx : Below wr.heap.size wr wX := by rw [← hwX]; exact below_alloc (Below.refl _ wr) _
              have r1 : wX.cell? ⟨gx, 1, none⟩ = some (.int .u8 e1) := cell_of_row _ _ _ _ _ _ nx
              have r2 : wX.cell? ⟨gx, 2, none⟩ = some (.int .i64 e2) := cell_of_row _ _ _ _ _ _ nx
              have r3 : wX.cell? ⟨gx, 3, none⟩ = some (.int .i64 e3) := cell_of_row _ _ _ _ _ _ nx
              have v2 := pk_cell_below lx w2d
              have v3 := pk_cell_below lx w3d
              have t2 := pk_cell_below lx d2
              have t3 := pk_cell_below lx d3
              have HLX : Aside0 (Below wF.heap.size wF wX) := ⟨HBJ.out.trans (lx.mono HBJ.out.size)⟩
              have q1 : (e1 != e1) = false := by simp
              have q2 : (e3 - e2 != e3 - e2) = false := by simp
              clear nx lx hwX hgx w2d w3d d2 d3 x0 x1 x2 x3 x9
              go_quiet (fail)
              have HLX2 : Aside0 (Below wF.heap.size wF (wX.drewN nq)) := ⟨pw_below_drewN HLX.out nq⟩
              go_wp2_with (fail)
              go_roundg gj
              case measure => exact Nat.lt_succ_self _
              case rel => exact ⟨j + 1, by simp, ⟨by have := HJ.out; omega⟩, HLX2⟩

  case rest =>
    have HBT := hcut
    clear hcut HT
    obtain ⟨wT, hwT⟩ : ∃ q, wc = q := ⟨_, rfl⟩
    rw [hwT] at HBT ⊢
    clear hwT
    obtain ⟨g, hg⟩ : ∃ q, wT.heap.size = q := ⟨_, rfl⟩
    obtain ⟨wo, hwo⟩ : ∃ q, wT.alloc (.cells (opsT.map Value.string).toArray 9) = q := ⟨_, rfl⟩
    have HOP : Aside0 (wo.heap[g]? = some (.cells (opsT.map Value.string).toArray 9 (0, 0))) := ⟨by rw [← hwo, ← hg]; exact heap_alloc_new _ _⟩
    have HBO : Aside0 (Below T.heap.size T wo) := ⟨by rw [← hwo]; exact HBT.out.trans ((below_alloc (Below.refl _ wT) _ : Below wT.heap.size wT _).mono HBT.out.size)⟩
    clear HBT
    go_upto_region 15 with (refine wpList_bs rfl 36 9 47 _ rfl (some 175) rfl (opsT.map Value.string).toArray 1 (.string ByteArray.empty) g hg Try.underlying36 (by kernel_rfl) (by decide) (by decide) (by kernel_rfl) ?_; rw [hwo])
    clear hwo hg
    go_upto_block 4 with (fail)
    go_cut [] from 176 to 212 (fun wc => Aside0 (Below T.heap.size T wc))
    case first =>
      go_wp2_with (fail)
      go_loopg [7] 47 (fun gk v7 wr => ∃ k : Nat, v7 = .int .i64 (k : Int) ∧ Aside0 (k + gk = 47) ∧ Aside0 (Below wo.heap.size wo wr))
      case atStart => exact ⟨0, rfl, ⟨rfl⟩, ⟨Below.refl _ wo⟩⟩
      case round =>
        obtain ⟨k, rfl, HK, HB⟩ := hrel
        by_cases hk : k < 47
        case neg =>
          have hkk : ¬ ((k : Int) < 47) := by omega
          go_wp2_with (fail)
          go_meet
          case rel => exact ⟨HBO.out.trans (HB.out.mono HBO.out.size)⟩
        case pos =>
          obtain ⟨gn, rfl⟩ : ∃ gn, gk = gn + 1 := ⟨gk - 1, by have := HK.out; omega⟩
          obtain ⟨s, hs⟩ : ∃ s, opsT[k]? = some s := ⟨_, List.getElem?_eq_getElem (by show k < 47; exact hk)⟩
          have c0 : wr.cell? ⟨g, k, none⟩ = some (.string s) := pk_cell_below HB.out (by rw [cell_of_row _ _ _ _ _ _ HOP.out]; simp [hs])
          obtain ⟨ev, m, d, xa, xb, xc, hf, l2, hf1, hf3, hsz⟩ := ops_is hs
          have HC0 := Aside0.mk c0
          have HF := Aside0.mk (fun W => pytoken_Scan.calls (s ++ ⟨#[32, 120]⟩) 0 0 1 _ _ _ _ _ _ W hf)
          have k0 : (0 : Int) ≤ (k : Int) := by omega
          have k1 : (k : Int) < 47 := by omega
          have hwk : IntKind.i64.wrap ((k : Int) + 1) = (k : Int) + 1 := IntWalk.i64_in _ (by omega)
          have hsz9 : s.size + 2 ≤ 9223372036854775807 := Nat.le_trans (Nat.add_le_add_right hsz _) (by decide)
          have HHS := Aside0.mk hsz
          have HL2 := Aside0.mk l2
          have HF1 := Aside0.mk hf1
          have HF3 := Aside0.mk hf3
          clear hf1 hf3
          clear hf hs hsz l2
          go_upto_region 19 with (fail)
          refine (HF.out wr).mono ?_
          rintro _ w9 ⟨v0, rfl, hR9, hb9⟩
          obtain ⟨A, cc, rfl⟩ := Kd.R_slice hR9
          have hE := EvC.of hR9
          obtain ⟨g0, rfl, x0, x1, x2, x3⟩ := hE.2 0 (by rw [HL2.out]; decide)
          rw [HL2.out]
          have HX1 := Aside0.mk x1
          have HX3 := Aside0.mk x3
          have HB9 := Aside0.mk hb9
          clear hR9 hb9 hE x0 x1 x2 x3 c0 hsz9
          go_upto_region 19 with (fail)
          obtain ⟨wX, hwX⟩ : ∃ q, w9.alloc (.cells #[.slice (some ⟨g0, 0, none⟩) 2 cc, .int .u8 m, .int .i64 d, .bool xa, .bool xb, .bool xc] 25) = q := ⟨_, rfl⟩
          rw [hwX]
          obtain ⟨gx, hgx⟩ : ∃ q, w9.heap.size = q := ⟨_, rfl⟩
          rw [hgx]
          have nwX : wX.heap[gx]? = some (.cells #[.slice (some ⟨g0, 0, none⟩) 2 cc, .int .u8 m, .int .i64 d, .bool xa, .bool xb, .bool xc] 25 (0, 0)) := by rw [← hwX, ← hgx]; exact heap_alloc_new _ _
          have lwX : Below w9.heap.size w9 wX := by rw [← hwX]; exact below_alloc (Below.refl _ w9) _
          have HBX : Aside0 (Below wo.heap.size wo wX) := ⟨HB.out.trans ((HB9.out.trans (lwX.mono HB9.out.size)).mono HB.out.size)⟩
          have y0 : wX.cell? ⟨gx, 0, none⟩ = some (.slice (some ⟨g0, 0, none⟩) 2 cc) := cell_of_row _ _ _ _ _ _ nwX
          have z1 : wX.cell? ⟨g0, 1, none⟩ = some (.int .u8 (rd_T33 ev 0).f1) := pk_cell_below lwX HX1.out
          have z3 : wX.cell? ⟨g0, 3, none⟩ = some (.int .i64 (rd_T33 ev 0).f3) := pk_cell_below lwX HX3.out
          have c0 : wX.cell? ⟨g, k, none⟩ = some (.string s) := pk_cell_below lwX (pk_cell_below HB9.out HC0.out)
          rw [HF1.out] at z1
          rw [HF3.out] at z3
          have q1 : ((s.size : Int) != (s.size : Int)) = false := by simp
          clear nwX lwX hwX hgx
          go_quiet (fail)
          have HBX2 : Aside0 (Below wo.heap.size wo (wX.drewN nq)) := ⟨pw_below_drewN HBX.out nq⟩
          go_wp2_with (fail)
          go_roundg gn
          case measure => exact Nat.lt_succ_self _
          case rel => exact ⟨k + 1, by simp, ⟨by have := HK.out; omega⟩, HBX2⟩
    case rest =>
      have HBT := hcut
      clear hcut HBO HOP
      obtain ⟨wU, hwU⟩ : ∃ q, wc = q := ⟨_, rfl⟩
      rw [hwU] at HBT ⊢
      clear hwU
      obtain ⟨gh, hgh⟩ : ∃ q, wU.heap.size = q := ⟨_, rfl⟩
      obtain ⟨wh, hwh⟩ : ∃ q, wU.alloc (.cells (headsT.map Value.string).toArray 9) = q := ⟨_, rfl⟩
      have HOP : Aside0 (wh.heap[gh]? = some (.cells (headsT.map Value.string).toArray 9 (0, 0))) := ⟨by rw [← hwh, ← hgh]; exact heap_alloc_new _ _⟩
      have HBO : Aside0 (Below T.heap.size T wh) := ⟨by rw [← hwh]; exact HBT.out.trans ((below_alloc (Below.refl _ wU) _ : Below wU.heap.size wU _).mono HBT.out.size)⟩
      clear HBT
      go_upto_region 22 with (refine wpList_bs rfl 36 9 9 _ rfl (some 213) rfl (headsT.map Value.string).toArray 1 (.string ByteArray.empty) gh hgh Try.underlying36 (by kernel_rfl) (by decide) (by decide) (by kernel_rfl) ?_; rw [hwh])
      clear hwh hgh
      go_upto_block 6 with (fail)
      go_cut [] from 214 to 237 (fun wc => Aside0 (Below T.heap.size T wc))
      case first =>
        go_wp2_with (fail)
        go_loopg [10] 9 (fun gk v10 wr => ∃ k : Nat, v10 = .int .i64 (k : Int) ∧ Aside0 (k + gk = 9) ∧ Aside0 (Below wh.heap.size wh wr))
        case atStart => exact ⟨0, rfl, ⟨rfl⟩, ⟨Below.refl _ wh⟩⟩
        case round =>
          obtain ⟨k, rfl, HK, HB⟩ := hrel
          by_cases hk : k < 9
          case neg =>
            have hkk : ¬ ((k : Int) < 9) := by omega
            go_wp2_with (fail)
            go_meet
            case rel => exact ⟨HBO.out.trans (HB.out.mono HBO.out.size)⟩
          case pos =>
            obtain ⟨gn, rfl⟩ : ∃ gn, gk = gn + 1 := ⟨gk - 1, by have := HK.out; omega⟩
            obtain ⟨s, hs⟩ : ∃ s, headsT[k]? = some s := ⟨_, List.getElem?_eq_getElem (by show k < 9; exact hk)⟩
            have c0 : wr.cell? ⟨gh, k, none⟩ = some (.string s) := pk_cell_below HB.out (by rw [cell_of_row _ _ _ _ _ _ HOP.out]; simp [hs])
            obtain ⟨ev, m, d, xa, xb, xc, hf, l2, hf1, hsz⟩ := heads_is hs
            have HC0 := Aside0.mk c0
            have HF := Aside0.mk (fun W => pytoken_Scan.calls (s ++ ⟨#[39, 120, 39]⟩) 0 0 0 _ _ _ _ _ _ W hf)
            have k0 : (0 : Int) ≤ (k : Int) := by omega
            have k1 : (k : Int) < 9 := by omega
            have hwk : IntKind.i64.wrap ((k : Int) + 1) = (k : Int) + 1 := IntWalk.i64_in _ (by omega)
            have hsz9 : s.size + 3 ≤ 9223372036854775807 := Nat.le_trans (Nat.add_le_add_right hsz _) (by decide)
            have HHS := Aside0.mk hsz
            have HL2 := Aside0.mk l2
            have HF1 := Aside0.mk hf1
            clear hf1
            clear hf hs hsz l2
            go_upto_region 26 with (fail)
            refine (HF.out wr).mono ?_
            rintro _ w9 ⟨v0, rfl, hR9, hb9⟩
            obtain ⟨A, cc, rfl⟩ := Kd.R_slice hR9
            have hE := EvC.of hR9
            obtain ⟨g0, rfl, x0, x1, x2, x3⟩ := hE.2 0 (by rw [HL2.out]; decide)
            rw [HL2.out]
            have HX1 := Aside0.mk x1
            have HX3 := Aside0.mk x3
            have HB9 := Aside0.mk hb9
            clear hR9 hb9 hE x0 x1 x2 x3 c0 hsz9
            go_upto_region 26 with (fail)
            obtain ⟨wX, hwX⟩ : ∃ q, w9.alloc (.cells #[.slice (some ⟨g0, 0, none⟩) 1 cc, .int .u8 m, .int .i64 d, .bool xa, .bool xb, .bool xc] 25) = q := ⟨_, rfl⟩
            rw [hwX]
            obtain ⟨gx, hgx⟩ : ∃ q, w9.heap.size = q := ⟨_, rfl⟩
            rw [hgx]
            have nwX : wX.heap[gx]? = some (.cells #[.slice (some ⟨g0, 0, none⟩) 1 cc, .int .u8 m, .int .i64 d, .bool xa, .bool xb, .bool xc] 25 (0, 0)) := by rw [← hwX, ← hgx]; exact heap_alloc_new _ _
            have lwX : Below w9.heap.size w9 wX := by rw [← hwX]; exact below_alloc (Below.refl _ w9) _
            have HBX : Aside0 (Below wh.heap.size wh wX) := ⟨HB.out.trans ((HB9.out.trans (lwX.mono HB9.out.size)).mono HB.out.size)⟩
            have y0 : wX.cell? ⟨gx, 0, none⟩ = some (.slice (some ⟨g0, 0, none⟩) 1 cc) := cell_of_row _ _ _ _ _ _ nwX
            have z1 : wX.cell? ⟨g0, 1, none⟩ = some (.int .u8 (rd_T33 ev 0).f1) := pk_cell_below lwX HX1.out
            have z3 : wX.cell? ⟨g0, 3, none⟩ = some (.int .i64 (rd_T33 ev 0).f3) := pk_cell_below lwX HX3.out
            have c0 : wX.cell? ⟨gh, k, none⟩ = some (.string s) := pk_cell_below lwX (pk_cell_below HB9.out HC0.out)
            rw [HF1.out] at z1
            clear nwX lwX hwX hgx
            go_wp2_with (fail)
            go_roundg gn
            case measure => exact Nat.lt_succ_self _
            case rel => exact ⟨k + 1, by simp, ⟨by have := HK.out; omega⟩, HBX⟩
      case rest =>
        have HBT := hcut
        clear hcut HBO HOP
        obtain ⟨z0, hz0⟩ : ∃ q, wc = q := ⟨_, rfl⟩
        rw [hz0] at HBT ⊢
        clear hz0
        go_upto_region 29 with (fail)
        refine (pytoken_Scan.calls ⟨#[105, 102, 32, 97, 58, 32, 35, 32, 120]⟩ 0 0 0 _ _ _ _ _ _ z0 six0).mono ?_
        rintro _ x1 ⟨v1, rfl, hR, hb1⟩
        obtain ⟨A1, cc1, rfl⟩ := Kd.R_slice hR
        rw [show ([⟨3, 13, 0, 2⟩, ⟨3, 13, 3, 4⟩, ⟨3, 17, 4, 5⟩, ⟨3, 18, 6, 9⟩] : List S33).length = 4 from rfl]
        have HB1 := Aside0.mk hb1
        clear hR hb1
        go_upto_region 29 with (fail)
        obtain ⟨z1, hz1⟩ : ∃ q, x1.alloc (.cells #[.slice A1 4 cc1, .int .u8 0, .int .i64 0, .bool false, .bool true, .bool true] 25) = q := ⟨_, rfl⟩
        rw [hz1]
        obtain ⟨p1, hp1⟩ : ∃ q, x1.heap.size = q := ⟨_, rfl⟩
        rw [hp1]
        have nz1 : z1.heap[p1]? = some (.cells #[.slice A1 4 cc1, .int .u8 0, .int .i64 0, .bool false, .bool true, .bool true] 25 (0, 0)) := by rw [← hz1, ← hp1]; exact heap_alloc_new _ _
        have lz1 : Below x1.heap.size x1 z1 := by rw [← hz1]; exact below_alloc (Below.refl _ x1) _
        have N1 : Aside0 (z1.heap[p1]? = some (.cells #[.slice A1 4 cc1, .int .u8 0, .int .i64 0, .bool false, .bool true, .bool true] 25 (0, 0))) := ⟨nz1⟩
        have B1 : Aside0 (Below z0.heap.size z0 z1) := ⟨HB1.out.trans (lz1.mono HB1.out.size)⟩
        clear nz1 lz1 hz1 hp1
        go_upto_region 30 with (fail)
        refine (pytoken_Scan.calls ⟨#[123, 97, 58]⟩ 0 0 0 _ _ _ _ _ _ z1 six1).mono ?_
        rintro _ x2 ⟨v2, rfl, hR, hb2⟩
        obtain ⟨A2, cc2, rfl⟩ := Kd.R_slice hR
        rw [show ([⟨3, 17, 0, 1⟩, ⟨3, 13, 1, 2⟩, ⟨3, 17, 2, 3⟩] : List S33).length = 3 from rfl]
        have HB2 := Aside0.mk hb2
        clear hR hb2
        go_upto_region 30 with (fail)
        obtain ⟨z2, hz2⟩ : ∃ q, x2.alloc (.cells #[.slice A2 3 cc2, .int .u8 0, .int .i64 1, .bool false, .bool true, .bool false] 25) = q := ⟨_, rfl⟩
        rw [hz2]
        obtain ⟨p2, hp2⟩ : ∃ q, x2.heap.size = q := ⟨_, rfl⟩
        rw [hp2]
        have nz2 : z2.heap[p2]? = some (.cells #[.slice A2 3 cc2, .int .u8 0, .int .i64 1, .bool false, .bool true, .bool false] 25 (0, 0)) := by rw [← hz2, ← hp2]; exact heap_alloc_new _ _
        have lz2 : Below x2.heap.size x2 z2 := by rw [← hz2]; exact below_alloc (Below.refl _ x2) _
        have N2 : Aside0 (z2.heap[p2]? = some (.cells #[.slice A2 3 cc2, .int .u8 0, .int .i64 1, .bool false, .bool true, .bool false] 25 (0, 0))) := ⟨nz2⟩
        have B2 : Aside0 (Below z1.heap.size z1 z2) := ⟨HB2.out.trans (lz2.mono HB2.out.size)⟩
        clear nz2 lz2 hz2 hp2
        go_upto_region 31 with (fail)
        refine (pytoken_Scan.calls ⟨#[35, 32, 120]⟩ 0 0 0 _ _ _ _ _ _ z2 six2).mono ?_
        rintro _ x3 ⟨v3, rfl, hR, hb3⟩
        obtain ⟨A3, cc3, rfl⟩ := Kd.R_slice hR
        rw [show ([⟨3, 18, 0, 3⟩] : List S33).length = 1 from rfl]
        have HB3 := Aside0.mk hb3
        clear hR hb3
        go_upto_region 31 with (fail)
        obtain ⟨z3, hz3⟩ : ∃ q, x3.alloc (.cells #[.slice A3 1 cc3, .int .u8 0, .int .i64 0, .bool false, .bool false, .bool false] 25) = q := ⟨_, rfl⟩
        rw [hz3]
        obtain ⟨p3, hp3⟩ : ∃ q, x3.heap.size = q := ⟨_, rfl⟩
        rw [hp3]
        have nz3 : z3.heap[p3]? = some (.cells #[.slice A3 1 cc3, .int .u8 0, .int .i64 0, .bool false, .bool false, .bool false] 25 (0, 0)) := by rw [← hz3, ← hp3]; exact heap_alloc_new _ _
        have lz3 : Below x3.heap.size x3 z3 := by rw [← hz3]; exact below_alloc (Below.refl _ x3) _
        have N3 : Aside0 (z3.heap[p3]? = some (.cells #[.slice A3 1 cc3, .int .u8 0, .int .i64 0, .bool false, .bool false, .bool false] 25 (0, 0))) := ⟨nz3⟩
        have B3 : Aside0 (Below z2.heap.size z2 z3) := ⟨HB3.out.trans (lz3.mono HB3.out.size)⟩
        clear nz3 lz3 hz3 hp3
        go_upto_region 32 with (fail)
        refine (pytoken_Scan.calls ⟨#[120, 58, 61]⟩ 0 0 (-5) _ _ _ _ _ _ z3 six3).mono ?_
        rintro _ x4 ⟨v4, rfl, hR, hb4⟩
        obtain ⟨A4, cc4, rfl⟩ := Kd.R_slice hR
        rw [show ([⟨3, 13, 0, 1⟩, ⟨3, 17, 1, 3⟩] : List S33).length = 2 from rfl]
        have HB4 := Aside0.mk hb4
        clear hR hb4
        go_upto_region 32 with (fail)
        obtain ⟨z4, hz4⟩ : ∃ q, x4.alloc (.cells #[.slice A4 2 cc4, .int .u8 0, .int .i64 0, .bool false, .bool true, .bool false] 25) = q := ⟨_, rfl⟩
        rw [hz4]
        obtain ⟨p4, hp4⟩ : ∃ q, x4.heap.size = q := ⟨_, rfl⟩
        rw [hp4]
        have nz4 : z4.heap[p4]? = some (.cells #[.slice A4 2 cc4, .int .u8 0, .int .i64 0, .bool false, .bool true, .bool false] 25 (0, 0)) := by rw [← hz4, ← hp4]; exact heap_alloc_new _ _
        have lz4 : Below x4.heap.size x4 z4 := by rw [← hz4]; exact below_alloc (Below.refl _ x4) _
        have N4 : Aside0 (z4.heap[p4]? = some (.cells #[.slice A4 2 cc4, .int .u8 0, .int .i64 0, .bool false, .bool true, .bool false] 25 (0, 0))) := ⟨nz4⟩
        have B4 : Aside0 (Below z3.heap.size z3 z4) := ⟨HB4.out.trans (lz4.mono HB4.out.size)⟩
        clear nz4 lz4 hz4 hp4
        go_upto_region 33 with (fail)
        refine (pytoken_Scan.calls ⟨#[40]⟩ 0 0 1048581 _ _ _ _ _ _ z4 six4).mono ?_
        rintro _ x5 ⟨v5, rfl, hR, hb5⟩
        obtain ⟨A5, cc5, rfl⟩ := Kd.R_slice hR
        rw [show ([⟨3, 17, 0, 1⟩] : List S33).length = 1 from rfl]
        have HB5 := Aside0.mk hb5
        clear hR hb5
        go_upto_region 33 with (fail)
        obtain ⟨z5, hz5⟩ : ∃ q, x5.alloc (.cells #[.slice A5 1 cc5, .int .u8 0, .int .i64 1048576, .bool false, .bool true, .bool false] 25) = q := ⟨_, rfl⟩
        rw [hz5]
        obtain ⟨p5, hp5⟩ : ∃ q, x5.heap.size = q := ⟨_, rfl⟩
        rw [hp5]
        have nz5 : z5.heap[p5]? = some (.cells #[.slice A5 1 cc5, .int .u8 0, .int .i64 1048576, .bool false, .bool true, .bool false] 25 (0, 0)) := by rw [← hz5, ← hp5]; exact heap_alloc_new _ _
        have lz5 : Below x5.heap.size x5 z5 := by rw [← hz5]; exact below_alloc (Below.refl _ x5) _
        have N5 : Aside0 (z5.heap[p5]? = some (.cells #[.slice A5 1 cc5, .int .u8 0, .int .i64 1048576, .bool false, .bool true, .bool false] 25 (0, 0))) := ⟨nz5⟩
        have B5 : Aside0 (Below z4.heap.size z4 z5) := ⟨HB5.out.trans (lz5.mono HB5.out.size)⟩
        clear nz5 lz5 hz5 hp5
        go_upto_region 34 with (fail)
        refine (pytoken_Scan.calls ⟨#[120]⟩ 5 3 2 _ _ _ _ _ _ z5 six5).mono ?_
        rintro _ x6 ⟨v6, rfl, hR, hb6⟩
        obtain ⟨A6, cc6, rfl⟩ := Kd.R_slice hR
        rw [show ([] : List S33).length = 0 from rfl]
        have HB6 := Aside0.mk hb6
        clear hR hb6
        go_upto_region 34 with (fail)
        obtain ⟨z6, hz6⟩ : ∃ q, x6.alloc (.cells #[.slice A6 0 cc6, .int .u8 3, .int .i64 2, .bool false, .bool false, .bool false] 25) = q := ⟨_, rfl⟩
        rw [hz6]
        obtain ⟨p6, hp6⟩ : ∃ q, x6.heap.size = q := ⟨_, rfl⟩
        rw [hp6]
        have nz6 : z6.heap[p6]? = some (.cells #[.slice A6 0 cc6, .int .u8 3, .int .i64 2, .bool false, .bool false, .bool false] 25 (0, 0)) := by rw [← hz6, ← hp6]; exact heap_alloc_new _ _
        have lz6 : Below x6.heap.size x6 z6 := by rw [← hz6]; exact below_alloc (Below.refl _ x6) _
        have N6 : Aside0 (z6.heap[p6]? = some (.cells #[.slice A6 0 cc6, .int .u8 3, .int .i64 2, .bool false, .bool false, .bool false] 25 (0, 0))) := ⟨nz6⟩
        have B6 : Aside0 (Below z5.heap.size z5 z6) := ⟨HB6.out.trans (lz6.mono HB6.out.size)⟩
        clear nz6 lz6 hz6 hp6
        have b6 := Below.refl z6.heap.size z6
        have b5 : Below z5.heap.size z5 z6 := B6.out.trans (b6.mono B6.out.size)
        have b4 : Below z4.heap.size z4 z6 := B5.out.trans (b5.mono B5.out.size)
        have b3 : Below z3.heap.size z3 z6 := B4.out.trans (b4.mono B4.out.size)
        have b2 : Below z2.heap.size z2 z6 := B3.out.trans (b3.mono B3.out.size)
        have b1 : Below z1.heap.size z1 z6 := B2.out.trans (b2.mono B2.out.size)
        have b0 : Below z0.heap.size z0 z6 := B1.out.trans (b1.mono B1.out.size)
        have e1 := (b1.block p1 (pk_blk_lt N1.out)).trans N1.out
        have f15 : z6.cell? ⟨p1, 5, none⟩ = some (.bool true) := cell_of_row _ _ _ _ _ _ e1
        have e2 := (b2.block p2 (pk_blk_lt N2.out)).trans N2.out
        have f25 : z6.cell? ⟨p2, 5, none⟩ = some (.bool false) := cell_of_row _ _ _ _ _ _ e2
        have f22 : z6.cell? ⟨p2, 2, none⟩ = some (.int .i64 1) := cell_of_row _ _ _ _ _ _ e2
        have e3 := (b3.block p3 (pk_blk_lt N3.out)).trans N3.out
        have f34 : z6.cell? ⟨p3, 4, none⟩ = some (.bool false) := cell_of_row _ _ _ _ _ _ e3
        have f35 : z6.cell? ⟨p3, 5, none⟩ = some (.bool false) := cell_of_row _ _ _ _ _ _ e3
        have e4 := (b4.block p4 (pk_blk_lt N4.out)).trans N4.out
        have f45 : z6.cell? ⟨p4, 5, none⟩ = some (.bool false) := cell_of_row _ _ _ _ _ _ e4
        have f42 : z6.cell? ⟨p4, 2, none⟩ = some (.int .i64 0) := cell_of_row _ _ _ _ _ _ e4
        have e5 := (b5.block p5 (pk_blk_lt N5.out)).trans N5.out
        have f52 : z6.cell? ⟨p5, 2, none⟩ = some (.int .i64 1048576) := cell_of_row _ _ _ _ _ _ e5
        have e6 := (b6.block p6 (pk_blk_lt N6.out)).trans N6.out
        have f60 : z6.cell? ⟨p6, 0, none⟩ = some (.slice A6 0 cc6) := cell_of_row _ _ _ _ _ _ e6
        have f61 : z6.cell? ⟨p6, 1, none⟩ = some (.int .u8 3) := cell_of_row _ _ _ _ _ _ e6
        have f62 : z6.cell? ⟨p6, 2, none⟩ = some (.int .i64 2) := cell_of_row _ _ _ _ _ _ e6
        have HBE : Aside0 (Below w.heap.size w z6) := ⟨Bv.out.trans ((HBT.out.trans (b0.mono HBT.out.size)).mono Bv.out.size)⟩
        clear b0 b1 b2 b3 b4 b5 b6 e1 e2 e3 e4 e5 e6
        have HRD := Aside0.mk (reads_w2 z6)
        go_wp2_with (go_at_call 12; refine HRD.out.mono ?_; rintro _ w9 ⟨rfl, h9⟩; have HB9 := Aside0.mk h9; clear h9)
        go_ret
        exact ⟨rfl, HBE.out.trans (HB9.out.mono HBE.out.size)⟩
end Go.Proofs.Ytdknppomjcpihaa.PPy
