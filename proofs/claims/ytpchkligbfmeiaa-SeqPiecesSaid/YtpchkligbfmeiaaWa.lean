/- The law's own small functions: is the row there at all? -/
import Derived.Test.YtpchkligbfmeiaaGr
namespace Go.Proofs.Ytpchkligbfmeiaa.Se
open Go.RowKit Go.Proofs.YtpchkligbfmeiaaW.PrintWords Go.Proofs.YtpchkligbfmeiaaW.PrintLast Go.Proofs.YtpchkligbfmeiaaW.PrintMore
attribute [local go_sem] max2_int min2_int max_two min_two max_three min_three max_four min_four
set_option linter.unusedVariables false
set_option linter.unusedSimpArgs false
theorem strs_row {w : World} {b : Nat} {t : TypeId} {cs : Array Value} {xs : List ByteArray} (h : w.heap[b]? = some (.cells cs t (0, 0))) (hc : cs.toList = xs.map Value.string) (hl : xs.length ≤ 9223372036854775807) : Kd.string.C w (some ⟨b, 0, none⟩) xs.length xs := by
  refine ⟨rfl, hl, fun _ => ⟨_, rfl, fun j q hq => ⟨[.string q], rfl, rfl, fun i u hu => ?_⟩⟩⟩
  cases i with
  | zero =>
    have e : Value.string q = u := by simpa using hu
    subst e
    have hj : cs[j]? = some (.string q) := by rw [← Array.getElem?_toList, hc]; simp [hq]
    have h2 : w.cell? ⟨b, j, none⟩ = cs[j]? := cell_of_row w b j cs t (0, 0) h
    have e1 : j * Kd.string.sz + 0 = j := by simp [Kd.string, Kd.scalar]
    rw [e1]
    unfold Addr.add
    split
    · rename_i h0
      subst h0
      exact h2.trans hj
    · simp only [Nat.zero_add]
      exact h2.trans hj
  | succ i => simp at hu
theorem ints_row {w : World} {b : Nat} {t : TypeId} {cs : Array Value} {xs : List Int} (h : w.heap[b]? = some (.cells cs t (0, 0))) (hc : cs.toList = xs.map (Value.int .i64)) (hl : xs.length ≤ 9223372036854775807) : (Kd.int .i64).C w (some ⟨b, 0, none⟩) xs.length xs := by
  refine ⟨rfl, hl, fun _ => ⟨_, rfl, fun j q hq => ⟨[.int .i64 q], rfl, rfl, fun i u hu => ?_⟩⟩⟩
  cases i with
  | zero =>
    have e : Value.int .i64 q = u := by simpa using hu
    subst e
    have hj : cs[j]? = some (.int .i64 q) := by rw [← Array.getElem?_toList, hc]; simp [hq]
    have h2 : w.cell? ⟨b, j, none⟩ = cs[j]? := cell_of_row w b j cs t (0, 0) h
    have e1 : j * (Kd.int .i64).sz + 0 = j := by simp [Kd.int, Kd.scalar]
    rw [e1]
    unfold Addr.add
    split
    · rename_i h0
      subst h0
      exact h2.trans hj
    · simp only [Nat.zero_add]
      exact h2.trans hj
  | succ i => simp at hu

theorem size_al (w : World) (o : Obj) : (w.alloc o).heap.size = w.heap.size + 1 := Array.size_push _
theorem alloc_at {w : World} {o : Obj} {n : Nat} (h : w.heap.size = n) : (w.alloc o).heap[n]? = some o := by
  subst h
  exact heap_alloc_new _ _
def lit3 : Items := [(⟨#[97]⟩, 2), (⟨#[98]⟩, 0), (⟨#[99]⟩, 3)]
theorem spl3 {er : Int} {l' : Items} (h : SplR [] 0 0 [(⟨#[97]⟩ : ByteArray), ⟨#[98]⟩, ⟨#[99]⟩] [2, 0, 3] er l') : er = 0 ∧ l' = lit3 := by
  cases h with
  | bad h => simp at h
  | len _ _ _ h => simp at h
  | size _ _ _ _ h => simp [OkS] at h
  | big _ _ _ _ _ h => simp [sumL] at h
  | ok => exact ⟨rfl, rfl⟩
theorem find3 {a o er : Int} (h : FindR lit3 2 a o er) : a = 2 ∧ o = 0 ∧ er = 0 := by
  rcases h with ⟨_, _, rfl, pre, it, z, post, hl, ha, hf, h0, h1⟩ | ⟨h, _⟩
  · unfold lit3 at hl
    match pre, hl with
    | [], hl =>
      simp at hl
      simp [sumL] at hf
      omega
    | [x], hl =>
      simp at hl
      obtain ⟨h1, h2, h3⟩ := hl
      rw [← h1] at hf
      simp [sumL] at hf
      omega
    | [x, y], hl =>
      simp at hl
      obtain ⟨h1, h2, h3⟩ := hl
      rw [← h1, ← h2] at hf
      simp [sumL] at hf
      simp at ha
      omega
    | x :: y :: z' :: r, hl => simp at hl
  · exact absurd (by simp [lit3, sumL]) h

set_option maxRecDepth 100000 in
set_option maxHeartbeats 4000000 in
theorem wakes_c (w : World) : Calls Try.prog 8 #[] w fun e w' => e = .returned (.bool true) ∧ Below w.heap.size w w' := by
  go_enter Try.func8, Try.ntmps8
  go_wp2_with (refine (new_c _).mono ?_)
  rintro _ w1 ⟨p, rfl, h1, b1⟩
  have h2 := (h1.below (below_alloc (Below.refl _ w1) (.cells #[.string ⟨#[97]⟩, .string ⟨#[98]⟩, .string ⟨#[99]⟩] 9))).below (below_alloc (Below.refl _ _) (.cells #[.int .i64 2, .int .i64 0, .int .i64 3] 3))
  have x1 : Kd.string.C (w1.alloc (.cells #[.string ⟨#[97]⟩, .string ⟨#[98]⟩, .string ⟨#[99]⟩] 9)) (some ⟨w1.heap.size, 0, none⟩) 3 [(⟨#[97]⟩ : ByteArray), ⟨#[98]⟩, ⟨#[99]⟩] := strs_row (heap_alloc_new _ _) rfl (by decide)
  have x2 := Kd.C_below x1 (below_alloc (Below.refl _ _) (.cells #[.int .i64 2, .int .i64 0, .int .i64 3] 3))
  have y2 : (Kd.int .i64).C ((w1.alloc (.cells #[.string ⟨#[97]⟩, .string ⟨#[98]⟩, .string ⟨#[99]⟩] 9)).alloc (.cells #[.int .i64 2, .int .i64 0, .int .i64 3] 3)) (some ⟨w1.heap.size + 1, 0, none⟩) 3 [2, 0, 3] := ints_row (alloc_at (size_al _ _)) rfl (by decide)
  have HS := Aside0.mk (splice_c p [] 0 0 3 3 [(⟨#[97]⟩ : ByteArray), ⟨#[98]⟩, ⟨#[99]⟩] [2, 0, 3] _ 3 _ 3 _ _ h2 rfl rfl (Nat.le_refl _) (Nat.le_refl _) (by decide) x2 y2)
  have B1 := Aside0.mk b1
  have B2 : Aside0 (Below w.heap.size w ((w1.alloc (.cells #[.string ⟨#[97]⟩, .string ⟨#[98]⟩, .string ⟨#[99]⟩] 9)).alloc (.cells #[.int .i64 2, .int .i64 0, .int .i64 3] 3))) := ⟨below_alloc (below_alloc b1 _) _⟩
  clear h1 b1 h2 x1 x2 y2
  go_wp2_with (refine HS.out.mono ?_)
  rintro _ w2 ⟨er, l', rfl, hr, h2, b2, -⟩
  obtain ⟨rfl, rfl⟩ := spl3 hr
  have B3 := Aside0.mk (B2.out.trans b2)
  have HF := Aside0.mk (find_c p lit3 2 w2 _ h2)
  have H2 := Aside0.mk h2
  clear hr h2 b2 HS B1 B2
  go_wp2_with (refine HF.out.mono ?_)
  rintro _ w3 ⟨⟨a, o, er, rfl, hr⟩, b3⟩
  obtain ⟨rfl, rfl, rfl⟩ := find3 hr
  have H3 := Aside0.mk (H2.out.below b3)
  have HL := Aside0.mk (len_c p lit3 w3 _ H3.out)
  have HZ := Aside0.mk (size_c p lit3 w3 _ H3.out)
  have B4 := Aside0.mk (B3.out.trans (b3.mono B3.out.size))
  clear hr b3 HF H2 B3
  go_wp2_with (first
    | (refine HL.out.mono ?_; rintro _ w9 ⟨rfl, h9⟩; rw [h9]; clear h9 w9)
    | (refine HZ.out.mono ?_; rintro _ w9 ⟨rfl, h9⟩; rw [h9]; clear h9 w9))
  go_ret
  exact ⟨by simp [lit3, sumL], B4.out⟩
end Go.Proofs.Ytpchkligbfmeiaa.Se
