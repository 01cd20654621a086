/- Both Looks tell the same. -/
import Derived.Test.YtjfpkldknchnkaaLm
import Derived.Test.YtjfpkldknchnkaaLg
import Derived.Test.YtjfpkldknchnkaaRk
import Derived.Test.YtjfpkldknchnkaaPm
namespace Go.Proofs.Ytjfpkldknchnkaa.Me
open Go.RowKit Go.Proofs.YtjfpkldknchnkaaW.PrintWords Go.Proofs.YtjfpkldknchnkaaW.PrintLast Go.Proofs.YtjfpkldknchnkaaW.PrintMore
attribute [local go_sem] max2_int min2_int max_two min_two max_three min_three max_four min_four
set_option linter.unusedVariables false
set_option linter.unusedSimpArgs false
theorem line_exists (S : ByteArray) : ∃ T, LineT S T := by
  have hge := Lib.indexByte_ge S.data.toList 10
  by_cases h : Lib.indexByte S.data.toList 10 = -1
  · exact ⟨S, line_none h⟩
  · obtain ⟨i, hi⟩ : ∃ i : Nat, Lib.indexByte S.data.toList 10 = i := ⟨(Lib.indexByte S.data.toList 10).toNat, by omega⟩
    have hlt : i < S.size := by
      have h1 := (Lib.indexByte_some hi).1
      have h2 := (List.getElem?_eq_some_iff.1 h1).1
      rw [Array.length_toList] at h2
      exact h2
    obtain ⟨b2, hb2⟩ : ∃ b2 : Bool, b2 = true ↔ endsCR (S.extract 0 i) := by
      by_cases h : endsCR (S.extract 0 i)
      · exact ⟨true, ⟨fun _ => h, fun _ => rfl⟩⟩
      · exact ⟨false, ⟨fun h2 => absurd h2 Bool.false_ne_true, fun h2 => absurd h2 h⟩⟩
    exact ⟨_, line_some hi hlt hb2⟩
theorem LineT.uniq {S T T' : ByteArray} (h : LineT S T) (h' : LineT S T') : T'.size = T.size ∧ ∀ k : Int, 0 ≤ k → k < (T.size : Int) → bt T' k = bt T k := by
  have hs : (T'.size : Int) = T.size := isEnd_uniq h'.e h.e
  exact ⟨by omega, fun k h0 h1 => by rw [h'.b k h0 (by omega), h.b k h0 h1]⟩
theorem look_c (S : ByteArray) (fr at_ en : Int) (w : World) (hS : S.size ≤ 100000) : Calls Try.prog 9 #[.string S, .int .i64 fr, .int .i64 at_, .int .i64 en] w fun e w' => LookT S fr at_ en w e w' := by
  obtain ⟨T0, hT0⟩ := line_exists S
  obtain ⟨E0, hE0⟩ : ∃ E0 : Int, E0 = (if (T0.size : Int) < en then (T0.size : Int) else en) := ⟨_, rfl⟩
  have hEs : E0 ≤ (T0.size : Int) := by rw [hE0]; split <;> omega
  have hu : ∀ (T : ByteArray) (E : Int), LineT S T → E = (if (T.size : Int) < en then (T.size : Int) else en) → E = E0 ∧ ∀ k : Int, 0 ≤ k → k < E0 → bt T k = bt T0 k := fun T E hT hE => by
    obtain ⟨h1, h2⟩ := hT0.uniq hT
    rw [h1] at hE
    exact ⟨by rw [hE, hE0], fun k k0 k1 => h2 k k0 (by omega)⟩
  by_cases g0 : fr < 0
  · exact look_bad S fr at_ en w hS (.inl g0)
  by_cases g1 : at_ < fr
  · exact look_bad S fr at_ en w hS (.inr (.inl g1))
  by_cases gE : E0 ≤ at_
  · exact look_bad S fr at_ en w hS (.inr (.inr (fun T E hT hE => by rw [(hu T E hT hE).1]; exact gE)))
  have hb : ∀ T, LineT S T → ∀ k : Int, 0 ≤ k → k < E0 → bt T k = bt T0 k := fun T hT => (hu T _ hT rfl).2
  obtain ⟨a, rfl⟩ : ∃ a : Nat, at_ = (a : Int) := ⟨at_.toNat, by omega⟩
  by_cases hc : bt T0 (a : Int) = 42 ∨ bt T0 (a : Int) = 95
  case neg =>
    simp only [not_or] at hc
    exact look_other S fr (a : Int) en w hS (by omega) (by omega) (fun T hT => by rw [hb T hT _ (by omega) (by omega)]; exact hc)
  case pos =>
    by_cases hp : fr < (a : Int) ∧ bt T0 ((a : Int) - 1) = bt T0 (a : Int)
    · obtain ⟨j, rfl⟩ : ∃ j, a = j + 1 := ⟨a - 1, by omega⟩
      have hj : ((j + 1 : Nat) : Int) - 1 = (j : Int) := by omega
      rw [hj] at hp
      rcases hc with hc | hc
      · exact look_prev42 S fr _ en w hS (j + 1) j rfl rfl g0 g1 hp.1 ⟨fun T hT => ⟨by rw [hb T hT _ (by omega) (by omega)]; exact hc, by rw [hb T hT _ (by omega) (by omega), hp.2]; exact hc⟩⟩
      · exact look_prev95 S fr _ en w hS (j + 1) j rfl rfl g0 g1 hp.1 ⟨fun T hT => ⟨by rw [hb T hT _ (by omega) (by omega)]; exact hc, by rw [hb T hT _ (by omega) (by omega), hp.2]; exact hc⟩⟩
    · exact look_good S fr _ en w hS a rfl (by omega) (by omega) ⟨fun T E hT hE => by
        obtain ⟨h1, h2⟩ := hu T E hT hE
        refine ⟨by omega, by rw [h2 _ (by omega) (by omega)]; exact hc, fun hlt => ?_⟩
        rw [h2 _ (by omega) (by omega), h2 _ (by omega) (by omega)]
        exact fun h => hp ⟨hlt, h⟩⟩
theorem good_congr {b b' : Int → Int} {fr at_ E : Int} (h : ∀ k, 0 ≤ k → k < E → b k = b' k) (hg : good b fr at_ E) : good b' fr at_ E := by
  obtain ⟨h1, h2, h3, h4, h5⟩ := hg
  refine ⟨h1, h2, h3, by rw [← h _ (by omega) h3]; exact h4, fun h6 => h5 ⟨h6.1, ?_⟩⟩
  rw [h _ (by omega) (by omega), h _ (by omega) (by omega)]
  exact h6.2
theorem isN_congr {b b' : Int → Int} {at_ E N : Int} (h : ∀ k, 0 ≤ k → k < E → b k = b' k) (h0 : 0 ≤ at_) (hn : IsN b E at_ N) : IsN b' E at_ N := by
  have h1 := hn.n1
  have h2 := hn.le
  refine ⟨h1, h2, fun j j0 j1 => ?_, ?_⟩
  · rw [← h _ (by omega) (by omega), ← h _ (by omega) (by omega)]
    exact hn.eq j j0 j1
  · rcases hn.st with h3 | ⟨h3, h4⟩
    · exact .inl h3
    · exact .inr ⟨h3, by rw [← h _ (by omega) (by omega), ← h _ (by omega) (by omega)]; exact h4⟩
theorem isN_uniq {b : Int → Int} {at_ E N N' : Int} (h : IsN b E at_ N) (h' : IsN b E at_ N') : N = N' := by
  have a1 := h.n1
  have a2 := h'.n1
  rcases Int.lt_trichotomy N N' with hl | hl | hl
  · rcases h.st with h3 | ⟨h3, h4⟩
    · have := h'.le; omega
    · exact absurd (h'.eq _ (by omega) (by omega)) h4
  · exact hl
  · rcases h'.st with h3 | ⟨h3, h4⟩
    · have := h.le; omega
    · exact absurd (h.eq _ (by omega) (by omega)) h4
theorem ofB_congr {b b' : Int → Int} {fr E i : Int} (h : ∀ k, 0 ≤ k → k < E → b k = b' k) (h0 : 0 ≤ fr) : ofB b fr E i = ofB b' fr E i := by
  unfold ofB
  split
  · rfl
  · exact h _ (by omega) (by omega)
theorem runc_congr {b b' : Int → Int} {fr at_ E N : Int} (h : ∀ k, 0 ≤ k → k < E → b k = b' k) (h0 : 0 ≤ fr) (h1 : fr ≤ at_) (h2 : at_ < E) : runc b fr E at_ N = runc b' fr E at_ N := by
  unfold runc
  rw [h _ (by omega) h2, ofB_congr h h0, ofB_congr h h0]
/-- A run as an outcome. -/
def LookV (e : Ending) (w w' : World) (r : Rn) (is : Bool) : Prop := e = .returned (.tuple #[.agg (rnc r), .bool is]) ∧ Below w.heap.size w w'
def zeroR : Rn := ⟨0, 0, 0, false, false⟩
/-- Look's answer in plain words, at the text itself. -/
def LookR (S : ByteArray) (fr at_ en : Int) (r : Rn) (is : Bool) : Prop :=
  ∃ n E : Int, isEnd S n ∧ E = (if n < en then n else en) ∧ ((¬ good (bt S) fr at_ E ∧ r = zeroR ∧ is = false) ∨ (good (bt S) fr at_ E ∧ is = true ∧ ∃ N, IsN (bt S) E at_ N ∧ r = ⟨at_, N, bt S at_, opensB (bt S at_) (ofB (bt S) fr E (at_ + N)) (ofB (bt S) fr E (at_ - 1)), closesB (bt S at_) (ofB (bt S) fr E (at_ + N)) (ofB (bt S) fr E (at_ - 1))⟩))
theorem LookR.uniq {S : ByteArray} {fr at_ en : Int} {r r' : Rn} {is is' : Bool} (h : LookR S fr at_ en r is) (h' : LookR S fr at_ en r' is') : r = r' ∧ is = is' := by
  obtain ⟨n, E, h1, h2, h3⟩ := h
  obtain ⟨n', E', h1', h2', h3'⟩ := h'
  obtain rfl := isEnd_uniq h1 h1'
  subst h2
  subst h2'
  rcases h3 with ⟨a1, a2, a3⟩ | ⟨a1, a2, N, a3, a4⟩ <;> rcases h3' with ⟨b1, b2, b3⟩ | ⟨b1, b2, N', b3, b4⟩
  · exact ⟨a2.trans b2.symm, a3.trans b3.symm⟩
  · exact absurd b1 a1
  · exact absurd a1 b1
  · obtain rfl := isN_uniq a3 b3
    exact ⟨a4.trans b4.symm, a2.trans b2.symm⟩
theorem look_v {S : ByteArray} {fr at_ en : Int} {w w' : World} {e : Ending} (h : LookT S fr at_ en w e w') : ∃ r is, LookV e w w' r is ∧ LookR S fr at_ en r is := by
  obtain ⟨T, E, hT, hE, hB, h3⟩ := h
  have hEs : E ≤ (T.size : Int) := by rw [hE]; split <;> omega
  have hb : ∀ k : Int, 0 ≤ k → k < E → bt T k = bt S k := fun k k0 k1 => hT.b k k0 (by omega)
  rcases h3 with ⟨h4, h5⟩ | ⟨h4, N, h5, h6⟩
  · exact ⟨zeroR, false, ⟨h5, hB⟩, _, E, hT.e, hE, .inl ⟨fun hg => h4 (good_congr (fun k k0 k1 => (hb k k0 k1).symm) hg), rfl, rfl⟩⟩
  · rw [runc_congr hb h4.1 h4.2.1 h4.2.2.1] at h6
    exact ⟨_, true, ⟨h6, hB⟩, _, E, hT.e, hE, .inr ⟨good_congr hb h4, rfl, N, isN_congr hb (by have := h4.1; have := h4.2.1; omega) h5, rfl⟩⟩
theorem rlook_v {S : ByteArray} {fr at_ en : Int} {w w' : World} {e : Ending} (h : RLookT S fr at_ en w e w') : ∃ r is, LookV e w w' r is ∧ LookR S fr at_ en r is := by
  obtain ⟨n, E, hn, hE, hB, h3⟩ := h
  rcases h3 with ⟨h4, h5⟩ | ⟨h4, N, h5, h6⟩
  · exact ⟨zeroR, false, ⟨h5, hB⟩, n, E, hn, hE, .inl ⟨h4, rfl, rfl⟩⟩
  · exact ⟨_, true, ⟨h6, hB⟩, n, E, hn, hE, .inr ⟨h4, rfl, N, h5, rfl⟩⟩
def LookQ (S : ByteArray) (fr at_ en : Int) (w : World) (e : Ending) (w' : World) : Prop := ∃ r is, LookV e w w' r is ∧ LookR S fr at_ en r is
theorem lookq_c (S : ByteArray) (fr at_ en : Int) (w : World) (hS : S.size ≤ 100000) : Calls Try.prog 9 #[.string S, .int .i64 fr, .int .i64 at_, .int .i64 en] w fun e w' => LookQ S fr at_ en w e w' :=
  (look_c S fr at_ en w hS).mono fun _ _ h => look_v h
theorem rlookq_c (S : ByteArray) (fr at_ en : Int) (w : World) (hS : S.size ≤ 100000) : Calls Try.prog 10 #[.string S, .int .i64 fr, .int .i64 at_, .int .i64 en] w fun e w' => LookQ S fr at_ en w e w' :=
  (rlook_c S fr at_ en w hS).mono fun _ _ h => rlook_v h
end Go.Proofs.Ytjfpkldknchnkaa.Me
