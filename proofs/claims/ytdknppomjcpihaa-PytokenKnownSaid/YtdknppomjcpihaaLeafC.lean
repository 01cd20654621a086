/- (*reader).leaf, every kind; the callees that the printer told, as total functions. -/
import Derived.Test.YtdknppomjcpihaaLeaf2
import Derived.Test.YtdknppomjcpihaaModel
import Derived.Test.YtdknppomjcpihaaShelf
import Derived.Test.YtdknppomjcpihaaPPlx1
namespace Go.Proofs.Ytdknppomjcpihaa.PPy
open Go.RowKit Go.Proofs.YtdknppomjcpihaaW.PrintWords Go.Proofs.YtdknppomjcpihaaW.PrintLast Go.Proofs.YtdknppomjcpihaaW.PrintMore

theorem leaf_c (B b : Nat) (w : World) (r : Rd) (k e : Int) (h : RdAt B w b r) (hl : r.ev.length ≤ 1000000) (h0 : 0 ≤ r.pos) (h1 : r.pos ≤ e) (h2 : e ≤ (r.s.size : Int)) :
    Calls Try.prog 37 #[.pointer (some ⟨b, 0, none⟩), .int .u8 k, .int .i64 e] w fun en w' => en = .returned (.tuple #[]) ∧ RdAt B w' b (r.leaf k e) ∧ Below B w w' := by
  by_cases hk : k = 18 ∨ k = 19
  · exact leaf_skip B b w r k e h hl hk
  · by_cases hk7 : k = 17
    · subst hk7
      cases hc : isColon r.s r.pos e with
      | false => exact leaf_tokB B b w r e h hl h0 h1 h2 hc
      | true => exact leaf_tokC B b w r e h hl h0 h1 h2 hc
    · exact leaf_tokA B b w r k e h hl hk hk7

theorem drawn_below {B : Nat} {w w' : World} (h : Drawn0 w w') : Below B w w' := by
  obtain ⟨n, rfl⟩ := h
  exact pw_below_drewN (Below.refl B w) n

theorem hp_c (a q : ByteArray) (w : World) : Calls Try.prog 41 #[.string a, .string q] w fun e w' => e = .returned (.bool (hp a q)) ∧ Drawn0 w w' := by
  refine PPl.strings_HasPrefix.calls a q (hp a q) w ?_
  unfold PPl.strings_HasPrefix.f PPl.stringslite_HasPrefix.f hp
  by_cases h : q.size ≤ a.size
  · rw [if_pos (by omega), if_pos (by omega), if_pos (by omega)]
    simp [h]
  · rw [if_neg (by omega)]
    simp [h]
theorem quot_c (m : Int) (w : World) (h : 1 ≤ m ∧ m ≤ 4) : Calls Try.prog 40 #[.int .u8 m] w fun e w' => e = .returned (.string (quot m)) ∧ Below w.heap.size w w' := by
  refine PPl.pytoken_quotes.calls m (quot m) w ?_
  have : m = 1 ∨ m = 2 ∨ m = 3 ∨ m = 4 := by omega
  rcases this with rfl | rfl | rfl | rfl <;> rfl
theorem small_c (c : Int) (w : World) (h : 0 ≤ c ∧ c ≤ 255) : Calls Try.prog 39 #[.int .u8 c] w fun e w' => e = .returned (.int .u8 (smallB c)) ∧ Drawn0 w w' := by
  refine PPl.pytoken_small.calls c (smallB c) w ?_
  unfold PPl.pytoken_small.f smallB
  by_cases h1 : c ≥ 65
  · by_cases h2 : c ≤ 90
    · rw [if_pos h1, if_pos h2, if_pos ⟨h1, h2⟩, Int.emod_eq_of_lt (by omega) (by omega)]
    · rw [if_pos h1, if_neg h2, if_neg (fun h => h2 h.2)]
  · rw [if_neg h1, if_neg (fun h => h1 h.1)]
theorem letter_c (c : Int) (w : World) (h : 0 ≤ c ∧ c ≤ 255) : Calls Try.prog 42 #[.int .u8 c] w fun e w' => e = .returned (.bool (letterB c)) ∧ Drawn0 w w' := by
  refine PPl.pytoken_letter.calls c (letterB c) w ?_
  have hs : PPl.pytoken_small.f c = some (smallB c) := by
    unfold PPl.pytoken_small.f smallB
    by_cases h1 : c ≥ 65
    · by_cases h2 : c ≤ 90
      · rw [if_pos h1, if_pos h2, if_pos ⟨h1, h2⟩, Int.emod_eq_of_lt (by omega) (by omega)]
      · rw [if_pos h1, if_neg h2, if_neg (fun h => h2 h.2)]
    · rw [if_neg h1, if_neg (fun h => h1 h.1)]
  unfold PPl.pytoken_letter.f letterB
  rw [hs]
  simp only [Option.bind_some]
  by_cases h1 : smallB c ≥ 97 <;> by_cases h2 : smallB c ≤ 122 <;> by_cases h3 : c = 95 <;> simp [h1, h2, h3]
theorem digit_c (c : Int) (w : World) : Calls Try.prog 43 #[.int .u8 c] w fun e w' => e = .returned (.bool (digitB c)) ∧ Drawn0 w w' := by
  refine PPl.pytoken_digit.calls c (digitB c) w ?_
  unfold PPl.pytoken_digit.f digitB
  by_cases h1 : c ≥ 48 <;> simp [h1] <;> omega

end Go.Proofs.Ytdknppomjcpihaa.PPy
