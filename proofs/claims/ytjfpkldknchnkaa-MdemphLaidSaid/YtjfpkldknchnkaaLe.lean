/- The byte at a place; a line's end by the document. -/
import Derived.Test.YtjfpkldknchnkaaLs
namespace Go.Proofs.Ytjfpkldknchnkaa.Me
open Go.RowKit Go.Proofs.YtjfpkldknchnkaaW.PrintWords Go.Proofs.YtjfpkldknchnkaaW.PrintLast Go.Proofs.YtjfpkldknchnkaaW.PrintMore
attribute [local go_sem] max2_int min2_int max_two min_two max_three min_three max_four min_four
set_option linter.unusedVariables false
set_option linter.unusedSimpArgs false
def ofB (b : Int → Int) (f E i : Int) : Int := if i < f ∨ E ≤ i then 32 else b i
set_option maxRecDepth 100000 in
set_option maxHeartbeats 4000000 in
theorem of_c (T : ByteArray) (f E i : Int) (p q r : Nat) (w : World) (h0 : 0 ≤ f) (hE : E ≤ (T.size : Int)) (hT : T.size ≤ 1000000) (hp : w.cell? ⟨p, 0, none⟩ = some (.int .i64 f)) (hq : w.cell? ⟨q, 0, none⟩ = some (.int .i64 E)) (hr : w.cell? ⟨r, 0, none⟩ = some (.string T)) :
    Calls Try.prog 18 #[.int .i64 i, pv p, pv q, pv r] w fun e w' => e = .returned (.int .u8 (ofB (bt T) f E i)) ∧ w' = w := by
  by_cases h1 : i < f
  · have hv : ofB (bt T) f E i = 32 := by unfold ofB; rw [if_pos (.inl h1)]
    rw [hv]
    clear hv
    go_enter Try.func18, Try.ntmps18
    go_wp2_with (fail)
    go_ret
    exact ⟨rfl, rfl⟩
  by_cases h2 : E ≤ i
  · have hv : ofB (bt T) f E i = 32 := by unfold ofB; rw [if_pos (.inr h2)]
    rw [hv]
    clear hv
    go_enter Try.func18, Try.ntmps18
    go_wp2_with (fail)
    go_ret
    exact ⟨rfl, rfl⟩
  · obtain ⟨k, rfl⟩ : ∃ k : Nat, i = k := ⟨i.toNat, by omega⟩
    have hk : k < T.size := by omega
    have hv : ofB (bt T) f E (k : Int) = bt T (k : Int) := by unfold ofB; rw [if_neg (by omega)]
    rw [hv, ← bt_nat T k hk]
    have c1 : (0 : Int) ≤ (k : Int) := by omega
    have c2 : (k : Int) < (T.size : Int) := by omega
    clear hv
    go_enter Try.func18, Try.ntmps18
    go_wp2_with (fail)
    go_ret
    exact ⟨rfl, rfl⟩
def EndP (S : ByteArray) (w : World) (e : Ending) (w' : World) : Prop := ∃ n : Int, e = .returned (.int .i64 n) ∧ isEnd S n ∧ w' = w
set_option maxRecDepth 100000 in
set_option maxHeartbeats 4000000 in
theorem end_c (S : ByteArray) (w : World) (hS : S.size ≤ 1000000) : Calls Try.prog 22 #[.string S] w fun e w' => EndP S w e w' := by
  go_enter Try.func22, Try.ntmps22
  go_upto_block 0 with (fail)
  go_wp2_with (fail)
  go_loopg [3] S.size (fun gk v3 wr => ∃ (k : Nat), v3 = .int .i64 (k : Int) ∧ Aside0 (k + gk = S.size) ∧ Aside0 (wr = w) ∧ Aside0 (∀ j : Int, 0 ≤ j → j < (k : Int) → bt S j ≠ 10))
  case atStart => exact ⟨0, rfl, ⟨by omega⟩, ⟨rfl⟩, ⟨fun j h0 h1 => by omega⟩⟩
  case round =>
    obtain ⟨k, rfl, HK, HW, HN⟩ := hrel
    obtain rfl := HW.out
    by_cases hkn : k < S.size
    · obtain ⟨gn, rfl⟩ : ∃ gn, gk = gn + 1 := ⟨gk - 1, by have := HK.out; omega⟩
      have p0 : (0 : Int) ≤ (k : Int) := by omega
      have p1 : (k : Int) < (S.size : Int) := by omega
      have hw1 : IntKind.i64.wrap ((k : Int) + 1) = (k : Int) + 1 := IntWalk.i64_in _ (by omega)
      by_cases h10 : bt S (k : Int) = 10
      · have hb : ((S[k]'hkn).toNat : Int) = 10 := (bt_nat S k hkn).trans h10
        have H10 := Aside0.mk h10
        clear h10
        by_cases hk0 : 0 < k
        · obtain ⟨j, rfl⟩ : ∃ j, k = j + 1 := ⟨k - 1, by omega⟩
          have hj : j < S.size := by omega
          have q0 : (0 : Int) < (j : Int) + 1 := by omega
          have q1 : IntKind.i64.wrap (j : Int) = (j : Int) := IntWalk.i64_in _ (by omega)
          have q2 : (0 : Int) ≤ (j : Int) := by omega
          have q3 : (j : Int) < (S.size : Int) := by omega
          by_cases h13 : bt S (j : Int) = 13
          · have hb2 : ((S[j]'hj).toNat : Int) = 13 := (bt_nat S j hj).trans h13
            have H13 := Aside0.mk h13
            clear h13
            go_wp2_with (fail)
            go_ret
            exact ⟨_, rfl, .inr ⟨((j + 1 : Nat) : Int), by omega, by omega, H10.out, HN.out, .inl ⟨by omega, by rw [show ((j + 1 : Nat) : Int) - 1 = (j : Int) by omega]; exact H13.out, by omega⟩⟩, rfl⟩
          · have hb2 : (((S[j]'hj).toNat : Int) == 13) = false := by rw [bt_nat S j hj]; simpa using h13
            have H13 := Aside0.mk h13
            clear h13
            go_wp2_with (fail)
            go_ret
            exact ⟨_, rfl, .inr ⟨((j + 1 : Nat) : Int), by omega, by omega, H10.out, HN.out, .inr ⟨fun h => H13.out (by have h2 := h.2; rw [show ((j + 1 : Nat) : Int) - 1 = (j : Int) by omega] at h2; exact h2), by omega⟩⟩, rfl⟩
        · obtain rfl : k = 0 := by omega
          go_wp2_with (fail)
          go_ret
          exact ⟨_, rfl, .inr ⟨0, by omega, by omega, H10.out, HN.out, .inr ⟨fun h => by have := h.1; omega, rfl⟩⟩, rfl⟩
      · have hb : (((S[k]'hkn).toNat : Int) == 10) = false := by rw [bt_nat S k hkn]; simpa using h10
        have H10 := Aside0.mk h10
        clear h10
        go_wp2_with (fail)
        go_roundg gn
        case measure => exact Nat.lt_succ_self _
        case rel => exact ⟨k + 1, by simp, ⟨by have := HK.out; omega⟩, ⟨rfl⟩, ⟨fun j h0 h1 => by
          rcases Int.lt_or_le j (k : Int) with h | h
          · exact HN.out j h0 h
          · obtain rfl : j = (k : Int) := by omega
            exact H10.out⟩⟩
    · have q : ¬ ((k : Int) < (S.size : Int)) := by omega
      clear HK
      go_wp2_with (fail)
      go_ret
      exact ⟨_, rfl, .inl ⟨fun j h0 h1 => HN.out j h0 (by omega), rfl⟩, rfl⟩
end Go.Proofs.Ytjfpkldknchnkaa.Me
