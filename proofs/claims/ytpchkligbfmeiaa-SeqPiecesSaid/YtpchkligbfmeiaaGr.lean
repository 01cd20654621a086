/- The law's own small functions: are there too many acts? Is the row there at all? -/
import Derived.Test.YtpchkligbfmeiaaAc
namespace Go.Proofs.Ytpchkligbfmeiaa.Se
open Go.RowKit Go.Proofs.YtpchkligbfmeiaaW.PrintWords Go.Proofs.YtpchkligbfmeiaaW.PrintLast Go.Proofs.YtpchkligbfmeiaaW.PrintMore
attribute [local go_sem] max2_int min2_int max_two min_two max_three min_three max_four min_four
set_option linter.unusedVariables false
set_option linter.unusedSimpArgs false
/-- How many items all acts have. -/
def tot : List ActM → Nat
  | [] => 0
  | a :: r => a.xs.length + tot r
theorem tot_append : ∀ a b : List ActM, tot (a ++ b) = tot a + tot b
  | [], b => by simp [tot]
  | x :: a, b => by simp only [List.cons_append, tot, tot_append a b]; omega
theorem tot_take (l : List ActM) (k : Nat) : tot (l.take k) ≤ tot l := by
  have h := tot_append (l.take k) (l.drop k)
  rw [List.take_append_drop] at h
  omega
def SmallA (a : ActM) : Prop := a.xs.length ≤ 2000 ∧ a.ys.length ≤ 2000
structure Small (l : List ActM) : Prop where
  n : l.length ≤ 80
  a : ∀ a ∈ l, SmallA a
  t : tot l ≤ 2000
def GreatP (l : List ActM) (e : Ending) : Prop := ∃ b, e = .returned (.bool b) ∧ (b = false → Small l)

set_option maxRecDepth 100000 in
set_option maxHeartbeats 4000000 in
theorem great_c (A : Option Addr) (n c : Nat) (l : List ActM) (w : World) (hR : ReadsRow (RAct w) 5 w A n l) : Calls Try.prog 7 #[.slice A n c] w fun e w' => GreatP l e ∧ w' = w := by
  have hln := hR.1
  have hn8 := hR.2.1
  have HR := Aside0.mk hR
  have HLN := Aside0.mk hln
  have htrue : Aside0 (GreatP l (.returned (.bool true))) := ⟨⟨true, rfl, fun h => by cases h⟩⟩
  clear hR hln
  go_enter Try.func7, Try.ntmps7
  by_cases h80 : (80 : Int) < (n : Int)
  · have b0 : decide ((80 : Int) < (n : Int)) = true := decide_eq_true h80
    go_wp2_with (fail)
    go_ret
    exact ⟨htrue.out, rfl⟩
  · have h80' : n ≤ 80 := by omega
    have b0 : decide ((80 : Int) < (n : Int)) = false := decide_eq_false h80
    clear h80
    go_upto_block 0 with (fail)
    go_wp2_with (fail)
    go_loopg [3, 4] n (fun gk v3 v4 wr => ∃ (k : Nat) (T : Int), v3 = .int .i64 T ∧ v4 = .int .i64 (k : Int) ∧ wr = w ∧ Aside0 (k + gk = n) ∧ Aside0 (T = (tot (l.take k) : Int)) ∧ Aside0 (0 ≤ T ∧ T ≤ 2000 * (k : Int)) ∧ Aside0 (∀ a ∈ l.take k, SmallA a))
    case atStart => exact ⟨0, 0, rfl, rfl, rfl, ⟨by omega⟩, ⟨rfl⟩, ⟨by omega⟩, ⟨by simp⟩⟩
    case round =>
      obtain ⟨k, T, rfl, rfl, rfl, HK, HT, HTB, HO⟩ := hrel
      by_cases hkn : k < n
      · obtain ⟨gn, rfl⟩ : ∃ gn, gk = gn + 1 := ⟨gk - 1, by have := HK.out; omega⟩
        obtain ⟨x, hx⟩ : ∃ x, l[k]? = some x := ⟨_, List.getElem?_eq_getElem (by rw [HLN.out]; exact hkn)⟩
        obtain ⟨ad, hA, _⟩ := HR.out.2.2 (by omega)
        subst hA
        obtain ⟨A1, c1, A2, c2, hL, d0, d1, d2, d3, d4⟩ := act_at HR.out hx
        have HX := Aside0.mk hx
        obtain ⟨m1, hm1⟩ : ∃ m, x.xs.length = m := ⟨_, rfl⟩
        obtain ⟨m2, hm2⟩ : ∃ m, x.ys.length = m := ⟨_, rfl⟩
        rw [hm1] at d3
        rw [hm2] at d4
        have HM1 := Aside0.mk hm1
        have HM2 := Aside0.mk hm2
        have p0 : (0 : Int) ≤ (k : Int) := by omega
        have p1 : (k : Int) < (n : Int) := by omega
        have htb := HTB.out
        have hw1 : IntKind.i64.wrap ((k : Int) + 1) = (k : Int) + 1 := IntWalk.i64_in _ (by omega)
        clear hx hL hm1 hm2
        by_cases h1 : (2000 : Int) < (m1 : Int)
        · have b1 : decide ((2000 : Int) < (m1 : Int)) = true := decide_eq_true h1
          clear HT HO HK htb
          go_wp2_with (fail)
          go_ret
          exact ⟨htrue.out, rfl⟩
        have b1 : decide ((2000 : Int) < (m1 : Int)) = false := decide_eq_false h1
        by_cases h2 : (2000 : Int) < (m2 : Int)
        · have b2 : decide ((2000 : Int) < (m2 : Int)) = true := decide_eq_true h2
          clear HT HO HK htb
          go_wp2_with (fail)
          go_ret
          exact ⟨htrue.out, rfl⟩
        have b2 : decide ((2000 : Int) < (m2 : Int)) = false := decide_eq_false h2
        have hw2 : IntKind.i64.wrap (T + (m1 : Int)) = T + (m1 : Int) := IntWalk.i64_in _ (by omega)
        clear htb
        go_wp2_with (fail)
        go_roundg gn
        case measure => exact Nat.lt_succ_self _
        case rel =>
          refine ⟨k + 1, T + (m1 : Int), rfl, by simp, rfl, ⟨by have := HK.out; omega⟩, ⟨?_⟩, ⟨by have := HTB.out; omega⟩, ⟨?_⟩⟩
          · rw [take_snoc HX.out, tot_append, HT.out, ← HM1.out]
            simp [tot]
          · intro z hz
            rw [take_snoc HX.out] at hz
            rcases List.mem_append.1 hz with h | h
            · exact HO.out z h
            · simp at h
              subst h
              exact ⟨by rw [HM1.out]; omega, by rw [HM2.out]; omega⟩
      · have hkm : n ≤ k := by omega
        have htk : l.take k = l := List.take_of_length_le (by rw [HLN.out]; exact hkm)
        have hT := HT.out
        rw [htk] at hT
        have hO := HO.out
        rw [htk] at hO
        have hfin : Aside0 (GreatP l (.returned (.bool (decide ((2000 : Int) < T))))) := ⟨⟨_, rfl, fun h => ⟨by rw [HLN.out]; exact h80', hO, by have := of_decide_eq_false h; omega⟩⟩⟩
        clear HT HO HK htk hT hO
        go_wp2_with (fail)
        go_ret
        exact ⟨hfin.out, rfl⟩
end Go.Proofs.Ytpchkligbfmeiaa.Se
