/- A line without its end: Cut, TrimSuffix. -/
import Derived.Test.YtjfpkldknchnkaaSt
import Derived.Lib.Walk
import Derived.Lib.Bytealg
import Derived.Lib.IndexLaws
import Derived.Laws.Strings3
namespace Go.Proofs.Ytjfpkldknchnkaa.Me
open Go.RowKit Go.Proofs.YtjfpkldknchnkaaW.PrintWords Go.Proofs.YtjfpkldknchnkaaW.PrintLast Go.Proofs.YtjfpkldknchnkaaW.PrintMore
attribute [local go_sem] max2_int min2_int max_two min_two max_three min_three max_four min_four
set_option linter.unusedVariables false
set_option linter.unusedSimpArgs false
theorem bt_nat (s : ByteArray) (i : Nat) (h : i < s.size) : ((s[i]'h).toNat : Int) = bt s (i : Int) := by unfold bt; simp [h]
set_option maxRecDepth 100000 in
set_option maxHeartbeats 4000000 in
theorem ib_c (s : ByteArray) (c : Int) (w : World) : Calls Try.prog 51 #[.string s, .int .u8 c] w fun e w' => e = .returned (.int .i64 (Lib.indexByte s.data.toList c.toNat.toUInt8)) ∧ w' = w := by
  go_enter Try.func51, Try.ntmps51
  go_wp2
  rw [run_callFunc_extern Try.func60 (by kernel_rfl) (by kernel_rfl) (by kernel_rfl) (e := Extern.BytealgIndexByte.indexByte) (by kernel_rfl), Lib.run_indexByteString]
  simp only [Result.andThen]
  rw [Oper.upon_value]
  go_wp2
  go_ret
  exact ⟨rfl, rfl⟩
set_option maxRecDepth 100000 in
set_option maxHeartbeats 4000000 in
theorem ix_c (s : ByteArray) (w : World) : Calls Try.prog 39 #[.string s, .string ⟨#[10]⟩] w fun e w' => e = .returned (.int .i64 (Lib.indexByte s.data.toList 10)) ∧ w' = w := by
  have HI := Aside0.mk (ib_c s 10 w)
  by_cases he : ([10] == s.toList) = true
  · have h0 : s.data.toList = [10] := by rw [← Lib.toList_data]; exact (beq_iff_eq.1 he).symm
    rw [h0]
    have h1 : Lib.indexByte [10] 10 = 0 := by decide
    rw [h1]
    clear h0 h1
    go_enter Try.func39, Try.ntmps39
    go_wp2_with (refine HI.out.mono ?_; rintro _ w9 ⟨rfl, h9⟩; rw [h9]; clear h9 w9)
    go_ret
    exact ⟨rfl, rfl⟩
  · go_enter Try.func39, Try.ntmps39
    go_wp2_with (refine HI.out.mono ?_; rintro _ w9 ⟨rfl, h9⟩; rw [h9]; clear h9 w9)
    go_ret
    exact ⟨rfl, rfl⟩
/-- What Cut gives at a line's end. -/
def CutP (S : ByteArray) (w : World) (en : Ending) (w' : World) : Prop :=
  (Lib.indexByte S.data.toList 10 = -1 ∧ en = .returned (.tuple #[.string S, .string ⟨#[]⟩, .bool false]) ∧ w' = w) ∨ ∃ (i : Nat) (T2 : ByteArray) (k : Nat), Lib.indexByte S.data.toList 10 = i ∧ i < S.size ∧ en = .returned (.tuple #[.string (S.extract 0 i), .string T2, .bool true]) ∧ w' = w.drewN k
set_option maxRecDepth 100000 in
set_option maxHeartbeats 4000000 in
theorem cut33_c (S : ByteArray) (w : World) (hS : S.size ≤ 1000000) : Calls Try.prog 33 #[.string S, .string ⟨#[10]⟩] w fun e w' => CutP S w e w' := by
  have hI := ix_c S w
  have hge := Lib.indexByte_ge S.data.toList 10
  by_cases h0 : Lib.indexByte S.data.toList 10 = -1
  · rw [h0] at hI
    have HI := Aside0.mk hI
    have H0 := Aside0.mk h0
    clear hI hge h0
    go_enter Try.func33, Try.ntmps33
    go_wp2_with (refine HI.out.mono ?_; rintro _ w9 ⟨rfl, h9⟩; rw [h9]; clear h9 w9)
    go_ret3
    exact .inl ⟨H0.out, rfl, rfl⟩
  · obtain ⟨i, hi⟩ : ∃ i : Nat, Lib.indexByte S.data.toList 10 = i := ⟨(Lib.indexByte S.data.toList 10).toNat, by omega⟩
    have hlt : i < S.size := by
      have h := (Lib.indexByte_some hi).1
      have := (List.getElem?_eq_some_iff.1 h).1
      simpa using this
    rw [hi] at hI
    have HI := Aside0.mk hI
    have H0 := Aside0.mk hi
    have HLT := Aside0.mk hlt
    have c1 : (0 : Int) ≤ (i : Int) := by omega
    have c2 : (i : Int) ≤ (S.size : Int) := by omega
    have c3 : (0 : Int) ≤ (i : Int) + 1 := by omega
    have c4 : (i : Int) + 1 ≤ (S.size : Int) := by omega
    have c5 : IntKind.i64.wrap ((i : Int) + 1) = (i : Int) + 1 := IntWalk.i64_in _ (by omega)
    clear hI hge h0 hi hlt
    go_enter Try.func33, Try.ntmps33
    go_wp2_with (refine HI.out.mono ?_)
    rintro _ w9 ⟨rfl, h9⟩
    rw [h9]
    clear h9 w9 HI
    go_upto_region 3 with (fail)
    go_quiet (fail)
    go_wp2_with (fail)
    go_ret3
    exact .inr ⟨i, _, _, H0.out, HLT.out, rfl, rfl⟩
set_option maxRecDepth 100000 in
set_option maxHeartbeats 4000000 in
theorem cut_c (S : ByteArray) (w : World) (hS : S.size ≤ 1000000) : Calls Try.prog 16 #[.string S, .string ⟨#[10]⟩] w fun e w' => CutP S w e w' := by
  have HI := Aside0.mk (cut33_c S w hS)
  go_enter Try.func16, Try.ntmps16
  go_wp2_with (refine HI.out.mono ?_)
  rintro _ w1 (⟨h0, rfl, rfl⟩ | ⟨i, T2, k, h0, h1, rfl, rfl⟩)
  · have H0 := Aside0.mk h0
    clear h0
    go_wp2_with (fail)
    go_ret3
    exact .inl ⟨H0.out, rfl, rfl⟩
  · have H0 := Aside0.mk h0
    have H1 := Aside0.mk h1
    clear h0 h1
    go_wp2_with (fail)
    go_ret3
    exact .inr ⟨i, T2, k, H0.out, H1.out, rfl, rfl⟩
/-- Does it end so? -/
def endsCR (T : ByteArray) : Prop := 1 ≤ T.size ∧ (T.extract (T.size - 1) T.size).toList = [13]
set_option maxRecDepth 100000 in
set_option maxHeartbeats 4000000 in
theorem suffix_c (T : ByteArray) (w : World) (hT : T.size ≤ 1000000) (b : Bool) (hb : b = true ↔ endsCR T) : Calls Try.prog 40 #[.string T, .string ⟨#[13]⟩] w fun e w' => e = .returned (.bool b) ∧ w' = w := by
  by_cases h1 : 1 ≤ T.size
  · have c1 : (1 : Int) ≤ (T.size : Int) := by omega
    have c2 : (0 : Int) ≤ (T.size : Int) - 1 := by omega
    have c3 : (T.size : Int) - 1 ≤ (T.size : Int) := by omega
    have c4 : IntKind.i64.wrap ((T.size : Int) - 1) = (T.size : Int) - 1 := IntWalk.i64_in _ (by omega)
    have c5 : ((T.size : Int) - 1).toNat = T.size - 1 := by omega
    by_cases h2 : ((T.extract (T.size - 1) T.size).toList == [13]) = true
    · have hbt : b = true := hb.2 ⟨h1, beq_iff_eq.1 h2⟩
      rw [hbt]
      clear hb hbt
      go_enter Try.func40, Try.ntmps40
      go_wp2_with (fail)
      go_ret
      exact ⟨rfl, rfl⟩
    · have hbt : b = false := by
        cases b with
        | false => rfl
        | true => exact absurd (beq_iff_eq.2 (hb.1 rfl).2) h2
      rw [hbt]
      clear hb hbt
      go_enter Try.func40, Try.ntmps40
      go_wp2_with (fail)
      go_ret
      exact ⟨rfl, rfl⟩
  · have hbt : b = false := by
      cases b with
      | false => rfl
      | true => exact absurd (hb.1 rfl).1 h1
    rw [hbt]
    have c1 : ¬ (1 : Int) ≤ (T.size : Int) := by omega
    clear hb hbt
    go_enter Try.func40, Try.ntmps40
    go_wp2_with (fail)
    go_ret
    exact ⟨rfl, rfl⟩
/-- What TrimSuffix gives. -/
def trimT (T : ByteArray) (b : Bool) : ByteArray := if b = true then T.extract 0 (T.size - 1) else T
set_option maxRecDepth 100000 in
set_option maxHeartbeats 4000000 in
theorem trim34_c (T : ByteArray) (w : World) (hT : T.size ≤ 1000000) (b : Bool) (hb : b = true ↔ endsCR T) : Calls Try.prog 34 #[.string T, .string ⟨#[13]⟩] w fun e w' => e = .returned (.string (trimT T b)) ∧ w' = w := by
  have HI := Aside0.mk (suffix_c T w hT b hb)
  cases b with
  | true =>
    have h1 := (hb.1 rfl).1
    have c1 : (1 : Int) ≤ (T.size : Int) := by omega
    have c2 : (0 : Int) ≤ (T.size : Int) - 1 := by omega
    have c3 : (T.size : Int) - 1 ≤ (T.size : Int) := by omega
    have c4 : IntKind.i64.wrap ((T.size : Int) - 1) = (T.size : Int) - 1 := IntWalk.i64_in _ (by omega)
    have c5 : ((T.size : Int) - 1).toNat = T.size - 1 := by omega
    have e : trimT T true = T.extract 0 (T.size - 1) := rfl
    rw [e]
    clear hb e
    go_enter Try.func34, Try.ntmps34
    go_wp2_with (refine HI.out.mono ?_)
    rintro _ w9 ⟨rfl, h9⟩
    rw [h9]
    clear h9 w9 HI
    go_wp2_with (fail)
    go_ret
    exact ⟨rfl, rfl⟩
  | false =>
    have e : trimT T false = T := rfl
    rw [e]
    clear hb e
    go_enter Try.func34, Try.ntmps34
    go_wp2_with (refine HI.out.mono ?_)
    rintro _ w9 ⟨rfl, h9⟩
    rw [h9]
    clear h9 w9 HI
    go_wp2_with (fail)
    go_ret
    exact ⟨rfl, rfl⟩
set_option maxRecDepth 100000 in
set_option maxHeartbeats 4000000 in
theorem trim_c (T : ByteArray) (w : World) (hT : T.size ≤ 1000000) (b : Bool) (hb : b = true ↔ endsCR T) : Calls Try.prog 17 #[.string T, .string ⟨#[13]⟩] w fun e w' => e = .returned (.string (trimT T b)) ∧ w' = w := by
  have HI := Aside0.mk (trim34_c T w hT b hb)
  go_enter Try.func17, Try.ntmps17
  go_wp2_with (refine HI.out.mono ?_)
  rintro _ w9 ⟨rfl, h9⟩
  rw [h9]
  clear h9 w9 HI
  go_wp2_with (fail)
  go_ret
  exact ⟨rfl, rfl⟩
/-- Where a line ends. -/
def isEnd (S : ByteArray) (n : Int) : Prop :=
  ((∀ k, 0 ≤ k → k < (S.size : Int) → bt S k ≠ 10) ∧ n = (S.size : Int)) ∨ ∃ i : Int, 0 ≤ i ∧ i < (S.size : Int) ∧ bt S i = 10 ∧ (∀ k, 0 ≤ k → k < i → bt S k ≠ 10) ∧ ((0 < i ∧ bt S (i - 1) = 13 ∧ n = i - 1) ∨ (¬ (0 < i ∧ bt S (i - 1) = 13) ∧ n = i))
theorem isEnd_uniq {S : ByteArray} {n m : Int} (h : isEnd S n) (h' : isEnd S m) : n = m := by
  rcases h with ⟨h1, h2⟩ | ⟨i, h1, h2, h3, h4, h5⟩
  · rcases h' with ⟨g1, g2⟩ | ⟨j, g1, g2, g3, g4, g5⟩
    · omega
    · exact absurd g3 (h1 j g1 g2)
  · rcases h' with ⟨g1, g2⟩ | ⟨j, g1, g2, g3, g4, g5⟩
    · exact absurd h3 (g1 i h1 h2)
    · have hij : i = j := by
        rcases Int.lt_trichotomy i j with h | h | h
        · exact absurd h3 (g4 i h1 h)
        · exact h
        · exact absurd g3 (h4 j g1 h)
      subst hij
      rcases h5 with ⟨a1, a2, a3⟩ | ⟨a1, a2⟩ <;> rcases g5 with ⟨b1, b2, b3⟩ | ⟨b1, b2⟩
      · omega
      · exact absurd ⟨a1, a2⟩ b1
      · exact absurd ⟨b1, b2⟩ a1
      · omega
/-- A line without its end. -/
structure LineT (S T : ByteArray) : Prop where
  le : T.size ≤ S.size
  b : ∀ k : Int, 0 ≤ k → k < (T.size : Int) → bt T k = bt S k
  e : isEnd S (T.size : Int)
theorem bt_extract (S : ByteArray) (n : Nat) (hn : n ≤ S.size) (k : Int) (h0 : 0 ≤ k) (h1 : k < (n : Int)) : bt (S.extract 0 n) k = bt S k := by
  have hz : (S.extract 0 n).size = n := by rw [ByteArray.size_extract]; omega
  unfold bt
  rw [dif_pos (by omega), dif_pos (by omega)]
  congr 2
  rw [ByteArray.getElem_extract]
  congr 1
  omega
theorem bt_data (S : ByteArray) (k : Nat) (h : k < S.size) : S.data.toList[k]? = some (UInt8.ofNat (bt S (k : Int)).toNat) := by
  have hb := bt_nat S k h
  rw [← hb]
  rw [List.getElem?_eq_getElem (by simpa using h)]
  simp
  rfl
theorem line_none {S : ByteArray} (h : Lib.indexByte S.data.toList 10 = -1) : LineT S S :=
  ⟨Nat.le_refl _, fun _ _ _ => rfl, .inl ⟨fun k h0 h1 => by
    obtain ⟨j, rfl⟩ : ∃ j : Nat, k = j := ⟨k.toNat, by omega⟩
    intro h10
    have := Lib.indexByte_none h j
    rw [bt_data S j (by omega), h10] at this
    exact this rfl, rfl⟩⟩
theorem ends_iff {T : ByteArray} : endsCR T ↔ 0 < (T.size : Int) ∧ bt T ((T.size : Int) - 1) = 13 := by
  unfold endsCR
  by_cases h : 1 ≤ T.size
  · have hz : (T.extract (T.size - 1) T.size).size = 1 := by rw [ByteArray.size_extract]; omega
    have hb := bt_nat T (T.size - 1) (by omega)
    rw [show ((T.size : Int) - 1) = ((T.size - 1 : Nat) : Int) from by omega, ← hb]
    have hl : (T.extract (T.size - 1) T.size).toList = [T[T.size - 1]'(by omega)] := by
      rw [Lib.toList_data]
      apply List.ext_getElem?
      intro i
      match i with
      | 0 =>
        rw [List.getElem?_eq_getElem (by simpa using (by omega : 0 < (T.extract (T.size - 1) T.size).size))]
        simp
        rfl
      | i + 1 =>
        rw [List.getElem?_eq_none (by simpa using (by omega : (T.extract (T.size - 1) T.size).size ≤ i + 1))]
        simp
    rw [hl]
    constructor
    · rintro ⟨_, h2⟩
      injection h2 with h2
      refine ⟨by omega, ?_⟩
      rw [h2]
      rfl
    · rintro ⟨_, h2⟩
      refine ⟨h, ?_⟩
      congr 1
      apply UInt8.toNat_inj.1
      have : ((13 : UInt8).toNat : Int) = 13 := rfl
      omega
  · constructor
    · rintro ⟨h1, _⟩
      exact absurd h1 h
    · rintro ⟨h1, _⟩
      omega
theorem line_some {S : ByteArray} {i : Nat} (h : Lib.indexByte S.data.toList 10 = i) (hlt : i < S.size) {b : Bool} (hb : b = true ↔ endsCR (S.extract 0 i)) : LineT S (trimT (S.extract 0 i) b) := by
  have hz : (S.extract 0 i).size = i := by rw [ByteArray.size_extract]; omega
  have hs := Lib.indexByte_some h
  have h10 : bt S (i : Int) = 10 := by
    have h1 := hs.1
    rw [bt_data S i hlt] at h1
    injection h1 with h1
    have hb := bt_nat S i hlt
    rw [← hb] at h1 ⊢
    simp at h1
    rw [h1]
    rfl
  have hno : ∀ k : Int, 0 ≤ k → k < (i : Int) → bt S k ≠ 10 := fun k h0 h1 h2 => by
    obtain ⟨j, rfl⟩ : ∃ j : Nat, k = j := ⟨k.toNat, by omega⟩
    have := hs.2 j (by omega)
    rw [bt_data S j (by omega), h2] at this
    exact this rfl
  have hce : endsCR (S.extract 0 i) ↔ 0 < (i : Int) ∧ bt S ((i : Int) - 1) = 13 := by
    rw [ends_iff, hz]
    constructor
    · rintro ⟨h1, h2⟩
      exact ⟨h1, by rw [← bt_extract S i (by omega) _ (by omega) (by omega)]; exact h2⟩
    · rintro ⟨h1, h2⟩
      exact ⟨h1, by rw [bt_extract S i (by omega) _ (by omega) (by omega)]; exact h2⟩
  rw [hce] at hb
  cases b with
  | true =>
    obtain ⟨h1, h2⟩ := hb.1 rfl
    have e1 : trimT (S.extract 0 i) true = S.extract 0 (i - 1) := by
      unfold trimT
      rw [if_pos rfl, hz, ByteArray.extract_extract]
      congr 1
      omega
    have hz2 : (S.extract 0 (i - 1)).size = i - 1 := by rw [ByteArray.size_extract]; omega
    rw [e1]
    refine ⟨by omega, fun k k0 k1 => bt_extract S (i - 1) (by omega) k k0 (by omega), .inr ⟨i, by omega, by omega, h10, hno, .inl ⟨h1, h2, by omega⟩⟩⟩
  | false =>
    have e1 : trimT (S.extract 0 i) false = S.extract 0 i := rfl
    rw [e1]
    refine ⟨by omega, fun k k0 k1 => bt_extract S i (by omega) k k0 (by omega), .inr ⟨i, by omega, by omega, h10, hno, .inr ⟨fun h => Bool.false_ne_true (hb.2 h), by omega⟩⟩⟩
end Go.Proofs.Ytjfpkldknchnkaa.Me
