/- What the document's End tells: where lineOf ends. No Go in it. -/
import Derived.Test.YtdknppomjcpihaaPureB
import Derived.Lib.IndexLaws
import Derived.Lib.Bytealg
namespace Go.Proofs.Ytdknppomjcpihaa.PPy
open Go.RowKit Go.Proofs.YtdknppomjcpihaaW.PrintWords Go.Proofs.YtdknppomjcpihaaW.PrintLast Go.Proofs.YtdknppomjcpihaaW.PrintMore

def ixOf (line : ByteArray) : Int := Lib.indexByte line.data.toList 10
def endOf (line : ByteArray) : Int := if 0 ≤ ixOf line then (if 1 ≤ ixOf line ∧ bt line (ixOf line - 1) = 13 then ixOf line - 1 else ixOf line) else (line.size : Int)

theorem get_bt (s : ByteArray) (k : Nat) (c : UInt8) : s.data.toList[k]? = some c ↔ k < s.size ∧ bt s (k : Int) = (c.toNat : Int) := by
  have hl : s.data.toList.length = s.size := Array.length_toList
  unfold bt
  constructor
  · intro h
    obtain ⟨h1, h2⟩ := List.getElem?_eq_some_iff.1 h
    refine ⟨by omega, ?_⟩
    rw [dif_pos (show (k : Int).toNat < s.size by rw [Int.toNat_natCast]; omega)]
    have : s[k]'(by omega) = c := by rw [← h2]; rfl
    simp [this]
  · rintro ⟨h1, h2⟩
    rw [dif_pos (show (k : Int).toNat < s.size by rw [Int.toNat_natCast]; omega)] at h2
    have e' : ((s[k]'h1).toNat : Int) = (c.toNat : Int) := by simpa using h2
    have e2 : (s[k]'h1).toNat = c.toNat := by omega
    have e3 := UInt8.toNat_inj.mp e2
    rw [List.getElem?_eq_some_iff]
    exact ⟨by omega, e3⟩
theorem ix_cases (s : ByteArray) : (ixOf s = -1 ∧ ∀ k : Nat, k < s.size → bt s (k : Int) ≠ 10) ∨ (∃ o : Nat, ixOf s = o ∧ o < s.size ∧ bt s (o : Int) = 10 ∧ ∀ k : Nat, k < o → bt s (k : Int) ≠ 10) := by
  have hge := Lib.indexByte_ge s.data.toList 10
  by_cases h : ixOf s = -1
  · refine .inl ⟨h, fun k hk e => Lib.indexByte_none h k ((get_bt s k 10).mpr ⟨hk, e⟩)⟩
  · obtain ⟨o, ho⟩ : ∃ o : Nat, ixOf s = o := ⟨(ixOf s).toNat, by unfold ixOf at h ⊢; omega⟩
    obtain ⟨h1, h2⟩ := Lib.indexByte_some (l := s.data.toList) (c := 10) (o := o) ho
    obtain ⟨h3, h4⟩ := (get_bt s o 10).mp h1
    exact .inr ⟨o, ho, h3, h4, fun k hk e => h2 k hk ((get_bt s k 10).mpr ⟨by omega, e⟩)⟩
theorem end_loop (s : ByteArray) (hs : s.size ≤ 1000000) : ∀ (n : Nat) (i : Int), 0 ≤ i → i ≤ (s.size : Int) → (∀ k : Nat, (k : Int) < i → bt s (k : Int) ≠ 10) → (s.size : Int) - i ≤ n → PPl.indentureref11_End.l0 (n + 1) s i = some (endOf s) := by
  have hstep : ∀ i : Int, 0 ≤ i → i < (s.size : Int) → (∀ k : Nat, (k : Int) < i → bt s (k : Int) ≠ 10) → bt s i = 10 → ixOf s = i := by
    intro i h0 h1 h2 h3
    obtain ⟨j, rfl⟩ : ∃ j : Nat, i = j := ⟨i.toNat, by omega⟩
    rcases ix_cases s with ⟨_, h⟩ | ⟨o, ho, h4, h5, h6⟩
    · exact absurd h3 (h j (by omega))
    · rw [ho]
      by_cases c1 : o < j
      · exact absurd h5 (h2 o (by omega))
      · by_cases c2 : j < o
        · exact absurd h3 (h6 j c2)
        · omega
  have hend : (∀ k : Nat, (k : Int) < (s.size : Int) → bt s (k : Int) ≠ 10) → ixOf s = -1 := by
    intro h
    rcases ix_cases s with ⟨h1, _⟩ | ⟨o, ho, h4, h5, h6⟩
    · exact h1
    · exact absurd h5 (h o (by omega))
  intro n
  induction n with
  | zero =>
    intro i h0 h1 h2 h3
    rw [PPl.indentureref11_End.l0]
    have : i = (s.size : Int) := by omega
    subst this
    rw [if_neg (by omega)]
    unfold endOf
    rw [hend h2, if_neg (by omega)]
  | succ n ih =>
    intro i h0 h1 h2 h3
    rw [PPl.indentureref11_End.l0]
    by_cases c1 : i < (s.size : Int)
    · rw [if_pos c1, if_pos h0]
      by_cases c2 : bt s i = 10
      · rw [if_pos c2, w64 _ (by omega)]
        have hi := hstep i h0 c1 h2 c2
        unfold endOf
        rw [hi, if_pos h0]
        by_cases c3 : i > 0
        · rw [if_pos c3, if_pos (show 0 ≤ i - 1 by omega), if_pos (show i - 1 < (s.size : Int) by omega)]
          by_cases c4 : bt s (i - 1) = 13
          · rw [if_pos c4, if_pos ⟨by omega, c4⟩]
          · rw [if_neg c4, if_neg (fun h => c4 h.2)]
        · rw [if_neg c3, if_neg (fun h => c3 (by omega))]
      · rw [if_neg c2, w64 _ (by omega)]
        refine ih (i + 1) (by omega) (by omega) (fun k hk => ?_) (by omega)
        by_cases e : (k : Int) < i
        · exact h2 k e
        · have : (k : Int) = i := by omega
          rw [this]; exact c2
    · have : i = (s.size : Int) := by omega
      subst this
      rw [if_neg c1]
      unfold endOf
      rw [hend h2, if_neg (by omega)]
theorem end_ref (s : ByteArray) (hs : s.size ≤ 1000000) : PPl.indentureref11_End.f (s.size + 1) s = some (endOf s) := by
  unfold PPl.indentureref11_End.f
  exact end_loop s hs s.size 0 (by omega) (by omega) (fun k hk => by omega) (by omega)
theorem endOf_bd (s : ByteArray) : 0 ≤ endOf s ∧ endOf s ≤ (s.size : Int) := by
  unfold endOf
  rcases ix_cases s with ⟨h1, _⟩ | ⟨o, ho, h4, h5, h6⟩
  · rw [h1, if_neg (by omega)]; omega
  · rw [ho, if_pos (by omega)]; split <;> omega
theorem ext_pre (s : ByteArray) (a b n : Nat) (h : a + n ≤ b) (hb : b ≤ s.size) : (s.extract 0 b).extract a (a + n) = s.extract a (a + n) := by
  apply ByteArray.ext
  simp only [ByteArray.data_extract]
  rw [Array.extract_extract]
  congr 1 <;> omega
theorem lineOf_end (s : ByteArray) : lineOf s = s.extract 0 (endOf s).toNat := by
  unfold lineOf endOf
  rw [show Lib.indexByte s.data.toList 10 = ixOf s from rfl]
  rcases ix_cases s with ⟨h1, _⟩ | ⟨o, ho, h4, h5, h6⟩
  · rw [h1, if_neg (by omega), if_neg (by omega), Int.toNat_natCast]
    exact ByteArray.extract_zero_size.symm
  · rw [ho, if_pos (show (0 : Int) ≤ (o : Int) by omega), if_pos (show (0 : Int) ≤ (o : Int) by omega), Int.toNat_natCast]
    have hz : (s.extract 0 o).size = o := by rw [ByteArray.size_extract]; omega
    rw [hz]
    by_cases c1 : 1 ≤ o
    · have e1 : (s.extract 0 o).extract (o - 1) o = s.extract (o - 1) o := by
        have := ext_pre s (o - 1) o 1 (by omega) (by omega)
        rwa [show o - 1 + 1 = o by omega] at this
      have e2 : (s.extract 0 o).extract 0 (o - 1) = s.extract 0 (o - 1) := by
        have := ext_pre s 0 o (o - 1) (by omega) (by omega)
        rwa [Nat.zero_add] at this
      have e3 := one_list_bt s (o - 1) (by omega) 13
      rw [show o - 1 + 1 = o by omega, show (((o - 1 : Nat) : Int)) = (o : Int) - 1 by omega] at e3
      rw [e1, e2]
      by_cases c2 : bt s ((o : Int) - 1) = 13
      · rw [if_pos ⟨c1, e3.mpr c2⟩, if_pos ⟨by omega, c2⟩, show ((o : Int) - 1).toNat = o - 1 by omega]
      · rw [if_neg (fun h => c2 (e3.mp h.2)), if_neg (fun h => c2 h.2), Int.toNat_natCast]
    · rw [if_neg (fun h => c1 h.1), if_neg (fun h => c1 (by have := h.1; omega)), Int.toNat_natCast]

end Go.Proofs.Ytdknppomjcpihaa.PPy
