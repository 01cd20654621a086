/- What TabWhole's calls come to, as plain facts: a line of at most 65536 bytes, a place in it, a column from 0 to 2^40, a size from 1 to 64, from 0 to 2^30 columns wanted. -/
import Derived.Test.YtocmjfmojmpclaaPTabx2
import Derived.Test.YtocmjfmojmpclaaTab4
namespace Go.Proofs.Ytocmjfmojmpclaa.PTab
open Go.RowKit Go.Proofs.YtocmjfmojmpclaaW.PrintWords Go.Proofs.YtocmjfmojmpclaaW.PrintLast Go.Proofs.YtocmjfmojmpclaaW.PrintMore

theorem indent_val {s : ByteArray} {a c z : Int} (hs : s.size ≤ 65536) (h1 : 0 ≤ a) (h2 : a ≤ (s.size : Int)) (h3 : 0 ≤ c) (h4 : c ≤ 1099511627776) (h5 : 1 ≤ z) (h6 : z ≤ 64) :
    tab_Indent.f s a c z = some (tab_over.go (s.size - a.toNat) s a c (-1) (wrap64 (c + -1)) z) := by
  unfold tab_Indent.f tab_over.f
  rw [if_pos (show s.size ≤ 140737488351232 by omega), if_pos (show tab_over.may s a c z = true by simp [tab_over.may, h1, h2, h3, h4, h5, h6])]
  rfl
theorem take_val {s : ByteArray} {a c n z : Int} (hs : s.size ≤ 65536) (h1 : 0 ≤ a) (h2 : a ≤ (s.size : Int)) (h3 : 0 ≤ c) (h4 : c ≤ 1099511627776) (h5 : 1 ≤ z) (h6 : z ≤ 64) (h7 : 0 ≤ n) (h8 : n ≤ 1099511627776) :
    tab_Take.f s a c n z = some (tab_over.go (s.size - a.toNat) s a c n (c + n) z) := by
  unfold tab_Take.f tab_over.f
  have e : mx 0 (mn 1099511627776 n) = n := by unfold mx mn; (repeat' split) <;> omega
  have e2 : wrap64 (c + n) = c + n := by unfold wrap64; omega
  rw [if_pos (show s.size ≤ 140737488351232 by omega), if_pos (show tab_over.may s a c z = true by simp [tab_over.may, h1, h2, h3, h4, h5, h6]), e, e2]
  rfl

theorem whole_facts (s : ByteArray) (a c n z : Int) (hs : s.size ≤ 65536) (h1 : 0 ≤ a) (h2 : a ≤ (s.size : Int)) (h3 : 0 ≤ c) (h4 : c ≤ 1099511627776) (h5 : 1 ≤ z) (h6 : z ≤ 64) (h7 : 0 ≤ n) (h8 : n ≤ 1073741824) :
    ∃ e l m k : Int, tab_Indent.f s a c z = some (e, l) ∧ tab_Take.f s a c n z = some (m, k) ∧ tab_Take.f s a c 1099511627776 z = some (e, l) ∧
      a ≤ m ∧ m ≤ e ∧ e ≤ (s.size : Int) ∧ c ≤ k ∧ k ≤ c + n ∧ k ≤ l ∧ l ≤ 2199023255552 ∧
      (k ≤ 1099511627776 → tab_Indent.f s m k z = some (e, l)) ∧
      (m < e → ∃ x y : Int, tab_Take.f s m (mn k 1099511627776) 1048576 z = some (x, y) ∧ m < x ∧ mn k 1099511627776 < y ∧ ((bt s m = 32 ∧ c + n ≤ k) ∨ (¬ bt s m = 32 ∧ bt s m = 9))) ∧
      (a < m → bt s (m - 1) = 9 → k % z = 0) ∧ (e = (s.size : Int) ∨ (e < (s.size : Int) ∧ ¬ bt s e = 32 ∧ ¬ bt s e = 9)) := by
  have hI := indent_val hs h1 h2 h3 h4 h5 h6
  have hT := take_val hs h1 h2 h3 h4 h5 h6 h7 (show n ≤ 1099511627776 by omega)
  have hA := take_val hs h1 h2 h3 h4 h5 h6 (show (0 : Int) ≤ 1099511627776 by omega) (show (1099511627776 : Int) ≤ 1099511627776 by omega)
  obtain ⟨d, hd⟩ : ∃ d, s.size - a.toNat = d := ⟨_, rfl⟩
  rw [hd] at hI hT hA
  rw [go_free s 1099511627776 (c + 1099511627776) (wrap64 (c + -1)) z h5 h6 d a c (by omega)] at hA
  have bE := go_bd s (-1) (wrap64 (c + -1)) z h5 h6 d a c
  have bM := go_bd s n (c + n) z h5 h6 d a c
  have cM := go_cut s n (c + n) (wrap64 (c + -1)) z d a c
  have sM := go_stop s n (c + n) (wrap64 (c + -1)) z d a c
  have tM := go_tab s n (c + n) z h5 h6 d a c
  have eE := go_end s (wrap64 (c + -1)) z d a c
  obtain ⟨⟨e, l⟩, hE⟩ : ∃ r, tab_over.go d s a c (-1) (wrap64 (c + -1)) z = r := ⟨_, rfl⟩
  obtain ⟨⟨m, k⟩, hM⟩ : ∃ r, tab_over.go d s a c n (c + n) z = r := ⟨_, rfl⟩
  rw [hE] at hI hA bE cM sM eE
  rw [hM] at hT bM cM sM tM
  obtain ⟨f, hf, hc⟩ := cM
  simp only at bE bM hf hc sM tM eE
  have bC := go_bd s (-1) (wrap64 (c + -1)) z h5 h6 f m k
  rw [hc] at bC
  simp only at bC
  have hkn := bM.2.2.2.2 h7 (by omega)
  obtain ⟨m1, m2, m3, m4, _⟩ := bM
  obtain ⟨e1, e2, e3, e4, _⟩ := bE
  obtain ⟨c1, c2, c3, c4, _⟩ := bC
  have S := Aside0.mk sM
  have E := Aside0.mk eE
  clear sM eE
  have hms : s.size - m.toNat = f := by clear tM; omega
  refine ⟨e, l, m, k, hI, hT, hA, m1, c1, by clear tM; omega, m3, hkn, c3, by clear tM; omega, ?_, ?_, tM, ?_⟩
  · intro hk
    clear S E tM
    have hi := indent_val hs (show 0 ≤ m by omega) (show m ≤ (s.size : Int) by omega) (show 0 ≤ k by omega) hk h5 h6
    rw [hms] at hi
    rw [hi]
    -- the bound plays no part
    rw [← hc]
    exact congrArg some (by
      have : ∀ (d : Nat) (a c m m' : Int), tab_over.go d s a c (-1) m z = tab_over.go d s a c (-1) m' z := by
        intro d
        induction d with
        | zero => intro a c m m'; rfl
        | succ d ih =>
          intro a c m m'
          simp only [tab_over.go]
          rw [if_neg (show ¬ (0 ≤ (-1 : Int) ∧ m < c + 1) by omega), if_neg (show ¬ (0 ≤ (-1 : Int) ∧ m' < c + 1) by omega), if_neg (show ¬ (0 ≤ (-1 : Int) ∧ m < c - c % z + z) by omega), if_neg (show ¬ (0 ≤ (-1 : Int) ∧ m' < c - c % z + z) by omega), ih (a + 1) (c + 1) m m', ih (a + 1) (c - c % z + z) m m']
      exact this _ _ _ _ _)
  · intro hlt
    have hb := S.out hlt
    clear S E tM
    have hmn : mn k 1099511627776 = k ∨ mn k 1099511627776 = 1099511627776 := by unfold mn; split <;> omega
    have hmn2 : 0 ≤ mn k 1099511627776 ∧ mn k 1099511627776 ≤ 1099511627776 := by unfold mn; split <;> omega
    obtain ⟨q, hq⟩ : ∃ q, mn k 1099511627776 = q := ⟨_, rfl⟩
    rw [hq] at hmn hmn2 ⊢
    have hv := take_val hs (show 0 ≤ m by omega) (show m ≤ (s.size : Int) by omega) hmn2.1 hmn2.2 h5 h6 (show (0 : Int) ≤ 1048576 by omega) (show (1048576 : Int) ≤ 1099511627776 by omega)
    obtain ⟨g, rfl⟩ : ∃ g, f = g + 1 := ⟨f - 1, by omega⟩
    rw [hms] at hv
    have hfst := go_first s 1048576 (q + 1048576) z h5 h6 g m q (by omega) (by omega)
    obtain ⟨⟨x, y⟩, hxy⟩ : ∃ r, tab_over.go (g + 1) s m q 1048576 (q + 1048576) z = r := ⟨_, rfl⟩
    rw [hxy] at hv hfst
    refine ⟨x, y, hv, hfst.1, hfst.2, ?_⟩
    rcases hb with ⟨hb, hb'⟩ | hb
    · exact .inl ⟨hb, by omega⟩
    · exact .inr hb
  · have eE := E.out
    clear S E tM
    rcases eE with h | h
    · exact .inl (by omega)
    · by_cases he : e = (s.size : Int)
      · exact .inl he
      · exact .inr ⟨by omega, h⟩

end Go.Proofs.Ytocmjfmojmpclaa.PTab
