/- PytokenCovers: nothing of a line is lost: the printed law answers true for every line, mark and depth. -/
import Derived.Test.YtdknppomjcpihaaPPyx3
import Derived.Test.YtdknppomjcpihaaPureG
namespace Go.Proofs.Ytdknppomjcpihaa.Pure
open Go.RowKit Go.Proofs.Ytdknppomjcpihaa.PPy Go.Proofs.YtdknppomjcpihaaW.PrintWords Go.Proofs.YtdknppomjcpihaaW.PrintLast

theorem scan_if : pytoken_Scan.f (⟨#[105, 102, 32, 120, 40]⟩ : ByteArray) 0 0 0 = some ([⟨3, 13, 0, 2⟩, ⟨3, 13, 3, 4⟩, ⟨3, 17, 4, 5⟩], 0, 1, false, true, false) := by kernel_rfl
theorem reads_true : indenturelaw11_reads.f = some true := by
  unfold indenturelaw11_reads.f
  rw [scan_if]
  rfl
theorem end_same : ∀ (k : Nat) (s : ByteArray) (i : Int), indentureref11_End.l0 k s i = PPl.indentureref11_End.l0 k s i := by
  intro k
  induction k with
  | zero => intro s i; rfl
  | succ k ih =>
    intro s i
    simp only [indentureref11_End.l0, PPl.indentureref11_End.l0, ih]
theorem end_is (s : ByteArray) (hs : s.size ≤ 1000000) : indentureref11_End.f (s.size + 1) s = some (endOf s) := by
  have h := end_ref s hs
  unfold PPl.indentureref11_End.f at h
  unfold indentureref11_End.f
  rw [end_same, h]
theorem blank_is (c : Int) : indenturelaw11_blank.f c = some (blankB c) := by
  unfold indenturelaw11_blank.f blankB
  by_cases h1 : c = 32
  · simp [h1]
  · by_cases h2 : c = 9
    · simp [h2]
    · by_cases h3 : c = 12
      · simp [h3]
      · simp [h1, h2, h3]
        rw [Bool.eq_iff_iff]; simp
section
variable (s : ByteArray) (L : List S33) (en mk dp : Int) (jn an cl : Bool) (hh : s.size ≤ 20000 ∧ L.length ≤ 1000000 ∧ (0 ≤ en ∧ en ≤ (s.size : Int)) ∧ (0 ≤ mk ∧ mk ≤ 4) ∧ (0 ≤ dp ∧ dp ≤ 1048576) ∧ (cl = true → an = true ∧ dp = 0))
include hh

/-- The law's last line. -/
theorem cov_last (x9 : Int) : ∃ k, indenturelaw11_PytokenCovers.l0 k s en x9 ((L.length : Int) + 1) L mk dp jn an cl = some true := by
  obtain ⟨hs, hL, hen, hm, hd, hc⟩ := hh
  refine ⟨1, ?_⟩
  simp only [indenturelaw11_PytokenCovers.l0]
  rw [if_neg (by omega), if_pos hm.2, if_pos (show dp ≥ 0 from hd.1), if_pos hd.2, reads_true]
  cases cl with
  | true =>
    obtain ⟨h1, h2⟩ := hc rfl
    rw [if_pos rfl, if_pos h1, if_pos h2]; rfl
  | false => rw [if_neg (by decide)]; rfl
/-- The blanks ahead of a place. -/
theorem cov_blanks (x10 x12 : Int) (b : Int) (hb : b ≤ (s.size : Int)) (hi : ∃ k, indenturelaw11_PytokenCovers.l0 k s en x12 (wrap64 (x10 + 1)) L mk dp jn an cl = some true) :
    ∀ (n : Nat) (a : Int), 0 ≤ a → a ≤ b → b - a = n → (∀ i, a ≤ i → i < b → blankB (bt s i) = true) → ∃ k, indenturelaw11_PytokenCovers.l1 k s en x10 b x12 a L mk dp jn an cl = some true := by
  obtain ⟨hs, hL, hen, hm, hd, hc⟩ := hh
  intro n
  induction n with
  | zero =>
    intro a h0 h1 h2 _
    obtain ⟨k, hk⟩ := hi
    refine ⟨k + 1, ?_⟩
    simp only [indenturelaw11_PytokenCovers.l1]
    rw [if_neg (by omega)]
    exact hk
  | succ n ih =>
    intro a h0 h1 h2 hb2
    obtain ⟨k, hk⟩ := ih (a + 1) (by omega) (by omega) (by omega) (fun i hi hi2 => hb2 i (by omega) hi2)
    refine ⟨k + 1, ?_⟩
    simp only [indenturelaw11_PytokenCovers.l1]
    rw [if_pos (by omega), if_pos h0, if_pos (by omega), blank_is, hb2 a (Int.le_refl _) (by omega)]
    simp only [Option.bind_some, if_true]
    rw [w64 _ (by omega)]
    exact hk
theorem cov_loop : ∀ (l : List S33) (i : Nat) (a : Int), 0 ≤ a → L.drop i = l → i + l.length = L.length → CovF s a l en → ∃ k, indenturelaw11_PytokenCovers.l0 k s en a (i : Int) L mk dp jn an cl = some true := by
  have hh' := hh
  obtain ⟨hs, hL, hen, hm, hd, hc⟩ := hh
  intro l
  induction l with
  | nil =>
    intro i a h0 hd2 hl hcov
    obtain ⟨h1, h2⟩ := hcov
    have hlast := cov_last s L en mk dp jn an cl hh' en
    have hi : i = L.length := by simpa using hl
    obtain ⟨k, hk⟩ := cov_blanks s L en mk dp jn an cl hh' (i : Int) en en hen.2 (by rw [w64 _ (by omega), hi]; exact hlast) (en - a).toNat a h0 h1 (by omega) h2
    refine ⟨k + 2, ?_⟩
    simp only [indenturelaw11_PytokenCovers.l0, indenturelaw11_PytokenCovers.j1]
    rw [if_pos (by omega), if_neg (by omega)]
    exact hk
  | cons e l ih =>
    intro i a h0 hd2 hl hcov
    obtain ⟨g1, g2, g3, g4, g5, g6, g7⟩ := hcov
    have hlt : i < L.length := by simp at hl; omega
    have hge : L[i]? = some e := by
      rw [← List.head?_drop, hd2]; rfl
    have hrd : rd_T33 L (i : Int) = e := by
      unfold rd_T33
      rw [Int.toNat_natCast, List.getD_eq_getElem?_getD, hge]; rfl
    have hdr : L.drop (i + 1) = l := by
      rw [← List.drop_drop, hd2]; rfl
    have hnext := ih (i + 1) e.f3 (by omega) hdr (by simp at hl; omega) g7
    obtain ⟨k, hk⟩ := cov_blanks s L en mk dp jn an cl hh' (i : Int) e.f3 e.f2 (by omega) (by rw [show wrap64 ((i : Int) + 1) = ((i + 1 : Nat) : Int) from by rw [w64 _ (by omega)]; omega]; exact hnext) (e.f2 - a).toNat a h0 g2 (by omega) g6
    have hle : e.f3 ≤ en := by
      have : ∀ (l : List S33) (a : Int), CovF s a l en → a ≤ en := by
        intro l
        induction l with
        | nil => intro a h; exact h.1
        | cons e l ih => rintro a ⟨_, q2, q3, _, _, _, q7⟩; have := ih _ q7; omega
      exact this _ _ g7
    refine ⟨k + 2, ?_⟩
    simp only [indenturelaw11_PytokenCovers.l0, indenturelaw11_PytokenCovers.j1]
    rw [if_pos (by omega), if_pos (by omega), if_pos (by omega), hrd, if_pos g1, if_neg (by omega), if_neg (by omega), if_neg (by omega)]
    by_cases h2 : e.f1 = 2
    · rw [if_pos h2]; exact hk
    · rw [if_neg h2]
      unfold PPy.kindOk at g5
      rw [if_neg (by omega), if_neg (by omega)]
      exact hk
end

theorem CovF_line (line s : ByteArray) (hb : ∀ i : Int, 0 ≤ i → i < (s.size : Int) → bt s i = bt line i) (hz : s.size ≤ line.size) : ∀ (l : List S33) (a b : Int), 0 ≤ a → b ≤ (s.size : Int) → CovF s a l b → CovF line a l b := by
  intro l
  induction l with
  | nil => rintro a b h0 h1 ⟨g1, g2⟩; exact ⟨g1, fun i hi hi2 => by rw [← hb i (by omega) (by omega)]; exact g2 i hi hi2⟩
  | cons e l ih =>
    rintro a b h0 h1 ⟨g1, g2, g3, g4, g5, g6, g7⟩
    exact ⟨g1, g2, g3, by omega, g5, fun i hi hi2 => by rw [← hb i (by omega) (by omega)]; exact g6 i hi hi2, ih _ _ (by omega) h1 g7⟩

theorem PytokenCovers : indenturelaw11_PytokenCovers.Pure := by
  intro a0 a1 a2 _ h1 _
  have hm : 0 ≤ a1 ∧ a1 ≤ 255 := by simpa [Lit.wf, IntKind.min, IntKind.max, IntKind.signed, IntKind.bits] using h1
  unfold indenturelaw11_PytokenCovers.f
  by_cases hl : (a0.size : Int) > 20000
  · exact ⟨0, by rw [if_pos hl]⟩
  · obtain ⟨r, hr⟩ : ∃ r, scanM a0 0 a1 a2 = r := ⟨_, rfl⟩
    obtain ⟨g1, g2, g3, g4⟩ := covers a0 a1 a2 (by omega) hm.1 r hr
    have hbd := endOf_bd a0
    have hlen := lineOf_len a0
    have hbt : ∀ i : Int, 0 ≤ i → i < ((lineOf a0).size : Int) → bt (lineOf a0) i = bt a0 i := by
      intro i h0 h1
      rw [lineOf_end]
      unfold bt
      have hz : (a0.extract 0 (endOf a0).toNat).size = (endOf a0).toNat := by rw [ByteArray.size_extract]; omega
      rw [dif_pos (by omega), dif_pos (by omega), ByteArray.getElem_extract]
      simp
    have hcov := CovF_line a0 (lineOf a0) hbt (lineOf_size a0) r.ev 0 (endOf a0) (Int.le_refl _) (by omega) g1
    have hevl : r.ev.length ≤ 1000000 := by
      have : ∀ (l : List S33) (a b : Int), CovF a0 a l b → (l.length : Int) ≤ b - a := by
        intro l
        induction l with
        | nil => rintro a b ⟨q, _⟩; simp; omega
        | cons e l ih => rintro a b ⟨_, q2, q3, _, _, _, q7⟩; have := ih _ _ q7; simp; omega
      have := this _ _ _ hcov
      omega
    obtain ⟨k, hk⟩ := cov_loop a0 r.ev (endOf a0) r.mark r.depth r.join r.any r.colon ⟨by omega, hevl, hbd, g2, g3, g4⟩ r.ev 0 0 (Int.le_refl _) rfl (by simp) hcov
    obtain ⟨K, h3, h4⟩ := together (g := fun k => indentureref11_End.f k a0) (f := fun k => indenturelaw11_PytokenCovers.l0 k a0 (endOf a0) 0 0 r.ev r.mark r.depth r.join r.any r.colon) (fun k => indentureref11_End.mono a0 k) (fun k => (indenturelaw11_PytokenCovers.mono_l k).1 _ _ _ _ _ _ _ _ _ _) ⟨_, end_is a0 (by omega)⟩ ⟨k, hk⟩
    refine ⟨K, ?_⟩
    rw [if_neg hl, pytoken_Scan.is a0 0 a1 a2 (by omega) hm.1 hm.2 r hr]
    simp only [Option.bind_some]
    rw [h3]
    simp only [Option.bind_some]
    exact h4

end Go.Proofs.Ytdknppomjcpihaa.Pure
