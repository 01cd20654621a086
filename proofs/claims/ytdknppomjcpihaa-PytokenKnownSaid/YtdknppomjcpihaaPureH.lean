/- Small words for the laws' pure sides: reads, SameEvents, End in the laws' own print; where leaves lie. -/
import Derived.Test.YtdknppomjcpihaaQa
import Derived.Test.YtdknppomjcpihaaPureG
namespace Go.Proofs.Ytdknppomjcpihaa.Pure
open Go.RowKit Go.Proofs.Ytdknppomjcpihaa.PPy Go.Proofs.YtdknppomjcpihaaW.PrintWords Go.Proofs.YtdknppomjcpihaaW.PrintLast

theorem scan_if : pytoken_Scan.f (⟨#[105, 102, 32, 120, 40]⟩ : ByteArray) 0 0 0 = some ([⟨3, 13, 0, 2⟩, ⟨3, 13, 3, 4⟩, ⟨3, 17, 4, 5⟩], 0, 1, false, true, false) := by kernel_rfl
theorem reads_true : indenturelaw11_reads.f = some true := by
  unfold indenturelaw11_reads.f
  rw [scan_if]
  rfl
theorem end_same : ∀ (k : Nat) (s : ByteArray) (i : Int), indentureref11_End.l0 k s i = PPl.indentureref11_End.l0 k s i := by
  intro k
  induction k with
  | zero => intro s i; rfl
  | succ k ih =>
    intro s i
    simp only [indentureref11_End.l0, PPl.indentureref11_End.l0, ih]
theorem end_is (s : ByteArray) (hs : s.size ≤ 1000000) : indentureref11_End.f (s.size + 1) s = some (endOf s) := by
  have h := end_ref s hs
  unfold PPl.indentureref11_End.f at h
  unfold indentureref11_End.f
  rw [end_same, h]
theorem u8_of (a : Int) (h : (Lit.int .u8 a).wf = true) : 0 ≤ a ∧ a ≤ 255 := by simpa [Lit.wf, IntKind.min, IntKind.max, IntKind.signed, IntKind.bits] using h
theorem i64_of (a : Int) (h : (Lit.int .i64 a).wf = true) : -9223372036854775808 ≤ a ∧ a ≤ 9223372036854775807 := by simpa [Lit.wf, IntKind.min, IntKind.max, IntKind.signed, IntKind.bits] using h
theorem same_loop (L : List S33) (hL : L.length ≤ 1000000000) : ∀ (n i : Nat), i + n = L.length → indentureref11_SameEvents.l0 (n + 1) L L (i : Int) = some true := by
  intro n
  induction n with
  | zero =>
    intro i hi
    simp only [indentureref11_SameEvents.l0]
    rw [if_neg (by omega)]
  | succ n ih =>
    intro i hi
    rw [indentureref11_SameEvents.l0]
    rw [if_pos (by omega), if_pos (by omega), if_pos (by omega)]
    simp only [beq_self_eq_true, Bool.not_true, Bool.or_false]
    rw [if_neg (by decide), show wrap64 ((i : Int) + 1) = ((i + 1 : Nat) : Int) from by rw [w64 _ (by omega)]; omega]
    exact ih (i + 1) (by omega)
theorem same_is (L : List S33) (hL : L.length ≤ 1000000000) : ∃ k, indentureref11_SameEvents.f k L L = some true := by
  refine ⟨L.length + 1, ?_⟩
  unfold indentureref11_SameEvents.f
  rw [if_pos rfl]
  exact same_loop L hL L.length 0 (by omega)
/-- Where leaves lie. -/
theorem CovF.mem {s : ByteArray} {b : Int} : ∀ {l : List S33} {a : Int}, CovF s a l b → 0 ≤ a → ∀ e ∈ l, 0 ≤ e.f2 ∧ e.f2 < e.f3 ∧ e.f3 ≤ (s.size : Int) := by
  intro l
  induction l with
  | nil => intro a _ _ e he; simp at he
  | cons x l ih =>
    rintro a ⟨g1, g2, g3, g4, g5, g6, g7⟩ h0 e he
    rcases List.mem_cons.mp he with rfl | he
    · exact ⟨by omega, g3, g4⟩
    · exact ih g7 (by omega) e he
theorem CovF.len {s : ByteArray} : ∀ {l : List S33} {a b : Int}, CovF s a l b → (l.length : Int) ≤ b - a := by
  intro l
  induction l with
  | nil => rintro a b ⟨q, _⟩; simp; omega
  | cons e l ih => rintro a b ⟨_, q2, q3, _, _, _, q7⟩; have := ih q7; simp; omega
theorem rd_mem (L : List S33) (i : Nat) (h : i < L.length) : rd_T33 L (i : Int) ∈ L := by
  unfold rd_T33
  rw [Int.toNat_natCast, List.getD_eq_getElem?_getD, List.getElem?_eq_getElem h]
  exact List.getElem_mem h
theorem rd_map (L : List S33) (k : Int) (i : Nat) (h : i < L.length) : rd_T33 (L.map (shE k)) (i : Int) = shE k (rd_T33 L (i : Int)) := by
  unfold rd_T33
  rw [Int.toNat_natCast, List.getD_eq_getElem?_getD, List.getD_eq_getElem?_getD, List.getElem?_map, List.getElem?_eq_getElem h]
  rfl

end Go.Proofs.Ytdknppomjcpihaa.Pure
