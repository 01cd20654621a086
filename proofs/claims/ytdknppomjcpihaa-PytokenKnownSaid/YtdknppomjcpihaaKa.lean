/- PytokenKnown: plain facts. -/
import Derived.Test.YtdknppomjcpihaaScanC
import Derived.Test.YtdknppomjcpihaaPureH
namespace Go.Proofs.Ytdknppomjcpihaa.PPy
open Go.RowKit Go.Proofs.YtdknppomjcpihaaW.PrintWords Go.Proofs.YtdknppomjcpihaaW.PrintLast Go.Proofs.YtdknppomjcpihaaW.PrintMore
attribute [local go_sem high] eqA33
attribute [local go_sem] max2_int min2_int max_two min_two max_three min_three max_four min_four
set_option linter.unusedVariables false
set_option linter.unusedSimpArgs false
structure KRow where
  s : ByteArray
  ma : Int
  ks : List Int
  zs : List Int
  op : Int
  dp : Int
/-- The rows. -/
def tab : List KRow := [⟨⟨#[120, 32, 61, 32, 102, 40, 34, 97, 32, 98, 34, 44, 32, 49, 46, 53, 101, 45, 51, 41, 32, 35, 32, 99]⟩, 0, [13, 17, 13, 17, 15, 17, 14, 17, 18], [1, 1, 1, 1, 5, 1, 6, 1, 3], 0, 0⟩, ⟨⟨#[114, 39, 39, 39, 120, 10]⟩, 0, [16], [5], 1, 0⟩, ⟨⟨#[121, 39, 39, 39, 32, 43, 32, 49]⟩, 1, [16, 17, 14], [4, 1, 1], 0, 0⟩, ⟨⟨#[39, 97, 92, 10]⟩, 0, [16], [3], 3, 0⟩, ⟨⟨#[98, 39]⟩, 3, [16], [2], 0, 0⟩, ⟨⟨#[98]⟩, 4, [2], [1], 0, 0⟩, ⟨⟨#[39, 97]⟩, 0, [2], [2], 0, 0⟩, ⟨⟨#[41, 32, 92, 32, 120, 32, 92]⟩, 0, [2, 2, 13, 19], [1, 1, 1, 1], 0, 0⟩, ⟨⟨#[48, 120, 69, 43, 49]⟩, 0, [14, 17, 14], [3, 1, 1], 0, 0⟩, ⟨⟨#[49, 101, 43, 53]⟩, 0, [14], [4], 0, 0⟩, ⟨⟨#[46, 46, 46]⟩, 0, [17], [3], 0, 0⟩, ⟨⟨#[46, 46, 53]⟩, 0, [17, 14], [1, 2], 0, 0⟩, ⟨⟨#[97, 33, 61, 98, 33]⟩, 0, [13, 17, 13, 2], [1, 2, 1, 1], 0, 0⟩, ⟨⟨#[34, 34, 34, 97, 92, 34, 34, 34, 98, 34, 34, 34]⟩, 0, [15], [12], 0, 0⟩, ⟨⟨#[39, 39, 10]⟩, 0, [15], [2], 0, 0⟩, ⟨⟨#[39, 39, 39, 39]⟩, 0, [16], [4], 1, 0⟩, ⟨⟨#[39, 39, 39, 92, 13, 10]⟩, 0, [16], [4], 1, 0⟩, ⟨⟨#[98, 117, 39, 120, 39]⟩, 0, [13, 15], [2, 3], 0, 0⟩, ⟨⟨#[255, 95, 57, 0]⟩, 0, [13, 2], [3, 1], 0, 0⟩, ⟨⟨#[123, 91, 40, 13, 10, 41]⟩, 0, [17, 17, 17], [1, 1, 1], 0, 3⟩, ⟨⟨#[12, 9, 32, 10]⟩, 2, [16], [3], 2, 0⟩, ⟨ByteArray.empty, 2, [], [], 2, 0⟩, ⟨⟨#[120, 13, 121, 92, 13, 10]⟩, 0, [13, 13, 19], [1, 1, 1], 0, 0⟩, ⟨⟨#[97]⟩, 9, [13], [1], 0, 0⟩]
def rowOk (r : KRow) : Bool := match pytoken_Scan.f r.s (-3) r.ma 0 with
  | some (ev, m, d, _, _, _) => decide (ev.map (fun x : S33 => x.f1) = r.ks) && decide (ev.map (fun x : S33 => x.f3 - x.f2) = r.zs) && decide (m = r.op) && decide (d = r.dp) && decide (ev.length ≤ 100) && r.zs.all (fun z => decide (0 ≤ z) && decide (z ≤ 100))
  | none => false
theorem tab_ok : tab.all rowOk = true := by decide +kernel
/-- What Scan tells of a row. -/
def KTold (r : KRow) (ev : List S33) : Prop := ev.length = r.ks.length ∧ ev.length = r.zs.length ∧ ev.length ≤ 100 ∧ ∀ j, j < ev.length → r.ks[j]? = some (rd_T33 ev (j : Int)).f1 ∧ r.zs[j]? = some ((rd_T33 ev (j : Int)).f3 - (rd_T33 ev (j : Int)).f2) ∧ 0 ≤ (rd_T33 ev (j : Int)).f3 - (rd_T33 ev (j : Int)).f2 ∧ (rd_T33 ev (j : Int)).f3 - (rd_T33 ev (j : Int)).f2 ≤ 100
theorem tab_is {k : Nat} {r : KRow} (h : tab[k]? = some r) : ∃ ev a b c, pytoken_Scan.f r.s (-3) r.ma 0 = some (ev, r.op, r.dp, a, b, c) ∧ KTold r ev := by
  have h1 := List.all_eq_true.1 tab_ok r (List.mem_of_getElem? h)
  unfold rowOk at h1
  split at h1
  · rename_i ev m d a b c hs
    simp only [Bool.and_eq_true, decide_eq_true_eq] at h1
    obtain ⟨⟨⟨⟨⟨h2, h3⟩, h4⟩, h5⟩, h6⟩, h7⟩ := h1
    refine ⟨ev, a, b, c, by rw [hs, h4, h5], ?_, ?_, h6, fun j hj => ?_⟩
    · rw [← h2, List.length_map]
    · rw [← h3, List.length_map]
    · have hr : rd_T33 ev (j : Int) = ev[j] := by
        unfold rd_T33
        rw [Int.toNat_natCast, List.getD_eq_getElem?_getD, List.getElem?_eq_getElem hj]
        rfl
      rw [hr]
      have hz : r.zs[j]? = some (ev[j].f3 - ev[j].f2) := by rw [← h3, List.getElem?_map, List.getElem?_eq_getElem hj]; rfl
      have hb := List.all_eq_true.1 h7 _ (List.mem_of_getElem? hz)
      simp only [Bool.and_eq_true, decide_eq_true_eq] at hb
      exact ⟨by rw [← h2, List.getElem?_map, List.getElem?_eq_getElem hj]; rfl, hz, hb.1, hb.2⟩
  · exact absurd h1 (by decide)
def opsT : List ByteArray := [⟨#[42, 42, 61]⟩, ⟨#[47, 47, 61]⟩, ⟨#[62, 62, 61]⟩, ⟨#[60, 60, 61]⟩, ⟨#[46, 46, 46]⟩, ⟨#[42, 42]⟩, ⟨#[47, 47]⟩, ⟨#[62, 62]⟩, ⟨#[60, 60]⟩, ⟨#[60, 61]⟩, ⟨#[62, 61]⟩, ⟨#[61, 61]⟩, ⟨#[33, 61]⟩, ⟨#[45, 62]⟩, ⟨#[43, 61]⟩, ⟨#[45, 61]⟩, ⟨#[42, 61]⟩, ⟨#[47, 61]⟩, ⟨#[37, 61]⟩, ⟨#[38, 61]⟩, ⟨#[124, 61]⟩, ⟨#[94, 61]⟩, ⟨#[64, 61]⟩, ⟨#[58, 61]⟩, ⟨#[43]⟩, ⟨#[45]⟩, ⟨#[42]⟩, ⟨#[47]⟩, ⟨#[37]⟩, ⟨#[64]⟩, ⟨#[38]⟩, ⟨#[124]⟩, ⟨#[94]⟩, ⟨#[126]⟩, ⟨#[60]⟩, ⟨#[62]⟩, ⟨#[40]⟩, ⟨#[41]⟩, ⟨#[91]⟩, ⟨#[93]⟩, ⟨#[123]⟩, ⟨#[125]⟩, ⟨#[44]⟩, ⟨#[58]⟩, ⟨#[46]⟩, ⟨#[59]⟩, ⟨#[61]⟩]
def opOk (s : ByteArray) : Bool := match pytoken_Scan.f (s ++ ⟨#[32, 120]⟩) 0 0 1 with
  | some (ev, _, _, _, _, _) => decide (ev.length = 2) && decide ((rd_T33 ev 0).f1 = 17) && decide ((rd_T33 ev 0).f3 = (s.size : Int)) && decide (s.size ≤ 10)
  | none => false
theorem ops_ok : opsT.all opOk = true := by decide +kernel
theorem ops_is {k : Nat} {s : ByteArray} (h : opsT[k]? = some s) : ∃ ev m d a b c, pytoken_Scan.f (s ++ ⟨#[32, 120]⟩) 0 0 1 = some (ev, m, d, a, b, c) ∧ ev.length = 2 ∧ (rd_T33 ev 0).f1 = 17 ∧ (rd_T33 ev 0).f3 = (s.size : Int) ∧ s.size ≤ 10 := by
  have h1 := List.all_eq_true.1 ops_ok s (List.mem_of_getElem? h)
  unfold opOk at h1
  split at h1
  · rename_i ev m d a b c hs
    simp only [Bool.and_eq_true, decide_eq_true_eq] at h1
    exact ⟨ev, m, d, a, b, c, hs, h1.1.1.1, h1.1.1.2, h1.1.2, h1.2⟩
  · exact absurd h1 (by decide)
def headsT : List ByteArray := [⟨#[114]⟩, ⟨#[82]⟩, ⟨#[117]⟩, ⟨#[98]⟩, ⟨#[102]⟩, ⟨#[98, 82]⟩, ⟨#[82, 98]⟩, ⟨#[70, 82]⟩, ⟨#[114, 102]⟩]
def headOk (s : ByteArray) : Bool := match pytoken_Scan.f (s ++ ⟨#[39, 120, 39]⟩) 0 0 0 with
  | some (ev, _, _, _, _, _) => decide (ev.length = 1) && decide ((rd_T33 ev 0).f1 = 15) && decide (s.size ≤ 10)
  | none => false
theorem heads_ok : headsT.all headOk = true := by decide +kernel
theorem heads_is {k : Nat} {s : ByteArray} (h : headsT[k]? = some s) : ∃ ev m d a b c, pytoken_Scan.f (s ++ ⟨#[39, 120, 39]⟩) 0 0 0 = some (ev, m, d, a, b, c) ∧ ev.length = 1 ∧ (rd_T33 ev 0).f1 = 15 ∧ s.size ≤ 10 := by
  have h1 := List.all_eq_true.1 heads_ok s (List.mem_of_getElem? h)
  unfold headOk at h1
  split at h1
  · rename_i ev m d a b c hs
    simp only [Bool.and_eq_true, decide_eq_true_eq] at h1
    exact ⟨ev, m, d, a, b, c, hs, h1.1.1, h1.1.2, h1.2⟩
  · exact absurd h1 (by decide)
theorem six0 : pytoken_Scan.f ⟨#[105, 102, 32, 97, 58, 32, 35, 32, 120]⟩ 0 0 0 = some ([⟨3, 13, 0, 2⟩, ⟨3, 13, 3, 4⟩, ⟨3, 17, 4, 5⟩, ⟨3, 18, 6, 9⟩], 0, 0, false, true, true) := by kernel_rfl
theorem six1 : pytoken_Scan.f ⟨#[123, 97, 58]⟩ 0 0 0 = some ([⟨3, 17, 0, 1⟩, ⟨3, 13, 1, 2⟩, ⟨3, 17, 2, 3⟩], 0, 1, false, true, false) := by kernel_rfl
theorem six2 : pytoken_Scan.f ⟨#[35, 32, 120]⟩ 0 0 0 = some ([⟨3, 18, 0, 3⟩], 0, 0, false, false, false) := by kernel_rfl
theorem six3 : pytoken_Scan.f ⟨#[120, 58, 61]⟩ 0 0 (-5) = some ([⟨3, 13, 0, 1⟩, ⟨3, 17, 1, 3⟩], 0, 0, false, true, false) := by kernel_rfl
theorem six4 : pytoken_Scan.f ⟨#[40]⟩ 0 0 1048581 = some ([⟨3, 17, 0, 1⟩], 0, 1048576, false, true, false) := by kernel_rfl
theorem six5 : pytoken_Scan.f ⟨#[120]⟩ 5 3 2 = some ([], 3, 2, false, false, false) := by kernel_rfl
end Go.Proofs.Ytdknppomjcpihaa.PPy
