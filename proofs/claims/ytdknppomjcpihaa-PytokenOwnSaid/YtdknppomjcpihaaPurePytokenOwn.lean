/- PytokenOwn: what is told is new memory each time, and from a place on the same is told as of the rest of the line: the printed law answers true for every line, place and mark. -/
import Derived.Test.YtdknppomjcpihaaPPyx6
import Derived.Test.YtdknppomjcpihaaPureH
namespace Go.Proofs.Ytdknppomjcpihaa.Pure
open Go.RowKit Go.Proofs.Ytdknppomjcpihaa.PPy Go.Proofs.YtdknppomjcpihaaW.PrintWords Go.Proofs.YtdknppomjcpihaaW.PrintLast

theorem scan_ok (line : ByteArray) (at_ mark depth : Int) (hz : line.size ≤ 1000000) (hm : 0 ≤ mark) : (scanM line at_ mark depth).Ok ∧ (scanM line at_ mark depth).s = lineOf line :=
  scanL_ok _ _ (Rd.Ok.init hz hm)
/-- From a place on: the rest's scan, moved. -/
theorem own_shift (line : ByteArray) (at_ mark : Int) (hz : line.size ≤ 3000) (hm : 0 ≤ mark) (r c : Rd) (hr : scanM line at_ mark 0 = r) (K : Nat) (hK : (K : Int) = max 0 (min at_ (endOf line)))
    (hc : scanM (line.extract K line.size) 0 mark 0 = c) : r.ev = c.ev.map (shE K) ∧ c.mark = r.mark ∧ c.depth = r.depth ∧ c.colon = r.colon := by
  have hbd := endOf_bd line
  have hlen := lineOf_len line
  have hKe : (K : Int) ≤ endOf line := by omega
  have hzt : (line.extract K line.size).size = line.size - K := size_tail _ _ (by omega)
  have htail := lineOf_tail line K hKe
  have hs2 : (lineOf (line.extract K line.size)).size = (lineOf line).size - K := by rw [htail, size_tail _ _ (by omega)]
  have hok : (Rd.init line at_ mark 0).Ok := Rd.Ok.init (by omega) hm
  have hok2 : (Rd.init (line.extract K line.size) 0 mark 0).Ok := Rd.Ok.init (by omega) hm
  have hcov := covers (line.extract K line.size) mark 0 (by omega) hm c hc
  by_cases h : at_ ≤ endOf line
  · have hsh : Sh K [] false false (Rd.init line at_ mark 0) (Rd.init (line.extract K line.size) 0 mark 0) := by
      refine ⟨?_, ?_, ?_, ?_, rfl, rfl, rfl, rfl, rfl, rfl⟩
      · show K ≤ (lineOf line).size; omega
      · exact htail
      · show (0 : Int) ≤ if (0 : Int) < 0 then 0 else 0; decide
      · show (if at_ < 0 then 0 else at_) = (if (0 : Int) < 0 then 0 else 0) + (K : Int); split <;> simp <;> omega
    have hf : scanL ((lineOf line).size + 1) (Rd.init (line.extract K line.size) 0 mark 0) = c := by
      rw [← hc]
      unfold scanM
      exact scanL_fuel _ _ _ hok2 (by show ((lineOf (line.extract K line.size)).size : Int) - 0 ≤ _; omega) (by show ((lineOf (line.extract K line.size)).size : Int) - 0 ≤ _; omega)
    have g := hsh.scan ((lineOf line).size + 1)
    rw [hf, show scanL ((lineOf line).size + 1) (Rd.init line at_ mark 0) = r from hr] at g
    refine ⟨by rw [g.ev]; rfl, g.mark.symm, g.depth.symm, ?_⟩
    rw [g.colon]
    cases ha : c.any with
    | true => rw [if_pos rfl]
    | false =>
      rw [if_neg (by decide)]
      cases hcc : c.colon with
      | false => rfl
      | true => have := (hcov.2.2.2 hcc).1; rw [ha] at this; exact absurd this (by decide)
  · have e1 : r = Rd.init line at_ mark 0 := by
      rw [← hr]
      exact scanL_end _ _ (by show ¬ (if at_ < 0 then 0 else at_) < ((lineOf line).size : Int); split <;> omega)
    have e2 : c = Rd.init (line.extract K line.size) 0 mark 0 := by
      rw [← hc]
      exact scanL_end _ _ (by show ¬ (if (0 : Int) < 0 then 0 else 0) < ((lineOf (line.extract K line.size)).size : Int); rw [if_neg (by decide)]; omega)
    rw [e1, e2]
    exact ⟨rfl, rfl, rfl, rfl⟩

section
variable (s : ByteArray) (at_ mark : Int) (hz : s.size ≤ 3000) (hm : 0 ≤ mark ∧ mark ≤ 255) (r : Rd) (hr : scanM s at_ mark 0 = r) (hl : r.ev.length ≤ 1000000)
include hz hm hr hl

theorem own_writes (b1 b2 : Int) (b3 b4 b5 : Bool) (c1 c2 : Int) (c3 c4 c5 : Bool) : ∀ (n i : Nat) (A : List S33), A.length ≤ 1000000 → i + n = A.length → ∃ k, indenturelaw11_PytokenOwn.l1 k s at_ mark (i : Int) A b1 b2 b3 b4 b5 r.ev c1 c2 c3 c4 c5 = some true := by
  intro n
  induction n with
  | zero =>
    intro i A hA hi
    obtain ⟨k, hk⟩ := same_is r.ev (by omega)
    refine ⟨k + 1, ?_⟩
    simp only [indenturelaw11_PytokenOwn.l1]
    rw [if_neg (by omega), pytoken_Scan.is s at_ mark 0 (by omega) hm.1 hm.2 r hr]
    simp only [Option.bind_some]
    rw [hk]
    simp only [Option.bind_some, if_true, reads_true]
  | succ n ih =>
    intro i A hA hi
    obtain ⟨k, hk⟩ := ih (i + 1) (A.set i ⟨(rd_T33 A (i : Int)).f0, 99, (rd_T33 A (i : Int)).f2, (rd_T33 A (i : Int)).f3⟩) (by rw [List.length_set]; exact hA) (by rw [List.length_set]; omega)
    refine ⟨k + 1, ?_⟩
    simp only [indenturelaw11_PytokenOwn.l1]
    rw [if_pos (by omega), if_pos (by omega), Int.toNat_natCast, show wrap64 ((i : Int) + 1) = ((i + 1 : Nat) : Int) from by rw [w64 _ (by omega)]; omega]
    exact hk
theorem own_loop (K : Nat) (c : Rd) (hK : (K : Int) ≤ 3000) (he : r.ev = c.ev.map (shE K)) (hcm : ∀ e ∈ c.ev, 0 ≤ e.f2 ∧ e.f2 < e.f3 ∧ e.f3 ≤ 3000) (b1 b2 : Int) (b3 b4 b5 : Bool) (c1 c2 : Int) (c3 c4 c5 : Bool) (d1 d2 : Int) (d3 d4 d5 : Bool) :
    ∀ (n i : Nat), i + n = r.ev.length → ∃ k, indenturelaw11_PytokenOwn.l0 k s at_ mark (K : Int) (i : Int) r.ev b1 b2 b3 b4 b5 r.ev c1 c2 c3 c4 c5 c.ev d1 d2 d3 d4 d5 = some true := by
  have hlen : r.ev.length = c.ev.length := by rw [he, List.length_map]
  intro n
  induction n with
  | zero =>
    intro i hi
    obtain ⟨k, hk⟩ := own_writes s at_ mark hz hm r hr hl b1 b2 b3 b4 b5 c1 c2 c3 c4 c5 r.ev.length 0 r.ev hl (by omega)
    refine ⟨k + 1, ?_⟩
    simp only [indenturelaw11_PytokenOwn.l0]
    rw [if_neg (by omega)]
    exact hk
  | succ n ih =>
    intro i hi
    obtain ⟨k, hk⟩ := ih (i + 1) (by omega)
    have hm2 := hcm _ (rd_mem c.ev i (by omega))
    have hrd : rd_T33 r.ev (i : Int) = shE K (rd_T33 c.ev (i : Int)) := by rw [he]; exact rd_map _ _ _ (by omega)
    refine ⟨k + 1, ?_⟩
    simp only [indenturelaw11_PytokenOwn.l0]
    rw [if_pos (by omega), if_pos (by omega), if_pos (by omega), hrd]
    generalize rd_T33 c.ev (i : Int) = e at hm2
    obtain ⟨f0, f1, f2, f3⟩ := e
    simp only [shE]
    simp only at hm2
    rw [w64 _ (by omega), w64 _ (by omega), if_pos rfl, if_pos rfl, if_pos trivial, show wrap64 ((i : Int) + 1) = ((i + 1 : Nat) : Int) from by rw [w64 _ (by omega)]; omega]
    exact hk
end

theorem mxmn (a e : Int) (h : 0 ≤ e) : mx 0 (mn a e) = max 0 (min a e) := by unfold mx mn; (repeat' split) <;> omega

theorem PytokenOwn : indenturelaw11_PytokenOwn.Pure := by
  intro a0 a1 a2 _ _ h2
  have hm := u8_of a2 h2
  unfold indenturelaw11_PytokenOwn.f
  by_cases hl : (a0.size : Int) > 3000
  · exact ⟨0, by rw [if_pos hl]⟩
  · obtain ⟨r, hr⟩ : ∃ r, scanM a0 a1 a2 0 = r := ⟨_, rfl⟩
    have hbd := endOf_bd a0
    obtain ⟨K, hK⟩ : ∃ K : Nat, (K : Int) = max 0 (min a1 (endOf a0)) := ⟨(max 0 (min a1 (endOf a0))).toNat, by omega⟩
    obtain ⟨c, hc⟩ : ∃ c, scanM (a0.extract K a0.size) 0 a2 0 = c := ⟨_, rfl⟩
    obtain ⟨g1, g2, g3, g4⟩ := own_shift a0 a1 a2 (by omega) hm.1 r c hr K hK hc
    have hzt : (a0.extract K a0.size).size = a0.size - K := size_tail _ _ (by omega)
    have hcov := (covers (a0.extract K a0.size) a2 0 (by omega) hm.1 c hc).1
    have hlz := lineOf_size (a0.extract K a0.size)
    have hbd2 := endOf_bd (a0.extract K a0.size)
    have hcl := CovF.len hcov
    have hlen : r.ev.length = c.ev.length := by rw [g1, List.length_map]
    have hmem := CovF.mem hcov (Int.le_refl 0)
    obtain ⟨k, hk⟩ := own_loop a0 a1 a2 (by omega) hm r hr (by omega) K c (by omega) g1 (fun e he => by have := hmem e he; omega) r.mark r.depth r.join r.any r.colon r.mark r.depth r.join r.any r.colon c.mark c.depth c.join c.any c.colon r.ev.length 0 (by omega)
    obtain ⟨J, h3, h4⟩ := together (g := fun k => indentureref11_End.f k a0) (f := fun k => indenturelaw11_PytokenOwn.j0 k a0 a1 a2 (K : Int) false r.ev r.mark r.depth r.join r.any r.colon r.ev r.mark r.depth r.join r.any r.colon c.ev c.mark c.depth c.join c.any c.colon) (fun k => indentureref11_End.mono a0 k) (fun k => (indenturelaw11_PytokenOwn.mono_l k).1 _ _ _ _ _ _ _ _ _ _ _ _ _ _ _ _ _ _ _ _ _ _ _) ⟨_, end_is a0 (by omega)⟩ ⟨k + 1, by simp only [indenturelaw11_PytokenOwn.j0]; rw [if_neg (by decide)]; exact hk⟩
    refine ⟨J, ?_⟩
    rw [if_neg hl, pytoken_Scan.is a0 a1 a2 0 (by omega) hm.1 hm.2 r hr]
    simp only [Option.bind_some]
    rw [h3]
    simp only [Option.bind_some]
    rw [mxmn _ _ hbd.1, ← hK, if_pos (by omega), if_pos (by omega), Int.toNat_natCast, pytoken_Scan.is _ 0 a2 0 (by omega) hm.1 hm.2 c hc]
    simp only [Option.bind_some]
    rw [if_pos (by rw [hlen]), if_pos g2, if_pos g3, g4, bne_self_eq_false]
    rw [g4] at h4
    exact h4

end Go.Proofs.Ytdknppomjcpihaa.Pure
