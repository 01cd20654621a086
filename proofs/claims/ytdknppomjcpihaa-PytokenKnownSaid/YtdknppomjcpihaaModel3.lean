/- The model's last part: one step of the reader, the whole scan. No Go in it. -/
import Derived.Test.YtdknppomjcpihaaModel2
import Derived.Test.YtdknppomjcpihaaShelf
namespace Go.Proofs.Ytdknppomjcpihaa.PPy
open Go.RowKit Go.Proofs.YtdknppomjcpihaaW.PrintWords Go.Proofs.YtdknppomjcpihaaW.PrintLast Go.Proofs.YtdknppomjcpihaaW.PrintMore

def Rd.c (r : Rd) : Int := bt r.s r.pos
/-- Which of the nine methods takes. -/
def Rd.pick (r : Rd) : Nat :=
  if r.mark ≠ 0 then 0 else if blankB r.c = true then 1 else if r.c = 35 then 2 else if r.c = 92 then 3 else if 0 < begM r.rest then 4
  else if letterB r.c = true then 5 else if numB r.rest = true then 6 else if opAt opL r.rest < 47 then 7 else 8
def Rd.step (r : Rd) : Rd :=
  if r.mark ≠ 0 then r.text r.pos r.mark 16 else if blankB r.c = true then { r with pos := r.pos + 1 } else if r.c = 35 then r.leaf 18 (r.s.size : Int) else if r.c = 92 then r.joined else if 0 < begM r.rest then r.begun
  else if letterB r.c = true then r.name else if numB r.rest = true then r.number else if opAt opL r.rest < 47 then r.oper (opOf r.rest) else r.leaf 2 (r.pos + 1)
def scanL : Nat → Rd → Rd
  | 0, r => r
  | n + 1, r => if r.pos < (r.s.size : Int) then scanL n r.step else r
/-- A line without its end. -/
def lineOf (line : ByteArray) : ByteArray :=
  if 0 ≤ Lib.indexByte line.data.toList 10 then
    (if ((line.extract 0 (Lib.indexByte line.data.toList 10).toNat).size ≥ 1 ∧ ((line.extract 0 (Lib.indexByte line.data.toList 10).toNat).extract ((line.extract 0 (Lib.indexByte line.data.toList 10).toNat).size - 1) (line.extract 0 (Lib.indexByte line.data.toList 10).toNat).size).toList = [13]) then
      (line.extract 0 (Lib.indexByte line.data.toList 10).toNat).extract 0 ((line.extract 0 (Lib.indexByte line.data.toList 10).toNat).size - 1)
    else line.extract 0 (Lib.indexByte line.data.toList 10).toNat)
  else line
def Rd.init (line : ByteArray) (pos mark depth : Int) : Rd :=
  { s := lineOf line, pos := if pos < 0 then 0 else pos, ev := [], mark := if mark ≤ 4 then mark else 0, depth := if depth < 0 then 0 else if depth ≤ 1048576 then depth else 1048576, join := false, any := false, colon := false }
def scanM (line : ByteArray) (pos mark depth : Int) : Rd := scanL ((lineOf line).size + 1) (Rd.init line pos mark depth)

structure Rd.Ok (r : Rd) : Prop where
  p0 : 0 ≤ r.pos
  el : (r.ev.length : Int) ≤ r.pos
  sz : r.s.size ≤ 1000000
  m : 0 ≤ r.mark ∧ r.mark ≤ 4
  d : 0 ≤ r.depth ∧ r.depth ≤ 1048576

theorem leaf_same (r : Rd) (k e : Int) : (r.leaf k e).s = r.s ∧ (r.leaf k e).pos = e ∧ (r.leaf k e).mark = r.mark ∧ (r.leaf k e).depth = r.depth ∧ (r.leaf k e).ev.length = r.ev.length + 1 ∧ (r.leaf k e).join = r.join ∧ (r.leaf k e).ev = r.ev ++ [⟨3, k, r.pos, e⟩] := by
  unfold Rd.leaf
  split <;> simp
theorem Rd.Ok.leaf {r : Rd} (h : r.Ok) (k e : Int) (he : r.pos < e) : (r.leaf k e).Ok ∧ r.pos < (r.leaf k e).pos ∧ (r.leaf k e).s = r.s := by
  obtain ⟨h1, h2, h3, h4, h5, h6, h7⟩ := leaf_same r k e
  exact ⟨⟨by rw [h2]; have := h.p0; omega, by rw [h2, h5]; have := h.el; omega, by rw [h1]; exact h.sz, by rw [h3]; exact h.m, by rw [h4]; exact h.d⟩, by rw [h2]; exact he, h1⟩
theorem tx_bd (s q : ByteArray) : ∀ (n : Nat) (f : Int) (tk : Bool) (i : Int) (b : Bool), tx n s q f tk = (some i, b) → f ≤ i := by
  intro n
  induction n with
  | zero => intro f tk i b h; simp [tx] at h
  | succ n ih =>
    intro f tk i b h
    simp only [tx] at h
    split at h
    · split at h
      · have := ih _ _ _ _ h; omega
      · split at h
        · simp at h; omega
        · have := ih _ _ _ _ h; omega
    · simp at h
theorem quot_size {m : Int} (h : 1 ≤ m ∧ m ≤ 4) : 1 ≤ (quot m).size ∧ (quot m).size ≤ 3 := by
  have : m = 1 ∨ m = 2 ∨ m = 3 ∨ m = 4 := by omega
  rcases this with rfl | rfl | rfl | rfl <;> decide
theorem Rd.Ok.setMark {r : Rd} (h : r.Ok) {m : Int} (hm : 0 ≤ m ∧ m ≤ 4) : ({ r with mark := m } : Rd).Ok := ⟨h.p0, h.el, h.sz, hm, h.d⟩
theorem Rd.Ok.setDepth {r : Rd} (h : r.Ok) {m : Int} (hm : 0 ≤ m ∧ m ≤ 1048576) : ({ r with depth := m } : Rd).Ok := ⟨h.p0, h.el, h.sz, h.m, hm⟩
theorem Rd.Ok.text {r : Rd} (h : r.Ok) (hp : r.pos < (r.s.size : Int)) (f m k : Int) (hm : 1 ≤ m ∧ m ≤ 4) (hf : r.pos ≤ f) : (r.text f m k).Ok ∧ r.pos < (r.text f m k).pos ∧ (r.text f m k).s = r.s := by
  have hq := quot_size hm
  unfold Rd.text
  split
  · rename_i i _ e
    have := tx_bd _ _ _ _ _ _ _ e
    exact (h.setMark (m := 0) (by omega)).leaf k (i + ((quot m).size : Int)) (show r.pos < _ by omega)
  · split
    · exact (h.setMark (m := 0) (by omega)).leaf 2 (r.s.size : Int) hp
    · exact (h.setMark (m := m) (by omega)).leaf 16 (r.s.size : Int) hp
theorem markOf_range (s : ByteArray) : 0 ≤ markOf s ∧ markOf s ≤ 4 := by unfold markOf; (repeat' split) <;> omega
theorem begM_range (s : ByteArray) : 0 ≤ begM s ∧ begM s ≤ 4 := by unfold begM; split; (· omega); exact markOf_range _
theorem opL_size : ∀ k : Nat, k < 47 → 1 ≤ (opL.getD k ByteArray.empty).size := by decide +kernel

theorem Rd.Ok.step {r : Rd} (h : r.Ok) (hp : r.pos < (r.s.size : Int)) : r.step.Ok ∧ r.pos < r.step.pos ∧ r.step.s = r.s := by
  unfold Rd.step
  split
  · exact h.text hp _ _ _ (by have := h.m; omega) (Int.le_refl _)
  split
  · exact ⟨⟨by have := h.p0; show 0 ≤ r.pos + 1; omega, by have := h.el; show (r.ev.length : Int) ≤ r.pos + 1; omega, h.sz, h.m, h.d⟩, by show r.pos < r.pos + 1; omega, rfl⟩
  split
  · exact h.leaf _ _ hp
  split
  · unfold Rd.joined
    split
    · exact (show ({ r with join := true } : Rd).Ok from ⟨h.p0, h.el, h.sz, h.m, h.d⟩).leaf 19 (r.s.size : Int) hp
    · exact h.leaf _ _ (by omega)
  split
  · rename_i hm
    unfold Rd.begun
    have hb := begN_bd r.rest 3 0
    exact h.text hp _ _ _ (by have := begM_range r.rest; omega) (by omega)
  split
  · rename_i hl
    unfold Rd.name
    have hn : r.pos + 1 ≤ nameEnd (r.s.size + 1) r.s r.pos := by
      simp only [nameEnd]
      rw [if_pos hp, if_pos (by simp only [Rd.c] at hl; rw [hl]; rfl)]
      exact (nameEnd_bd r.s r.s.size (r.pos + 1)).1
    exact h.leaf _ _ (by omega)
  split
  · unfold Rd.number
    exact h.leaf _ _ (by have := (numEnd_bd r.rest (signsB r.rest) (r.s.size + 1) 1).1; omega)
  split
  · rename_i ho
    have hs := opL_size _ ho
    unfold Rd.oper
    have hd := h.d
    have hs2 : r.pos < r.pos + ((opOf r.rest).size : Int) := by unfold opOf; omega
    split
    · exact (h.setDepth (m := if r.depth + 1 ≤ 1048576 then r.depth + 1 else 1048576) (by split <;> omega)).leaf 17 _ hs2
    split
    · split
      · exact h.leaf _ _ hs2
      · exact (h.setDepth (m := r.depth - 1) (by omega)).leaf 17 _ hs2
    · exact h.leaf _ _ hs2
  · exact h.leaf _ _ (by omega)

theorem lineOf_size (line : ByteArray) : (lineOf line).size ≤ line.size := by
  unfold lineOf
  split
  · split <;> simp only [ByteArray.size_extract] <;> omega
  · exact Nat.le_refl _
theorem Rd.Ok.init {line : ByteArray} {pos mark depth : Int} (hz : line.size ≤ 1000000) (hm : 0 ≤ mark) : (Rd.init line pos mark depth).Ok := by
  have := lineOf_size line
  refine ⟨?_, ?_, show (lineOf line).size ≤ _ by omega, ?_, ?_⟩
  · show 0 ≤ (if pos < 0 then 0 else pos); split <;> omega
  · show (0 : Int) ≤ (if pos < 0 then 0 else pos); split <;> omega
  · show 0 ≤ (if mark ≤ 4 then mark else 0) ∧ (if mark ≤ 4 then mark else 0) ≤ 4; split <;> omega
  · show 0 ≤ (if depth < 0 then 0 else if depth ≤ 1048576 then depth else 1048576) ∧ (if depth < 0 then 0 else if depth ≤ 1048576 then depth else 1048576) ≤ 1048576
    (repeat' split) <;> omega

end Go.Proofs.Ytdknppomjcpihaa.PPy
