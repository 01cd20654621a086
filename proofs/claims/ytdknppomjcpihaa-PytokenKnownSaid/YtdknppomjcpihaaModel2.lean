/- The model's second half: where a text begins, which operator stands at a place. No Go in it. -/
import Derived.Test.YtdknppomjcpihaaModel
namespace Go.Proofs.Ytdknppomjcpihaa.PPy
open Go.RowKit Go.Proofs.YtdknppomjcpihaaW.PrintWords Go.Proofs.YtdknppomjcpihaaW.PrintLast Go.Proofs.YtdknppomjcpihaaW.PrintMore

def preB (c : Int) : Bool := decide (c = 114) || (decide (c = 117) || (decide (c = 98) || decide (c = 102)))
/-- How many letters of a prefix stand ahead (two at most). -/
def begN : Nat → ByteArray → Int → Int
  | 0, _, i => i
  | n + 1, q, i => if i < 2 ∧ i < (q.size : Int) ∧ preB (smallB (bt q i)) = true then begN n q (i + 1) else i
def pairB (p : ByteArray) : Bool := (p.toList == [98, 114]) || ((p.toList == [114, 98]) || ((p.toList == [102, 114]) || (p.toList == [114, 102])))
/-- Whose quotes stand ahead. -/
def markOf (s : ByteArray) : Int := if hp s (quot 1) = true then 1 else if hp s (quot 2) = true then 2 else if hp s (quot 3) = true then 3 else if hp s (quot 4) = true then 4 else 0
def begM (q : ByteArray) : Int := if begN 3 q 0 = 2 ∧ pairB (strOfNums [smallB (bt q 0), smallB (bt q 1)]) = false then 0 else markOf (q.extract (begN 3 q 0).toNat q.size)
def Rd.begun (r : Rd) : Rd := r.text (r.pos + begN 3 r.rest 0 + ((quot (begM r.rest)).size : Int)) (begM r.rest) 15

theorem begN_bd (q : ByteArray) : ∀ (n : Nat) (i : Int), i ≤ begN n q i ∧ (i ≤ 2 → begN n q i ≤ 2) ∧ (i ≤ (q.size : Int) → begN n q i ≤ (q.size : Int)) := by
  intro n
  induction n with
  | zero => intro i; exact ⟨Int.le_refl _, id, id⟩
  | succ n ih =>
    intro i
    simp only [begN]
    split
    · have := ih (i + 1); exact ⟨by omega, fun h => this.2.1 (by omega), fun h => this.2.2 (by omega)⟩
    · exact ⟨Int.le_refl _, id, id⟩
theorem hp_le {a b : ByteArray} (h : hp a b = true) : b.size ≤ a.size := by unfold hp at h; simp at h; exact h.1

/-- The operators, the longest first. -/
def opL : List ByteArray := [⟨#[42, 42, 61]⟩, ⟨#[47, 47, 61]⟩, ⟨#[62, 62, 61]⟩, ⟨#[60, 60, 61]⟩, ⟨#[46, 46, 46]⟩, ⟨#[42, 42]⟩, ⟨#[47, 47]⟩, ⟨#[62, 62]⟩, ⟨#[60, 60]⟩, ⟨#[60, 61]⟩, ⟨#[62, 61]⟩, ⟨#[61, 61]⟩, ⟨#[33, 61]⟩, ⟨#[45, 62]⟩, ⟨#[43, 61]⟩, ⟨#[45, 61]⟩, ⟨#[42, 61]⟩, ⟨#[47, 61]⟩, ⟨#[37, 61]⟩, ⟨#[38, 61]⟩, ⟨#[124, 61]⟩, ⟨#[94, 61]⟩, ⟨#[64, 61]⟩, ⟨#[58, 61]⟩, ⟨#[43]⟩, ⟨#[45]⟩, ⟨#[42]⟩, ⟨#[47]⟩, ⟨#[37]⟩, ⟨#[64]⟩, ⟨#[38]⟩, ⟨#[124]⟩, ⟨#[94]⟩, ⟨#[126]⟩, ⟨#[60]⟩, ⟨#[62]⟩, ⟨#[40]⟩, ⟨#[41]⟩, ⟨#[91]⟩, ⟨#[93]⟩, ⟨#[123]⟩, ⟨#[125]⟩, ⟨#[44]⟩, ⟨#[58]⟩, ⟨#[46]⟩, ⟨#[59]⟩, ⟨#[61]⟩]
/-- Which of them stands ahead: its number; the list's length, if none does. -/
def opAt : List ByteArray → ByteArray → Nat
  | [], _ => 0
  | o :: l, q => if hp q o = true then 0 else opAt l q + 1
/-- 1: opens; 2: closes; 0: neither. -/
def opKind (o : ByteArray) : Nat := if (o.toList == [40]) = true ∨ (o.toList == [91]) = true ∨ (o.toList == [123]) = true then 1 else if (o.toList == [41]) = true ∨ (o.toList == [93]) = true ∨ (o.toList == [125]) = true then 2 else 0
def opOf (q : ByteArray) : ByteArray := opL.getD (opAt opL q) ByteArray.empty
def Rd.oper (r : Rd) (o : ByteArray) : Rd :=
  if opKind o = 1 then ({ r with depth := if r.depth + 1 ≤ 1048576 then r.depth + 1 else 1048576 }).leaf 17 (r.pos + (o.size : Int))
  else if opKind o = 2 then (if r.depth = 0 then r.leaf 2 (r.pos + (o.size : Int)) else ({ r with depth := r.depth - 1 }).leaf 17 (r.pos + (o.size : Int)))
  else r.leaf 17 (r.pos + (o.size : Int))

end Go.Proofs.Ytdknppomjcpihaa.PPy
