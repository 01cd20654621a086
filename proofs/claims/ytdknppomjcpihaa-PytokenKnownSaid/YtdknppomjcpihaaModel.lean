/- What a line of Python tells, as plain functions over bytes: the model that both scanners are held against. No Go in it. -/
import Derived.Test.YtdknppomjcpihaaRd
namespace Go.Proofs.Ytdknppomjcpihaa.PPy
open Go.RowKit Go.Proofs.YtdknppomjcpihaaW.PrintWords Go.Proofs.YtdknppomjcpihaaW.PrintLast Go.Proofs.YtdknppomjcpihaaW.PrintMore

/-- Does a begin with b? -/
def hp (a b : ByteArray) : Bool := decide (b.size ≤ a.size) && ((a.extract 0 b.size).toList == b.toList)
/-- The quotes of a mark. -/
def quot (m : Int) : ByteArray := if m = 1 then ⟨#[39, 39, 39]⟩ else if m = 2 then ⟨#[34, 34, 34]⟩ else if m = 3 then ⟨#[39]⟩ else if m = 4 then ⟨#[34]⟩ else ⟨#[]⟩
def smallB (c : Int) : Int := if 65 ≤ c ∧ c ≤ 90 then c + 32 else c
def letterB (c : Int) : Bool := (decide (97 ≤ smallB c) && decide (smallB c ≤ 122)) || (decide (c = 95) || decide (128 ≤ c))
def digitB (c : Int) : Bool := decide (48 ≤ c) && decide (c ≤ 57)
def blankB (c : Int) : Bool := decide (c = 32) || (decide (c = 9) || (decide (c = 12) || decide (c = 13)))

/-- From a place within a text on: where its quotes stand (if they do), and whether a backslash takes the line's end along. n: so many rounds at most. -/
def tx : Nat → ByteArray → ByteArray → Int → Bool → Option Int × Bool
  | 0, _, _, _, taken => (none, taken)
  | n + 1, s, q, i, taken =>
    if i < (s.size : Int) then
      (if bt s i = 92 then tx n s q (i + 2) (i + 1 == (s.size : Int))
       else if hp (s.extract i.toNat s.size) q = true then (some i, taken) else tx n s q (i + 1) taken)
    else (none, taken)

/-- A text, read from a place on: f: its quotes' place. -/
def Rd.text (r : Rd) (frm mark whole : Int) : Rd :=
  match tx (r.s.size + 1) r.s (quot mark) frm false with
  | (some i, _) => ({ r with mark := 0 }).leaf whole (i + ((quot mark).size : Int))
  | (none, taken) => if 2 < mark ∧ taken = false then ({ r with mark := 0 }).leaf 2 (r.s.size : Int) else ({ r with mark := mark }).leaf 16 (r.s.size : Int)

/-- How far a name reaches. -/
def nameEnd : Nat → ByteArray → Int → Int
  | 0, _, i => i
  | n + 1, s, i => if i < (s.size : Int) then (if (letterB (bt s i) || digitB (bt s i)) = true then nameEnd n s (i + 1) else i) else i
/-- Does a number begin? (q: the rest of the line) -/
def numB (q : ByteArray) : Bool := digitB (bt q 0) || (decide (bt q 0 = 46) && (decide (2 ≤ q.size) && digitB (bt q 1)))
def radixB (c : Int) : Bool := decide (c = 120) || (decide (c = 88) || (decide (c = 98) || (decide (c = 66) || (decide (c = 111) || decide (c = 79)))))
def signsB (q : ByteArray) : Bool := decide (q.size < 2) || !radixB (bt q 1)
/-- Does a number end at this byte? p: the byte ahead of it. -/
def numStop (signs : Bool) (p c : Int) : Bool :=
  !(letterB c && decide (c < 128)) && (!digitB c && (!decide (c = 46) && !((decide (c = 43) || decide (c = 45)) && (signs && decide (smallB p = 101)))))
def numEnd : Nat → ByteArray → Bool → Int → Int
  | 0, _, _, i => i
  | n + 1, q, signs, i => if i < (q.size : Int) then (if numStop signs (bt q (i - 1)) (bt q i) = true then i else numEnd n q signs (i + 1)) else i
def Rd.rest (r : Rd) : ByteArray := r.s.extract r.pos.toNat r.s.size
def Rd.joined (r : Rd) : Rd := if r.pos + 1 = (r.s.size : Int) then ({ r with join := true }).leaf 19 (r.s.size : Int) else r.leaf 2 (r.pos + 1)
def Rd.name (r : Rd) : Rd := r.leaf 13 (nameEnd (r.s.size + 1) r.s r.pos)
def Rd.number (r : Rd) : Rd := r.leaf 14 (r.pos + numEnd (r.s.size + 1) r.rest (signsB r.rest) 1)

theorem nameEnd_bd (s : ByteArray) : ∀ (n : Nat) (i : Int), i ≤ nameEnd n s i ∧ (i ≤ (s.size : Int) → nameEnd n s i ≤ (s.size : Int)) := by
  intro n
  induction n with
  | zero => intro i; exact ⟨Int.le_refl _, id⟩
  | succ n ih =>
    intro i
    simp only [nameEnd]
    split
    · split
      · have := ih (i + 1); exact ⟨by omega, fun h => this.2 (by omega)⟩
      · exact ⟨Int.le_refl _, id⟩
    · exact ⟨Int.le_refl _, id⟩
theorem numEnd_bd (q : ByteArray) (sg : Bool) : ∀ (n : Nat) (i : Int), i ≤ numEnd n q sg i ∧ (i ≤ (q.size : Int) → numEnd n q sg i ≤ (q.size : Int)) := by
  intro n
  induction n with
  | zero => intro i; exact ⟨Int.le_refl _, id⟩
  | succ n ih =>
    intro i
    simp only [numEnd]
    split
    · split
      · exact ⟨Int.le_refl _, id⟩
      · have := ih (i + 1); exact ⟨by omega, fun h => this.2 (by omega)⟩
    · exact ⟨Int.le_refl _, id⟩

end Go.Proofs.Ytdknppomjcpihaa.PPy
