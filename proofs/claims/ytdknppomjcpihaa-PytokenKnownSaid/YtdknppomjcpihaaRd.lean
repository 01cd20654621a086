/- The reader of pytoken as a plain structure, and how it lies in memory: one block of eight cells, its leaves a row of the call's own. -/
import Derived.Test.YtdknppomjcpihaaPPyx0
import Derived.StillTailTactics
import Derived.Deep.DrawnRows
namespace Go.Proofs.Ytdknppomjcpihaa.PPy
open Go.RowKit Go.Proofs.YtdknppomjcpihaaW.PrintWords Go.Proofs.YtdknppomjcpihaaW.PrintLast Go.Proofs.YtdknppomjcpihaaW.PrintMore

structure Rd where
  s : ByteArray
  pos : Int
  ev : List S33
  mark : Int
  depth : Int
  join : Bool
  any : Bool
  colon : Bool
def Rd.cells (r : Rd) (v : Value) : Array Value := #[.string r.s, .int .i64 r.pos, v, .int .u8 r.mark, .int .i64 r.depth, .bool r.join, .bool r.any, .bool r.colon]
/-- The reader lies in block b of world w; what is made lies from block B on. -/
def RdAt (B : Nat) (w : World) (b : Nat) (r : Rd) : Prop :=
  B ≤ b ∧ ∃ v, w.heap[b]? = some (.cells (r.cells v) 50 (0, 0)) ∧ Kd.R k33 33 w B (fun _ => True) v r.ev

theorem RdAt.lt {B b : Nat} {w : World} {r : Rd} (h : RdAt B w b r) : b < w.heap.size := by
  obtain ⟨_, v, h, _⟩ := h
  exact (Array.getElem?_eq_some_iff.1 h).1
/-- What a walk reads and writes. -/
theorem RdAt.open {B b : Nat} {w : World} {r : Rd} (h : RdAt B w b r) : ∃ A c, Kd.R k33 33 w B (fun _ => True) (.slice A r.ev.length c) r.ev ∧ w.heap[b]? = some (.cells (r.cells (.slice A r.ev.length c)) 50 (0, 0)) ∧
    w.cell? ⟨b, 0, none⟩ = some (.string r.s) ∧ w.cell? ⟨b, 1, none⟩ = some (.int .i64 r.pos) ∧ w.cell? ⟨b, 2, none⟩ = some (.slice A r.ev.length c) ∧ w.cell? ⟨b, 3, none⟩ = some (.int .u8 r.mark) ∧
    w.cell? ⟨b, 4, none⟩ = some (.int .i64 r.depth) ∧ w.cell? ⟨b, 5, none⟩ = some (.bool r.join) ∧ w.cell? ⟨b, 6, none⟩ = some (.bool r.any) ∧ w.cell? ⟨b, 7, none⟩ = some (.bool r.colon) ∧ (∀ j, w.frozen? ⟨b, j, none⟩ = false) := by
  obtain ⟨_, v, hh, hr⟩ := h
  obtain ⟨A, c, rfl⟩ := Kd.R_slice hr
  refine ⟨A, c, hr, hh, ?_, ?_, ?_, ?_, ?_, ?_, ?_, ?_, fun j => frozen_of_row w b j _ _ hh⟩ <;> exact (cell_of_row w b _ _ _ _ hh)
theorem RdAt.below {B b : Nat} {w w1 : World} {r : Rd} (h : RdAt B w b r) (hb : Below w.heap.size w w1) : RdAt B w1 b r := by
  have hlt := h.lt
  obtain ⟨hB, v, hh, hr⟩ := h
  exact ⟨hB, v, (hb.block b hlt).trans hh, Kd.R_below hr hb⟩

/-- A cell of the reader's block is written: the row stays, the block is known. -/
theorem R_put50 {B b : Nat} {w : World} {cs : Array Value} {v : Value} {l : List S33} (hh : w.heap[b]? = some (.cells cs 50 (0, 0))) (hr : Kd.R k33 33 w B (fun _ => True) v l) (j : Nat) (u : Value) :
    (w.setCell ⟨b, j, none⟩ u).heap[b]? = some (.cells (cs.setIfInBounds j u) 50 (0, 0)) ∧ Kd.R k33 33 (w.setCell ⟨b, j, none⟩ u) B (fun _ => True) v l :=
  ⟨heap_setCell_same w b j cs 50 u hh, Kd.R_set hr hh (by decide) j u⟩

def isColon (s : ByteArray) (a t : Int) : Bool := (s.extract a.toNat t.toNat).toList == ([58] : List UInt8)
def Rd.leaf (r : Rd) (k e : Int) : Rd :=
  if k = 18 ∨ k = 19 then { r with ev := r.ev ++ [⟨3, k, r.pos, e⟩], pos := e }
  else { r with ev := r.ev ++ [⟨3, k, r.pos, e⟩], any := true, colon := decide (k = 17) && (isColon r.s r.pos e && decide (r.depth = 0)), pos := e }

end Go.Proofs.Ytdknppomjcpihaa.PPy
