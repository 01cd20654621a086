/- Below twice: from the base on, and of all that there was. -/
import Derived.Test.YtdknppomjcpihaaLeafC
namespace Go.Proofs.Ytdknppomjcpihaa.PPy
open Go.RowKit Go.Proofs.YtdknppomjcpihaaW.PrintWords Go.Proofs.YtdknppomjcpihaaW.PrintLast Go.Proofs.YtdknppomjcpihaaW.PrintMore

def Bel (B : Nat) (w w' : World) : Prop := Below B w w' ∧ Below w.heap.size w w'
theorem Bel.refl (B : Nat) (w : World) : Bel B w w := ⟨Below.refl _ _, Below.refl _ _⟩
theorem Bel.trans {B : Nat} {w w1 w2 : World} (h : Bel B w w1) (hd : ∀ {C : Nat}, Below C w1 w2) : Bel B w w2 := ⟨h.1.trans hd, h.2.trans hd⟩
theorem Bel.grow {B : Nat} {w w1 w2 : World} (h : Bel B w w1) (hB : B ≤ w1.heap.size) (hd : Below w1.heap.size w1 w2) : Bel B w w2 := ⟨h.1.trans (hd.mono hB), h.2.trans (hd.mono h.2.size)⟩

end Go.Proofs.Ytdknppomjcpihaa.PPy
