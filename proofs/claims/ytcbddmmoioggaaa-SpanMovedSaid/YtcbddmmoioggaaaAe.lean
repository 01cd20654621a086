/- The argument: an edit, as it is handed in. -/
import Derived.Test.YtcbddmmoioggaaaMl
import Derived.Test.YtcbddmmoioggaaaAr
namespace Go.Proofs.Ytcbddmmoioggaaa.Sp
open Go.RowKit Go.WideShapes Go.ChangeShapes Go.Proofs.YtcbddmmoioggaaaW.PrintWords Go.Proofs.YtcbddmmoioggaaaW.PrintLast Go.Proofs.YtcbddmmoioggaaaW.PrintMore
set_option linter.unusedVariables false
set_option linter.unusedSimpArgs false
section
variable {H : Type} {enc : TypeId × Value → H} {w : World} {base : Nat} {spare : Nat → Bool} {held : Bool}
theorem str_of {fuel : Nat} {cs : List Value} {y : DataW H × List MemPlace} (h : DataW.trod enc Try.prog w base spare held fuel 9 cs = some y) : ∃ a, cs = [.string a] := by
  cases fuel with
  | zero => simp [DataW.trod] at h
  | succ f =>
    unfold DataW.trod at h
    rw [Try.underlying9] at h
    split at h <;> simp_all
theorem cells9 : Try.prog.cellsOf 9 = 1 := by kernel_rfl
theorem cells35 : Try.prog.cellsOf 35 = 3 := by kernel_rfl
theorem edcells_of {fuel : Nat} {cs : List Value} {y : DataW H × List MemPlace} (h : DataW.trod enc Try.prog w base spare held fuel 35 cs = some y) : ∃ e : Ed, cs = (edc e).toList := by
  obtain ⟨zs, n, _, hx, hl, hlen, hf⟩ := DataW.trod_struct Try.underlying35 h
  rw [cells35] at hl
  match zs, hlen with
  | [y0, y1, y2], _ =>
    have t0 := hf 0 _ rfl
    have t1 := hf 1 _ rfl
    have t2 := hf 2 _ rfl
    match cs, hl with
    | [b0, b1, b2], _ =>
      simp [cells3] at t0 t1 t2
      obtain ⟨a0, h0⟩ := int_of t0
      obtain ⟨a1, h1⟩ := int_of t1
      obtain ⟨a2, h2⟩ := str_of t2
      injection h0 with h0
      injection h1 with h1
      injection h2 with h2
      subst h0 h1 h2
      exact ⟨⟨a0, a1, a2⟩, rfl⟩
end
end Go.Proofs.Ytcbddmmoioggaaa.Sp
