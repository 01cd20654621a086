/- pytoken.Scan's contract in the form of the print: what it tells is scanM's, for lines of at most 1,000,000 bytes. -/
import Derived.Test.YtdknppomjcpihaaScan
namespace Go.Proofs.Ytdknppomjcpihaa.PPy
open Go.RowKit Go.Proofs.YtdknppomjcpihaaW.PrintWords Go.Proofs.YtdknppomjcpihaaW.PrintLast Go.Proofs.YtdknppomjcpihaaW.PrintMore

def pytoken_Scan.f (a0 : ByteArray) (a1 a2 a3 : Int) : Option (List S33 × Int × Int × Bool × Bool × Bool) :=
  if a0.size ≤ 1000000 ∧ 0 ≤ a2 ∧ a2 ≤ 255 then some ((scanM a0 a1 a2 a3).ev, (scanM a0 a1 a2 a3).mark, (scanM a0 a1 a2 a3).depth, (scanM a0 a1 a2 a3).join, (scanM a0 a1 a2 a3).any, (scanM a0 a1 a2 a3).colon) else none
theorem pytoken_Scan.is (a0 : ByteArray) (a1 a2 a3 : Int) (hz : a0.size ≤ 1000000) (h0 : 0 ≤ a2) (h1 : a2 ≤ 255) (r : Rd) (hr : scanM a0 a1 a2 a3 = r) : pytoken_Scan.f a0 a1 a2 a3 = some (r.ev, r.mark, r.depth, r.join, r.any, r.colon) := by
  unfold pytoken_Scan.f
  rw [if_pos ⟨hz, h0, h1⟩, hr]
theorem pytoken_Scan.calls (a0 : ByteArray) (a1 a2 a3 : Int) (r0 : List S33) (r1 r2 : Int) (r3 r4 r5 : Bool) (w : World) (h : pytoken_Scan.f a0 a1 a2 a3 = some (r0, r1, r2, r3, r4, r5)) :
    Calls Try.prog 10 #[.string a0, .int .i64 a1, .int .u8 a2, .int .i64 a3] w fun e w' => ∃ v0_ : Value, e = .returned (.agg #[v0_, .int .u8 r1, .int .i64 r2, .bool r3, .bool r4, .bool r5]) ∧ Kd.R k33 33 w' w.heap.size (fun _ => True) v0_ r0 ∧ Below w.heap.size w w' := by
  obtain ⟨r, hr⟩ : ∃ r, scanM a0 a1 a2 a3 = r := ⟨_, rfl⟩
  by_cases hc : a0.size ≤ 1000000 ∧ 0 ≤ a2 ∧ a2 ≤ 255
  · rw [pytoken_Scan.is a0 a1 a2 a3 hc.1 hc.2.1 hc.2.2 r hr] at h
    obtain ⟨rfl, rfl, rfl, rfl, rfl, rfl⟩ := by simpa using h
    exact (scan_w a0 a1 a2 a3 w hc.1 hc.2 r hr).mono fun e w' ⟨⟨v, h1, h2⟩, h3⟩ => ⟨v, h1, h2, h3⟩
  · unfold pytoken_Scan.f at h
    rw [if_neg hc] at h
    exact absurd h (by simp)

end Go.Proofs.Ytdknppomjcpihaa.PPy
