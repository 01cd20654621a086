-- written by inject.py, a program of the session's, over the translation's print
import Derived.Test.YtdknppomjcpihaaPPyx0
import Derived.Test.YtdknppomjcpihaaScanC
namespace Go.Proofs.Ytdknppomjcpihaa.PPy
open Go.RowKit Go.Proofs.YtdknppomjcpihaaW.PrintWords Go.Proofs.YtdknppomjcpihaaW.PrintLast Go.Proofs.YtdknppomjcpihaaW.PrintMore
attribute [local go_sem] max2_int min2_int max_two min_two max_three min_three max_four min_four   -- for this text's walks alone
set_option linter.unusedVariables false
set_option linter.unusedSimpArgs false

theorem eqA33 (d : Nat) (w : World) (x0 y0 : Int) (x1 y1 : Int) (x2 y2 : Int) (x3 y3 : Int) :
    (Op.equalIn (d + 2) 33 (.agg #[.int .u8 x0, .int .u8 x1, .int .i64 x2, .int .i64 x3]) (.agg #[.int .u8 y0, .int .u8 y1, .int .i64 y2, .int .i64 y3])).run Try.prog w = .ok (x0 == y0 && (x1 == y1 && (x2 == y2 && (x3 == y3)))) w := by
  refine eqA_of Try.underlying33 (by kernel_rfl) ?_
  refine eqf_cons (by rfl) (by go_simp; rfl) (by go_simp; rfl) (by go_simp) ?_
  refine eqf_cons (by rfl) (by go_simp; rfl) (by go_simp; rfl) (by go_simp) ?_
  refine eqf_cons (by rfl) (by go_simp; rfl) (by go_simp; rfl) (by go_simp) ?_
  exact eqf_last (by rfl) (by go_simp; rfl) (by go_simp; rfl) (by go_simp)
end Go.Proofs.Ytdknppomjcpihaa.PPy
