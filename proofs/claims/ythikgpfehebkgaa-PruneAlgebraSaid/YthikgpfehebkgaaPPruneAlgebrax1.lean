-- Written by xprint.py, this session's own program over the kit's print; Lean checks it.
import Derived.Test.YthikgpfehebkgaaPPruneAlgebrax0
namespace Go.Proofs.Ythikgpfehebkgaa.PPruneAlgebra
open Go.RowKit Go.Proofs.YthikgpfehebkgaaW.PrintWords Go.Proofs.YthikgpfehebkgaaW.PrintLast Go.Proofs.YthikgpfehebkgaaW.PrintMore
attribute [local go_sem] XFloat.run_store_float max2_int min2_int max_two min_two max_three min_three max_four min_four   -- for this text's walks alone
set_option linter.unusedVariables false
set_option linter.unusedSimpArgs false

theorem eqA23 (d : Nat) (w : World) (x0 y0 : Bool) (x1 y1 : Bool) (x2 y2 : Bool) :
    (Op.equalIn (d + 2) 23 (.agg #[.bool x0, .bool x1, .bool x2]) (.agg #[.bool y0, .bool y1, .bool y2])).run Try.prog w = .ok (x0 == y0 && (x1 == y1 && (x2 == y2))) w := by
  refine eqA_of Try.underlying23 (by kernel_rfl) ?_
  refine eqf_cons (by rfl) (by go_simp; rfl) (by go_simp; rfl) (by go_simp) ?_
  refine eqf_cons (by rfl) (by go_simp; rfl) (by go_simp; rfl) (by go_simp) ?_
  exact eqf_last (by rfl) (by go_simp; rfl) (by go_simp; rfl) (by go_simp)
end Go.Proofs.Ythikgpfehebkgaa.PPruneAlgebra
