/- And and Or of sets of truths in any order, grouped as one likes; De Morgan; not of not; an empty set swallows all. No conditions. -/
import Derived.Test.YthikgpfehebkgaaPPruneAlgebrax12
namespace Go.Proofs.Ythikgpfehebkgaa.Pure
open Go.RowKit Go.Proofs.Ythikgpfehebkgaa.PPruneAlgebra Go.Proofs.YthikgpfehebkgaaW.PrintWords Go.Proofs.YthikgpfehebkgaaW.PrintLast
set_option linter.unusedVariables false
set_option linter.unusedSimpArgs false
def colonnadelaw26_PruneAlgebra.PureX : Prop := ∀ (s0 : S23) (s1 : S23) (s2 : S23), (True ∧ True ∧ True) → (True ∧ True ∧ True) → (True ∧ True ∧ True) → colonnadelaw26_PruneAlgebra.f s0.f0 s0.f1 s0.f2 s1.f0 s1.f1 s1.f2 s2.f0 s2.f1 s2.f2 = some true
theorem PruneAlgebra : colonnadelaw26_PruneAlgebra.PureX := fun _ _ _ _ _ _ => rfl
end Go.Proofs.Ythikgpfehebkgaa.Pure
