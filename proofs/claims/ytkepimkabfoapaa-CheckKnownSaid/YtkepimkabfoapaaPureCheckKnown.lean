/- The chapter's known sums, hashes and places are answered, by streams too. No conditions. -/
import Derived.Test.YtkepimkabfoapaaPCheckKnownx1
namespace Go.Proofs.Ytkepimkabfoapaa.Pure
open Go.RowKit Go.Proofs.Ytkepimkabfoapaa.PCheckKnown Go.Proofs.YtkepimkabfoapaaW.PrintWords Go.Proofs.YtkepimkabfoapaaW.PrintLast
set_option linter.unusedVariables false
set_option linter.unusedSimpArgs false
def colonnadelaw06_CheckKnown.PureX : Prop := colonnadelaw06_CheckKnown.f  = some true
theorem CheckKnown : colonnadelaw06_CheckKnown.PureX := rfl
end Go.Proofs.Ytkepimkabfoapaa.Pure
