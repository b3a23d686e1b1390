/- And, Or and Not of sets of truths are the reference's, of all sixty-four pairs of sets. No conditions. -/
import Derived.Test.YtkepimkabfoapabPPruneTruthsx7
namespace Go.Proofs.Ytkepimkabfoapab.Pure
open Go.RowKit Go.Proofs.Ytkepimkabfoapab.PPruneTruths Go.Proofs.YtkepimkabfoapabW.PrintWords Go.Proofs.YtkepimkabfoapabW.PrintLast
def colonnadelaw26_PruneTruths.PureX : Prop := ∀ (s0 : S61) (s1 : S61), (True ∧ True ∧ True) → (True ∧ True ∧ True) → ∃ k, colonnadelaw26_PruneTruths.f k s0.f0 s0.f1 s0.f2 s1.f0 s1.f1 s1.f2 = some true
theorem PruneTruths_all : ∀ a b c d e f : Bool, colonnadelaw26_PruneTruths.f 40 a b c d e f = some true := by decide +kernel
theorem PruneTruths : colonnadelaw26_PruneTruths.PureX := by
  intro s0 s1 _ _
  exact ⟨40, PruneTruths_all _ _ _ _ _ _⟩
end Go.Proofs.Ytkepimkabfoapab.Pure
