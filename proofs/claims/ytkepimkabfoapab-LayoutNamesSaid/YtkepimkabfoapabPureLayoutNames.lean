/- The numbers of the layout chapter are as the document says: the statement LayoutNames has no argument, and its printed function answers true outright. No conditions. -/
import Derived.Test.YtkepimkabfoapabPLayoutNamesx1
namespace Go.Proofs.Ytkepimkabfoapab.Pure
open Go.RowKit Go.Proofs.Ytkepimkabfoapab.PLayoutNames Go.Proofs.YtkepimkabfoapabW.PrintWords Go.Proofs.YtkepimkabfoapabW.PrintLast

/-- YOURS: colonnadelaw16_LayoutNames.f  = some true
What it reaches (each with k first where it has rounds; `.mono`: more rounds tell the same; `.l0`, ..: its loops, with `.mono_l`): colonnadelaw16_LayoutNames.f -/
theorem LayoutNames : colonnadelaw16_LayoutNames.Pure := by
  rfl

end Go.Proofs.Ytkepimkabfoapab.Pure
