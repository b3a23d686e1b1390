/-
  No cell of these rows narrows 'for every input' (looked for: loops, veiled, ifaces, maps, wideKeys, modest, calm, conditions, laid).
  DERIVED. THE GIVEN ROWS OF THIS SEAT. 9 by the template 'for every input the law returns true; each argument reads behind the call as it read before'; 0 by the template 'total and deterministic' (their statements: YtkepimkabfoapabTotals.lean).
  GIVEN WITH THE SEED: the statements are not yours to turn. If you find one false, say at which input.
  Laid BY PROGRAM, IN A SANDBOX (cutbox-rows.mjs): the forced cells as the released guide's own fill.sh prints them over the translation 8945714afd8db242… (all of the seat's roots in one cut). By AI agents, Wed Nov 11 2026. No macro, syntax, notation, axiom, sorry.
-/
import Derived.Test.YtkepimkabfoapabChecked
import GoSem.Claim
import GoSem.ClaimJoined
import GoSem.ClaimMapViews
import Derived.JoinedTies
import Derived.KernelRfl
namespace Go.Proofs.Ytkepimkabfoapab
/- THE CELL 'sum', in the pinned program and in every row, IS THE sha256 OF THE DUMP (.gsa) THAT YtkepimkabfoapabProg.lean LOADS. Nothing in Lean hashes anything: it is a label: what it is worth is what the hold of that sum in a sandbox is worth. -/
noncomputable def Try.pinned : Pinned := { name := "ytkepimkabfoapab", sum := "8945714afd8db242e8c18f47f0d429b70b927facdcbcac7455478b6fefed8168", checked := Try.checked }
namespace Rows
def none {H : Type} : Left H := { results := [], args := [] }

/-- 'colonnadelaw08.PlainPuts': WHATEVER THE INPUT: true; the input reads as it did. -/
def plainPutsSpec : ChangeSpec := { name := "plainPuts", fn := fun _ => fun
  | [d1, d2] => { results := [.lit (.bool true)], args := [d1, d2] }
  | _ => none }
def plainPutsRow : OpenClaim := { program := "ytkepimkabfoapab", sum := "8945714afd8db242e8c18f47f0d429b70b927facdcbcac7455478b6fefed8168", func := "colonnade/colonnadelaw08.PlainPuts", spec := "plainPuts", apart := false }
def PlainPutsSaid : Prop := plainPutsRow.holds Try.pinned (OpenSpec.ofChange plainPutsSpec)

/-- ITS FALSE NEIGHBOUR: 'it returns false'. Refute it at one input. -/
def plainPutsWrong : ChangeSpec := { name := "plainPuts", fn := fun _ => fun
  | [d1, d2] => { results := [.lit (.bool false)], args := [d1, d2] }
  | _ => none }
def PlainPutsWrongFalsely : Prop := plainPutsRow.holds Try.pinned (OpenSpec.ofChange plainPutsWrong)

/-- 'colonnadelaw08.PlainInts': WHATEVER THE INPUT: true; the input reads as it did. -/
def plainIntsSpec : ChangeSpec := { name := "plainInts", fn := fun _ => fun
  | [d1, d2, d3] => { results := [.lit (.bool true)], args := [d1, d2, d3] }
  | _ => none }
def plainIntsRow : OpenClaim := { program := "ytkepimkabfoapab", sum := "8945714afd8db242e8c18f47f0d429b70b927facdcbcac7455478b6fefed8168", func := "colonnade/colonnadelaw08.PlainInts", spec := "plainInts", apart := false }
def PlainIntsSaid : Prop := plainIntsRow.holds Try.pinned (OpenSpec.ofChange plainIntsSpec)

/-- ITS FALSE NEIGHBOUR: 'it returns false'. Refute it at one input. -/
def plainIntsWrong : ChangeSpec := { name := "plainInts", fn := fun _ => fun
  | [d1, d2, d3] => { results := [.lit (.bool false)], args := [d1, d2, d3] }
  | _ => none }
def PlainIntsWrongFalsely : Prop := plainIntsRow.holds Try.pinned (OpenSpec.ofChange plainIntsWrong)

/-- 'colonnadelaw08.PlainTexts': WHATEVER THE INPUT: true; the input reads as it did. -/
def plainTextsSpec : ChangeSpec := { name := "plainTexts", fn := fun _ => fun
  | [d1, d2, d3] => { results := [.lit (.bool true)], args := [d1, d2, d3] }
  | _ => none }
def plainTextsRow : OpenClaim := { program := "ytkepimkabfoapab", sum := "8945714afd8db242e8c18f47f0d429b70b927facdcbcac7455478b6fefed8168", func := "colonnade/colonnadelaw08.PlainTexts", spec := "plainTexts", apart := false }
def PlainTextsSaid : Prop := plainTextsRow.holds Try.pinned (OpenSpec.ofChange plainTextsSpec)

/-- ITS FALSE NEIGHBOUR: 'it returns false'. Refute it at one input. -/
def plainTextsWrong : ChangeSpec := { name := "plainTexts", fn := fun _ => fun
  | [d1, d2, d3] => { results := [.lit (.bool false)], args := [d1, d2, d3] }
  | _ => none }
def PlainTextsWrongFalsely : Prop := plainTextsRow.holds Try.pinned (OpenSpec.ofChange plainTextsWrong)

/-- 'colonnadelaw08.PlainBack': WHATEVER THE INPUT: true; the input reads as it did. -/
def plainBackSpec : ChangeSpec := { name := "plainBack", fn := fun _ => fun
  | [d1, d2] => { results := [.lit (.bool true)], args := [d1, d2] }
  | _ => none }
def plainBackRow : OpenClaim := { program := "ytkepimkabfoapab", sum := "8945714afd8db242e8c18f47f0d429b70b927facdcbcac7455478b6fefed8168", func := "colonnade/colonnadelaw08.PlainBack", spec := "plainBack", apart := false }
def PlainBackSaid : Prop := plainBackRow.holds Try.pinned (OpenSpec.ofChange plainBackSpec)

/-- ITS FALSE NEIGHBOUR: 'it returns false'. Refute it at one input. -/
def plainBackWrong : ChangeSpec := { name := "plainBack", fn := fun _ => fun
  | [d1, d2] => { results := [.lit (.bool false)], args := [d1, d2] }
  | _ => none }
def PlainBackWrongFalsely : Prop := plainBackRow.holds Try.pinned (OpenSpec.ofChange plainBackWrong)

/-- 'colonnadelaw08.PlainForm': WHATEVER THE INPUT: true; the input reads as it did. -/
def plainFormSpec : ChangeSpec := { name := "plainForm", fn := fun _ => fun
  | [d1, d2] => { results := [.lit (.bool true)], args := [d1, d2] }
  | _ => none }
def plainFormRow : OpenClaim := { program := "ytkepimkabfoapab", sum := "8945714afd8db242e8c18f47f0d429b70b927facdcbcac7455478b6fefed8168", func := "colonnade/colonnadelaw08.PlainForm", spec := "plainForm", apart := false }
def PlainFormSaid : Prop := plainFormRow.holds Try.pinned (OpenSpec.ofChange plainFormSpec)

/-- ITS FALSE NEIGHBOUR: 'it returns false'. Refute it at one input. -/
def plainFormWrong : ChangeSpec := { name := "plainForm", fn := fun _ => fun
  | [d1, d2] => { results := [.lit (.bool false)], args := [d1, d2] }
  | _ => none }
def PlainFormWrongFalsely : Prop := plainFormRow.holds Try.pinned (OpenSpec.ofChange plainFormWrong)

/-- 'colonnadelaw08.PlainJoins': WHATEVER THE INPUT: true; the input reads as it did. -/
def plainJoinsSpec : ChangeSpec := { name := "plainJoins", fn := fun _ => fun
  | [d1, d2, d3, d4] => { results := [.lit (.bool true)], args := [d1, d2, d3, d4] }
  | _ => none }
def plainJoinsRow : OpenClaim := { program := "ytkepimkabfoapab", sum := "8945714afd8db242e8c18f47f0d429b70b927facdcbcac7455478b6fefed8168", func := "colonnade/colonnadelaw08.PlainJoins", spec := "plainJoins", apart := false }
def PlainJoinsSaid : Prop := plainJoinsRow.holds Try.pinned (OpenSpec.ofChange plainJoinsSpec)

/-- ITS FALSE NEIGHBOUR: 'it returns false'. Refute it at one input. -/
def plainJoinsWrong : ChangeSpec := { name := "plainJoins", fn := fun _ => fun
  | [d1, d2, d3, d4] => { results := [.lit (.bool false)], args := [d1, d2, d3, d4] }
  | _ => none }
def PlainJoinsWrongFalsely : Prop := plainJoinsRow.holds Try.pinned (OpenSpec.ofChange plainJoinsWrong)

/-- 'colonnadelaw08.PlainOwn': WHATEVER THE INPUT: true; the input reads as it did. -/
def plainOwnSpec : ChangeSpec := { name := "plainOwn", fn := fun _ => fun
  | [d1, d2, d3, d4] => { results := [.lit (.bool true)], args := [d1, d2, d3, d4] }
  | _ => none }
def plainOwnRow : OpenClaim := { program := "ytkepimkabfoapab", sum := "8945714afd8db242e8c18f47f0d429b70b927facdcbcac7455478b6fefed8168", func := "colonnade/colonnadelaw08.PlainOwn", spec := "plainOwn", apart := false }
def PlainOwnSaid : Prop := plainOwnRow.holds Try.pinned (OpenSpec.ofChange plainOwnSpec)

/-- ITS FALSE NEIGHBOUR: 'it returns false'. Refute it at one input. -/
def plainOwnWrong : ChangeSpec := { name := "plainOwn", fn := fun _ => fun
  | [d1, d2, d3, d4] => { results := [.lit (.bool false)], args := [d1, d2, d3, d4] }
  | _ => none }
def PlainOwnWrongFalsely : Prop := plainOwnRow.holds Try.pinned (OpenSpec.ofChange plainOwnWrong)

/-- 'colonnadelaw16.LayoutNames': WHATEVER THE INPUT: true; the input reads as it did. -/
def layoutNamesSpec : ChangeSpec := { name := "layoutNames", fn := fun _ => fun
  | [] => { results := [.lit (.bool true)], args := [] }
  | _ => none }
def layoutNamesRow : OpenClaim := { program := "ytkepimkabfoapab", sum := "8945714afd8db242e8c18f47f0d429b70b927facdcbcac7455478b6fefed8168", func := "colonnade/colonnadelaw16.LayoutNames", spec := "layoutNames", apart := false }
def LayoutNamesSaid : Prop := layoutNamesRow.holds Try.pinned (OpenSpec.ofChange layoutNamesSpec)

/-- ITS FALSE NEIGHBOUR: 'it returns false'. Refute it at one input. -/
def layoutNamesWrong : ChangeSpec := { name := "layoutNames", fn := fun _ => fun
  | [] => { results := [.lit (.bool false)], args := [] }
  | _ => none }
def LayoutNamesWrongFalsely : Prop := layoutNamesRow.holds Try.pinned (OpenSpec.ofChange layoutNamesWrong)

/-- 'colonnadelaw26.PruneTruths': WHATEVER THE INPUT: true; the input reads as it did. -/
def pruneTruthsSpec : ChangeSpec := { name := "pruneTruths", fn := fun _ => fun
  | [d1, d2] => { results := [.lit (.bool true)], args := [d1, d2] }
  | _ => none }
def pruneTruthsRow : OpenClaim := { program := "ytkepimkabfoapab", sum := "8945714afd8db242e8c18f47f0d429b70b927facdcbcac7455478b6fefed8168", func := "colonnade/colonnadelaw26.PruneTruths", spec := "pruneTruths", apart := false }
def PruneTruthsSaid : Prop := pruneTruthsRow.holds Try.pinned (OpenSpec.ofChange pruneTruthsSpec)

/-- ITS FALSE NEIGHBOUR: 'it returns false'. Refute it at one input. -/
def pruneTruthsWrong : ChangeSpec := { name := "pruneTruths", fn := fun _ => fun
  | [d1, d2] => { results := [.lit (.bool false)], args := [d1, d2] }
  | _ => none }
def PruneTruthsWrongFalsely : Prop := pruneTruthsRow.holds Try.pinned (OpenSpec.ofChange pruneTruthsWrong)

/- THE SECOND FORM. 'bulk': how many values and letters a reading holds, each counted each time it is reached (what is shared counts as often as it is met; a slice's spare places count too). A statement '..UptoSaid' is the law's where the arguments, and the package variables that the reading takes, are together of bulk at most 1048576: NARROWER than '..Said'. Prove '..Said' where nothing that the law and all that it calls make is longer than what came in: it says more and counts as full. Else prove '..UptoSaid'. A law counts once. -/
mutual
def uptoBulk {H : Type} : DataW H → Nat
  | .lit (.string bytes) => bytes.length + 1
  | .lit _ => 1
  | .nil => 1
  | .ptr d => uptoBulk d + 1
  | .slice elems spare => uptoBulkAll elems + uptoBulkAll spare + 1
  | .agg parts => uptoBulkAll parts + 1
  | .iface _ d => uptoBulk d + 1
  | .map entries => uptoBulkEntries entries + 1
  | .held _ => 1
def uptoBulkAll {H : Type} : List (DataW H) → Nat
  | [] => 0
  | d :: r => uptoBulk d + uptoBulkAll r
def uptoBulkEntries {H : Type} : List (Lit × DataW H) → Nat
  | [] => 0
  | x :: r => uptoBulkEntry x + uptoBulkEntries r
def uptoBulkEntry {H : Type} : Lit × DataW H → Nat
  | (.string bytes, d) => bytes.length + uptoBulk d + 1
  | (_, d) => uptoBulk d + 1
 end
def uptoSmall : (H : Type) → List (DataW H) → Bool := fun _ ds => decide (uptoBulkAll ds ≤ 1048576)
def OpenSpec.upto (s : _root_.Go.ChangeSpec) : _root_.Go.OpenSpec := { _root_.Go.OpenSpec.ofChange s with cond := some uptoSmall }

/-- 'colonnadelaw08.PlainPuts', WHERE WHAT IT READS IS OF BULK AT MOST 1048576: true; the input reads as it did. -/
def plainPutsUptoRow : OpenClaim := { program := "ytkepimkabfoapab", sum := "8945714afd8db242e8c18f47f0d429b70b927facdcbcac7455478b6fefed8168", func := "colonnade/colonnadelaw08.PlainPuts", spec := "plainPuts", apart := false, narrowed := true }
def PlainPutsUptoSaid : Prop := plainPutsUptoRow.holds Try.pinned (OpenSpec.upto plainPutsSpec)

/-- 'colonnadelaw08.PlainInts', WHERE WHAT IT READS IS OF BULK AT MOST 1048576: true; the input reads as it did. -/
def plainIntsUptoRow : OpenClaim := { program := "ytkepimkabfoapab", sum := "8945714afd8db242e8c18f47f0d429b70b927facdcbcac7455478b6fefed8168", func := "colonnade/colonnadelaw08.PlainInts", spec := "plainInts", apart := false, narrowed := true }
def PlainIntsUptoSaid : Prop := plainIntsUptoRow.holds Try.pinned (OpenSpec.upto plainIntsSpec)

/-- 'colonnadelaw08.PlainTexts', WHERE WHAT IT READS IS OF BULK AT MOST 1048576: true; the input reads as it did. -/
def plainTextsUptoRow : OpenClaim := { program := "ytkepimkabfoapab", sum := "8945714afd8db242e8c18f47f0d429b70b927facdcbcac7455478b6fefed8168", func := "colonnade/colonnadelaw08.PlainTexts", spec := "plainTexts", apart := false, narrowed := true }
def PlainTextsUptoSaid : Prop := plainTextsUptoRow.holds Try.pinned (OpenSpec.upto plainTextsSpec)

/-- 'colonnadelaw08.PlainBack', WHERE WHAT IT READS IS OF BULK AT MOST 1048576: true; the input reads as it did. -/
def plainBackUptoRow : OpenClaim := { program := "ytkepimkabfoapab", sum := "8945714afd8db242e8c18f47f0d429b70b927facdcbcac7455478b6fefed8168", func := "colonnade/colonnadelaw08.PlainBack", spec := "plainBack", apart := false, narrowed := true }
def PlainBackUptoSaid : Prop := plainBackUptoRow.holds Try.pinned (OpenSpec.upto plainBackSpec)

/-- 'colonnadelaw08.PlainForm', WHERE WHAT IT READS IS OF BULK AT MOST 1048576: true; the input reads as it did. -/
def plainFormUptoRow : OpenClaim := { program := "ytkepimkabfoapab", sum := "8945714afd8db242e8c18f47f0d429b70b927facdcbcac7455478b6fefed8168", func := "colonnade/colonnadelaw08.PlainForm", spec := "plainForm", apart := false, narrowed := true }
def PlainFormUptoSaid : Prop := plainFormUptoRow.holds Try.pinned (OpenSpec.upto plainFormSpec)

/-- 'colonnadelaw08.PlainJoins', WHERE WHAT IT READS IS OF BULK AT MOST 1048576: true; the input reads as it did. -/
def plainJoinsUptoRow : OpenClaim := { program := "ytkepimkabfoapab", sum := "8945714afd8db242e8c18f47f0d429b70b927facdcbcac7455478b6fefed8168", func := "colonnade/colonnadelaw08.PlainJoins", spec := "plainJoins", apart := false, narrowed := true }
def PlainJoinsUptoSaid : Prop := plainJoinsUptoRow.holds Try.pinned (OpenSpec.upto plainJoinsSpec)

/-- 'colonnadelaw08.PlainOwn', WHERE WHAT IT READS IS OF BULK AT MOST 1048576: true; the input reads as it did. -/
def plainOwnUptoRow : OpenClaim := { program := "ytkepimkabfoapab", sum := "8945714afd8db242e8c18f47f0d429b70b927facdcbcac7455478b6fefed8168", func := "colonnade/colonnadelaw08.PlainOwn", spec := "plainOwn", apart := false, narrowed := true }
def PlainOwnUptoSaid : Prop := plainOwnUptoRow.holds Try.pinned (OpenSpec.upto plainOwnSpec)

/-- 'colonnadelaw16.LayoutNames', WHERE WHAT IT READS IS OF BULK AT MOST 1048576: true; the input reads as it did. -/
def layoutNamesUptoRow : OpenClaim := { program := "ytkepimkabfoapab", sum := "8945714afd8db242e8c18f47f0d429b70b927facdcbcac7455478b6fefed8168", func := "colonnade/colonnadelaw16.LayoutNames", spec := "layoutNames", apart := false, narrowed := true }
def LayoutNamesUptoSaid : Prop := layoutNamesUptoRow.holds Try.pinned (OpenSpec.upto layoutNamesSpec)

/-- 'colonnadelaw26.PruneTruths', WHERE WHAT IT READS IS OF BULK AT MOST 1048576: true; the input reads as it did. -/
def pruneTruthsUptoRow : OpenClaim := { program := "ytkepimkabfoapab", sum := "8945714afd8db242e8c18f47f0d429b70b927facdcbcac7455478b6fefed8168", func := "colonnade/colonnadelaw26.PruneTruths", spec := "pruneTruths", apart := false, narrowed := true }
def PruneTruthsUptoSaid : Prop := pruneTruthsUptoRow.holds Try.pinned (OpenSpec.upto pruneTruthsSpec)

end Rows
end Go.Proofs.Ytkepimkabfoapab
