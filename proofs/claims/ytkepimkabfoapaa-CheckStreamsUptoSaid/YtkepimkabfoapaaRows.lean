/-
  No cell of these rows narrows 'for every input' (looked for: loops, veiled, ifaces, maps, wideKeys, modest, calm, conditions, laid).
  DERIVED. THE GIVEN ROWS OF THIS SEAT. 12 by the template 'for every input the law returns true; each argument reads behind the call as it read before'; 0 by the template 'total and deterministic' (their statements: YtkepimkabfoapaaTotals.lean).
  GIVEN WITH THE SEED: the statements are not yours to turn. If you find one false, say at which input.
  Laid BY PROGRAM, IN A SANDBOX (cutbox-rows.mjs): the forced cells as the released guide's own fill.sh prints them over the translation f32181e50660de1f… (all of the seat's roots in one cut). By AI agents, Wed Nov 11 2026. No macro, syntax, notation, axiom, sorry.
-/
import Derived.Test.YtkepimkabfoapaaChecked
import GoSem.Claim
import GoSem.ClaimJoined
import GoSem.ClaimMapViews
import Derived.JoinedTies
import Derived.KernelRfl
namespace Go.Proofs.Ytkepimkabfoapaa
/- THE CELL 'sum', in the pinned program and in every row, IS THE sha256 OF THE DUMP (.gsa) THAT YtkepimkabfoapaaProg.lean LOADS. Nothing in Lean hashes anything: it is a label: what it is worth is what the hold of that sum in a sandbox is worth. -/
noncomputable def Try.pinned : Pinned := { name := "ytkepimkabfoapaa", sum := "f32181e50660de1f284d2f02a36dc4015dbd7992c6399dcecfa279198c81cbef", checked := Try.checked }
namespace Rows
def none {H : Type} : Left H := { results := [], args := [] }

/-- 'colonnadelaw06.CheckSums': WHATEVER THE INPUT: true; the input reads as it did. -/
def checkSumsSpec : ChangeSpec := { name := "checkSums", fn := fun _ => fun
  | [d] => { results := [.lit (.bool true)], args := [d] }
  | _ => none }
def checkSumsRow : OpenClaim := { program := "ytkepimkabfoapaa", sum := "f32181e50660de1f284d2f02a36dc4015dbd7992c6399dcecfa279198c81cbef", func := "colonnade/colonnadelaw06.CheckSums", spec := "checkSums", apart := false }
def CheckSumsSaid : Prop := checkSumsRow.holds Try.pinned (OpenSpec.ofChange checkSumsSpec)

/-- ITS FALSE NEIGHBOUR: 'it returns false'. Refute it at one input. -/
def checkSumsWrong : ChangeSpec := { name := "checkSums", fn := fun _ => fun
  | [d] => { results := [.lit (.bool false)], args := [d] }
  | _ => none }
def CheckSumsWrongFalsely : Prop := checkSumsRow.holds Try.pinned (OpenSpec.ofChange checkSumsWrong)

/-- 'colonnadelaw06.CheckMores': WHATEVER THE INPUT: true; the input reads as it did. -/
def checkMoresSpec : ChangeSpec := { name := "checkMores", fn := fun _ => fun
  | [d1, d2] => { results := [.lit (.bool true)], args := [d1, d2] }
  | _ => none }
def checkMoresRow : OpenClaim := { program := "ytkepimkabfoapaa", sum := "f32181e50660de1f284d2f02a36dc4015dbd7992c6399dcecfa279198c81cbef", func := "colonnade/colonnadelaw06.CheckMores", spec := "checkMores", apart := false }
def CheckMoresSaid : Prop := checkMoresRow.holds Try.pinned (OpenSpec.ofChange checkMoresSpec)

/-- ITS FALSE NEIGHBOUR: 'it returns false'. Refute it at one input. -/
def checkMoresWrong : ChangeSpec := { name := "checkMores", fn := fun _ => fun
  | [d1, d2] => { results := [.lit (.bool false)], args := [d1, d2] }
  | _ => none }
def CheckMoresWrongFalsely : Prop := checkMoresRow.holds Try.pinned (OpenSpec.ofChange checkMoresWrong)

/-- 'colonnadelaw06.CheckHashes': WHATEVER THE INPUT: true; the input reads as it did. -/
def checkHashesSpec : ChangeSpec := { name := "checkHashes", fn := fun _ => fun
  | [d] => { results := [.lit (.bool true)], args := [d] }
  | _ => none }
def checkHashesRow : OpenClaim := { program := "ytkepimkabfoapaa", sum := "f32181e50660de1f284d2f02a36dc4015dbd7992c6399dcecfa279198c81cbef", func := "colonnade/colonnadelaw06.CheckHashes", spec := "checkHashes", apart := false }
def CheckHashesSaid : Prop := checkHashesRow.holds Try.pinned (OpenSpec.ofChange checkHashesSpec)

/-- ITS FALSE NEIGHBOUR: 'it returns false'. Refute it at one input. -/
def checkHashesWrong : ChangeSpec := { name := "checkHashes", fn := fun _ => fun
  | [d] => { results := [.lit (.bool false)], args := [d] }
  | _ => none }
def CheckHashesWrongFalsely : Prop := checkHashesRow.holds Try.pinned (OpenSpec.ofChange checkHashesWrong)

/-- 'colonnadelaw06.CheckPlaces': WHATEVER THE INPUT: true; the input reads as it did. -/
def checkPlacesSpec : ChangeSpec := { name := "checkPlaces", fn := fun _ => fun
  | [d1, d2, d3] => { results := [.lit (.bool true)], args := [d1, d2, d3] }
  | _ => none }
def checkPlacesRow : OpenClaim := { program := "ytkepimkabfoapaa", sum := "f32181e50660de1f284d2f02a36dc4015dbd7992c6399dcecfa279198c81cbef", func := "colonnade/colonnadelaw06.CheckPlaces", spec := "checkPlaces", apart := false }
def CheckPlacesSaid : Prop := checkPlacesRow.holds Try.pinned (OpenSpec.ofChange checkPlacesSpec)

/-- ITS FALSE NEIGHBOUR: 'it returns false'. Refute it at one input. -/
def checkPlacesWrong : ChangeSpec := { name := "checkPlaces", fn := fun _ => fun
  | [d1, d2, d3] => { results := [.lit (.bool false)], args := [d1, d2, d3] }
  | _ => none }
def CheckPlacesWrongFalsely : Prop := checkPlacesRow.holds Try.pinned (OpenSpec.ofChange checkPlacesWrong)

/-- 'colonnadelaw06.CheckLinear': WHATEVER THE INPUT: true; the input reads as it did. -/
def checkLinearSpec : ChangeSpec := { name := "checkLinear", fn := fun _ => fun
  | [d1, d2, d3] => { results := [.lit (.bool true)], args := [d1, d2, d3] }
  | _ => none }
def checkLinearRow : OpenClaim := { program := "ytkepimkabfoapaa", sum := "f32181e50660de1f284d2f02a36dc4015dbd7992c6399dcecfa279198c81cbef", func := "colonnade/colonnadelaw06.CheckLinear", spec := "checkLinear", apart := false }
def CheckLinearSaid : Prop := checkLinearRow.holds Try.pinned (OpenSpec.ofChange checkLinearSpec)

/-- ITS FALSE NEIGHBOUR: 'it returns false'. Refute it at one input. -/
def checkLinearWrong : ChangeSpec := { name := "checkLinear", fn := fun _ => fun
  | [d1, d2, d3] => { results := [.lit (.bool false)], args := [d1, d2, d3] }
  | _ => none }
def CheckLinearWrongFalsely : Prop := checkLinearRow.holds Try.pinned (OpenSpec.ofChange checkLinearWrong)

/-- 'colonnadelaw06.CheckBursts': WHATEVER THE INPUT: true; the input reads as it did. -/
def checkBurstsSpec : ChangeSpec := { name := "checkBursts", fn := fun _ => fun
  | [d1, d2, d3, d4] => { results := [.lit (.bool true)], args := [d1, d2, d3, d4] }
  | _ => none }
def checkBurstsRow : OpenClaim := { program := "ytkepimkabfoapaa", sum := "f32181e50660de1f284d2f02a36dc4015dbd7992c6399dcecfa279198c81cbef", func := "colonnade/colonnadelaw06.CheckBursts", spec := "checkBursts", apart := false }
def CheckBurstsSaid : Prop := checkBurstsRow.holds Try.pinned (OpenSpec.ofChange checkBurstsSpec)

/-- ITS FALSE NEIGHBOUR: 'it returns false'. Refute it at one input. -/
def checkBurstsWrong : ChangeSpec := { name := "checkBursts", fn := fun _ => fun
  | [d1, d2, d3, d4] => { results := [.lit (.bool false)], args := [d1, d2, d3, d4] }
  | _ => none }
def CheckBurstsWrongFalsely : Prop := checkBurstsRow.holds Try.pinned (OpenSpec.ofChange checkBurstsWrong)

/-- 'colonnadelaw06.CheckSpreads': WHATEVER THE INPUT: true; the input reads as it did. -/
def checkSpreadsSpec : ChangeSpec := { name := "checkSpreads", fn := fun _ => fun
  | [d1, d2, d3] => { results := [.lit (.bool true)], args := [d1, d2, d3] }
  | _ => none }
def checkSpreadsRow : OpenClaim := { program := "ytkepimkabfoapaa", sum := "f32181e50660de1f284d2f02a36dc4015dbd7992c6399dcecfa279198c81cbef", func := "colonnade/colonnadelaw06.CheckSpreads", spec := "checkSpreads", apart := false }
def CheckSpreadsSaid : Prop := checkSpreadsRow.holds Try.pinned (OpenSpec.ofChange checkSpreadsSpec)

/-- ITS FALSE NEIGHBOUR: 'it returns false'. Refute it at one input. -/
def checkSpreadsWrong : ChangeSpec := { name := "checkSpreads", fn := fun _ => fun
  | [d1, d2, d3] => { results := [.lit (.bool false)], args := [d1, d2, d3] }
  | _ => none }
def CheckSpreadsWrongFalsely : Prop := checkSpreadsRow.holds Try.pinned (OpenSpec.ofChange checkSpreadsWrong)

/-- 'colonnadelaw06.CheckGoes': WHATEVER THE INPUT: true; the input reads as it did. -/
def checkGoesSpec : ChangeSpec := { name := "checkGoes", fn := fun _ => fun
  | [d1, d2, d3] => { results := [.lit (.bool true)], args := [d1, d2, d3] }
  | _ => none }
def checkGoesRow : OpenClaim := { program := "ytkepimkabfoapaa", sum := "f32181e50660de1f284d2f02a36dc4015dbd7992c6399dcecfa279198c81cbef", func := "colonnade/colonnadelaw06.CheckGoes", spec := "checkGoes", apart := false }
def CheckGoesSaid : Prop := checkGoesRow.holds Try.pinned (OpenSpec.ofChange checkGoesSpec)

/-- ITS FALSE NEIGHBOUR: 'it returns false'. Refute it at one input. -/
def checkGoesWrong : ChangeSpec := { name := "checkGoes", fn := fun _ => fun
  | [d1, d2, d3] => { results := [.lit (.bool false)], args := [d1, d2, d3] }
  | _ => none }
def CheckGoesWrongFalsely : Prop := checkGoesRow.holds Try.pinned (OpenSpec.ofChange checkGoesWrong)

/-- 'colonnadelaw06.CheckKept': WHATEVER THE INPUT: true; the input reads as it did. -/
def checkKeptSpec : ChangeSpec := { name := "checkKept", fn := fun _ => fun
  | [d1, d2, d3] => { results := [.lit (.bool true)], args := [d1, d2, d3] }
  | _ => none }
def checkKeptRow : OpenClaim := { program := "ytkepimkabfoapaa", sum := "f32181e50660de1f284d2f02a36dc4015dbd7992c6399dcecfa279198c81cbef", func := "colonnade/colonnadelaw06.CheckKept", spec := "checkKept", apart := false }
def CheckKeptSaid : Prop := checkKeptRow.holds Try.pinned (OpenSpec.ofChange checkKeptSpec)

/-- ITS FALSE NEIGHBOUR: 'it returns false'. Refute it at one input. -/
def checkKeptWrong : ChangeSpec := { name := "checkKept", fn := fun _ => fun
  | [d1, d2, d3] => { results := [.lit (.bool false)], args := [d1, d2, d3] }
  | _ => none }
def CheckKeptWrongFalsely : Prop := checkKeptRow.holds Try.pinned (OpenSpec.ofChange checkKeptWrong)

/-- 'colonnadelaw06.CheckPieces': WHATEVER THE INPUT: true; the input reads as it did. -/
def checkPiecesSpec : ChangeSpec := { name := "checkPieces", fn := fun _ => fun
  | [d] => { results := [.lit (.bool true)], args := [d] }
  | _ => none }
def checkPiecesRow : OpenClaim := { program := "ytkepimkabfoapaa", sum := "f32181e50660de1f284d2f02a36dc4015dbd7992c6399dcecfa279198c81cbef", func := "colonnade/colonnadelaw06.CheckPieces", spec := "checkPieces", apart := false }
def CheckPiecesSaid : Prop := checkPiecesRow.holds Try.pinned (OpenSpec.ofChange checkPiecesSpec)

/-- ITS FALSE NEIGHBOUR: 'it returns false'. Refute it at one input. -/
def checkPiecesWrong : ChangeSpec := { name := "checkPieces", fn := fun _ => fun
  | [d] => { results := [.lit (.bool false)], args := [d] }
  | _ => none }
def CheckPiecesWrongFalsely : Prop := checkPiecesRow.holds Try.pinned (OpenSpec.ofChange checkPiecesWrong)

/-- 'colonnadelaw06.CheckKnown': WHATEVER THE INPUT: true; the input reads as it did. -/
def checkKnownSpec : ChangeSpec := { name := "checkKnown", fn := fun _ => fun
  | [] => { results := [.lit (.bool true)], args := [] }
  | _ => none }
def checkKnownRow : OpenClaim := { program := "ytkepimkabfoapaa", sum := "f32181e50660de1f284d2f02a36dc4015dbd7992c6399dcecfa279198c81cbef", func := "colonnade/colonnadelaw06.CheckKnown", spec := "checkKnown", apart := false }
def CheckKnownSaid : Prop := checkKnownRow.holds Try.pinned (OpenSpec.ofChange checkKnownSpec)

/-- ITS FALSE NEIGHBOUR: 'it returns false'. Refute it at one input. -/
def checkKnownWrong : ChangeSpec := { name := "checkKnown", fn := fun _ => fun
  | [] => { results := [.lit (.bool false)], args := [] }
  | _ => none }
def CheckKnownWrongFalsely : Prop := checkKnownRow.holds Try.pinned (OpenSpec.ofChange checkKnownWrong)

/-- 'colonnadelaw06.CheckStreams': WHATEVER THE INPUT: true; the input reads as it did. -/
def checkStreamsSpec : ChangeSpec := { name := "checkStreams", fn := fun _ => fun
  | [d] => { results := [.lit (.bool true)], args := [d] }
  | _ => none }
def checkStreamsRow : OpenClaim := { program := "ytkepimkabfoapaa", sum := "f32181e50660de1f284d2f02a36dc4015dbd7992c6399dcecfa279198c81cbef", func := "colonnade/colonnadelaw06.CheckStreams", spec := "checkStreams", apart := false }
def CheckStreamsSaid : Prop := checkStreamsRow.holds Try.pinned (OpenSpec.ofChange checkStreamsSpec)

/-- ITS FALSE NEIGHBOUR: 'it returns false'. Refute it at one input. -/
def checkStreamsWrong : ChangeSpec := { name := "checkStreams", fn := fun _ => fun
  | [d] => { results := [.lit (.bool false)], args := [d] }
  | _ => none }
def CheckStreamsWrongFalsely : Prop := checkStreamsRow.holds Try.pinned (OpenSpec.ofChange checkStreamsWrong)

/- THE SECOND FORM. 'bulk': how many values and letters a reading holds, each counted each time it is reached (what is shared counts as often as it is met; a slice's spare places count too). A statement '..UptoSaid' is the law's where the arguments, and the package variables that the reading takes, are together of bulk at most 1048576: NARROWER than '..Said'. Prove '..Said' where nothing that the law and all that it calls make is longer than what came in: it says more and counts as full. Else prove '..UptoSaid'. A law counts once. -/
mutual
def uptoBulk {H : Type} : DataW H → Nat
  | .lit (.string bytes) => bytes.length + 1
  | .lit _ => 1
  | .nil => 1
  | .ptr d => uptoBulk d + 1
  | .slice elems spare => uptoBulkAll elems + uptoBulkAll spare + 1
  | .agg parts => uptoBulkAll parts + 1
  | .iface _ d => uptoBulk d + 1
  | .map entries => uptoBulkEntries entries + 1
  | .held _ => 1
def uptoBulkAll {H : Type} : List (DataW H) → Nat
  | [] => 0
  | d :: r => uptoBulk d + uptoBulkAll r
def uptoBulkEntries {H : Type} : List (Lit × DataW H) → Nat
  | [] => 0
  | x :: r => uptoBulkEntry x + uptoBulkEntries r
def uptoBulkEntry {H : Type} : Lit × DataW H → Nat
  | (.string bytes, d) => bytes.length + uptoBulk d + 1
  | (_, d) => uptoBulk d + 1
 end
def uptoSmall : (H : Type) → List (DataW H) → Bool := fun _ ds => decide (uptoBulkAll ds ≤ 1048576)
def OpenSpec.upto (s : _root_.Go.ChangeSpec) : _root_.Go.OpenSpec := { _root_.Go.OpenSpec.ofChange s with cond := some uptoSmall }

/-- 'colonnadelaw06.CheckSums', WHERE WHAT IT READS IS OF BULK AT MOST 1048576: true; the input reads as it did. -/
def checkSumsUptoRow : OpenClaim := { program := "ytkepimkabfoapaa", sum := "f32181e50660de1f284d2f02a36dc4015dbd7992c6399dcecfa279198c81cbef", func := "colonnade/colonnadelaw06.CheckSums", spec := "checkSums", apart := false, narrowed := true }
def CheckSumsUptoSaid : Prop := checkSumsUptoRow.holds Try.pinned (OpenSpec.upto checkSumsSpec)

/-- 'colonnadelaw06.CheckMores', WHERE WHAT IT READS IS OF BULK AT MOST 1048576: true; the input reads as it did. -/
def checkMoresUptoRow : OpenClaim := { program := "ytkepimkabfoapaa", sum := "f32181e50660de1f284d2f02a36dc4015dbd7992c6399dcecfa279198c81cbef", func := "colonnade/colonnadelaw06.CheckMores", spec := "checkMores", apart := false, narrowed := true }
def CheckMoresUptoSaid : Prop := checkMoresUptoRow.holds Try.pinned (OpenSpec.upto checkMoresSpec)

/-- 'colonnadelaw06.CheckHashes', WHERE WHAT IT READS IS OF BULK AT MOST 1048576: true; the input reads as it did. -/
def checkHashesUptoRow : OpenClaim := { program := "ytkepimkabfoapaa", sum := "f32181e50660de1f284d2f02a36dc4015dbd7992c6399dcecfa279198c81cbef", func := "colonnade/colonnadelaw06.CheckHashes", spec := "checkHashes", apart := false, narrowed := true }
def CheckHashesUptoSaid : Prop := checkHashesUptoRow.holds Try.pinned (OpenSpec.upto checkHashesSpec)

/-- 'colonnadelaw06.CheckPlaces', WHERE WHAT IT READS IS OF BULK AT MOST 1048576: true; the input reads as it did. -/
def checkPlacesUptoRow : OpenClaim := { program := "ytkepimkabfoapaa", sum := "f32181e50660de1f284d2f02a36dc4015dbd7992c6399dcecfa279198c81cbef", func := "colonnade/colonnadelaw06.CheckPlaces", spec := "checkPlaces", apart := false, narrowed := true }
def CheckPlacesUptoSaid : Prop := checkPlacesUptoRow.holds Try.pinned (OpenSpec.upto checkPlacesSpec)

/-- 'colonnadelaw06.CheckLinear', WHERE WHAT IT READS IS OF BULK AT MOST 1048576: true; the input reads as it did. -/
def checkLinearUptoRow : OpenClaim := { program := "ytkepimkabfoapaa", sum := "f32181e50660de1f284d2f02a36dc4015dbd7992c6399dcecfa279198c81cbef", func := "colonnade/colonnadelaw06.CheckLinear", spec := "checkLinear", apart := false, narrowed := true }
def CheckLinearUptoSaid : Prop := checkLinearUptoRow.holds Try.pinned (OpenSpec.upto checkLinearSpec)

/-- 'colonnadelaw06.CheckBursts', WHERE WHAT IT READS IS OF BULK AT MOST 1048576: true; the input reads as it did. -/
def checkBurstsUptoRow : OpenClaim := { program := "ytkepimkabfoapaa", sum := "f32181e50660de1f284d2f02a36dc4015dbd7992c6399dcecfa279198c81cbef", func := "colonnade/colonnadelaw06.CheckBursts", spec := "checkBursts", apart := false, narrowed := true }
def CheckBurstsUptoSaid : Prop := checkBurstsUptoRow.holds Try.pinned (OpenSpec.upto checkBurstsSpec)

/-- 'colonnadelaw06.CheckSpreads', WHERE WHAT IT READS IS OF BULK AT MOST 1048576: true; the input reads as it did. -/
def checkSpreadsUptoRow : OpenClaim := { program := "ytkepimkabfoapaa", sum := "f32181e50660de1f284d2f02a36dc4015dbd7992c6399dcecfa279198c81cbef", func := "colonnade/colonnadelaw06.CheckSpreads", spec := "checkSpreads", apart := false, narrowed := true }
def CheckSpreadsUptoSaid : Prop := checkSpreadsUptoRow.holds Try.pinned (OpenSpec.upto checkSpreadsSpec)

/-- 'colonnadelaw06.CheckGoes', WHERE WHAT IT READS IS OF BULK AT MOST 1048576: true; the input reads as it did. -/
def checkGoesUptoRow : OpenClaim := { program := "ytkepimkabfoapaa", sum := "f32181e50660de1f284d2f02a36dc4015dbd7992c6399dcecfa279198c81cbef", func := "colonnade/colonnadelaw06.CheckGoes", spec := "checkGoes", apart := false, narrowed := true }
def CheckGoesUptoSaid : Prop := checkGoesUptoRow.holds Try.pinned (OpenSpec.upto checkGoesSpec)

/-- 'colonnadelaw06.CheckKept', WHERE WHAT IT READS IS OF BULK AT MOST 1048576: true; the input reads as it did. -/
def checkKeptUptoRow : OpenClaim := { program := "ytkepimkabfoapaa", sum := "f32181e50660de1f284d2f02a36dc4015dbd7992c6399dcecfa279198c81cbef", func := "colonnade/colonnadelaw06.CheckKept", spec := "checkKept", apart := false, narrowed := true }
def CheckKeptUptoSaid : Prop := checkKeptUptoRow.holds Try.pinned (OpenSpec.upto checkKeptSpec)

/-- 'colonnadelaw06.CheckPieces', WHERE WHAT IT READS IS OF BULK AT MOST 1048576: true; the input reads as it did. -/
def checkPiecesUptoRow : OpenClaim := { program := "ytkepimkabfoapaa", sum := "f32181e50660de1f284d2f02a36dc4015dbd7992c6399dcecfa279198c81cbef", func := "colonnade/colonnadelaw06.CheckPieces", spec := "checkPieces", apart := false, narrowed := true }
def CheckPiecesUptoSaid : Prop := checkPiecesUptoRow.holds Try.pinned (OpenSpec.upto checkPiecesSpec)

/-- 'colonnadelaw06.CheckKnown', WHERE WHAT IT READS IS OF BULK AT MOST 1048576: true; the input reads as it did. -/
def checkKnownUptoRow : OpenClaim := { program := "ytkepimkabfoapaa", sum := "f32181e50660de1f284d2f02a36dc4015dbd7992c6399dcecfa279198c81cbef", func := "colonnade/colonnadelaw06.CheckKnown", spec := "checkKnown", apart := false, narrowed := true }
def CheckKnownUptoSaid : Prop := checkKnownUptoRow.holds Try.pinned (OpenSpec.upto checkKnownSpec)

/-- 'colonnadelaw06.CheckStreams', WHERE WHAT IT READS IS OF BULK AT MOST 1048576: true; the input reads as it did. -/
def checkStreamsUptoRow : OpenClaim := { program := "ytkepimkabfoapaa", sum := "f32181e50660de1f284d2f02a36dc4015dbd7992c6399dcecfa279198c81cbef", func := "colonnade/colonnadelaw06.CheckStreams", spec := "checkStreams", apart := false, narrowed := true }
def CheckStreamsUptoSaid : Prop := checkStreamsUptoRow.holds Try.pinned (OpenSpec.upto checkStreamsSpec)

end Rows
end Go.Proofs.Ytkepimkabfoapaa
