/-
  No cell of these rows narrows 'for every input' (looked for: loops, veiled, ifaces, maps, wideKeys, modest, calm, conditions, laid).
  DERIVED. THE GIVEN ROWS OF THIS SEAT. 13 by the template 'for every input the law returns true; each argument reads behind the call as it read before'; 0 by the template 'total and deterministic' (their statements: YtlpllhpnnhablaaTotals.lean).
  GIVEN WITH THE SEED: the statements are not yours to turn. If you find one false, say at which input.
  Laid BY PROGRAM, IN A SANDBOX (cutbox-rows.mjs): the forced cells as the released guide's own fill.sh prints them over the translation f0552be192b23e90… (all of the seat's roots in one cut). By AI agents, Wed Nov 11 2026. No macro, syntax, notation, axiom, sorry.
-/
import Derived.Test.YtlpllhpnnhablaaChecked
import GoSem.Claim
import GoSem.ClaimJoined
import GoSem.ClaimMapViews
import Derived.JoinedTies
import Derived.KernelRfl
namespace Go.Proofs.Ytlpllhpnnhablaa
/- THE CELL 'sum', in the pinned program and in every row, IS THE sha256 OF THE DUMP (.gsa) THAT YtlpllhpnnhablaaProg.lean LOADS. Nothing in Lean hashes anything: it is a label: what it is worth is what the hold of that sum in a sandbox is worth. -/
noncomputable def Try.pinned : Pinned := { name := "ytlpllhpnnhablaa", sum := "f0552be192b23e90ce467a5e659ed5f9b6fb6eaa981e919239f76ef280379af7", checked := Try.checked }
namespace Rows
def none {H : Type} : Left H := { results := [], args := [] }

/-- 'colonnadelaw09.DictBuilds': WHATEVER THE INPUT: true; the input reads as it did. -/
def dictBuildsSpec : ChangeSpec := { name := "dictBuilds", fn := fun _ => fun
  | [d] => { results := [.lit (.bool true)], args := [d] }
  | _ => none }
def dictBuildsRow : OpenClaim := { program := "ytlpllhpnnhablaa", sum := "f0552be192b23e90ce467a5e659ed5f9b6fb6eaa981e919239f76ef280379af7", func := "colonnade/colonnadelaw09.DictBuilds", spec := "dictBuilds", unfollowed := true, recurses := true, apart := false }
def DictBuildsSaid : Prop := dictBuildsRow.holds Try.pinned (OpenSpec.ofChange dictBuildsSpec)

/-- ITS FALSE NEIGHBOUR: 'it returns false'. Refute it at one input. -/
def dictBuildsWrong : ChangeSpec := { name := "dictBuilds", fn := fun _ => fun
  | [d] => { results := [.lit (.bool false)], args := [d] }
  | _ => none }
def DictBuildsWrongFalsely : Prop := dictBuildsRow.holds Try.pinned (OpenSpec.ofChange dictBuildsWrong)

/-- 'colonnadelaw09.DictTexts': WHATEVER THE INPUT: true; the input reads as it did. -/
def dictTextsSpec : ChangeSpec := { name := "dictTexts", fn := fun _ => fun
  | [d] => { results := [.lit (.bool true)], args := [d] }
  | _ => none }
def dictTextsRow : OpenClaim := { program := "ytlpllhpnnhablaa", sum := "f0552be192b23e90ce467a5e659ed5f9b6fb6eaa981e919239f76ef280379af7", func := "colonnade/colonnadelaw09.DictTexts", spec := "dictTexts", unfollowed := true, recurses := true, apart := false }
def DictTextsSaid : Prop := dictTextsRow.holds Try.pinned (OpenSpec.ofChange dictTextsSpec)

/-- ITS FALSE NEIGHBOUR: 'it returns false'. Refute it at one input. -/
def dictTextsWrong : ChangeSpec := { name := "dictTexts", fn := fun _ => fun
  | [d] => { results := [.lit (.bool false)], args := [d] }
  | _ => none }
def DictTextsWrongFalsely : Prop := dictTextsRow.holds Try.pinned (OpenSpec.ofChange dictTextsWrong)

/-- 'colonnadelaw09.DictFloors': WHATEVER THE INPUT: true; the input reads as it did. -/
def dictFloorsSpec : ChangeSpec := { name := "dictFloors", fn := fun _ => fun
  | [d1, d2, d3] => { results := [.lit (.bool true)], args := [d1, d2, d3] }
  | _ => none }
def dictFloorsRow : OpenClaim := { program := "ytlpllhpnnhablaa", sum := "f0552be192b23e90ce467a5e659ed5f9b6fb6eaa981e919239f76ef280379af7", func := "colonnade/colonnadelaw09.DictFloors", spec := "dictFloors", unfollowed := true, recurses := true, apart := false }
def DictFloorsSaid : Prop := dictFloorsRow.holds Try.pinned (OpenSpec.ofChange dictFloorsSpec)

/-- ITS FALSE NEIGHBOUR: 'it returns false'. Refute it at one input. -/
def dictFloorsWrong : ChangeSpec := { name := "dictFloors", fn := fun _ => fun
  | [d1, d2, d3] => { results := [.lit (.bool false)], args := [d1, d2, d3] }
  | _ => none }
def DictFloorsWrongFalsely : Prop := dictFloorsRow.holds Try.pinned (OpenSpec.ofChange dictFloorsWrong)

/-- 'colonnadelaw09.DictPuts': WHATEVER THE INPUT: true; the input reads as it did. -/
def dictPutsSpec : ChangeSpec := { name := "dictPuts", fn := fun _ => fun
  | [d] => { results := [.lit (.bool true)], args := [d] }
  | _ => none }
def dictPutsRow : OpenClaim := { program := "ytlpllhpnnhablaa", sum := "f0552be192b23e90ce467a5e659ed5f9b6fb6eaa981e919239f76ef280379af7", func := "colonnade/colonnadelaw09.DictPuts", spec := "dictPuts", unfollowed := true, recurses := true, apart := false }
def DictPutsSaid : Prop := dictPutsRow.holds Try.pinned (OpenSpec.ofChange dictPutsSpec)

/-- ITS FALSE NEIGHBOUR: 'it returns false'. Refute it at one input. -/
def dictPutsWrong : ChangeSpec := { name := "dictPuts", fn := fun _ => fun
  | [d] => { results := [.lit (.bool false)], args := [d] }
  | _ => none }
def DictPutsWrongFalsely : Prop := dictPutsRow.holds Try.pinned (OpenSpec.ofChange dictPutsWrong)

/-- 'colonnadelaw09.DictReads': WHATEVER THE INPUT: true; the input reads as it did. -/
def dictReadsSpec : ChangeSpec := { name := "dictReads", fn := fun _ => fun
  | [d1, d2] => { results := [.lit (.bool true)], args := [d1, d2] }
  | _ => none }
def dictReadsRow : OpenClaim := { program := "ytlpllhpnnhablaa", sum := "f0552be192b23e90ce467a5e659ed5f9b6fb6eaa981e919239f76ef280379af7", func := "colonnade/colonnadelaw09.DictReads", spec := "dictReads", unfollowed := true, recurses := true, apart := false }
def DictReadsSaid : Prop := dictReadsRow.holds Try.pinned (OpenSpec.ofChange dictReadsSpec)

/-- ITS FALSE NEIGHBOUR: 'it returns false'. Refute it at one input. -/
def dictReadsWrong : ChangeSpec := { name := "dictReads", fn := fun _ => fun
  | [d1, d2] => { results := [.lit (.bool false)], args := [d1, d2] }
  | _ => none }
def DictReadsWrongFalsely : Prop := dictReadsRow.holds Try.pinned (OpenSpec.ofChange dictReadsWrong)

/-- 'colonnadelaw09.DictFloats': WHATEVER THE INPUT: true; the input reads as it did. -/
def dictFloatsSpec : ChangeSpec := { name := "dictFloats", fn := fun _ => fun
  | [d] => { results := [.lit (.bool true)], args := [d] }
  | _ => none }
def dictFloatsRow : OpenClaim := { program := "ytlpllhpnnhablaa", sum := "f0552be192b23e90ce467a5e659ed5f9b6fb6eaa981e919239f76ef280379af7", func := "colonnade/colonnadelaw09.DictFloats", spec := "dictFloats", unfollowed := true, recurses := true, apart := false }
def DictFloatsSaid : Prop := dictFloatsRow.holds Try.pinned (OpenSpec.ofChange dictFloatsSpec)

/-- ITS FALSE NEIGHBOUR: 'it returns false'. Refute it at one input. -/
def dictFloatsWrong : ChangeSpec := { name := "dictFloats", fn := fun _ => fun
  | [d] => { results := [.lit (.bool false)], args := [d] }
  | _ => none }
def DictFloatsWrongFalsely : Prop := dictFloatsRow.holds Try.pinned (OpenSpec.ofChange dictFloatsWrong)

/-- 'colonnadelaw09.DictOrder': WHATEVER THE INPUT: true; the input reads as it did. -/
def dictOrderSpec : ChangeSpec := { name := "dictOrder", fn := fun _ => fun
  | [d1, d2] => { results := [.lit (.bool true)], args := [d1, d2] }
  | _ => none }
def dictOrderRow : OpenClaim := { program := "ytlpllhpnnhablaa", sum := "f0552be192b23e90ce467a5e659ed5f9b6fb6eaa981e919239f76ef280379af7", func := "colonnade/colonnadelaw09.DictOrder", spec := "dictOrder", unfollowed := true, recurses := true, apart := false }
def DictOrderSaid : Prop := dictOrderRow.holds Try.pinned (OpenSpec.ofChange dictOrderSpec)

/-- ITS FALSE NEIGHBOUR: 'it returns false'. Refute it at one input. -/
def dictOrderWrong : ChangeSpec := { name := "dictOrder", fn := fun _ => fun
  | [d1, d2] => { results := [.lit (.bool false)], args := [d1, d2] }
  | _ => none }
def DictOrderWrongFalsely : Prop := dictOrderRow.holds Try.pinned (OpenSpec.ofChange dictOrderWrong)

/-- 'colonnadelaw09.DictTextOrder': WHATEVER THE INPUT: true; the input reads as it did. -/
def dictTextOrderSpec : ChangeSpec := { name := "dictTextOrder", fn := fun _ => fun
  | [d1, d2] => { results := [.lit (.bool true)], args := [d1, d2] }
  | _ => none }
def dictTextOrderRow : OpenClaim := { program := "ytlpllhpnnhablaa", sum := "f0552be192b23e90ce467a5e659ed5f9b6fb6eaa981e919239f76ef280379af7", func := "colonnade/colonnadelaw09.DictTextOrder", spec := "dictTextOrder", unfollowed := true, recurses := true, apart := false }
def DictTextOrderSaid : Prop := dictTextOrderRow.holds Try.pinned (OpenSpec.ofChange dictTextOrderSpec)

/-- ITS FALSE NEIGHBOUR: 'it returns false'. Refute it at one input. -/
def dictTextOrderWrong : ChangeSpec := { name := "dictTextOrder", fn := fun _ => fun
  | [d1, d2] => { results := [.lit (.bool false)], args := [d1, d2] }
  | _ => none }
def DictTextOrderWrongFalsely : Prop := dictTextOrderRow.holds Try.pinned (OpenSpec.ofChange dictTextOrderWrong)

/-- 'colonnadelaw09.DictOne': WHATEVER THE INPUT: true; the input reads as it did. -/
def dictOneSpec : ChangeSpec := { name := "dictOne", fn := fun _ => fun
  | [d1, d2] => { results := [.lit (.bool true)], args := [d1, d2] }
  | _ => none }
def dictOneRow : OpenClaim := { program := "ytlpllhpnnhablaa", sum := "f0552be192b23e90ce467a5e659ed5f9b6fb6eaa981e919239f76ef280379af7", func := "colonnade/colonnadelaw09.DictOne", spec := "dictOne", unfollowed := true, recurses := true, apart := false }
def DictOneSaid : Prop := dictOneRow.holds Try.pinned (OpenSpec.ofChange dictOneSpec)

/-- ITS FALSE NEIGHBOUR: 'it returns false'. Refute it at one input. -/
def dictOneWrong : ChangeSpec := { name := "dictOne", fn := fun _ => fun
  | [d1, d2] => { results := [.lit (.bool false)], args := [d1, d2] }
  | _ => none }
def DictOneWrongFalsely : Prop := dictOneRow.holds Try.pinned (OpenSpec.ofChange dictOneWrong)

/-- 'colonnadelaw09.DictOwn': WHATEVER THE INPUT: true; the input reads as it did. -/
def dictOwnSpec : ChangeSpec := { name := "dictOwn", fn := fun _ => fun
  | [d1, d2] => { results := [.lit (.bool true)], args := [d1, d2] }
  | _ => none }
def dictOwnRow : OpenClaim := { program := "ytlpllhpnnhablaa", sum := "f0552be192b23e90ce467a5e659ed5f9b6fb6eaa981e919239f76ef280379af7", func := "colonnade/colonnadelaw09.DictOwn", spec := "dictOwn", unfollowed := true, recurses := true, apart := false }
def DictOwnSaid : Prop := dictOwnRow.holds Try.pinned (OpenSpec.ofChange dictOwnSpec)

/-- ITS FALSE NEIGHBOUR: 'it returns false'. Refute it at one input. -/
def dictOwnWrong : ChangeSpec := { name := "dictOwn", fn := fun _ => fun
  | [d1, d2] => { results := [.lit (.bool false)], args := [d1, d2] }
  | _ => none }
def DictOwnWrongFalsely : Prop := dictOwnRow.holds Try.pinned (OpenSpec.ofChange dictOwnWrong)

/-- 'colonnadelaw09.DictPutTexts': WHATEVER THE INPUT: true; the input reads as it did. -/
def dictPutTextsSpec : ChangeSpec := { name := "dictPutTexts", fn := fun _ => fun
  | [d] => { results := [.lit (.bool true)], args := [d] }
  | _ => none }
def dictPutTextsRow : OpenClaim := { program := "ytlpllhpnnhablaa", sum := "f0552be192b23e90ce467a5e659ed5f9b6fb6eaa981e919239f76ef280379af7", func := "colonnade/colonnadelaw09.DictPutTexts", spec := "dictPutTexts", unfollowed := true, recurses := true, apart := false }
def DictPutTextsSaid : Prop := dictPutTextsRow.holds Try.pinned (OpenSpec.ofChange dictPutTextsSpec)

/-- ITS FALSE NEIGHBOUR: 'it returns false'. Refute it at one input. -/
def dictPutTextsWrong : ChangeSpec := { name := "dictPutTexts", fn := fun _ => fun
  | [d] => { results := [.lit (.bool false)], args := [d] }
  | _ => none }
def DictPutTextsWrongFalsely : Prop := dictPutTextsRow.holds Try.pinned (OpenSpec.ofChange dictPutTextsWrong)

/-- 'colonnadelaw09.DictLimits': WHATEVER THE INPUT: true; the input reads as it did. -/
def dictLimitsSpec : ChangeSpec := { name := "dictLimits", fn := fun _ => fun
  | [] => { results := [.lit (.bool true)], args := [] }
  | _ => none }
def dictLimitsRow : OpenClaim := { program := "ytlpllhpnnhablaa", sum := "f0552be192b23e90ce467a5e659ed5f9b6fb6eaa981e919239f76ef280379af7", func := "colonnade/colonnadelaw09.DictLimits", spec := "dictLimits", unfollowed := true, recurses := true, apart := false }
def DictLimitsSaid : Prop := dictLimitsRow.holds Try.pinned (OpenSpec.ofChange dictLimitsSpec)

/-- ITS FALSE NEIGHBOUR: 'it returns false'. Refute it at one input. -/
def dictLimitsWrong : ChangeSpec := { name := "dictLimits", fn := fun _ => fun
  | [] => { results := [.lit (.bool false)], args := [] }
  | _ => none }
def DictLimitsWrongFalsely : Prop := dictLimitsRow.holds Try.pinned (OpenSpec.ofChange dictLimitsWrong)

/-- 'colonnadelaw09.DictReadTexts': WHATEVER THE INPUT: true; the input reads as it did. -/
def dictReadTextsSpec : ChangeSpec := { name := "dictReadTexts", fn := fun _ => fun
  | [d1, d2] => { results := [.lit (.bool true)], args := [d1, d2] }
  | _ => none }
def dictReadTextsRow : OpenClaim := { program := "ytlpllhpnnhablaa", sum := "f0552be192b23e90ce467a5e659ed5f9b6fb6eaa981e919239f76ef280379af7", func := "colonnade/colonnadelaw09.DictReadTexts", spec := "dictReadTexts", unfollowed := true, recurses := true, apart := false }
def DictReadTextsSaid : Prop := dictReadTextsRow.holds Try.pinned (OpenSpec.ofChange dictReadTextsSpec)

/-- ITS FALSE NEIGHBOUR: 'it returns false'. Refute it at one input. -/
def dictReadTextsWrong : ChangeSpec := { name := "dictReadTexts", fn := fun _ => fun
  | [d1, d2] => { results := [.lit (.bool false)], args := [d1, d2] }
  | _ => none }
def DictReadTextsWrongFalsely : Prop := dictReadTextsRow.holds Try.pinned (OpenSpec.ofChange dictReadTextsWrong)

/- THE SECOND FORM. 'bulk': how many values and letters a reading holds, each counted each time it is reached (what is shared counts as often as it is met; a slice's spare places count too). A statement '..UptoSaid' is the law's where the arguments, and the package variables that the reading takes, are together of bulk at most 1048576: NARROWER than '..Said'. Prove '..Said' where nothing that the law and all that it calls make is longer than what came in: it says more and counts as full. Else prove '..UptoSaid'. A law counts once. -/
mutual
def uptoBulk {H : Type} : DataW H → Nat
  | .lit (.string bytes) => bytes.length + 1
  | .lit _ => 1
  | .nil => 1
  | .ptr d => uptoBulk d + 1
  | .slice elems spare => uptoBulkAll elems + uptoBulkAll spare + 1
  | .agg parts => uptoBulkAll parts + 1
  | .iface _ d => uptoBulk d + 1
  | .map entries => uptoBulkEntries entries + 1
  | .held _ => 1
def uptoBulkAll {H : Type} : List (DataW H) → Nat
  | [] => 0
  | d :: r => uptoBulk d + uptoBulkAll r
def uptoBulkEntries {H : Type} : List (Lit × DataW H) → Nat
  | [] => 0
  | x :: r => uptoBulkEntry x + uptoBulkEntries r
def uptoBulkEntry {H : Type} : Lit × DataW H → Nat
  | (.string bytes, d) => bytes.length + uptoBulk d + 1
  | (_, d) => uptoBulk d + 1
 end
def uptoSmall : (H : Type) → List (DataW H) → Bool := fun _ ds => decide (uptoBulkAll ds ≤ 1048576)
def OpenSpec.upto (s : _root_.Go.ChangeSpec) : _root_.Go.OpenSpec := { _root_.Go.OpenSpec.ofChange s with cond := some uptoSmall }

/-- 'colonnadelaw09.DictBuilds', WHERE WHAT IT READS IS OF BULK AT MOST 1048576: true; the input reads as it did. -/
def dictBuildsUptoRow : OpenClaim := { program := "ytlpllhpnnhablaa", sum := "f0552be192b23e90ce467a5e659ed5f9b6fb6eaa981e919239f76ef280379af7", func := "colonnade/colonnadelaw09.DictBuilds", spec := "dictBuilds", unfollowed := true, recurses := true, apart := false, narrowed := true }
def DictBuildsUptoSaid : Prop := dictBuildsUptoRow.holds Try.pinned (OpenSpec.upto dictBuildsSpec)

/-- 'colonnadelaw09.DictTexts', WHERE WHAT IT READS IS OF BULK AT MOST 1048576: true; the input reads as it did. -/
def dictTextsUptoRow : OpenClaim := { program := "ytlpllhpnnhablaa", sum := "f0552be192b23e90ce467a5e659ed5f9b6fb6eaa981e919239f76ef280379af7", func := "colonnade/colonnadelaw09.DictTexts", spec := "dictTexts", unfollowed := true, recurses := true, apart := false, narrowed := true }
def DictTextsUptoSaid : Prop := dictTextsUptoRow.holds Try.pinned (OpenSpec.upto dictTextsSpec)

/-- 'colonnadelaw09.DictFloors', WHERE WHAT IT READS IS OF BULK AT MOST 1048576: true; the input reads as it did. -/
def dictFloorsUptoRow : OpenClaim := { program := "ytlpllhpnnhablaa", sum := "f0552be192b23e90ce467a5e659ed5f9b6fb6eaa981e919239f76ef280379af7", func := "colonnade/colonnadelaw09.DictFloors", spec := "dictFloors", unfollowed := true, recurses := true, apart := false, narrowed := true }
def DictFloorsUptoSaid : Prop := dictFloorsUptoRow.holds Try.pinned (OpenSpec.upto dictFloorsSpec)

/-- 'colonnadelaw09.DictPuts', WHERE WHAT IT READS IS OF BULK AT MOST 1048576: true; the input reads as it did. -/
def dictPutsUptoRow : OpenClaim := { program := "ytlpllhpnnhablaa", sum := "f0552be192b23e90ce467a5e659ed5f9b6fb6eaa981e919239f76ef280379af7", func := "colonnade/colonnadelaw09.DictPuts", spec := "dictPuts", unfollowed := true, recurses := true, apart := false, narrowed := true }
def DictPutsUptoSaid : Prop := dictPutsUptoRow.holds Try.pinned (OpenSpec.upto dictPutsSpec)

/-- 'colonnadelaw09.DictReads', WHERE WHAT IT READS IS OF BULK AT MOST 1048576: true; the input reads as it did. -/
def dictReadsUptoRow : OpenClaim := { program := "ytlpllhpnnhablaa", sum := "f0552be192b23e90ce467a5e659ed5f9b6fb6eaa981e919239f76ef280379af7", func := "colonnade/colonnadelaw09.DictReads", spec := "dictReads", unfollowed := true, recurses := true, apart := false, narrowed := true }
def DictReadsUptoSaid : Prop := dictReadsUptoRow.holds Try.pinned (OpenSpec.upto dictReadsSpec)

/-- 'colonnadelaw09.DictFloats', WHERE WHAT IT READS IS OF BULK AT MOST 1048576: true; the input reads as it did. -/
def dictFloatsUptoRow : OpenClaim := { program := "ytlpllhpnnhablaa", sum := "f0552be192b23e90ce467a5e659ed5f9b6fb6eaa981e919239f76ef280379af7", func := "colonnade/colonnadelaw09.DictFloats", spec := "dictFloats", unfollowed := true, recurses := true, apart := false, narrowed := true }
def DictFloatsUptoSaid : Prop := dictFloatsUptoRow.holds Try.pinned (OpenSpec.upto dictFloatsSpec)

/-- 'colonnadelaw09.DictOrder', WHERE WHAT IT READS IS OF BULK AT MOST 1048576: true; the input reads as it did. -/
def dictOrderUptoRow : OpenClaim := { program := "ytlpllhpnnhablaa", sum := "f0552be192b23e90ce467a5e659ed5f9b6fb6eaa981e919239f76ef280379af7", func := "colonnade/colonnadelaw09.DictOrder", spec := "dictOrder", unfollowed := true, recurses := true, apart := false, narrowed := true }
def DictOrderUptoSaid : Prop := dictOrderUptoRow.holds Try.pinned (OpenSpec.upto dictOrderSpec)

/-- 'colonnadelaw09.DictTextOrder', WHERE WHAT IT READS IS OF BULK AT MOST 1048576: true; the input reads as it did. -/
def dictTextOrderUptoRow : OpenClaim := { program := "ytlpllhpnnhablaa", sum := "f0552be192b23e90ce467a5e659ed5f9b6fb6eaa981e919239f76ef280379af7", func := "colonnade/colonnadelaw09.DictTextOrder", spec := "dictTextOrder", unfollowed := true, recurses := true, apart := false, narrowed := true }
def DictTextOrderUptoSaid : Prop := dictTextOrderUptoRow.holds Try.pinned (OpenSpec.upto dictTextOrderSpec)

/-- 'colonnadelaw09.DictOne', WHERE WHAT IT READS IS OF BULK AT MOST 1048576: true; the input reads as it did. -/
def dictOneUptoRow : OpenClaim := { program := "ytlpllhpnnhablaa", sum := "f0552be192b23e90ce467a5e659ed5f9b6fb6eaa981e919239f76ef280379af7", func := "colonnade/colonnadelaw09.DictOne", spec := "dictOne", unfollowed := true, recurses := true, apart := false, narrowed := true }
def DictOneUptoSaid : Prop := dictOneUptoRow.holds Try.pinned (OpenSpec.upto dictOneSpec)

/-- 'colonnadelaw09.DictOwn', WHERE WHAT IT READS IS OF BULK AT MOST 1048576: true; the input reads as it did. -/
def dictOwnUptoRow : OpenClaim := { program := "ytlpllhpnnhablaa", sum := "f0552be192b23e90ce467a5e659ed5f9b6fb6eaa981e919239f76ef280379af7", func := "colonnade/colonnadelaw09.DictOwn", spec := "dictOwn", unfollowed := true, recurses := true, apart := false, narrowed := true }
def DictOwnUptoSaid : Prop := dictOwnUptoRow.holds Try.pinned (OpenSpec.upto dictOwnSpec)

/-- 'colonnadelaw09.DictPutTexts', WHERE WHAT IT READS IS OF BULK AT MOST 1048576: true; the input reads as it did. -/
def dictPutTextsUptoRow : OpenClaim := { program := "ytlpllhpnnhablaa", sum := "f0552be192b23e90ce467a5e659ed5f9b6fb6eaa981e919239f76ef280379af7", func := "colonnade/colonnadelaw09.DictPutTexts", spec := "dictPutTexts", unfollowed := true, recurses := true, apart := false, narrowed := true }
def DictPutTextsUptoSaid : Prop := dictPutTextsUptoRow.holds Try.pinned (OpenSpec.upto dictPutTextsSpec)

/-- 'colonnadelaw09.DictLimits', WHERE WHAT IT READS IS OF BULK AT MOST 1048576: true; the input reads as it did. -/
def dictLimitsUptoRow : OpenClaim := { program := "ytlpllhpnnhablaa", sum := "f0552be192b23e90ce467a5e659ed5f9b6fb6eaa981e919239f76ef280379af7", func := "colonnade/colonnadelaw09.DictLimits", spec := "dictLimits", unfollowed := true, recurses := true, apart := false, narrowed := true }
def DictLimitsUptoSaid : Prop := dictLimitsUptoRow.holds Try.pinned (OpenSpec.upto dictLimitsSpec)

/-- 'colonnadelaw09.DictReadTexts', WHERE WHAT IT READS IS OF BULK AT MOST 1048576: true; the input reads as it did. -/
def dictReadTextsUptoRow : OpenClaim := { program := "ytlpllhpnnhablaa", sum := "f0552be192b23e90ce467a5e659ed5f9b6fb6eaa981e919239f76ef280379af7", func := "colonnade/colonnadelaw09.DictReadTexts", spec := "dictReadTexts", unfollowed := true, recurses := true, apart := false, narrowed := true }
def DictReadTextsUptoSaid : Prop := dictReadTextsUptoRow.holds Try.pinned (OpenSpec.upto dictReadTextsSpec)

end Rows
end Go.Proofs.Ytlpllhpnnhablaa
