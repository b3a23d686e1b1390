-- PRINTED BY print.sh 35421559b90ae4d0a3588c463048766b98c2df88dd9212a6774a882060cdf62d: not written by this session
import Derived.Test.YtkepimkabfoapabProg
import Derived.Below
import Derived.Deep.Draws
import Derived.Deep.AppendLies
import Derived.Maps.AppendAt
import Derived.OwnWalk
import Derived.Laws.BytesArg
import Derived.Laws.MakeOwn
import Derived.Laws.OwnMore
import Derived.Deep.OwnRows
import Derived.Tactics
import Derived.Lib.ConvBytes
import Derived.Laws.Slices
import Derived.WalkKit
import Derived.KernelRfl
import Derived.RowKit3
import Derived.Deep.LoopGhost
import Derived.Deep.QuietTactic
import Derived.BigQuiet
import Derived.WideLaws
import Derived.Deep.DeepCutAuto
import Derived.Deep.CutBlock
import Derived.Deep.RegionHeld3
import Derived.Laws.Rows
import Derived.Lib.AppendStr
import Derived.ArgAppend
import Derived.Laws.IdiomCopy
import Derived.OrdersHeld
import Derived.Laws.BitsLemmas
import Derived.RowKit
import Derived.Test.YtkepimkabfoapabWWords
import Derived.Test.YtkepimkabfoapabWLast
import Derived.Test.YtkepimkabfoapabWTab
import Derived.Test.YtkepimkabfoapabWFour
import Derived.Test.YtkepimkabfoapabWQPut
import Derived.Test.YtkepimkabfoapabWApart
import Derived.Test.YtkepimkabfoapabWArr
import Derived.Test.YtkepimkabfoapabWZeros
import Derived.Test.YtkepimkabfoapabWFoot
import Derived.Test.YtkepimkabfoapabWKept
import Derived.Test.YtkepimkabfoapabWShare
import Derived.Test.YtkepimkabfoapabWN
import Derived.Test.YtkepimkabfoapabWFootNe
import Derived.Test.YtkepimkabfoapabWAt
import Derived.Test.YtkepimkabfoapabWEqStruct
import Derived.Test.YtkepimkabfoapabWRepsOne
import Derived.Test.YtkepimkabfoapabWInv
import Derived.Test.YtkepimkabfoapabWInvWords
import Derived.Test.YtkepimkabfoapabWGuard
import Derived.Test.YtkepimkabfoapabWNEv
import Derived.Test.YtkepimkabfoapabWMore
namespace Go.Proofs.Ytkepimkabfoapab.PLayoutNames
open Go.RowKit Go.Proofs.YtkepimkabfoapabW.PrintWords Go.Proofs.YtkepimkabfoapabW.PrintLast Go.Proofs.YtkepimkabfoapabW.PrintMore
attribute [local go_sem] max2_int min2_int max_two min_two max_three min_three max_four min_four   -- for this text's walks alone
set_option linter.unusedVariables false
set_option linter.unusedSimpArgs false



def errW : Option Int → Value
  | none => .nilIface
  | some c => .iface 0 (.int .i64 c)
theorem errW_none : errW none = .nilIface := rfl
theorem errW_some (c : Int) : errW (some c) = .iface 0 (.int .i64 c) := rfl

-- the values' own types

end Go.Proofs.Ytkepimkabfoapab.PLayoutNames
