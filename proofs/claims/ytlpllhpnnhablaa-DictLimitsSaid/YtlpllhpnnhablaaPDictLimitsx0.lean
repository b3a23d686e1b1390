-- Written by xprint.py, this session's own program over the kit's print; Lean checks it.
import Derived.Test.YtlpllhpnnhablaaProg
import Derived.Below
import Derived.Deep.Draws
import Derived.Deep.AppendLies
import Derived.Maps.AppendAt
import Derived.OwnWalk
import Derived.Laws.BytesArg
import Derived.Laws.MakeOwn
import Derived.Laws.OwnMore
import Derived.Deep.OwnRows
import Derived.Tactics
import Derived.Lib.ConvBytes
import Derived.Laws.Slices
import Derived.WalkKit
import Derived.KernelRfl
import Derived.RowKit3
import Derived.Deep.LoopGhost
import Derived.Deep.QuietTactic
import Derived.BigQuiet
import Derived.WideLaws
import Derived.Deep.DeepCutAuto
import Derived.Deep.CutBlock
import Derived.Deep.RegionHeld3
import Derived.Laws.Rows
import Derived.Lib.AppendStr
import Derived.ArgAppend
import Derived.Laws.IdiomCopy
import Derived.OrdersHeld
import Derived.Laws.BitsLemmas
import Derived.RowKit
import Derived.Test.YtlpllhpnnhablaaSDictLimitsXMapI
import Derived.Test.YtlpllhpnnhablaaSDictLimitsXMapS
import Derived.Test.YtlpllhpnnhablaaSDictLimitsXMake
import Derived.Test.YtlpllhpnnhablaaSDictLimitsXShelf
import Derived.Test.YtlpllhpnnhablaaSDictLimitsXPlain
import Derived.Lib.SliceRun
import Derived.Deep.RegionWith
import Derived.Defers
import Derived.Recover
import Derived.WalkSpells
import Derived.WalkSmall
import Derived.Shelf.Abstract
import Derived.Lib.RowBridge
import Derived.Lib.SortBridge
import Derived.Deep.RegionHeld3
import Derived.Deep.LoopGhost
import Derived.Deep.Upon
import Derived.Test.YtlpllhpnnhablaaSDictLimitsWWords
import Derived.Test.YtlpllhpnnhablaaSDictLimitsWLast
import Derived.Test.YtlpllhpnnhablaaSDictLimitsWTab
import Derived.Test.YtlpllhpnnhablaaSDictLimitsWQPut
import Derived.Test.YtlpllhpnnhablaaSDictLimitsWApart
import Derived.Test.YtlpllhpnnhablaaSDictLimitsWArr
import Derived.Test.YtlpllhpnnhablaaSDictLimitsWZeros
import Derived.Test.YtlpllhpnnhablaaSDictLimitsWFoot
import Derived.Test.YtlpllhpnnhablaaSDictLimitsWKept
import Derived.Test.YtlpllhpnnhablaaSDictLimitsWShare
import Derived.Test.YtlpllhpnnhablaaSDictLimitsWN
import Derived.Test.YtlpllhpnnhablaaSDictLimitsWGuard
import Derived.Test.YtlpllhpnnhablaaSDictLimitsWNEv
import Derived.Test.YtlpllhpnnhablaaSDictLimitsWMore
namespace Go.Proofs.Ytlpllhpnnhablaa.PDictLimits
open Go.RowKit Go.Proofs.YtlpllhpnnhablaaW.PrintWords Go.Proofs.YtlpllhpnnhablaaW.PrintLast Go.Proofs.YtlpllhpnnhablaaW.PrintMore
attribute [local go_sem] max2_int min2_int max_two min_two max_three min_three max_four min_four   -- for this text's walks alone
set_option linter.unusedVariables false
set_option linter.unusedSimpArgs false



def errW : Option Int → Value
  | none => .nilIface
  | some c => .iface 0 (.int .i64 c)
theorem errW_none : errW none = .nilIface := rfl
theorem errW_some (c : Int) : errW (some c) = .iface 0 (.int .i64 c) := rfl

theorem info2 : (Try.prog.info? 2).map (fun i => (i.zero, i.size, i.bytes)) = some (some (.int .i64 0), 1, 8) := by kernel_rfl
theorem info4 : (Try.prog.info? 4).map (fun i => (i.zero, i.size, i.bytes)) = some (some (.bool false), 1, 1) := by kernel_rfl
theorem info5 : (Try.prog.info? 5).map (fun i => (i.zero, i.size, i.bytes)) = some (some (.int .u8 0), 1, 1) := by kernel_rfl
theorem info9 : (Try.prog.info? 9).map (fun i => (i.zero, i.size, i.bytes)) = some (some (.string ⟨#[]⟩), 1, 16) := by kernel_rfl
theorem info61 : (Try.prog.info? 61).map (fun i => (i.zero, i.size, i.bytes)) = some (some (.int .u32 0), 1, 4) := by kernel_rfl
-- the values' own types

end Go.Proofs.Ytlpllhpnnhablaa.PDictLimits
