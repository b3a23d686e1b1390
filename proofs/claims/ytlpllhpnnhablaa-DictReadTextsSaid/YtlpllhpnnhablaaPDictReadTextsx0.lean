-- Written by xprint.py, this session's own program over the kit's print; Lean checks it.
import Derived.Test.YtlpllhpnnhablaaProg
import Derived.Below
import Derived.Deep.Draws
import Derived.Deep.AppendLies
import Derived.Maps.AppendAt
import Derived.OwnWalk
import Derived.Laws.BytesArg
import Derived.Laws.MakeOwn
import Derived.Laws.OwnMore
import Derived.Deep.OwnRows
import Derived.Tactics
import Derived.Lib.ConvBytes
import Derived.Laws.Slices
import Derived.WalkKit
import Derived.KernelRfl
import Derived.RowKit3
import Derived.Deep.LoopGhost
import Derived.Deep.QuietTactic
import Derived.BigQuiet
import Derived.WideLaws
import Derived.Deep.DeepCutAuto
import Derived.Deep.CutBlock
import Derived.Deep.RegionHeld3
import Derived.Laws.Rows
import Derived.Lib.AppendStr
import Derived.ArgAppend
import Derived.Laws.IdiomCopy
import Derived.OrdersHeld
import Derived.Laws.BitsLemmas
import Derived.RowKit
import Derived.Test.YtlpllhpnnhablaaSDictReadTextsXMapI
import Derived.Test.YtlpllhpnnhablaaSDictReadTextsXMapS
import Derived.Test.YtlpllhpnnhablaaSDictReadTextsXMake
import Derived.Test.YtlpllhpnnhablaaSDictReadTextsXShelf
import Derived.Test.YtlpllhpnnhablaaSDictReadTextsXPlain
import Derived.Lib.SliceRun
import Derived.Deep.RegionWith
import Derived.Defers
import Derived.Recover
import Derived.WalkSpells
import Derived.WalkSmall
import Derived.Shelf.Abstract
import Derived.Lib.RowBridge
import Derived.Lib.SortBridge
import Derived.Deep.RegionHeld3
import Derived.Deep.LoopGhost
import Derived.Deep.Upon
import Derived.Test.YtlpllhpnnhablaaSDictReadTextsWWords
import Derived.Test.YtlpllhpnnhablaaSDictReadTextsWLast
import Derived.Test.YtlpllhpnnhablaaSDictReadTextsWTab
import Derived.Test.YtlpllhpnnhablaaSDictReadTextsWQPut
import Derived.Test.YtlpllhpnnhablaaSDictReadTextsWApart
import Derived.Test.YtlpllhpnnhablaaSDictReadTextsWArr
import Derived.Test.YtlpllhpnnhablaaSDictReadTextsWZeros
import Derived.Test.YtlpllhpnnhablaaSDictReadTextsWFoot
import Derived.Test.YtlpllhpnnhablaaSDictReadTextsWKept
import Derived.Test.YtlpllhpnnhablaaSDictReadTextsWShare
import Derived.Test.YtlpllhpnnhablaaSDictReadTextsWN
import Derived.Test.YtlpllhpnnhablaaSDictReadTextsWGuard
import Derived.Test.YtlpllhpnnhablaaSDictReadTextsWNEv
import Derived.Test.YtlpllhpnnhablaaSDictReadTextsWMore
namespace Go.Proofs.Ytlpllhpnnhablaa.PDictReadTexts
open Go.RowKit Go.Proofs.YtlpllhpnnhablaaW.PrintWords Go.Proofs.YtlpllhpnnhablaaW.PrintLast Go.Proofs.YtlpllhpnnhablaaW.PrintMore
attribute [local go_sem] max2_int min2_int max_two min_two max_three min_three max_four min_four   -- for this text's walks alone
set_option linter.unusedVariables false
set_option linter.unusedSimpArgs false



def errW : Option Int → Value
  | none => .nilIface
  | some c => .iface 0 (.int .i64 c)
theorem errW_none : errW none = .nilIface := rfl
theorem errW_some (c : Int) : errW (some c) = .iface 0 (.int .i64 c) := rfl

theorem info2 : (Try.prog.info? 2).map (fun i => (i.zero, i.size, i.bytes)) = some (some (.int .i64 0), 1, 8) := by kernel_rfl
theorem info4 : (Try.prog.info? 4).map (fun i => (i.zero, i.size, i.bytes)) = some (some (.bool false), 1, 1) := by kernel_rfl
theorem info5 : (Try.prog.info? 5).map (fun i => (i.zero, i.size, i.bytes)) = some (some (.int .u8 0), 1, 1) := by kernel_rfl
theorem info9 : (Try.prog.info? 9).map (fun i => (i.zero, i.size, i.bytes)) = some (some (.string ⟨#[]⟩), 1, 16) := by kernel_rfl
theorem info61 : (Try.prog.info? 61).map (fun i => (i.zero, i.size, i.bytes)) = some (some (.int .u32 0), 1, 4) := by kernel_rfl
theorem info80 : (Try.prog.info? 80).map (fun i => (i.zero, i.size, i.bytes)) = some (some (.int .u64 0), 1, 8) := by kernel_rfl
-- the values' own types
def rd_L6 (xs : List (List Int)) (i : Int) : (List Int) := xs.getD i.toNat ([] : List Int)
theorem at_L6 {w : World} {A : Option Addr} {n : Nat} {xs : List (List Int)} (h : Kd.C (Kd.slice 5 (Kd.int .u8)) w A n xs) (i : Int) (h0 : 0 ≤ i) (h1 : i < n) : ∃ ad A0 c0, A = some ad ∧ w.cell? (ad.add i.toNat) = some (.slice A0 (rd_L6 xs i).length c0) ∧ (rd_L6 xs i).length ≤ c0 ∧ (Kd.int .u8).C w A0 (rd_L6 xs i).length (rd_L6 xs i) := by
  obtain ⟨ad, c, e, _, hK, hc0⟩ := Kd.C_get h ([] : List Int) i h0 h1
  have hc : ∀ j u, c[j]? = some u → w.cell? (ad.add (i.toNat * 1 + j)) = some u := hc0
  obtain ⟨A0, c0, rfl, l0, g0⟩ := hK
  exact ⟨ad, A0, c0, e, by have hq := hc 0 _ rfl; rwa [Nat.mul_one, Nat.add_zero] at hq, l0, g0⟩

end Go.Proofs.Ytlpllhpnnhablaa.PDictReadTexts
