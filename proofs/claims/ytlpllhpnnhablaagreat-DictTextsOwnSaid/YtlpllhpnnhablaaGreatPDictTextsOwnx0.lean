-- Written by xprint.py, this session's own program over the kit's print; Lean checks it.
import Derived.Test.YtlpllhpnnhablaaGreatProg
import Derived.Below
import Derived.Deep.Draws
import Derived.Deep.AppendLies
import Derived.Maps.AppendAt
import Derived.OwnWalk
import Derived.Laws.BytesArg
import Derived.Laws.MakeOwn
import Derived.Laws.OwnMore
import Derived.Deep.OwnRows
import Derived.Tactics
import Derived.Lib.ConvBytes
import Derived.Laws.Slices
import Derived.WalkKit
import Derived.KernelRfl
import Derived.RowKit3
import Derived.Deep.LoopGhost
import Derived.Deep.QuietTactic
import Derived.BigQuiet
import Derived.WideLaws
import Derived.Deep.DeepCutAuto
import Derived.Deep.CutBlock
import Derived.Deep.RegionHeld3
import Derived.Laws.Rows
import Derived.Lib.AppendStr
import Derived.ArgAppend
import Derived.Laws.IdiomCopy
import Derived.OrdersHeld
import Derived.Laws.BitsLemmas
import Derived.RowKit
import Derived.Test.YtlpllhpnnhablaaGreatSDictTextsOwnXFloat
import Derived.Test.YtlpllhpnnhablaaGreatSDictTextsOwnXMapI
import Derived.Test.YtlpllhpnnhablaaGreatSDictTextsOwnXMapS
import Derived.Test.YtlpllhpnnhablaaGreatSDictTextsOwnXMake
import Derived.Test.YtlpllhpnnhablaaGreatSDictTextsOwnXShelf
import Derived.Test.YtlpllhpnnhablaaGreatSDictTextsOwnXPlain
import Derived.Lib.SliceRun
import Derived.Deep.RegionWith
import Derived.Defers
import Derived.Recover
import Derived.WalkSpells
import Derived.WalkSmall
import Derived.Shelf.Abstract
import Derived.Lib.RowBridge
import Derived.Lib.SortBridge
import Derived.Deep.RegionHeld3
import Derived.Deep.LoopGhost
import Derived.Deep.Upon
import Derived.Test.YtlpllhpnnhablaaGreatSDictTextsOwnXRowsW
import Derived.Test.YtlpllhpnnhablaaGreatSDictTextsOwnXGrownT
import Derived.BigQuiet
import Derived.Test.YtlpllhpnnhablaaGreatSDictTextsOwnWWords
import Derived.Test.YtlpllhpnnhablaaGreatSDictTextsOwnWLast
import Derived.Test.YtlpllhpnnhablaaGreatSDictTextsOwnWTab
import Derived.Test.YtlpllhpnnhablaaGreatSDictTextsOwnWFour
import Derived.Test.YtlpllhpnnhablaaGreatSDictTextsOwnWQPut
import Derived.Test.YtlpllhpnnhablaaGreatSDictTextsOwnWApart
import Derived.Test.YtlpllhpnnhablaaGreatSDictTextsOwnWArr
import Derived.Test.YtlpllhpnnhablaaGreatSDictTextsOwnWZeros
import Derived.Test.YtlpllhpnnhablaaGreatSDictTextsOwnWFoot
import Derived.Test.YtlpllhpnnhablaaGreatSDictTextsOwnWKept
import Derived.Test.YtlpllhpnnhablaaGreatSDictTextsOwnWShare
import Derived.Test.YtlpllhpnnhablaaGreatSDictTextsOwnWN
import Derived.Test.YtlpllhpnnhablaaGreatSDictTextsOwnWFootNe
import Derived.Test.YtlpllhpnnhablaaGreatSDictTextsOwnWAt
import Derived.Test.YtlpllhpnnhablaaGreatSDictTextsOwnWEqStruct
import Derived.Test.YtlpllhpnnhablaaGreatSDictTextsOwnWRepsOne
import Derived.Test.YtlpllhpnnhablaaGreatSDictTextsOwnWInv
import Derived.Test.YtlpllhpnnhablaaGreatSDictTextsOwnWInvWords
import Derived.Test.YtlpllhpnnhablaaGreatSDictTextsOwnWGuard
import Derived.Test.YtlpllhpnnhablaaGreatSDictTextsOwnWNEv
import Derived.Test.YtlpllhpnnhablaaGreatSDictTextsOwnWMore
namespace Go.Proofs.YtlpllhpnnhablaaGreat.PDictTextsOwn
open Go.RowKit Go.Proofs.YtlpllhpnnhablaaGreatW.PrintWords Go.Proofs.YtlpllhpnnhablaaGreatW.PrintLast Go.Proofs.YtlpllhpnnhablaaGreatW.PrintMore
attribute [local go_sem] max2_int min2_int max_two min_two max_three min_three max_four min_four   -- for this text's walks alone
set_option linter.unusedVariables false
set_option linter.unusedSimpArgs false



def errW : Option Int → Value
  | none => .nilIface
  | some c => .iface 0 (.int .i64 c)
theorem errW_none : errW none = .nilIface := rfl
theorem errW_some (c : Int) : errW (some c) = .iface 0 (.int .i64 c) := rfl

theorem info2 : (Tryz.prog.info? 2).map (fun i => (i.zero, i.size, i.bytes)) = some (some (.int .i64 0), 1, 8) := by kernel_rfl
theorem info4 : (Tryz.prog.info? 4).map (fun i => (i.zero, i.size, i.bytes)) = some (some (.bool false), 1, 1) := by kernel_rfl
theorem info5 : (Tryz.prog.info? 5).map (fun i => (i.zero, i.size, i.bytes)) = some (some (.int .u8 0), 1, 1) := by kernel_rfl
theorem info9 : (Tryz.prog.info? 9).map (fun i => (i.zero, i.size, i.bytes)) = some (some (.string ⟨#[]⟩), 1, 16) := by kernel_rfl
theorem info37 : (Tryz.prog.info? 37).map (fun i => (i.zero, i.size, i.bytes)) = some (some (.int .u32 0), 1, 4) := by kernel_rfl
-- the values' own types
def rd_L6 (xs : List (List ByteArray)) (i : Int) : (List ByteArray) := xs.getD i.toNat ([] : List ByteArray)
theorem at_L6 {w : World} {A : Option Addr} {n : Nat} {xs : List (List ByteArray)} (h : Kd.C (Kd.slice 9 Kd.string) w A n xs) (i : Int) (h0 : 0 ≤ i) (h1 : i < n) : ∃ ad A0 c0, A = some ad ∧ w.cell? (ad.add i.toNat) = some (.slice A0 (rd_L6 xs i).length c0) ∧ (rd_L6 xs i).length ≤ c0 ∧ Kd.string.C w A0 (rd_L6 xs i).length (rd_L6 xs i) := by
  obtain ⟨ad, c, e, _, hK, hc0⟩ := Kd.C_get h ([] : List ByteArray) i h0 h1
  have hc : ∀ j u, c[j]? = some u → w.cell? (ad.add (i.toNat * 1 + j)) = some u := hc0
  obtain ⟨A0, c0, rfl, l0, g0⟩ := hK
  exact ⟨ad, A0, c0, e, by have hq := hc 0 _ rfl; rwa [Nat.mul_one, Nat.add_zero] at hq, l0, g0⟩

def rd_L7 (xs : List (List Int)) (i : Int) : (List Int) := xs.getD i.toNat ([] : List Int)
theorem at_L7 {w : World} {A : Option Addr} {n : Nat} {xs : List (List Int)} (h : Kd.C (Kd.slice 5 (Kd.int .u8)) w A n xs) (i : Int) (h0 : 0 ≤ i) (h1 : i < n) : ∃ ad A0 c0, A = some ad ∧ w.cell? (ad.add i.toNat) = some (.slice A0 (rd_L7 xs i).length c0) ∧ (rd_L7 xs i).length ≤ c0 ∧ (Kd.int .u8).C w A0 (rd_L7 xs i).length (rd_L7 xs i) := by
  obtain ⟨ad, c, e, _, hK, hc0⟩ := Kd.C_get h ([] : List Int) i h0 h1
  have hc : ∀ j u, c[j]? = some u → w.cell? (ad.add (i.toNat * 1 + j)) = some u := hc0
  obtain ⟨A0, c0, rfl, l0, g0⟩ := hK
  exact ⟨ad, A0, c0, e, by have hq := hc 0 _ rfl; rwa [Nat.mul_one, Nat.add_zero] at hq, l0, g0⟩

end Go.Proofs.YtlpllhpnnhablaaGreat.PDictTextsOwn
