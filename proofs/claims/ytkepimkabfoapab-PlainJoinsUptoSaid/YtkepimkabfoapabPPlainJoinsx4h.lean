-- Written by xprint.py, this session's own program over the kit's print; Lean checks it.
import Derived.Test.YtkepimkabfoapabPPlainJoinsx0
import Derived.Test.YtkepimkabfoapabPPlainJoinsx1
import Derived.Test.YtkepimkabfoapabPPlainJoinsx2
import Derived.Test.YtkepimkabfoapabPPlainJoinsx3
namespace Go.Proofs.Ytkepimkabfoapab.PPlainJoins
open Go.RowKit Go.Proofs.YtkepimkabfoapabW.PrintWords Go.Proofs.YtkepimkabfoapabW.PrintLast Go.Proofs.YtkepimkabfoapabW.PrintMore
attribute [local go_sem] max2_int min2_int max_two min_two max_three min_three max_four min_four   -- for this text's walks alone
set_option linter.unusedVariables false
set_option linter.unusedSimpArgs false

/-! ### colonnadelaw08_PlainJoins: function 8 -/
def colonnadelaw08_PlainJoins.f (k : Nat) (l0 : List Int) (l1 : List Int) (l2 : List ByteArray) (l3 : List ByteArray) : Option (Bool) := (colonnadelaw08_awake.f k).bind fun t172 => (if t172 = true then ((plain_PutInts.f l0).bind fun t173 => ((plain_PutInts.f l1).bind fun t176 => (if (strOfNums t173).size + (strOfNums t176).size ≤ 9223372036854775807 then ((some (([] : List Int) : List Int)).bind fun y179 => (if y179.length + l0.length < 17592186044416 then ((some (y179 ++ l0 : List Int)).bind fun y182 => (if y182.length + l1.length < 17592186044416 then ((plain_PutInts.f (y182 ++ l1)).bind fun t188 => (if ((strOfNums t173) ++ (strOfNums t176)).toList = (strOfNums t188).toList then ((colonnadelaw08_short.f k l2).bind fun t191 => ((colonnadelaw08_short.f k l3).bind fun t194 => (if (wrap64 ((t191.length : Int) + (t194.length : Int))) > 1048576 then (some true) else ((plain_PutTexts.f t191).bind fun bt197 => ((plain_PutTexts.f t194).bind fun bt201 => ((some (([] : List ByteArray) : List ByteArray)).bind fun y205 => (if y205.length + t191.length < 8796093022208 then ((some (y205 ++ t191 : List ByteArray)).bind fun y208 => (if y208.length + t194.length < 8796093022208 then ((plain_PutTexts.f (y208 ++ t194)).bind fun bt214 => ((colonnadelaw08_num.f bt197.2).bind fun t218 => (if t218 = 0 then ((colonnadelaw08_num.f bt201.2).bind fun t219 => (if t219 = 0 then ((colonnadelaw08_num.f bt214.2).bind fun t220 => (if t220 = 0 then (if (bt214.1.length : Int) = (wrap64 ((wrap64 ((bt197.1.length : Int) + (bt201.1.length : Int))) - 4)) then (if 0 ≤ (wrap64 (4 * (wrap64 ((t191.length : Int) + 1)))) then (if (wrap64 (4 * (wrap64 ((t191.length : Int) + 1)))) ≤ (bt197.1.length : Int) then ((some (bt197.1.drop ((wrap64 (4 * (wrap64 ((t191.length : Int) + 1)))) : Int).toNat : List Int)).bind fun y221 => (if 0 ≤ (wrap64 (4 * (wrap64 ((t194.length : Int) + 1)))) then (if (wrap64 (4 * (wrap64 ((t194.length : Int) + 1)))) ≤ (bt201.1.length : Int) then ((some (bt201.1.drop ((wrap64 (4 * (wrap64 ((t194.length : Int) + 1)))) : Int).toNat : List Int)).bind fun y225 => (if (strOfNums y221).size + (strOfNums y225).size ≤ 9223372036854775807 then (if 0 ≤ (wrap64 (4 * (wrap64 ((wrap64 ((t191.length : Int) + (t194.length : Int))) + 1)))) then (if (wrap64 (4 * (wrap64 ((wrap64 ((t191.length : Int) + (t194.length : Int))) + 1)))) ≤ (bt214.1.length : Int) then (if (strOfNums (bt214.1.drop ((wrap64 (4 * (wrap64 ((wrap64 ((t191.length : Int) + (t194.length : Int))) + 1)))) : Int).toNat)).toList = ((strOfNums y221) ++ (strOfNums y225)).toList then (if (wrap64 (4 * (wrap64 ((t191.length : Int) + 1)))) ≤ (bt214.1.length : Int) then (some ((strOfNums (bt214.1.take ((wrap64 (4 * (wrap64 ((t191.length : Int) + 1)))) : Int).toNat)).toList == (strOfNums (bt197.1.take ((wrap64 (4 * (wrap64 ((t191.length : Int) + 1)))) : Int).toNat)).toList)) else (none)) else (some false)) else (none)) else (none)) else (none))) else (none)) else (none))) else (none)) else (none)) else (some false)) else (some false))) else (some false))) else (some false)))) else (none))) else (none)))))))) else (some false))) else (none))) else (none))) else (none)))) else (some false))
theorem colonnadelaw08_PlainJoins.mono : ∀ a0 a1 a2 a3 k, LeO (colonnadelaw08_PlainJoins.f k a0 a1 a2 a3) (colonnadelaw08_PlainJoins.f (k + 1) a0 a1 a2 a3) := by
  intro a0 a1 a2 a3 k
  unfold colonnadelaw08_PlainJoins.f
  repeat' first
      | (with_reducible exact colonnadelaw08_awake.mono _)
      | (with_reducible exact colonnadelaw08_short.mono _ _)
      | (with_reducible exact LeO.refl _)
      | (with_reducible exact LeO.none _)
      | (with_reducible refine LeO.ite ?_ ?_)
      | (with_reducible refine LeO.bind ?_ (fun _ => ?_))
      | exact colonnadelaw08_awake.mono _
      | exact colonnadelaw08_short.mono _ _
      | exact LeO.none _
      | refine LeO.ite ?_ ?_
      | refine LeO.bind ?_ (fun _ => ?_)
def colonnadelaw08_PlainJoins.T4 : Bool × List (List Nat × List Nat) := (true, [([], []), ([0], [0]), ([1], [1]), ([], []), ([3, 1], [3]), ([4], [4]), ([2, 5], [2, 5]), ([6, 4, 0, 1, 2, 3, 4, 5, 6], [6])])
def colonnadelaw08_PlainJoins.B4 : List Nat := [0, 1, 3, 0, 11, 27, 63, 127]
theorem colonnadelaw08_PlainJoins.tab4 : rtab .any (opsOf Try.f8 4) = colonnadelaw08_PlainJoins.T4 := by kernel_rfl
theorem colonnadelaw08_PlainJoins.bits4 : waitsOk colonnadelaw08_PlainJoins.T4.2 colonnadelaw08_PlainJoins.B4 = true := by kernel_rfl
def colonnadelaw08_PlainJoins.T19 : Bool × List (List Nat × List Nat) := (true, [([], []), ([], []), ([1], [1]), ([2], [2]), ([0, 3], [0, 3]), ([4], [4]), ([], []), ([], []), ([7], [7]), ([8], [8]), ([6, 9], [6, 9]), ([10], [10]), ([5, 11], [5, 11]), ([12, 0, 1, 2, 3, 4, 5, 6, 7, 8, 9, 10, 11, 12], [12])])
def colonnadelaw08_PlainJoins.B19 : List Nat := [0, 0, 2, 6, 15, 31, 0, 0, 128, 384, 960, 1984, 4095, 8191]
theorem colonnadelaw08_PlainJoins.tab19 : rtab .any (opsOf Try.f8 19) = colonnadelaw08_PlainJoins.T19 := by kernel_rfl
theorem colonnadelaw08_PlainJoins.bits19 : waitsOk colonnadelaw08_PlainJoins.T19.2 colonnadelaw08_PlainJoins.B19 = true := by kernel_rfl
def colonnadelaw08_PlainJoins.T20 : Bool × List (List Nat × List Nat) := (true, [([], []), ([], []), ([], []), ([1, 2], [1, 2]), ([3], [3]), ([4], [4]), ([0, 5], [0, 5]), ([6], [6]), ([], []), ([7, 8], [7, 8]), ([9], [9]), ([10], [10]), ([10], [10]), ([12, 10], [10, 12]), ([13, 10], [10, 13]), ([11, 14, 10], [10, 11, 14]), ([15, 10], [10, 15]), ([10], [10]), ([10], [10]), ([18, 10], [10, 18]), ([19, 10], [10, 19]), ([17, 20, 10], [10, 17, 20]), ([21, 10], [10, 21]), ([16, 22, 10], [10, 16, 22]), ([10, 23], [10, 23]), ([24, 10, 0, 1, 2, 3, 4, 5, 6, 7, 8, 9, 10, 11, 12, 13, 14, 15, 16, 17, 18, 19, 20, 21, 22, 23, 24], [24])])
def colonnadelaw08_PlainJoins.B20 : List Nat := [0, 0, 0, 6, 14, 30, 63, 127, 0, 511, 1023, 2047, 2047, 6143, 14335, 32767, 65535, 2047, 2047, 264191, 788479, 1968127, 4065279, 8388607, 16777215, 33554431]
theorem colonnadelaw08_PlainJoins.tab20 : rtab .any (opsOf Try.f8 20) = colonnadelaw08_PlainJoins.T20 := by kernel_rfl
theorem colonnadelaw08_PlainJoins.bits20 : waitsOk colonnadelaw08_PlainJoins.T20.2 colonnadelaw08_PlainJoins.B20 = true := by kernel_rfl
end Go.Proofs.Ytkepimkabfoapab.PPlainJoins
