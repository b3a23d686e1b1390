-- Written by xprint.py, this session's own program over the kit's print; Lean checks it.
import Derived.Test.YtkepimkabfoapabPPlainJoinsx4b
namespace Go.Proofs.Ytkepimkabfoapab.PPlainJoins
open Go.RowKit Go.Proofs.YtkepimkabfoapabW.PrintWords Go.Proofs.YtkepimkabfoapabW.PrintLast Go.Proofs.YtkepimkabfoapabW.PrintMore
attribute [local go_sem] max2_int min2_int max_two min_two max_three min_three max_four min_four   -- for this text's walks alone
set_option linter.unusedVariables false
set_option linter.unusedSimpArgs false

set_option maxHeartbeats 8000000 in
set_option maxRecDepth 100000 in
theorem colonnadelaw08_PlainJoins.calls (k : Nat) (A0 : Option Addr) (c0 : Nat) (l0 : List Int) (A1 : Option Addr) (c1 : Nat) (l1 : List Int) (A2 : Option Addr) (c2 : Nat) (l2 : List ByteArray) (A3 : Option Addr) (c3 : Nat) (l3 : List ByteArray) (r : Bool) (w : World) (hr0 : Kd.C (Kd.int .i64) w A0 l0.length l0) (hc0 : l0.length ≤ c0) (hr1 : Kd.C (Kd.int .i64) w A1 l1.length l1) (hc1 : l1.length ≤ c1) (hr2 : Kd.C Kd.string w A2 l2.length l2) (hc2 : l2.length ≤ c2) (hr3 : Kd.C Kd.string w A3 l3.length l3) (hc3 : l3.length ≤ c3) (h : colonnadelaw08_PlainJoins.f k l0 l1 l2 l3 = some r) :
    Calls Try.prog 8 #[.slice A0 l0.length c0, .slice A1 l1.length c1, .slice A2 l2.length c2, .slice A3 l3.length c3] w fun e w' => e = .returned (.bool r) ∧ Below w.heap.size w w' := by
  have HR0 := Aside0.mk hr0
  have HC0 := Aside0.mk hc0
  clear hr0 hc0
  have HR1 := Aside0.mk hr1
  have HC1 := Aside0.mk hc1
  clear hr1 hc1
  have HR2 := Aside0.mk hr2
  have HC2 := Aside0.mk hc2
  clear hr2 hc2
  have HR3 := Aside0.mk hr3
  have HC3 := Aside0.mk hc3
  clear hr3 hc3
  have HB := Aside0.mk (Below.refl w.heap.size w)
  have H : ((colonnadelaw08_awake.f k).bind fun t172 => (if t172 = true then ((plain_PutInts.f l0).bind fun t173 => ((plain_PutInts.f l1).bind fun t176 => (if (strOfNums t173).size + (strOfNums t176).size ≤ 9223372036854775807 then ((some (([] : List Int) : List Int)).bind fun y179 => (if y179.length + l0.length < 17592186044416 then ((some (y179 ++ l0 : List Int)).bind fun y182 => (if y182.length + l1.length < 17592186044416 then ((plain_PutInts.f (y182 ++ l1)).bind fun t188 => (if ((strOfNums t173) ++ (strOfNums t176)).toList = (strOfNums t188).toList then ((colonnadelaw08_short.f k l2).bind fun t191 => ((colonnadelaw08_short.f k l3).bind fun t194 => (if (wrap64 ((t191.length : Int) + (t194.length : Int))) > 1048576 then (some true) else ((plain_PutTexts.f t191).bind fun bt197 => ((plain_PutTexts.f t194).bind fun bt201 => ((some (([] : List ByteArray) : List ByteArray)).bind fun y205 => (if y205.length + t191.length < 8796093022208 then ((some (y205 ++ t191 : List ByteArray)).bind fun y208 => (if y208.length + t194.length < 8796093022208 then ((plain_PutTexts.f (y208 ++ t194)).bind fun bt214 => ((colonnadelaw08_num.f bt197.2).bind fun t218 => (if t218 = 0 then ((colonnadelaw08_num.f bt201.2).bind fun t219 => (if t219 = 0 then ((colonnadelaw08_num.f bt214.2).bind fun t220 => (if t220 = 0 then (if (bt214.1.length : Int) = (wrap64 ((wrap64 ((bt197.1.length : Int) + (bt201.1.length : Int))) - 4)) then (if 0 ≤ (wrap64 (4 * (wrap64 ((t191.length : Int) + 1)))) then (if (wrap64 (4 * (wrap64 ((t191.length : Int) + 1)))) ≤ (bt197.1.length : Int) then ((some (bt197.1.drop ((wrap64 (4 * (wrap64 ((t191.length : Int) + 1)))) : Int).toNat : List Int)).bind fun y221 => (if 0 ≤ (wrap64 (4 * (wrap64 ((t194.length : Int) + 1)))) then (if (wrap64 (4 * (wrap64 ((t194.length : Int) + 1)))) ≤ (bt201.1.length : Int) then ((some (bt201.1.drop ((wrap64 (4 * (wrap64 ((t194.length : Int) + 1)))) : Int).toNat : List Int)).bind fun y225 => (if (strOfNums y221).size + (strOfNums y225).size ≤ 9223372036854775807 then (if 0 ≤ (wrap64 (4 * (wrap64 ((wrap64 ((t191.length : Int) + (t194.length : Int))) + 1)))) then (if (wrap64 (4 * (wrap64 ((wrap64 ((t191.length : Int) + (t194.length : Int))) + 1)))) ≤ (bt214.1.length : Int) then (if (strOfNums (bt214.1.drop ((wrap64 (4 * (wrap64 ((wrap64 ((t191.length : Int) + (t194.length : Int))) + 1)))) : Int).toNat)).toList = ((strOfNums y221) ++ (strOfNums y225)).toList then (if (wrap64 (4 * (wrap64 ((t191.length : Int) + 1)))) ≤ (bt214.1.length : Int) then (some ((strOfNums (bt214.1.take ((wrap64 (4 * (wrap64 ((t191.length : Int) + 1)))) : Int).toNat)).toList == (strOfNums (bt197.1.take ((wrap64 (4 * (wrap64 ((t191.length : Int) + 1)))) : Int).toNat)).toList)) else (none)) else (some false)) else (none)) else (none)) else (none))) else (none)) else (none))) else (none)) else (none)) else (some false)) else (some false))) else (some false))) else (some false)))) else (none))) else (none)))))))) else (some false))) else (none))) else (none))) else (none)))) else (some false))) = some r := h
  clear h
  replace H := Option.bind_eq_some_iff.mp H
  obtain ⟨t172, A50, H⟩ := H
  replace H : (if t172 = true then ((plain_PutInts.f l0).bind fun t173 => ((plain_PutInts.f l1).bind fun t176 => (if (strOfNums t173).size + (strOfNums t176).size ≤ 9223372036854775807 then ((some (([] : List Int) : List Int)).bind fun y179 => (if y179.length + l0.length < 17592186044416 then ((some (y179 ++ l0 : List Int)).bind fun y182 => (if y182.length + l1.length < 17592186044416 then ((plain_PutInts.f (y182 ++ l1)).bind fun t188 => (if ((strOfNums t173) ++ (strOfNums t176)).toList = (strOfNums t188).toList then ((colonnadelaw08_short.f k l2).bind fun t191 => ((colonnadelaw08_short.f k l3).bind fun t194 => (if (wrap64 ((t191.length : Int) + (t194.length : Int))) > 1048576 then (some true) else ((plain_PutTexts.f t191).bind fun bt197 => ((plain_PutTexts.f t194).bind fun bt201 => ((some (([] : List ByteArray) : List ByteArray)).bind fun y205 => (if y205.length + t191.length < 8796093022208 then ((some (y205 ++ t191 : List ByteArray)).bind fun y208 => (if y208.length + t194.length < 8796093022208 then ((plain_PutTexts.f (y208 ++ t194)).bind fun bt214 => ((colonnadelaw08_num.f bt197.2).bind fun t218 => (if t218 = 0 then ((colonnadelaw08_num.f bt201.2).bind fun t219 => (if t219 = 0 then ((colonnadelaw08_num.f bt214.2).bind fun t220 => (if t220 = 0 then (if (bt214.1.length : Int) = (wrap64 ((wrap64 ((bt197.1.length : Int) + (bt201.1.length : Int))) - 4)) then (if 0 ≤ (wrap64 (4 * (wrap64 ((t191.length : Int) + 1)))) then (if (wrap64 (4 * (wrap64 ((t191.length : Int) + 1)))) ≤ (bt197.1.length : Int) then ((some (bt197.1.drop ((wrap64 (4 * (wrap64 ((t191.length : Int) + 1)))) : Int).toNat : List Int)).bind fun y221 => (if 0 ≤ (wrap64 (4 * (wrap64 ((t194.length : Int) + 1)))) then (if (wrap64 (4 * (wrap64 ((t194.length : Int) + 1)))) ≤ (bt201.1.length : Int) then ((some (bt201.1.drop ((wrap64 (4 * (wrap64 ((t194.length : Int) + 1)))) : Int).toNat : List Int)).bind fun y225 => (if (strOfNums y221).size + (strOfNums y225).size ≤ 9223372036854775807 then (if 0 ≤ (wrap64 (4 * (wrap64 ((wrap64 ((t191.length : Int) + (t194.length : Int))) + 1)))) then (if (wrap64 (4 * (wrap64 ((wrap64 ((t191.length : Int) + (t194.length : Int))) + 1)))) ≤ (bt214.1.length : Int) then (if (strOfNums (bt214.1.drop ((wrap64 (4 * (wrap64 ((wrap64 ((t191.length : Int) + (t194.length : Int))) + 1)))) : Int).toNat)).toList = ((strOfNums y221) ++ (strOfNums y225)).toList then (if (wrap64 (4 * (wrap64 ((t191.length : Int) + 1)))) ≤ (bt214.1.length : Int) then (some ((strOfNums (bt214.1.take ((wrap64 (4 * (wrap64 ((t191.length : Int) + 1)))) : Int).toNat)).toList == (strOfNums (bt197.1.take ((wrap64 (4 * (wrap64 ((t191.length : Int) + 1)))) : Int).toNat)).toList)) else (none)) else (some false)) else (none)) else (none)) else (none))) else (none)) else (none))) else (none)) else (none)) else (some false)) else (some false))) else (some false))) else (some false)))) else (none))) else (none)))))))) else (some false))) else (none))) else (none))) else (none)))) else (some false)) = some r := H
  have A5 := Aside0.mk A50
  clear A50
  by_cases c6 : t172 = true
  · subst c6
    have H1 : ((plain_PutInts.f l0).bind fun t173 => ((plain_PutInts.f l1).bind fun t176 => (if (strOfNums t173).size + (strOfNums t176).size ≤ 9223372036854775807 then ((some (([] : List Int) : List Int)).bind fun y179 => (if y179.length + l0.length < 17592186044416 then ((some (y179 ++ l0 : List Int)).bind fun y182 => (if y182.length + l1.length < 17592186044416 then ((plain_PutInts.f (y182 ++ l1)).bind fun t188 => (if ((strOfNums t173) ++ (strOfNums t176)).toList = (strOfNums t188).toList then ((colonnadelaw08_short.f k l2).bind fun t191 => ((colonnadelaw08_short.f k l3).bind fun t194 => (if (wrap64 ((t191.length : Int) + (t194.length : Int))) > 1048576 then (some true) else ((plain_PutTexts.f t191).bind fun bt197 => ((plain_PutTexts.f t194).bind fun bt201 => ((some (([] : List ByteArray) : List ByteArray)).bind fun y205 => (if y205.length + t191.length < 8796093022208 then ((some (y205 ++ t191 : List ByteArray)).bind fun y208 => (if y208.length + t194.length < 8796093022208 then ((plain_PutTexts.f (y208 ++ t194)).bind fun bt214 => ((colonnadelaw08_num.f bt197.2).bind fun t218 => (if t218 = 0 then ((colonnadelaw08_num.f bt201.2).bind fun t219 => (if t219 = 0 then ((colonnadelaw08_num.f bt214.2).bind fun t220 => (if t220 = 0 then (if (bt214.1.length : Int) = (wrap64 ((wrap64 ((bt197.1.length : Int) + (bt201.1.length : Int))) - 4)) then (if 0 ≤ (wrap64 (4 * (wrap64 ((t191.length : Int) + 1)))) then (if (wrap64 (4 * (wrap64 ((t191.length : Int) + 1)))) ≤ (bt197.1.length : Int) then ((some (bt197.1.drop ((wrap64 (4 * (wrap64 ((t191.length : Int) + 1)))) : Int).toNat : List Int)).bind fun y221 => (if 0 ≤ (wrap64 (4 * (wrap64 ((t194.length : Int) + 1)))) then (if (wrap64 (4 * (wrap64 ((t194.length : Int) + 1)))) ≤ (bt201.1.length : Int) then ((some (bt201.1.drop ((wrap64 (4 * (wrap64 ((t194.length : Int) + 1)))) : Int).toNat : List Int)).bind fun y225 => (if (strOfNums y221).size + (strOfNums y225).size ≤ 9223372036854775807 then (if 0 ≤ (wrap64 (4 * (wrap64 ((wrap64 ((t191.length : Int) + (t194.length : Int))) + 1)))) then (if (wrap64 (4 * (wrap64 ((wrap64 ((t191.length : Int) + (t194.length : Int))) + 1)))) ≤ (bt214.1.length : Int) then (if (strOfNums (bt214.1.drop ((wrap64 (4 * (wrap64 ((wrap64 ((t191.length : Int) + (t194.length : Int))) + 1)))) : Int).toNat)).toList = ((strOfNums y221) ++ (strOfNums y225)).toList then (if (wrap64 (4 * (wrap64 ((t191.length : Int) + 1)))) ≤ (bt214.1.length : Int) then (some ((strOfNums (bt214.1.take ((wrap64 (4 * (wrap64 ((t191.length : Int) + 1)))) : Int).toNat)).toList == (strOfNums (bt197.1.take ((wrap64 (4 * (wrap64 ((t191.length : Int) + 1)))) : Int).toNat)).toList)) else (none)) else (some false)) else (none)) else (none)) else (none))) else (none)) else (none))) else (none)) else (none)) else (some false)) else (some false))) else (some false))) else (some false)))) else (none))) else (none)))))))) else (some false))) else (none))) else (none))) else (none)))) = some r := by rw [if_pos rfl] at H; exact H
    clear H
    have H := H1
    clear H1
    replace H := Option.bind_eq_some_iff.mp H
    obtain ⟨t173, A70, H⟩ := H
    replace H : ((plain_PutInts.f l1).bind fun t176 => (if (strOfNums t173).size + (strOfNums t176).size ≤ 9223372036854775807 then ((some (([] : List Int) : List Int)).bind fun y179 => (if y179.length + l0.length < 17592186044416 then ((some (y179 ++ l0 : List Int)).bind fun y182 => (if y182.length + l1.length < 17592186044416 then ((plain_PutInts.f (y182 ++ l1)).bind fun t188 => (if ((strOfNums t173) ++ (strOfNums t176)).toList = (strOfNums t188).toList then ((colonnadelaw08_short.f k l2).bind fun t191 => ((colonnadelaw08_short.f k l3).bind fun t194 => (if (wrap64 ((t191.length : Int) + (t194.length : Int))) > 1048576 then (some true) else ((plain_PutTexts.f t191).bind fun bt197 => ((plain_PutTexts.f t194).bind fun bt201 => ((some (([] : List ByteArray) : List ByteArray)).bind fun y205 => (if y205.length + t191.length < 8796093022208 then ((some (y205 ++ t191 : List ByteArray)).bind fun y208 => (if y208.length + t194.length < 8796093022208 then ((plain_PutTexts.f (y208 ++ t194)).bind fun bt214 => ((colonnadelaw08_num.f bt197.2).bind fun t218 => (if t218 = 0 then ((colonnadelaw08_num.f bt201.2).bind fun t219 => (if t219 = 0 then ((colonnadelaw08_num.f bt214.2).bind fun t220 => (if t220 = 0 then (if (bt214.1.length : Int) = (wrap64 ((wrap64 ((bt197.1.length : Int) + (bt201.1.length : Int))) - 4)) then (if 0 ≤ (wrap64 (4 * (wrap64 ((t191.length : Int) + 1)))) then (if (wrap64 (4 * (wrap64 ((t191.length : Int) + 1)))) ≤ (bt197.1.length : Int) then ((some (bt197.1.drop ((wrap64 (4 * (wrap64 ((t191.length : Int) + 1)))) : Int).toNat : List Int)).bind fun y221 => (if 0 ≤ (wrap64 (4 * (wrap64 ((t194.length : Int) + 1)))) then (if (wrap64 (4 * (wrap64 ((t194.length : Int) + 1)))) ≤ (bt201.1.length : Int) then ((some (bt201.1.drop ((wrap64 (4 * (wrap64 ((t194.length : Int) + 1)))) : Int).toNat : List Int)).bind fun y225 => (if (strOfNums y221).size + (strOfNums y225).size ≤ 9223372036854775807 then (if 0 ≤ (wrap64 (4 * (wrap64 ((wrap64 ((t191.length : Int) + (t194.length : Int))) + 1)))) then (if (wrap64 (4 * (wrap64 ((wrap64 ((t191.length : Int) + (t194.length : Int))) + 1)))) ≤ (bt214.1.length : Int) then (if (strOfNums (bt214.1.drop ((wrap64 (4 * (wrap64 ((wrap64 ((t191.length : Int) + (t194.length : Int))) + 1)))) : Int).toNat)).toList = ((strOfNums y221) ++ (strOfNums y225)).toList then (if (wrap64 (4 * (wrap64 ((t191.length : Int) + 1)))) ≤ (bt214.1.length : Int) then (some ((strOfNums (bt214.1.take ((wrap64 (4 * (wrap64 ((t191.length : Int) + 1)))) : Int).toNat)).toList == (strOfNums (bt197.1.take ((wrap64 (4 * (wrap64 ((t191.length : Int) + 1)))) : Int).toNat)).toList)) else (none)) else (some false)) else (none)) else (none)) else (none))) else (none)) else (none))) else (none)) else (none)) else (some false)) else (some false))) else (some false))) else (some false)))) else (none))) else (none)))))))) else (some false))) else (none))) else (none))) else (none))) = some r := H
    have A7 := Aside0.mk A70
    clear A70
    replace H := Option.bind_eq_some_iff.mp H
    obtain ⟨t176, A80, H⟩ := H
    replace H : (if (strOfNums t173).size + (strOfNums t176).size ≤ 9223372036854775807 then ((some (([] : List Int) : List Int)).bind fun y179 => (if y179.length + l0.length < 17592186044416 then ((some (y179 ++ l0 : List Int)).bind fun y182 => (if y182.length + l1.length < 17592186044416 then ((plain_PutInts.f (y182 ++ l1)).bind fun t188 => (if ((strOfNums t173) ++ (strOfNums t176)).toList = (strOfNums t188).toList then ((colonnadelaw08_short.f k l2).bind fun t191 => ((colonnadelaw08_short.f k l3).bind fun t194 => (if (wrap64 ((t191.length : Int) + (t194.length : Int))) > 1048576 then (some true) else ((plain_PutTexts.f t191).bind fun bt197 => ((plain_PutTexts.f t194).bind fun bt201 => ((some (([] : List ByteArray) : List ByteArray)).bind fun y205 => (if y205.length + t191.length < 8796093022208 then ((some (y205 ++ t191 : List ByteArray)).bind fun y208 => (if y208.length + t194.length < 8796093022208 then ((plain_PutTexts.f (y208 ++ t194)).bind fun bt214 => ((colonnadelaw08_num.f bt197.2).bind fun t218 => (if t218 = 0 then ((colonnadelaw08_num.f bt201.2).bind fun t219 => (if t219 = 0 then ((colonnadelaw08_num.f bt214.2).bind fun t220 => (if t220 = 0 then (if (bt214.1.length : Int) = (wrap64 ((wrap64 ((bt197.1.length : Int) + (bt201.1.length : Int))) - 4)) then (if 0 ≤ (wrap64 (4 * (wrap64 ((t191.length : Int) + 1)))) then (if (wrap64 (4 * (wrap64 ((t191.length : Int) + 1)))) ≤ (bt197.1.length : Int) then ((some (bt197.1.drop ((wrap64 (4 * (wrap64 ((t191.length : Int) + 1)))) : Int).toNat : List Int)).bind fun y221 => (if 0 ≤ (wrap64 (4 * (wrap64 ((t194.length : Int) + 1)))) then (if (wrap64 (4 * (wrap64 ((t194.length : Int) + 1)))) ≤ (bt201.1.length : Int) then ((some (bt201.1.drop ((wrap64 (4 * (wrap64 ((t194.length : Int) + 1)))) : Int).toNat : List Int)).bind fun y225 => (if (strOfNums y221).size + (strOfNums y225).size ≤ 9223372036854775807 then (if 0 ≤ (wrap64 (4 * (wrap64 ((wrap64 ((t191.length : Int) + (t194.length : Int))) + 1)))) then (if (wrap64 (4 * (wrap64 ((wrap64 ((t191.length : Int) + (t194.length : Int))) + 1)))) ≤ (bt214.1.length : Int) then (if (strOfNums (bt214.1.drop ((wrap64 (4 * (wrap64 ((wrap64 ((t191.length : Int) + (t194.length : Int))) + 1)))) : Int).toNat)).toList = ((strOfNums y221) ++ (strOfNums y225)).toList then (if (wrap64 (4 * (wrap64 ((t191.length : Int) + 1)))) ≤ (bt214.1.length : Int) then (some ((strOfNums (bt214.1.take ((wrap64 (4 * (wrap64 ((t191.length : Int) + 1)))) : Int).toNat)).toList == (strOfNums (bt197.1.take ((wrap64 (4 * (wrap64 ((t191.length : Int) + 1)))) : Int).toNat)).toList)) else (none)) else (some false)) else (none)) else (none)) else (none))) else (none)) else (none))) else (none)) else (none)) else (some false)) else (some false))) else (some false))) else (some false)))) else (none))) else (none)))))))) else (some false))) else (none))) else (none))) else (none)) = some r := H
    have A8 := Aside0.mk A80
    clear A80
    by_cases c9 : (strOfNums t173).size + (strOfNums t176).size ≤ 9223372036854775807
    · rw [if_pos c9] at H
      have c9b0 := eq_true c9
      have c9b1 : decide ((strOfNums t173).size + (strOfNums t176).size ≤ 9223372036854775807) = true := decide_eq_true c9
      try have c9b2 : (9223372036854775807 < (strOfNums t173).size + (strOfNums t176).size) = False := eq_false (Nat.not_lt.2 c9)
      obtain ⟨y179, hy179⟩ : ∃ y_ : List Int, y_ = (([] : List Int)) := ⟨_, rfl⟩
      replace H : (if y179.length + l0.length < 17592186044416 then ((some (y179 ++ l0 : List Int)).bind fun y182 => (if y182.length + l1.length < 17592186044416 then ((plain_PutInts.f (y182 ++ l1)).bind fun t188 => (if ((strOfNums t173) ++ (strOfNums t176)).toList = (strOfNums t188).toList then ((colonnadelaw08_short.f k l2).bind fun t191 => ((colonnadelaw08_short.f k l3).bind fun t194 => (if (wrap64 ((t191.length : Int) + (t194.length : Int))) > 1048576 then (some true) else ((plain_PutTexts.f t191).bind fun bt197 => ((plain_PutTexts.f t194).bind fun bt201 => ((some (([] : List ByteArray) : List ByteArray)).bind fun y205 => (if y205.length + t191.length < 8796093022208 then ((some (y205 ++ t191 : List ByteArray)).bind fun y208 => (if y208.length + t194.length < 8796093022208 then ((plain_PutTexts.f (y208 ++ t194)).bind fun bt214 => ((colonnadelaw08_num.f bt197.2).bind fun t218 => (if t218 = 0 then ((colonnadelaw08_num.f bt201.2).bind fun t219 => (if t219 = 0 then ((colonnadelaw08_num.f bt214.2).bind fun t220 => (if t220 = 0 then (if (bt214.1.length : Int) = (wrap64 ((wrap64 ((bt197.1.length : Int) + (bt201.1.length : Int))) - 4)) then (if 0 ≤ (wrap64 (4 * (wrap64 ((t191.length : Int) + 1)))) then (if (wrap64 (4 * (wrap64 ((t191.length : Int) + 1)))) ≤ (bt197.1.length : Int) then ((some (bt197.1.drop ((wrap64 (4 * (wrap64 ((t191.length : Int) + 1)))) : Int).toNat : List Int)).bind fun y221 => (if 0 ≤ (wrap64 (4 * (wrap64 ((t194.length : Int) + 1)))) then (if (wrap64 (4 * (wrap64 ((t194.length : Int) + 1)))) ≤ (bt201.1.length : Int) then ((some (bt201.1.drop ((wrap64 (4 * (wrap64 ((t194.length : Int) + 1)))) : Int).toNat : List Int)).bind fun y225 => (if (strOfNums y221).size + (strOfNums y225).size ≤ 9223372036854775807 then (if 0 ≤ (wrap64 (4 * (wrap64 ((wrap64 ((t191.length : Int) + (t194.length : Int))) + 1)))) then (if (wrap64 (4 * (wrap64 ((wrap64 ((t191.length : Int) + (t194.length : Int))) + 1)))) ≤ (bt214.1.length : Int) then (if (strOfNums (bt214.1.drop ((wrap64 (4 * (wrap64 ((wrap64 ((t191.length : Int) + (t194.length : Int))) + 1)))) : Int).toNat)).toList = ((strOfNums y221) ++ (strOfNums y225)).toList then (if (wrap64 (4 * (wrap64 ((t191.length : Int) + 1)))) ≤ (bt214.1.length : Int) then (some ((strOfNums (bt214.1.take ((wrap64 (4 * (wrap64 ((t191.length : Int) + 1)))) : Int).toNat)).toList == (strOfNums (bt197.1.take ((wrap64 (4 * (wrap64 ((t191.length : Int) + 1)))) : Int).toNat)).toList)) else (none)) else (some false)) else (none)) else (none)) else (none))) else (none)) else (none))) else (none)) else (none)) else (some false)) else (some false))) else (some false))) else (some false)))) else (none))) else (none)))))))) else (some false))) else (none))) else (none)) = some r := by first | (rw [hy179]; with_reducible exact H) | (have H2_ := (Option.bind_some _ _).symm.trans H; rw [hy179]; with_reducible exact H2_) | (have H2_ := (Option.bind_some _ _).symm.trans H; with_reducible exact H2_) | with_reducible exact H | (rw [hy179]; exact H) | exact H
      have Ny179 := Aside0.mk hy179
      clear hy179
      by_cases c10 : y179.length + l0.length < 17592186044416
      · rw [if_pos c10] at H
        have LMc10 := Aside0.mk c10
        clear c10
        obtain ⟨y182, hy182⟩ : ∃ y_ : List Int, y_ = (y179 ++ l0) := ⟨_, rfl⟩
        replace H : (if y182.length + l1.length < 17592186044416 then ((plain_PutInts.f (y182 ++ l1)).bind fun t188 => (if ((strOfNums t173) ++ (strOfNums t176)).toList = (strOfNums t188).toList then ((colonnadelaw08_short.f k l2).bind fun t191 => ((colonnadelaw08_short.f k l3).bind fun t194 => (if (wrap64 ((t191.length : Int) + (t194.length : Int))) > 1048576 then (some true) else ((plain_PutTexts.f t191).bind fun bt197 => ((plain_PutTexts.f t194).bind fun bt201 => ((some (([] : List ByteArray) : List ByteArray)).bind fun y205 => (if y205.length + t191.length < 8796093022208 then ((some (y205 ++ t191 : List ByteArray)).bind fun y208 => (if y208.length + t194.length < 8796093022208 then ((plain_PutTexts.f (y208 ++ t194)).bind fun bt214 => ((colonnadelaw08_num.f bt197.2).bind fun t218 => (if t218 = 0 then ((colonnadelaw08_num.f bt201.2).bind fun t219 => (if t219 = 0 then ((colonnadelaw08_num.f bt214.2).bind fun t220 => (if t220 = 0 then (if (bt214.1.length : Int) = (wrap64 ((wrap64 ((bt197.1.length : Int) + (bt201.1.length : Int))) - 4)) then (if 0 ≤ (wrap64 (4 * (wrap64 ((t191.length : Int) + 1)))) then (if (wrap64 (4 * (wrap64 ((t191.length : Int) + 1)))) ≤ (bt197.1.length : Int) then ((some (bt197.1.drop ((wrap64 (4 * (wrap64 ((t191.length : Int) + 1)))) : Int).toNat : List Int)).bind fun y221 => (if 0 ≤ (wrap64 (4 * (wrap64 ((t194.length : Int) + 1)))) then (if (wrap64 (4 * (wrap64 ((t194.length : Int) + 1)))) ≤ (bt201.1.length : Int) then ((some (bt201.1.drop ((wrap64 (4 * (wrap64 ((t194.length : Int) + 1)))) : Int).toNat : List Int)).bind fun y225 => (if (strOfNums y221).size + (strOfNums y225).size ≤ 9223372036854775807 then (if 0 ≤ (wrap64 (4 * (wrap64 ((wrap64 ((t191.length : Int) + (t194.length : Int))) + 1)))) then (if (wrap64 (4 * (wrap64 ((wrap64 ((t191.length : Int) + (t194.length : Int))) + 1)))) ≤ (bt214.1.length : Int) then (if (strOfNums (bt214.1.drop ((wrap64 (4 * (wrap64 ((wrap64 ((t191.length : Int) + (t194.length : Int))) + 1)))) : Int).toNat)).toList = ((strOfNums y221) ++ (strOfNums y225)).toList then (if (wrap64 (4 * (wrap64 ((t191.length : Int) + 1)))) ≤ (bt214.1.length : Int) then (some ((strOfNums (bt214.1.take ((wrap64 (4 * (wrap64 ((t191.length : Int) + 1)))) : Int).toNat)).toList == (strOfNums (bt197.1.take ((wrap64 (4 * (wrap64 ((t191.length : Int) + 1)))) : Int).toNat)).toList)) else (none)) else (some false)) else (none)) else (none)) else (none))) else (none)) else (none))) else (none)) else (none)) else (some false)) else (some false))) else (some false))) else (some false)))) else (none))) else (none)))))))) else (some false))) else (none)) = some r := by first | (rw [hy182]; with_reducible exact H) | (have H2_ := (Option.bind_some _ _).symm.trans H; rw [hy182]; with_reducible exact H2_) | (have H2_ := (Option.bind_some _ _).symm.trans H; with_reducible exact H2_) | with_reducible exact H | (rw [hy182]; exact H) | exact H
        have Ny182 := Aside0.mk hy182
        clear hy182
        by_cases c11 : y182.length + l1.length < 17592186044416
        · rw [if_pos c11] at H
          have LMc11 := Aside0.mk c11
          clear c11
          obtain ⟨y185, hy185⟩ : ∃ y_ : List Int, y_ = (y182 ++ l1) := ⟨_, rfl⟩
          replace H : ((plain_PutInts.f y185).bind fun t188 => (if ((strOfNums t173) ++ (strOfNums t176)).toList = (strOfNums t188).toList then ((colonnadelaw08_short.f k l2).bind fun t191 => ((colonnadelaw08_short.f k l3).bind fun t194 => (if (wrap64 ((t191.length : Int) + (t194.length : Int))) > 1048576 then (some true) else ((plain_PutTexts.f t191).bind fun bt197 => ((plain_PutTexts.f t194).bind fun bt201 => ((some (([] : List ByteArray) : List ByteArray)).bind fun y205 => (if y205.length + t191.length < 8796093022208 then ((some (y205 ++ t191 : List ByteArray)).bind fun y208 => (if y208.length + t194.length < 8796093022208 then ((plain_PutTexts.f (y208 ++ t194)).bind fun bt214 => ((colonnadelaw08_num.f bt197.2).bind fun t218 => (if t218 = 0 then ((colonnadelaw08_num.f bt201.2).bind fun t219 => (if t219 = 0 then ((colonnadelaw08_num.f bt214.2).bind fun t220 => (if t220 = 0 then (if (bt214.1.length : Int) = (wrap64 ((wrap64 ((bt197.1.length : Int) + (bt201.1.length : Int))) - 4)) then (if 0 ≤ (wrap64 (4 * (wrap64 ((t191.length : Int) + 1)))) then (if (wrap64 (4 * (wrap64 ((t191.length : Int) + 1)))) ≤ (bt197.1.length : Int) then ((some (bt197.1.drop ((wrap64 (4 * (wrap64 ((t191.length : Int) + 1)))) : Int).toNat : List Int)).bind fun y221 => (if 0 ≤ (wrap64 (4 * (wrap64 ((t194.length : Int) + 1)))) then (if (wrap64 (4 * (wrap64 ((t194.length : Int) + 1)))) ≤ (bt201.1.length : Int) then ((some (bt201.1.drop ((wrap64 (4 * (wrap64 ((t194.length : Int) + 1)))) : Int).toNat : List Int)).bind fun y225 => (if (strOfNums y221).size + (strOfNums y225).size ≤ 9223372036854775807 then (if 0 ≤ (wrap64 (4 * (wrap64 ((wrap64 ((t191.length : Int) + (t194.length : Int))) + 1)))) then (if (wrap64 (4 * (wrap64 ((wrap64 ((t191.length : Int) + (t194.length : Int))) + 1)))) ≤ (bt214.1.length : Int) then (if (strOfNums (bt214.1.drop ((wrap64 (4 * (wrap64 ((wrap64 ((t191.length : Int) + (t194.length : Int))) + 1)))) : Int).toNat)).toList = ((strOfNums y221) ++ (strOfNums y225)).toList then (if (wrap64 (4 * (wrap64 ((t191.length : Int) + 1)))) ≤ (bt214.1.length : Int) then (some ((strOfNums (bt214.1.take ((wrap64 (4 * (wrap64 ((t191.length : Int) + 1)))) : Int).toNat)).toList == (strOfNums (bt197.1.take ((wrap64 (4 * (wrap64 ((t191.length : Int) + 1)))) : Int).toNat)).toList)) else (none)) else (some false)) else (none)) else (none)) else (none))) else (none)) else (none))) else (none)) else (none)) else (some false)) else (some false))) else (some false))) else (some false)))) else (none))) else (none)))))))) else (some false))) = some r := by first | (rw [hy185]; with_reducible exact H) | (have H2_ := (Option.bind_some _ _).symm.trans H; rw [hy185]; with_reducible exact H2_) | (have H2_ := (Option.bind_some _ _).symm.trans H; with_reducible exact H2_) | with_reducible exact H | (rw [hy185]; exact H) | exact H
          have Ny185 := Aside0.mk hy185
          clear hy185
          replace H := Option.bind_eq_some_iff.mp H
          obtain ⟨t188, A120, H⟩ := H
          replace H : (if ((strOfNums t173) ++ (strOfNums t176)).toList = (strOfNums t188).toList then ((colonnadelaw08_short.f k l2).bind fun t191 => ((colonnadelaw08_short.f k l3).bind fun t194 => (if (wrap64 ((t191.length : Int) + (t194.length : Int))) > 1048576 then (some true) else ((plain_PutTexts.f t191).bind fun bt197 => ((plain_PutTexts.f t194).bind fun bt201 => ((some (([] : List ByteArray) : List ByteArray)).bind fun y205 => (if y205.length + t191.length < 8796093022208 then ((some (y205 ++ t191 : List ByteArray)).bind fun y208 => (if y208.length + t194.length < 8796093022208 then ((plain_PutTexts.f (y208 ++ t194)).bind fun bt214 => ((colonnadelaw08_num.f bt197.2).bind fun t218 => (if t218 = 0 then ((colonnadelaw08_num.f bt201.2).bind fun t219 => (if t219 = 0 then ((colonnadelaw08_num.f bt214.2).bind fun t220 => (if t220 = 0 then (if (bt214.1.length : Int) = (wrap64 ((wrap64 ((bt197.1.length : Int) + (bt201.1.length : Int))) - 4)) then (if 0 ≤ (wrap64 (4 * (wrap64 ((t191.length : Int) + 1)))) then (if (wrap64 (4 * (wrap64 ((t191.length : Int) + 1)))) ≤ (bt197.1.length : Int) then ((some (bt197.1.drop ((wrap64 (4 * (wrap64 ((t191.length : Int) + 1)))) : Int).toNat : List Int)).bind fun y221 => (if 0 ≤ (wrap64 (4 * (wrap64 ((t194.length : Int) + 1)))) then (if (wrap64 (4 * (wrap64 ((t194.length : Int) + 1)))) ≤ (bt201.1.length : Int) then ((some (bt201.1.drop ((wrap64 (4 * (wrap64 ((t194.length : Int) + 1)))) : Int).toNat : List Int)).bind fun y225 => (if (strOfNums y221).size + (strOfNums y225).size ≤ 9223372036854775807 then (if 0 ≤ (wrap64 (4 * (wrap64 ((wrap64 ((t191.length : Int) + (t194.length : Int))) + 1)))) then (if (wrap64 (4 * (wrap64 ((wrap64 ((t191.length : Int) + (t194.length : Int))) + 1)))) ≤ (bt214.1.length : Int) then (if (strOfNums (bt214.1.drop ((wrap64 (4 * (wrap64 ((wrap64 ((t191.length : Int) + (t194.length : Int))) + 1)))) : Int).toNat)).toList = ((strOfNums y221) ++ (strOfNums y225)).toList then (if (wrap64 (4 * (wrap64 ((t191.length : Int) + 1)))) ≤ (bt214.1.length : Int) then (some ((strOfNums (bt214.1.take ((wrap64 (4 * (wrap64 ((t191.length : Int) + 1)))) : Int).toNat)).toList == (strOfNums (bt197.1.take ((wrap64 (4 * (wrap64 ((t191.length : Int) + 1)))) : Int).toNat)).toList)) else (none)) else (some false)) else (none)) else (none)) else (none))) else (none)) else (none))) else (none)) else (none)) else (some false)) else (some false))) else (some false))) else (some false)))) else (none))) else (none)))))))) else (some false)) = some r := H
          have A12 := Aside0.mk A120
          clear A120
          by_cases c13 : ((strOfNums t173) ++ (strOfNums t176)).toList = (strOfNums t188).toList
          · rw [if_pos c13] at H
            have c13b0 : (((strOfNums t173) ++ (strOfNums t176)).toList == (strOfNums t188).toList) = true := beq_iff_eq.mpr c13
            have c13b1 : (((strOfNums t173) ++ (strOfNums t176)).toList != (strOfNums t188).toList) = false := bne_eq_false_iff_eq.mpr c13
            clear c13
            replace H := Option.bind_eq_some_iff.mp H
            obtain ⟨t191, A140, H⟩ := H
            replace H : ((colonnadelaw08_short.f k l3).bind fun t194 => (if (wrap64 ((t191.length : Int) + (t194.length : Int))) > 1048576 then (some true) else ((plain_PutTexts.f t191).bind fun bt197 => ((plain_PutTexts.f t194).bind fun bt201 => ((some (([] : List ByteArray) : List ByteArray)).bind fun y205 => (if y205.length + t191.length < 8796093022208 then ((some (y205 ++ t191 : List ByteArray)).bind fun y208 => (if y208.length + t194.length < 8796093022208 then ((plain_PutTexts.f (y208 ++ t194)).bind fun bt214 => ((colonnadelaw08_num.f bt197.2).bind fun t218 => (if t218 = 0 then ((colonnadelaw08_num.f bt201.2).bind fun t219 => (if t219 = 0 then ((colonnadelaw08_num.f bt214.2).bind fun t220 => (if t220 = 0 then (if (bt214.1.length : Int) = (wrap64 ((wrap64 ((bt197.1.length : Int) + (bt201.1.length : Int))) - 4)) then (if 0 ≤ (wrap64 (4 * (wrap64 ((t191.length : Int) + 1)))) then (if (wrap64 (4 * (wrap64 ((t191.length : Int) + 1)))) ≤ (bt197.1.length : Int) then ((some (bt197.1.drop ((wrap64 (4 * (wrap64 ((t191.length : Int) + 1)))) : Int).toNat : List Int)).bind fun y221 => (if 0 ≤ (wrap64 (4 * (wrap64 ((t194.length : Int) + 1)))) then (if (wrap64 (4 * (wrap64 ((t194.length : Int) + 1)))) ≤ (bt201.1.length : Int) then ((some (bt201.1.drop ((wrap64 (4 * (wrap64 ((t194.length : Int) + 1)))) : Int).toNat : List Int)).bind fun y225 => (if (strOfNums y221).size + (strOfNums y225).size ≤ 9223372036854775807 then (if 0 ≤ (wrap64 (4 * (wrap64 ((wrap64 ((t191.length : Int) + (t194.length : Int))) + 1)))) then (if (wrap64 (4 * (wrap64 ((wrap64 ((t191.length : Int) + (t194.length : Int))) + 1)))) ≤ (bt214.1.length : Int) then (if (strOfNums (bt214.1.drop ((wrap64 (4 * (wrap64 ((wrap64 ((t191.length : Int) + (t194.length : Int))) + 1)))) : Int).toNat)).toList = ((strOfNums y221) ++ (strOfNums y225)).toList then (if (wrap64 (4 * (wrap64 ((t191.length : Int) + 1)))) ≤ (bt214.1.length : Int) then (some ((strOfNums (bt214.1.take ((wrap64 (4 * (wrap64 ((t191.length : Int) + 1)))) : Int).toNat)).toList == (strOfNums (bt197.1.take ((wrap64 (4 * (wrap64 ((t191.length : Int) + 1)))) : Int).toNat)).toList)) else (none)) else (some false)) else (none)) else (none)) else (none))) else (none)) else (none))) else (none)) else (none)) else (some false)) else (some false))) else (some false))) else (some false)))) else (none))) else (none))))))) = some r := H
            have A14 := Aside0.mk A140
            clear A140
            replace H := Option.bind_eq_some_iff.mp H
            obtain ⟨t194, A150, H⟩ := H
            replace H : (if (wrap64 ((t191.length : Int) + (t194.length : Int))) > 1048576 then (some true) else ((plain_PutTexts.f t191).bind fun bt197 => ((plain_PutTexts.f t194).bind fun bt201 => ((some (([] : List ByteArray) : List ByteArray)).bind fun y205 => (if y205.length + t191.length < 8796093022208 then ((some (y205 ++ t191 : List ByteArray)).bind fun y208 => (if y208.length + t194.length < 8796093022208 then ((plain_PutTexts.f (y208 ++ t194)).bind fun bt214 => ((colonnadelaw08_num.f bt197.2).bind fun t218 => (if t218 = 0 then ((colonnadelaw08_num.f bt201.2).bind fun t219 => (if t219 = 0 then ((colonnadelaw08_num.f bt214.2).bind fun t220 => (if t220 = 0 then (if (bt214.1.length : Int) = (wrap64 ((wrap64 ((bt197.1.length : Int) + (bt201.1.length : Int))) - 4)) then (if 0 ≤ (wrap64 (4 * (wrap64 ((t191.length : Int) + 1)))) then (if (wrap64 (4 * (wrap64 ((t191.length : Int) + 1)))) ≤ (bt197.1.length : Int) then ((some (bt197.1.drop ((wrap64 (4 * (wrap64 ((t191.length : Int) + 1)))) : Int).toNat : List Int)).bind fun y221 => (if 0 ≤ (wrap64 (4 * (wrap64 ((t194.length : Int) + 1)))) then (if (wrap64 (4 * (wrap64 ((t194.length : Int) + 1)))) ≤ (bt201.1.length : Int) then ((some (bt201.1.drop ((wrap64 (4 * (wrap64 ((t194.length : Int) + 1)))) : Int).toNat : List Int)).bind fun y225 => (if (strOfNums y221).size + (strOfNums y225).size ≤ 9223372036854775807 then (if 0 ≤ (wrap64 (4 * (wrap64 ((wrap64 ((t191.length : Int) + (t194.length : Int))) + 1)))) then (if (wrap64 (4 * (wrap64 ((wrap64 ((t191.length : Int) + (t194.length : Int))) + 1)))) ≤ (bt214.1.length : Int) then (if (strOfNums (bt214.1.drop ((wrap64 (4 * (wrap64 ((wrap64 ((t191.length : Int) + (t194.length : Int))) + 1)))) : Int).toNat)).toList = ((strOfNums y221) ++ (strOfNums y225)).toList then (if (wrap64 (4 * (wrap64 ((t191.length : Int) + 1)))) ≤ (bt214.1.length : Int) then (some ((strOfNums (bt214.1.take ((wrap64 (4 * (wrap64 ((t191.length : Int) + 1)))) : Int).toNat)).toList == (strOfNums (bt197.1.take ((wrap64 (4 * (wrap64 ((t191.length : Int) + 1)))) : Int).toNat)).toList)) else (none)) else (some false)) else (none)) else (none)) else (none))) else (none)) else (none))) else (none)) else (none)) else (some false)) else (some false))) else (some false))) else (some false)))) else (none))) else (none)))))) = some r := H
            have A15 := Aside0.mk A150
            clear A150
            by_cases c16 : (wrap64 ((t191.length : Int) + (t194.length : Int))) > 1048576
            · rw [if_pos c16] at H
              have c16b0 : decide (1048576 < (wrap64 ((t191.length : Int) + (t194.length : Int)))) = true := decide_eq_true c16
              clear c16
              obtain rfl := Option.some.inj H
              go_enter Try.func8, Try.ntmps8
              try go_wp2_with (first | ((with_reducible refine gate_callee (f := 29) rfl ?_); refine goesL_ (some 23) rfl rfl Try.func29 (by kernel_rfl) rfl #[] rfl (by (try simp only [List.map_toArray, List.map_cons, List.map_nil]); first | done | rfl | (simp only [List.length_drop, List.length_take]; rfl)) ?_; (with_reducible refine (colonnadelaw08_awake.calls k  true _ A5.out).mono ?_); rintro e w17 ⟨rfl, hb⟩; refine ⟨_, rfl, ?_⟩; have n0_ := Aside0.mk (below_step (by repeat (first | (with_reducible first | exact HB.out | apply below_alloc | apply pw_below_drewN | apply below_drew1) | exact HB.out)) hb); clear HB; have HB := n0_; clear n0_; (try clear hb); (try clear hb2); (try clear hk); (try clear hi)))
              have n0_ := Aside0.mk (below_drew1 HB.out)
              clear HB
              have HB := n0_
              clear n0_
              refine start_ (n := 8) (S := fun w' => True) (ds := []) #[false, false, false, false, false, false, false, false] (by kernel_rfl) rfl rfl trivial (fun hHeld => ?_); refine with_tabW colonnadelaw08_PlainJoins.tab4 colonnadelaw08_PlainJoins.bits4 (fun HT_ HW_ => ?_)
              generalize w17.drew = w18 at HB hHeld ⊢
              refine pure_ (i := 0) (N := some 26) (v := ?_) (a' := ?_) #[true, false, false, false, false, false, false, false] rfl rfl (any_of HT_.out (by kernel_rfl)) (fun _ _ _ h => h) (Or.inl ⟨by rfl, ?_⟩) ?_ ?_
              rotate_left
              · intro w'
                go_simp
                with_reducible rfl
              rotate_left
              · simp only [Act.put, List.setIfInBounds_toArray, List.set_cons_zero, List.set_cons_succ, i64_w, i32_w]
                rfl
              refine pure_ (i := 3) (N := some 29) (v := ?_) (a' := ?_) #[true, false, false, true, false, false, false, false] rfl rfl (any_of HT_.out (by kernel_rfl)) (fun _ _ _ h => h) (Or.inl ⟨by rfl, ?_⟩) ?_ ?_
              rotate_left
              · intro w'
                go_simp
                with_reducible rfl
              rotate_left
              · simp only [Act.put, List.setIfInBounds_toArray, List.set_cons_zero, List.set_cons_succ, i64_w, i32_w]
                rfl
              refine one_ (i := 1) (N := some 27) #[true, true, false, true, false, false, false, false] rfl rfl (one_of HT_.out (by kernel_rfl)) (by decide) (fun K hK => ?_)
              refine goes_ Try.func13 (by kernel_rfl) rfl #[.slice A0 l0.length c0] (by rfl) rfl rfl (by (try simp only [List.map_toArray, List.map_cons, List.map_nil]); first | done | rfl | (simp only [List.length_drop, List.length_take]; rfl)) ?_
              with_reducible refine (plain_PutInts.calls _ _ l0 t173 _ ?side1 ?side2 A7.out).mono ?_
              (case side1 => repeat (first | exact (Kd.C_below HR0.out HB.out) | (with_reducible refine Kd.C_alloc ?_ _) | (with_reducible refine Kd.C_drewN ?_ _) | (with_reducible refine Kd.C_drew ?_)))
              (case side2 => exact HC0.out)
              rintro e w19 ⟨v174, rfl, ho0, hb⟩
              refine ⟨_, rfl, ?_⟩
              have n0_ := Aside0.mk (Kd.R_lower ho0 (below_size (by repeat (first | (with_reducible first | exact HB.out | apply below_alloc | apply pw_below_drewN | apply below_drew1) | exact HB.out))))
              have n1_ := Aside0.mk (below_step (by repeat (first | (with_reducible first | exact HB.out | apply below_alloc | apply pw_below_drewN | apply below_drew1) | exact HB.out)) hb)
              clear HB
              have HO175 := n0_
              have HB := n1_
              clear n0_ n1_
              (try clear hb)
              (try clear hb2)
              (try clear hk)
              (try clear hi)
              (try clear ho0)
              refine hK.out _ _ trivial (fun hHeld => ?_)
              clear hK K
              refine norm_ (a' := ?_) ?_ ?_
              rotate_left
              · show Act.put _ (some 27) _ = _
                simp only [Act.put, List.setIfInBounds_toArray, List.set_cons_zero, List.set_cons_succ, i64_w, i32_w]
                rfl
              refine join_ (σ := Value) 2 #[true, true, true, true, true, true, false, false] (fun s_ => [(28, .string (strOfNums t173)), (30, s_), (31, .string (strOfNums t176))]) (fun s_ w' => (Kd.R (Kd.int .u8) 5 w' w.heap.size (fun k_ => some k_ ≠ (s_ : Value).ownBlock) v174 t173) ∧ (Kd.R (Kd.int .u8) 5 w' w.heap.size (fun k_ => some k_ ≠ (v174 : Value).ownBlock) s_ t176) ∧ (Below w.heap.size w w')) ?_ ?_
              rotate_left
              · intro hCont
                refine two_ (i := 2) (j := 4) (Ni := some 28) (Nj := some 30) #[true, true, true, true, false, false, false, false] #[true, true, false, true, true, false, false, false] rfl rfl rfl rfl (two_of HT_.out (by kernel_rfl)) (by decide) (by decide) (fun K hK => ?_) (fun K hK => ?_)
                · skip
                  have hcv20 := own_string (P := Try.prog) Try.underlying24 Try.underlying5 Try.underlying9 (Kd.own_of_R HO175.out); have hcv20m_ := fun m_ : Nat => own_string (P := Try.prog) Try.underlying24 Try.underlying5 Try.underlying9 (Kd.own_of_R (Kd.R_drewN HO175.out m_))
                  refine value_ (w1 := ?_) (v := ?_) (by rfl) rfl ?_ ?_
                  rotate_left 2
                  · go_simp
                    constructor
                    · rfl
                    · rfl
                  clear hcv20
                  refine hK.out _ _ trivial (fun hHeld => ?_)
                  clear hK K
                  refine norm_ (a' := ?_) ?_ ?_
                  rotate_left
                  · show Act.put _ (some 28) _ = _
                    simp only [Act.put, List.setIfInBounds_toArray, List.set_cons_zero, List.set_cons_succ, i64_w, i32_w]
                    rfl
                  refine one_ (i := 4) (N := some 30) #[true, true, true, true, true, false, false, false] rfl rfl (one_of HT_.out (by kernel_rfl)) (by decide) (fun K hK => ?_)
                  refine goes_ Try.func13 (by kernel_rfl) rfl #[.slice A1 l1.length c1] (by rfl) rfl rfl (by (try simp only [List.map_toArray, List.map_cons, List.map_nil]); first | done | rfl | (simp only [List.length_drop, List.length_take]; rfl)) ?_
                  with_reducible refine (plain_PutInts.calls _ _ l1 t176 _ ?side1 ?side2 A8.out).mono ?_
                  (case side1 => repeat (first | exact (Kd.C_below HR1.out HB.out) | (with_reducible refine Kd.C_alloc ?_ _) | (with_reducible refine Kd.C_drewN ?_ _) | (with_reducible refine Kd.C_drew ?_)))
                  (case side2 => exact HC1.out)
                  rintro e w21 ⟨v177, rfl, ho0, hb⟩
                  refine ⟨_, rfl, ?_⟩
                  have n0_ := Aside0.mk (Kd.R_elder' (by (with_reducible repeat (first | apply Kd.R_alloc | apply Kd.R_drewN | apply Kd.R_drew)); exact HO175.out) (Kd.R_base ho0) hb)
                  have n1_ := Aside0.mk (Kd.R_lower (Kd.R_new' ho0 (Kd.R_lt (by (with_reducible repeat (first | apply Kd.R_alloc | apply Kd.R_drewN | apply Kd.R_drew)); exact HO175.out))) (below_size (by repeat (first | (with_reducible first | exact HB.out | apply below_alloc | apply pw_below_drewN | apply below_drew1) | exact HB.out))))
                  have n2_ := Aside0.mk (below_step (by repeat (first | (with_reducible first | exact HB.out | apply below_alloc | apply pw_below_drewN | apply below_drew1) | exact HB.out)) hb)
                  clear HO175
                  clear HB
                  have HO175 := n0_
                  have HO178 := n1_
                  have HB := n2_
                  clear n0_ n1_ n2_
                  (try clear hb)
                  (try clear hb2)
                  (try clear hk)
                  (try clear hi)
                  (try clear ho0)
                  refine hK.out _ _ trivial (fun hHeld => ?_)
                  clear hK K
                  refine norm_ (a' := ?_) ?_ ?_
                  rotate_left
                  · show Act.put _ (some 30) _ = _
                    simp only [Act.put, List.setIfInBounds_toArray, List.set_cons_zero, List.set_cons_succ, i64_w, i32_w]
                    rfl
                  refine one_ (i := 5) (N := some 31) #[true, true, true, true, true, true, false, false] rfl rfl (one_of HT_.out (by kernel_rfl)) (by decide) (fun K hK => ?_)
                  have hcv22 := own_string (P := Try.prog) Try.underlying24 Try.underlying5 Try.underlying9 (Kd.own_of_R HO178.out); have hcv22m_ := fun m_ : Nat => own_string (P := Try.prog) Try.underlying24 Try.underlying5 Try.underlying9 (Kd.own_of_R (Kd.R_drewN HO178.out m_))
                  refine value_ (w1 := ?_) (v := ?_) (by rfl) rfl ?_ ?_
                  rotate_left 2
                  · go_simp
                    constructor
                    · rfl
                    · rfl
                  clear hcv22
                  refine hK.out _ _ trivial (fun hHeld => ?_)
                  clear hK K
                  refine norm_ (a' := ?_) ?_ ?_
                  rotate_left
                  · show Act.put _ (some 31) _ = _
                    simp only [Act.put, List.setIfInBounds_toArray, List.set_cons_zero, List.set_cons_succ, i64_w, i32_w]
                    rfl
                  exact norm_ (by simp only [putAll, Act.put, List.setIfInBounds_toArray, List.set_cons_zero, List.set_cons_succ]) (hCont (v177) _ ⟨(by (with_reducible repeat (first | apply Kd.R_alloc | apply Kd.R_drewN | apply Kd.R_drew)); exact Kd.R_mono HO175.out (fun _ hk => hk.2)), (by (with_reducible repeat (first | apply Kd.R_alloc | apply Kd.R_drewN | apply Kd.R_drew)); exact Kd.R_mono HO178.out (fun _ hk => hk.2)), (by repeat (first | (with_reducible first | exact HB.out | apply below_alloc | apply pw_below_drewN | apply below_drew1) | exact HB.out))⟩)
                · skip
                  refine goes_ Try.func13 (by kernel_rfl) rfl #[.slice A1 l1.length c1] (by rfl) rfl rfl (by (try simp only [List.map_toArray, List.map_cons, List.map_nil]); first | done | rfl | (simp only [List.length_drop, List.length_take]; rfl)) ?_
                  with_reducible refine (plain_PutInts.calls _ _ l1 t176 _ ?side1 ?side2 A8.out).mono ?_
                  (case side1 => repeat (first | exact (Kd.C_below HR1.out HB.out) | (with_reducible refine Kd.C_alloc ?_ _) | (with_reducible refine Kd.C_drewN ?_ _) | (with_reducible refine Kd.C_drew ?_)))
                  (case side2 => exact HC1.out)
                  rintro e w20 ⟨v177, rfl, ho0, hb⟩
                  refine ⟨_, rfl, ?_⟩
                  have n0_ := Aside0.mk (Kd.R_elder' (by (with_reducible repeat (first | apply Kd.R_alloc | apply Kd.R_drewN | apply Kd.R_drew)); exact HO175.out) (Kd.R_base ho0) hb)
                  have n1_ := Aside0.mk (Kd.R_lower (Kd.R_new' ho0 (Kd.R_lt (by (with_reducible repeat (first | apply Kd.R_alloc | apply Kd.R_drewN | apply Kd.R_drew)); exact HO175.out))) (below_size (by repeat (first | (with_reducible first | exact HB.out | apply below_alloc | apply pw_below_drewN | apply below_drew1) | exact HB.out))))
                  have n2_ := Aside0.mk (below_step (by repeat (first | (with_reducible first | exact HB.out | apply below_alloc | apply pw_below_drewN | apply below_drew1) | exact HB.out)) hb)
                  clear HO175
                  clear HB
                  have HO175 := n0_
                  have HO178 := n1_
                  have HB := n2_
                  clear n0_ n1_ n2_
                  (try clear hb)
                  (try clear hb2)
                  (try clear hk)
                  (try clear hi)
                  (try clear ho0)
                  refine hK.out _ _ trivial (fun hHeld => ?_)
                  clear hK K
                  refine norm_ (a' := ?_) ?_ ?_
                  rotate_left
                  · show Act.put _ (some 30) _ = _
                    simp only [Act.put, List.setIfInBounds_toArray, List.set_cons_zero, List.set_cons_succ, i64_w, i32_w]
                    rfl
                  refine two_ (i := 2) (j := 5) (Ni := some 28) (Nj := some 31) #[true, true, true, true, true, false, false, false] #[true, true, false, true, true, true, false, false] rfl rfl rfl rfl (two_of HT_.out (by kernel_rfl)) (by decide) (by decide) (fun K hK => ?_) (fun K hK => ?_)
                  · skip
                    have hcv21 := own_string (P := Try.prog) Try.underlying24 Try.underlying5 Try.underlying9 (Kd.own_of_R HO175.out); have hcv21m_ := fun m_ : Nat => own_string (P := Try.prog) Try.underlying24 Try.underlying5 Try.underlying9 (Kd.own_of_R (Kd.R_drewN HO175.out m_))
                    refine value_ (w1 := ?_) (v := ?_) (by rfl) rfl ?_ ?_
                    rotate_left 2
                    · go_simp
                      constructor
                      · rfl
                      · rfl
                    clear hcv21
                    refine hK.out _ _ trivial (fun hHeld => ?_)
                    clear hK K
                    refine norm_ (a' := ?_) ?_ ?_
                    rotate_left
                    · show Act.put _ (some 28) _ = _
                      simp only [Act.put, List.setIfInBounds_toArray, List.set_cons_zero, List.set_cons_succ, i64_w, i32_w]
                      rfl
                    refine one_ (i := 5) (N := some 31) #[true, true, true, true, true, true, false, false] rfl rfl (one_of HT_.out (by kernel_rfl)) (by decide) (fun K hK => ?_)
                    have hcv22 := own_string (P := Try.prog) Try.underlying24 Try.underlying5 Try.underlying9 (Kd.own_of_R HO178.out); have hcv22m_ := fun m_ : Nat => own_string (P := Try.prog) Try.underlying24 Try.underlying5 Try.underlying9 (Kd.own_of_R (Kd.R_drewN HO178.out m_))
                    refine value_ (w1 := ?_) (v := ?_) (by rfl) rfl ?_ ?_
                    rotate_left 2
                    · go_simp
                      constructor
                      · rfl
                      · rfl
                    clear hcv22
                    refine hK.out _ _ trivial (fun hHeld => ?_)
                    clear hK K
                    refine norm_ (a' := ?_) ?_ ?_
                    rotate_left
                    · show Act.put _ (some 31) _ = _
                      simp only [Act.put, List.setIfInBounds_toArray, List.set_cons_zero, List.set_cons_succ, i64_w, i32_w]
                      rfl
                    exact norm_ (by simp only [putAll, Act.put, List.setIfInBounds_toArray, List.set_cons_zero, List.set_cons_succ]) (hCont (v177) _ ⟨(by (with_reducible repeat (first | apply Kd.R_alloc | apply Kd.R_drewN | apply Kd.R_drew)); exact Kd.R_mono HO175.out (fun _ hk => hk.2)), (by (with_reducible repeat (first | apply Kd.R_alloc | apply Kd.R_drewN | apply Kd.R_drew)); exact Kd.R_mono HO178.out (fun _ hk => hk.2)), (by repeat (first | (with_reducible first | exact HB.out | apply below_alloc | apply pw_below_drewN | apply below_drew1) | exact HB.out))⟩)
                  · skip
                    have hcv21 := own_string (P := Try.prog) Try.underlying24 Try.underlying5 Try.underlying9 (Kd.own_of_R HO178.out); have hcv21m_ := fun m_ : Nat => own_string (P := Try.prog) Try.underlying24 Try.underlying5 Try.underlying9 (Kd.own_of_R (Kd.R_drewN HO178.out m_))
                    refine value_ (w1 := ?_) (v := ?_) (by rfl) rfl ?_ ?_
                    rotate_left 2
                    · go_simp
                      constructor
                      · rfl
                      · rfl
                    clear hcv21
                    refine hK.out _ _ trivial (fun hHeld => ?_)
                    clear hK K
                    refine norm_ (a' := ?_) ?_ ?_
                    rotate_left
                    · show Act.put _ (some 31) _ = _
                      simp only [Act.put, List.setIfInBounds_toArray, List.set_cons_zero, List.set_cons_succ, i64_w, i32_w]
                      rfl
                    refine one_ (i := 2) (N := some 28) #[true, true, true, true, true, true, false, false] rfl rfl (one_of HT_.out (by kernel_rfl)) (by decide) (fun K hK => ?_)
                    have hcv22 := own_string (P := Try.prog) Try.underlying24 Try.underlying5 Try.underlying9 (Kd.own_of_R HO175.out); have hcv22m_ := fun m_ : Nat => own_string (P := Try.prog) Try.underlying24 Try.underlying5 Try.underlying9 (Kd.own_of_R (Kd.R_drewN HO175.out m_))
                    refine value_ (w1 := ?_) (v := ?_) (by rfl) rfl ?_ ?_
                    rotate_left 2
                    · go_simp
                      constructor
                      · rfl
                      · rfl
                    clear hcv22
                    refine hK.out _ _ trivial (fun hHeld => ?_)
                    clear hK K
                    refine norm_ (a' := ?_) ?_ ?_
                    rotate_left
                    · show Act.put _ (some 28) _ = _
                      simp only [Act.put, List.setIfInBounds_toArray, List.set_cons_zero, List.set_cons_succ, i64_w, i32_w]
                      rfl
                    exact norm_ (by simp only [putAll, Act.put, List.setIfInBounds_toArray, List.set_cons_zero, List.set_cons_succ]) (hCont (v177) _ ⟨(by (with_reducible repeat (first | apply Kd.R_alloc | apply Kd.R_drewN | apply Kd.R_drew)); exact Kd.R_mono HO175.out (fun _ hk => hk.2)), (by (with_reducible repeat (first | apply Kd.R_alloc | apply Kd.R_drewN | apply Kd.R_drew)); exact Kd.R_mono HO178.out (fun _ hk => hk.2)), (by repeat (first | (with_reducible first | exact HB.out | apply below_alloc | apply pw_below_drewN | apply below_drew1) | exact HB.out))⟩)
              rintro v177 w23 ⟨h0_, h1_, h2_⟩
              have n0_ : Aside0 (Kd.R (Kd.int .u8) 5 w23 w.heap.size (fun k_ => some k_ ≠ (v177 : Value).ownBlock) v174 t173) := ⟨h0_⟩
              have n1_ : Aside0 (Kd.R (Kd.int .u8) 5 w23 w.heap.size (fun k_ => some k_ ≠ (v174 : Value).ownBlock) v177 t176) := ⟨h1_⟩
              have n2_ : Aside0 (Below w.heap.size w w23) := ⟨h2_⟩
              clear HB
              clear h0_ h1_ h2_
              have HO175 := n0_
              have HO178 := n1_
              have HB := n2_
              clear n0_ n1_ n2_
              have hHeld := trivial
              refine norm_ (a' := ?_) ?_ ?_
              rotate_left
              · simp only [putAll, Act.put, List.setIfInBounds_toArray, List.set_cons_zero, List.set_cons_succ]
                rfl
              refine pure_ (i := 6) (N := some 32) (v := ?_) (a' := ?_) #[true, true, true, true, true, true, true, false] rfl rfl (any_of HT_.out (by kernel_rfl)) (fun _ _ _ h => h) (Or.inl ⟨by rfl, ?_⟩) ?_ ?_
              rotate_left
              · intro w'
                go_simp
                with_reducible rfl
              rotate_left
              · simp only [Act.put, List.setIfInBounds_toArray, List.set_cons_zero, List.set_cons_succ, i64_w, i32_w]
                rfl
              refine pure_ (i := 7) (N := some 10) (v := ?_) (a' := ?_) #[true, true, true, true, true, true, true, true] rfl rfl (any_of HT_.out (by kernel_rfl)) (fun _ _ _ h => h) (Or.inl ⟨by rfl, ?_⟩) ?_ ?_
              rotate_left
              · intro w'
                go_simp
                with_reducible rfl
              rotate_left
              · simp only [Act.put, List.setIfInBounds_toArray, List.set_cons_zero, List.set_cons_succ, i64_w, i32_w]
                rfl
              refine done_ (done_of HT_.out (by kernel_rfl)) ?_
              try go_wp2_with (first | ((with_reducible refine gate_dst (N := 33) rfl ?_); (try (refine gate_guard (by rfl) ?_; dsimp only)); refine Kd.R_lit (Kd.int .i64) _ 2 ?hg (N := 33) ?hd (xs := ([] : List Int)) (inner := []) (ok := fun _ => True) (okp := fun _ => True) ?hr ?hp (fun _ hk => hk) trivial (Below.refl _ _) (Nat.le_refl _) (by simp) ?_; (case hd => rfl); (case hg => rfl); (case hr => first | (go_simp; done) | (go_simp; rfl)); (case hp => exact (Reps.none _ _)); intro v180 w24 ho25 hb hg_ hnew_; clear hg_ hnew_; (first | rw [← Ny179.out] at ho25 | (simp only [Int.reduceToNat] at ho25; rw [← Ny179.out] at ho25)); have n0_ := Aside0.mk (Kd.R_below (by (with_reducible repeat (first | apply Kd.R_alloc | apply Kd.R_drewN | apply Kd.R_drew)); exact HO175.out) hb); have n1_ := Aside0.mk (Kd.R_below (by (with_reducible repeat (first | apply Kd.R_alloc | apply Kd.R_drewN | apply Kd.R_drew)); exact HO178.out) hb); have n2_ := Aside0.mk (Kd.R_lower ho25 (below_size (by repeat (first | (with_reducible first | exact HB.out | apply below_alloc | apply pw_below_drewN | apply below_drew1) | exact HB.out)))); have n3_ := Aside0.mk (below_step (by repeat (first | (with_reducible first | exact HB.out | apply below_alloc | apply pw_below_drewN | apply below_drew1) | exact HB.out)) hb); clear HO175; clear HO178; clear HB; have HO175 := n0_; have HO178 := n1_; have HO181 := n2_; have HB := n3_; clear n0_ n1_ n2_ n3_; clear hb ho25) | ((with_reducible refine gate_builtin (b := .append) (xs := #[.tmp 33, .tmp 34]) rfl ?_); (try (refine gate_guard (by rfl) ?_; dsimp only)); at_builtin; refine Kd.R_append_rows (Kd.int .i64) (w0 := w) w.heap.size rfl (.tmp 33) (.tmp 34) 22 2 (.int .i64 0) 8 rfl Try.underlying22 info2 rfl (by decide) (by omega) v180 y179 l0 _ _ _ (fun _ => True) (fun _ => False) rfl rfl ?aO ?aR (fun _ _ h => h) (fun _ h => h.elim) ?aF ?aB ?aS ?aL ?_; (case aR => repeat (first | exact (Kd.C_below HR0.out HB.out) | (with_reducible refine Kd.C_alloc ?_ _) | (with_reducible refine Kd.C_drewN ?_ _) | (with_reducible refine Kd.C_drew ?_))); (case aB => exact (by repeat (first | (with_reducible first | exact HB.out | apply below_alloc | apply pw_below_drewN | apply below_drew1) | exact HB.out))); (case aF => exact (fun _ _ => trivial)); (case aO => exact (by (with_reducible repeat (first | apply Kd.R_alloc | apply Kd.R_drewN | apply Kd.R_drew)); exact HO181.out)); (case aS => exact (below_size (by repeat (first | (with_reducible first | exact HB.out | apply below_alloc | apply pw_below_drewN | apply below_drew1) | exact HB.out)))); (case aL => have := LMc10.out; omega); intro v183 w26 ho hb hg hat; rw [← Ny182.out] at ho; have n0_ := Aside0.mk (Kd.R_over' (by (with_reducible repeat (first | apply Kd.R_alloc | apply Kd.R_drewN | apply Kd.R_drew)); exact HO175.out) (Kd.R_typed (by (with_reducible repeat (first | apply Kd.R_alloc | apply Kd.R_drewN | apply Kd.R_drew)); exact HO181.out)) (by decide) hg); have n1_ := Aside0.mk (Kd.R_over' (by (with_reducible repeat (first | apply Kd.R_alloc | apply Kd.R_drewN | apply Kd.R_drew)); exact HO178.out) (Kd.R_typed (by (with_reducible repeat (first | apply Kd.R_alloc | apply Kd.R_drewN | apply Kd.R_drew)); exact HO181.out)) (by decide) hg); have n2_ := Aside0.mk (hb); have n3_ := Aside0.mk (ho); clear HO175; clear HO178; clear HB; clear HO181; have HO175 := n0_; have HO178 := n1_; have HB := n2_; have HO184 := n3_; clear n0_ n1_ n2_ n3_; clear ho hb hg hat) | ((with_reducible refine gate_builtin (b := .append) (xs := #[.tmp 35, .tmp 36]) rfl ?_); (try (refine gate_guard (by rfl) ?_; dsimp only)); at_builtin; refine Kd.R_append_rows (Kd.int .i64) (w0 := w) w.heap.size rfl (.tmp 35) (.tmp 36) 22 2 (.int .i64 0) 8 rfl Try.underlying22 info2 rfl (by decide) (by omega) v183 y182 l1 _ _ _ (fun _ => True) (fun _ => False) rfl rfl ?aO ?aR (fun _ _ h => h) (fun _ h => h.elim) ?aF ?aB ?aS ?aL ?_; (case aR => repeat (first | exact (Kd.C_below HR1.out HB.out) | (with_reducible refine Kd.C_alloc ?_ _) | (with_reducible refine Kd.C_drewN ?_ _) | (with_reducible refine Kd.C_drew ?_))); (case aB => exact (by repeat (first | (with_reducible first | exact HB.out | apply below_alloc | apply pw_below_drewN | apply below_drew1) | exact HB.out))); (case aF => exact (fun _ _ => trivial)); (case aO => exact (by (with_reducible repeat (first | apply Kd.R_alloc | apply Kd.R_drewN | apply Kd.R_drew)); exact HO184.out)); (case aS => exact (below_size (by repeat (first | (with_reducible first | exact HB.out | apply below_alloc | apply pw_below_drewN | apply below_drew1) | exact HB.out)))); (case aL => have := LMc11.out; omega); intro v186 w27 ho hb hg hat; rw [← Ny185.out] at ho; have n0_ := Aside0.mk (Kd.R_over' (by (with_reducible repeat (first | apply Kd.R_alloc | apply Kd.R_drewN | apply Kd.R_drew)); exact HO175.out) (Kd.R_typed (by (with_reducible repeat (first | apply Kd.R_alloc | apply Kd.R_drewN | apply Kd.R_drew)); exact HO184.out)) (by decide) hg); have n1_ := Aside0.mk (Kd.R_over' (by (with_reducible repeat (first | apply Kd.R_alloc | apply Kd.R_drewN | apply Kd.R_drew)); exact HO178.out) (Kd.R_typed (by (with_reducible repeat (first | apply Kd.R_alloc | apply Kd.R_drewN | apply Kd.R_drew)); exact HO184.out)) (by decide) hg); have n2_ := Aside0.mk (hb); have n3_ := Aside0.mk (ho); clear HO175; clear HO178; clear HB; clear HO184; have HO175 := n0_; have HO178 := n1_; have HB := n2_; have HO187 := n3_; clear n0_ n1_ n2_ n3_; clear ho hb hg hat; obtain ⟨Ao28, co28, eo28⟩ := Kd.R_slice HO187.out; subst eo28) | ((with_reducible refine gate_callee (f := 13) rfl ?_); refine goesL_ (some 40) rfl rfl Try.func13 (by kernel_rfl) rfl #[.slice Ao28 y185.length co28] rfl (by (try simp only [List.map_toArray, List.map_cons, List.map_nil]); first | done | rfl | (simp only [List.length_drop, List.length_take]; rfl)) ?_; (with_reducible refine (plain_PutInts.calls _ _ y185 t188 _ ?side1 ?side2 A12.out).mono ?_); (case side1 => repeat (first | exact (Kd.R_reads' HO187.out).2.2 | (with_reducible refine Kd.C_alloc ?_ _) | (with_reducible refine Kd.C_drewN ?_ _) | (with_reducible refine Kd.C_drew ?_))); (case side2 => exact (Kd.R_reads' HO187.out).2.1); rintro e w29 ⟨v189, rfl, ho0, hb⟩; refine ⟨_, rfl, ?_⟩; have n0_ := Aside0.mk (Kd.R_elder' (by (with_reducible repeat (first | apply Kd.R_alloc | apply Kd.R_drewN | apply Kd.R_drew)); exact HO175.out) (Kd.R_base ho0) hb); have n1_ := Aside0.mk (Kd.R_elder' (by (with_reducible repeat (first | apply Kd.R_alloc | apply Kd.R_drewN | apply Kd.R_drew)); exact HO178.out) (Kd.R_base ho0) hb); have n2_ := Aside0.mk (Kd.R_below (by (with_reducible repeat (first | apply Kd.R_alloc | apply Kd.R_drewN | apply Kd.R_drew)); exact HO187.out) hb); have n3_ := Aside0.mk (Kd.R_lower (Kd.R_new' (Kd.R_new' ho0 (Kd.R_lt (by (with_reducible repeat (first | apply Kd.R_alloc | apply Kd.R_drewN | apply Kd.R_drew)); exact HO175.out))) (Kd.R_lt (by (with_reducible repeat (first | apply Kd.R_alloc | apply Kd.R_drewN | apply Kd.R_drew)); exact HO178.out))) (below_size (by repeat (first | (with_reducible first | exact HB.out | apply below_alloc | apply pw_below_drewN | apply below_drew1) | exact HB.out)))); have n4_ := Aside0.mk (below_step (by repeat (first | (with_reducible first | exact HB.out | apply below_alloc | apply pw_below_drewN | apply below_drew1) | exact HB.out)) hb); clear HO175; clear HO178; clear HO187; clear HB; have HO175 := n0_; have HO178 := n1_; have HO187 := n2_; have HO190 := n3_; have HB := n4_; clear n0_ n1_ n2_ n3_ n4_; (try clear hb); (try clear hb2); (try clear hk); (try clear hi); (try clear ho0); have hcv30 := own_string (P := Try.prog) Try.underlying24 Try.underlying5 Try.underlying9 (Kd.own_of_R HO190.out); have hcv30m_ := fun m_ : Nat => own_string (P := Try.prog) Try.underlying24 Try.underlying5 Try.underlying9 (Kd.own_of_R (Kd.R_drewN HO190.out m_))) | ((with_reducible refine gate_callee (f := 30) rfl ?_); refine goesL_ (some 44) rfl rfl Try.func30 (by kernel_rfl) rfl #[.slice A2 l2.length c2] rfl (by (try simp only [List.map_toArray, List.map_cons, List.map_nil]); first | done | rfl | (simp only [List.length_drop, List.length_take]; rfl)) ?_; (with_reducible refine (colonnadelaw08_short.calls k _ _ l2 t191 _ ?side1 ?side2 A14.out).mono ?_); (case side1 => repeat (first | exact (Kd.C_below HR2.out HB.out) | (with_reducible refine Kd.C_alloc ?_ _) | (with_reducible refine Kd.C_drewN ?_ _) | (with_reducible refine Kd.C_drew ?_))); (case side2 => exact HC2.out); rintro e w31 ⟨v192, rfl, ho0, hb⟩; refine ⟨_, rfl, ?_⟩; have n0_ := Aside0.mk (Kd.R_below (by (with_reducible repeat (first | apply Kd.R_alloc | apply Kd.R_drewN | apply Kd.R_drew)); exact HO175.out) hb); have n1_ := Aside0.mk (Kd.R_below (by (with_reducible repeat (first | apply Kd.R_alloc | apply Kd.R_drewN | apply Kd.R_drew)); exact HO178.out) hb); have n2_ := Aside0.mk (Kd.R_below (by (with_reducible repeat (first | apply Kd.R_alloc | apply Kd.R_drewN | apply Kd.R_drew)); exact HO187.out) hb); have n3_ := Aside0.mk (Kd.R_below (by (with_reducible repeat (first | apply Kd.R_alloc | apply Kd.R_drewN | apply Kd.R_drew)); exact HO190.out) hb); have n4_ := Aside0.mk (Kd.R_lower ho0 (below_size (by repeat (first | (with_reducible first | exact HB.out | apply below_alloc | apply pw_below_drewN | apply below_drew1) | exact HB.out)))); have n5_ := Aside0.mk (below_step (by repeat (first | (with_reducible first | exact HB.out | apply below_alloc | apply pw_below_drewN | apply below_drew1) | exact HB.out)) hb); clear HO175; clear HO178; clear HO187; clear HO190; clear HB; have HO175 := n0_; have HO178 := n1_; have HO187 := n2_; have HO190 := n3_; have HO193 := n4_; have HB := n5_; clear n0_ n1_ n2_ n3_ n4_ n5_; (try clear hb); (try clear hb2); (try clear hk); (try clear hi); (try clear ho0)) | ((with_reducible refine gate_callee (f := 30) rfl ?_); refine goesL_ (some 46) rfl rfl Try.func30 (by kernel_rfl) rfl #[.slice A3 l3.length c3] rfl (by (try simp only [List.map_toArray, List.map_cons, List.map_nil]); first | done | rfl | (simp only [List.length_drop, List.length_take]; rfl)) ?_; (with_reducible refine (colonnadelaw08_short.calls k _ _ l3 t194 _ ?side1 ?side2 A15.out).mono ?_); (case side1 => repeat (first | exact (Kd.C_below HR3.out HB.out) | (with_reducible refine Kd.C_alloc ?_ _) | (with_reducible refine Kd.C_drewN ?_ _) | (with_reducible refine Kd.C_drew ?_))); (case side2 => exact HC3.out); rintro e w32 ⟨v195, rfl, ho0, hb⟩; refine ⟨_, rfl, ?_⟩; have n0_ := Aside0.mk (Kd.R_below (by (with_reducible repeat (first | apply Kd.R_alloc | apply Kd.R_drewN | apply Kd.R_drew)); exact HO175.out) hb); have n1_ := Aside0.mk (Kd.R_below (by (with_reducible repeat (first | apply Kd.R_alloc | apply Kd.R_drewN | apply Kd.R_drew)); exact HO178.out) hb); have n2_ := Aside0.mk (Kd.R_below (by (with_reducible repeat (first | apply Kd.R_alloc | apply Kd.R_drewN | apply Kd.R_drew)); exact HO187.out) hb); have n3_ := Aside0.mk (Kd.R_below (by (with_reducible repeat (first | apply Kd.R_alloc | apply Kd.R_drewN | apply Kd.R_drew)); exact HO190.out) hb); have n4_ := Aside0.mk (Kd.R_elder' (by (with_reducible repeat (first | apply Kd.R_alloc | apply Kd.R_drewN | apply Kd.R_drew)); exact HO193.out) (Kd.R_base ho0) hb); have n5_ := Aside0.mk (Kd.R_lower (Kd.R_new' ho0 (Kd.R_lt (by (with_reducible repeat (first | apply Kd.R_alloc | apply Kd.R_drewN | apply Kd.R_drew)); exact HO193.out))) (below_size (by repeat (first | (with_reducible first | exact HB.out | apply below_alloc | apply pw_below_drewN | apply below_drew1) | exact HB.out)))); have n6_ := Aside0.mk (below_step (by repeat (first | (with_reducible first | exact HB.out | apply below_alloc | apply pw_below_drewN | apply below_drew1) | exact HB.out)) hb); clear HO175; clear HO178; clear HO187; clear HO190; clear HO193; clear HB; have HO175 := n0_; have HO178 := n1_; have HO187 := n2_; have HO190 := n3_; have HO193 := n4_; have HO196 := n5_; have HB := n6_; clear n0_ n1_ n2_ n3_ n4_ n5_ n6_; (try clear hb); (try clear hb2); (try clear hk); (try clear hi); (try clear ho0); obtain ⟨Ao33, co33, eo33⟩ := Kd.R_slice HO193.out; subst eo33; obtain ⟨Ao34, co34, eo34⟩ := Kd.R_slice HO196.out; subst eo34))
              go_ret
              exact ⟨by first | rfl | (simp [*, errW_none, errW_some] <;> rfl), by repeat (first | (with_reducible first | exact HB.out | apply below_alloc | apply pw_below_drewN | apply below_drew1) | exact HB.out)⟩
            · rw [if_neg c16] at H
              have c16b0 : decide (1048576 < (wrap64 ((t191.length : Int) + (t194.length : Int)))) = false := decide_eq_false c16
              clear c16
              replace H := Option.bind_eq_some_iff.mp H
              obtain ⟨⟨t197, t198⟩, A350, H⟩ := H
              replace H : ((plain_PutTexts.f t194).bind fun bt201 => ((some (([] : List ByteArray) : List ByteArray)).bind fun y205 => (if y205.length + t191.length < 8796093022208 then ((some (y205 ++ t191 : List ByteArray)).bind fun y208 => (if y208.length + t194.length < 8796093022208 then ((plain_PutTexts.f (y208 ++ t194)).bind fun bt214 => ((colonnadelaw08_num.f t198).bind fun t218 => (if t218 = 0 then ((colonnadelaw08_num.f bt201.2).bind fun t219 => (if t219 = 0 then ((colonnadelaw08_num.f bt214.2).bind fun t220 => (if t220 = 0 then (if (bt214.1.length : Int) = (wrap64 ((wrap64 ((t197.length : Int) + (bt201.1.length : Int))) - 4)) then (if 0 ≤ (wrap64 (4 * (wrap64 ((t191.length : Int) + 1)))) then (if (wrap64 (4 * (wrap64 ((t191.length : Int) + 1)))) ≤ (t197.length : Int) then ((some (t197.drop ((wrap64 (4 * (wrap64 ((t191.length : Int) + 1)))) : Int).toNat : List Int)).bind fun y221 => (if 0 ≤ (wrap64 (4 * (wrap64 ((t194.length : Int) + 1)))) then (if (wrap64 (4 * (wrap64 ((t194.length : Int) + 1)))) ≤ (bt201.1.length : Int) then ((some (bt201.1.drop ((wrap64 (4 * (wrap64 ((t194.length : Int) + 1)))) : Int).toNat : List Int)).bind fun y225 => (if (strOfNums y221).size + (strOfNums y225).size ≤ 9223372036854775807 then (if 0 ≤ (wrap64 (4 * (wrap64 ((wrap64 ((t191.length : Int) + (t194.length : Int))) + 1)))) then (if (wrap64 (4 * (wrap64 ((wrap64 ((t191.length : Int) + (t194.length : Int))) + 1)))) ≤ (bt214.1.length : Int) then (if (strOfNums (bt214.1.drop ((wrap64 (4 * (wrap64 ((wrap64 ((t191.length : Int) + (t194.length : Int))) + 1)))) : Int).toNat)).toList = ((strOfNums y221) ++ (strOfNums y225)).toList then (if (wrap64 (4 * (wrap64 ((t191.length : Int) + 1)))) ≤ (bt214.1.length : Int) then (some ((strOfNums (bt214.1.take ((wrap64 (4 * (wrap64 ((t191.length : Int) + 1)))) : Int).toNat)).toList == (strOfNums (t197.take ((wrap64 (4 * (wrap64 ((t191.length : Int) + 1)))) : Int).toNat)).toList)) else (none)) else (some false)) else (none)) else (none)) else (none))) else (none)) else (none))) else (none)) else (none)) else (some false)) else (some false))) else (some false))) else (some false)))) else (none))) else (none)))) = some r := H
              have A35 := Aside0.mk A350
              clear A350
              replace H := Option.bind_eq_some_iff.mp H
              obtain ⟨⟨t201, t202⟩, A360, H⟩ := H
              replace H : ((some (([] : List ByteArray) : List ByteArray)).bind fun y205 => (if y205.length + t191.length < 8796093022208 then ((some (y205 ++ t191 : List ByteArray)).bind fun y208 => (if y208.length + t194.length < 8796093022208 then ((plain_PutTexts.f (y208 ++ t194)).bind fun bt214 => ((colonnadelaw08_num.f t198).bind fun t218 => (if t218 = 0 then ((colonnadelaw08_num.f t202).bind fun t219 => (if t219 = 0 then ((colonnadelaw08_num.f bt214.2).bind fun t220 => (if t220 = 0 then (if (bt214.1.length : Int) = (wrap64 ((wrap64 ((t197.length : Int) + (t201.length : Int))) - 4)) then (if 0 ≤ (wrap64 (4 * (wrap64 ((t191.length : Int) + 1)))) then (if (wrap64 (4 * (wrap64 ((t191.length : Int) + 1)))) ≤ (t197.length : Int) then ((some (t197.drop ((wrap64 (4 * (wrap64 ((t191.length : Int) + 1)))) : Int).toNat : List Int)).bind fun y221 => (if 0 ≤ (wrap64 (4 * (wrap64 ((t194.length : Int) + 1)))) then (if (wrap64 (4 * (wrap64 ((t194.length : Int) + 1)))) ≤ (t201.length : Int) then ((some (t201.drop ((wrap64 (4 * (wrap64 ((t194.length : Int) + 1)))) : Int).toNat : List Int)).bind fun y225 => (if (strOfNums y221).size + (strOfNums y225).size ≤ 9223372036854775807 then (if 0 ≤ (wrap64 (4 * (wrap64 ((wrap64 ((t191.length : Int) + (t194.length : Int))) + 1)))) then (if (wrap64 (4 * (wrap64 ((wrap64 ((t191.length : Int) + (t194.length : Int))) + 1)))) ≤ (bt214.1.length : Int) then (if (strOfNums (bt214.1.drop ((wrap64 (4 * (wrap64 ((wrap64 ((t191.length : Int) + (t194.length : Int))) + 1)))) : Int).toNat)).toList = ((strOfNums y221) ++ (strOfNums y225)).toList then (if (wrap64 (4 * (wrap64 ((t191.length : Int) + 1)))) ≤ (bt214.1.length : Int) then (some ((strOfNums (bt214.1.take ((wrap64 (4 * (wrap64 ((t191.length : Int) + 1)))) : Int).toNat)).toList == (strOfNums (t197.take ((wrap64 (4 * (wrap64 ((t191.length : Int) + 1)))) : Int).toNat)).toList)) else (none)) else (some false)) else (none)) else (none)) else (none))) else (none)) else (none))) else (none)) else (none)) else (some false)) else (some false))) else (some false))) else (some false)))) else (none))) else (none))) = some r := H
              have A36 := Aside0.mk A360
              clear A360
              obtain ⟨y205, hy205⟩ : ∃ y_ : List ByteArray, y_ = (([] : List ByteArray)) := ⟨_, rfl⟩
              replace H : (if y205.length + t191.length < 8796093022208 then ((some (y205 ++ t191 : List ByteArray)).bind fun y208 => (if y208.length + t194.length < 8796093022208 then ((plain_PutTexts.f (y208 ++ t194)).bind fun bt214 => ((colonnadelaw08_num.f t198).bind fun t218 => (if t218 = 0 then ((colonnadelaw08_num.f t202).bind fun t219 => (if t219 = 0 then ((colonnadelaw08_num.f bt214.2).bind fun t220 => (if t220 = 0 then (if (bt214.1.length : Int) = (wrap64 ((wrap64 ((t197.length : Int) + (t201.length : Int))) - 4)) then (if 0 ≤ (wrap64 (4 * (wrap64 ((t191.length : Int) + 1)))) then (if (wrap64 (4 * (wrap64 ((t191.length : Int) + 1)))) ≤ (t197.length : Int) then ((some (t197.drop ((wrap64 (4 * (wrap64 ((t191.length : Int) + 1)))) : Int).toNat : List Int)).bind fun y221 => (if 0 ≤ (wrap64 (4 * (wrap64 ((t194.length : Int) + 1)))) then (if (wrap64 (4 * (wrap64 ((t194.length : Int) + 1)))) ≤ (t201.length : Int) then ((some (t201.drop ((wrap64 (4 * (wrap64 ((t194.length : Int) + 1)))) : Int).toNat : List Int)).bind fun y225 => (if (strOfNums y221).size + (strOfNums y225).size ≤ 9223372036854775807 then (if 0 ≤ (wrap64 (4 * (wrap64 ((wrap64 ((t191.length : Int) + (t194.length : Int))) + 1)))) then (if (wrap64 (4 * (wrap64 ((wrap64 ((t191.length : Int) + (t194.length : Int))) + 1)))) ≤ (bt214.1.length : Int) then (if (strOfNums (bt214.1.drop ((wrap64 (4 * (wrap64 ((wrap64 ((t191.length : Int) + (t194.length : Int))) + 1)))) : Int).toNat)).toList = ((strOfNums y221) ++ (strOfNums y225)).toList then (if (wrap64 (4 * (wrap64 ((t191.length : Int) + 1)))) ≤ (bt214.1.length : Int) then (some ((strOfNums (bt214.1.take ((wrap64 (4 * (wrap64 ((t191.length : Int) + 1)))) : Int).toNat)).toList == (strOfNums (t197.take ((wrap64 (4 * (wrap64 ((t191.length : Int) + 1)))) : Int).toNat)).toList)) else (none)) else (some false)) else (none)) else (none)) else (none))) else (none)) else (none))) else (none)) else (none)) else (some false)) else (some false))) else (some false))) else (some false)))) else (none))) else (none)) = some r := by first | (rw [hy205]; with_reducible exact H) | (have H2_ := (Option.bind_some _ _).symm.trans H; rw [hy205]; with_reducible exact H2_) | (have H2_ := (Option.bind_some _ _).symm.trans H; with_reducible exact H2_) | with_reducible exact H | (rw [hy205]; exact H) | exact H
              have Ny205 := Aside0.mk hy205
              clear hy205
              exact colonnadelaw08_PlainJoins.calls_b k A0 c0 l0 A1 c1 l1 A2 c2 l2 A3 c3 l3 r w HR0 HC0 HR1 HC1 HR2 HC2 HR3 HC3 HB A5 t173 A7 t176 A8 c9 c9b0 c9b1 c9b2 y179 Ny179 LMc10 y182 Ny182 LMc11 y185 Ny185 t188 A12 c13b0 c13b1 t191 A14 t194 A15 c16b0 t197 t198 A35 t201 t202 A36 y205 H Ny205
          · rw [if_neg c13] at H
            have c13b0 : (((strOfNums t173) ++ (strOfNums t176)).toList == (strOfNums t188).toList) = false := beq_eq_false_iff_ne.mpr c13
            have c13b1 : (((strOfNums t173) ++ (strOfNums t176)).toList != (strOfNums t188).toList) = true := bne_iff_ne.mpr c13
            obtain rfl := Option.some.inj H
            go_enter Try.func8, Try.ntmps8
            try go_wp2_with (first | ((with_reducible refine gate_callee (f := 29) rfl ?_); refine goesL_ (some 23) rfl rfl Try.func29 (by kernel_rfl) rfl #[] rfl (by (try simp only [List.map_toArray, List.map_cons, List.map_nil]); first | done | rfl | (simp only [List.length_drop, List.length_take]; rfl)) ?_; (with_reducible refine (colonnadelaw08_awake.calls k  true _ A5.out).mono ?_); rintro e w242 ⟨rfl, hb⟩; refine ⟨_, rfl, ?_⟩; have n0_ := Aside0.mk (below_step (by repeat (first | (with_reducible first | exact HB.out | apply below_alloc | apply pw_below_drewN | apply below_drew1) | exact HB.out)) hb); clear HB; have HB := n0_; clear n0_; (try clear hb); (try clear hb2); (try clear hk); (try clear hi)))
            have n0_ := Aside0.mk (below_drew1 HB.out)
            clear HB
            have HB := n0_
            clear n0_
            refine start_ (n := 8) (S := fun w' => True) (ds := []) #[false, false, false, false, false, false, false, false] (by kernel_rfl) rfl rfl trivial (fun hHeld => ?_); refine with_tabW colonnadelaw08_PlainJoins.tab4 colonnadelaw08_PlainJoins.bits4 (fun HT_ HW_ => ?_)
            generalize w242.drew = w243 at HB hHeld ⊢
            refine pure_ (i := 0) (N := some 26) (v := ?_) (a' := ?_) #[true, false, false, false, false, false, false, false] rfl rfl (any_of HT_.out (by kernel_rfl)) (fun _ _ _ h => h) (Or.inl ⟨by rfl, ?_⟩) ?_ ?_
            rotate_left
            · intro w'
              go_simp
              with_reducible rfl
            rotate_left
            · simp only [Act.put, List.setIfInBounds_toArray, List.set_cons_zero, List.set_cons_succ, i64_w, i32_w]
              rfl
            refine pure_ (i := 3) (N := some 29) (v := ?_) (a' := ?_) #[true, false, false, true, false, false, false, false] rfl rfl (any_of HT_.out (by kernel_rfl)) (fun _ _ _ h => h) (Or.inl ⟨by rfl, ?_⟩) ?_ ?_
            rotate_left
            · intro w'
              go_simp
              with_reducible rfl
            rotate_left
            · simp only [Act.put, List.setIfInBounds_toArray, List.set_cons_zero, List.set_cons_succ, i64_w, i32_w]
              rfl
            refine one_ (i := 1) (N := some 27) #[true, true, false, true, false, false, false, false] rfl rfl (one_of HT_.out (by kernel_rfl)) (by decide) (fun K hK => ?_)
            refine goes_ Try.func13 (by kernel_rfl) rfl #[.slice A0 l0.length c0] (by rfl) rfl rfl (by (try simp only [List.map_toArray, List.map_cons, List.map_nil]); first | done | rfl | (simp only [List.length_drop, List.length_take]; rfl)) ?_
            with_reducible refine (plain_PutInts.calls _ _ l0 t173 _ ?side1 ?side2 A7.out).mono ?_
            (case side1 => repeat (first | exact (Kd.C_below HR0.out HB.out) | (with_reducible refine Kd.C_alloc ?_ _) | (with_reducible refine Kd.C_drewN ?_ _) | (with_reducible refine Kd.C_drew ?_)))
            (case side2 => exact HC0.out)
            rintro e w244 ⟨v174, rfl, ho0, hb⟩
            refine ⟨_, rfl, ?_⟩
            have n0_ := Aside0.mk (Kd.R_lower ho0 (below_size (by repeat (first | (with_reducible first | exact HB.out | apply below_alloc | apply pw_below_drewN | apply below_drew1) | exact HB.out))))
            have n1_ := Aside0.mk (below_step (by repeat (first | (with_reducible first | exact HB.out | apply below_alloc | apply pw_below_drewN | apply below_drew1) | exact HB.out)) hb)
            clear HB
            have HO175 := n0_
            have HB := n1_
            clear n0_ n1_
            (try clear hb)
            (try clear hb2)
            (try clear hk)
            (try clear hi)
            (try clear ho0)
            refine hK.out _ _ trivial (fun hHeld => ?_)
            clear hK K
            refine norm_ (a' := ?_) ?_ ?_
            rotate_left
            · show Act.put _ (some 27) _ = _
              simp only [Act.put, List.setIfInBounds_toArray, List.set_cons_zero, List.set_cons_succ, i64_w, i32_w]
              rfl
            refine join_ (σ := Value) 2 #[true, true, true, true, true, true, false, false] (fun s_ => [(28, .string (strOfNums t173)), (30, s_), (31, .string (strOfNums t176))]) (fun s_ w' => (Kd.R (Kd.int .u8) 5 w' w.heap.size (fun k_ => some k_ ≠ (s_ : Value).ownBlock) v174 t173) ∧ (Kd.R (Kd.int .u8) 5 w' w.heap.size (fun k_ => some k_ ≠ (v174 : Value).ownBlock) s_ t176) ∧ (Below w.heap.size w w')) ?_ ?_
            rotate_left
            · intro hCont
              refine two_ (i := 2) (j := 4) (Ni := some 28) (Nj := some 30) #[true, true, true, true, false, false, false, false] #[true, true, false, true, true, false, false, false] rfl rfl rfl rfl (two_of HT_.out (by kernel_rfl)) (by decide) (by decide) (fun K hK => ?_) (fun K hK => ?_)
              · skip
                have hcv245 := own_string (P := Try.prog) Try.underlying24 Try.underlying5 Try.underlying9 (Kd.own_of_R HO175.out); have hcv245m_ := fun m_ : Nat => own_string (P := Try.prog) Try.underlying24 Try.underlying5 Try.underlying9 (Kd.own_of_R (Kd.R_drewN HO175.out m_))
                refine value_ (w1 := ?_) (v := ?_) (by rfl) rfl ?_ ?_
                rotate_left 2
                · go_simp
                  constructor
                  · rfl
                  · rfl
                clear hcv245
                refine hK.out _ _ trivial (fun hHeld => ?_)
                clear hK K
                refine norm_ (a' := ?_) ?_ ?_
                rotate_left
                · show Act.put _ (some 28) _ = _
                  simp only [Act.put, List.setIfInBounds_toArray, List.set_cons_zero, List.set_cons_succ, i64_w, i32_w]
                  rfl
                refine one_ (i := 4) (N := some 30) #[true, true, true, true, true, false, false, false] rfl rfl (one_of HT_.out (by kernel_rfl)) (by decide) (fun K hK => ?_)
                refine goes_ Try.func13 (by kernel_rfl) rfl #[.slice A1 l1.length c1] (by rfl) rfl rfl (by (try simp only [List.map_toArray, List.map_cons, List.map_nil]); first | done | rfl | (simp only [List.length_drop, List.length_take]; rfl)) ?_
                with_reducible refine (plain_PutInts.calls _ _ l1 t176 _ ?side1 ?side2 A8.out).mono ?_
                (case side1 => repeat (first | exact (Kd.C_below HR1.out HB.out) | (with_reducible refine Kd.C_alloc ?_ _) | (with_reducible refine Kd.C_drewN ?_ _) | (with_reducible refine Kd.C_drew ?_)))
                (case side2 => exact HC1.out)
                rintro e w246 ⟨v177, rfl, ho0, hb⟩
                refine ⟨_, rfl, ?_⟩
                have n0_ := Aside0.mk (Kd.R_elder' (by (with_reducible repeat (first | apply Kd.R_alloc | apply Kd.R_drewN | apply Kd.R_drew)); exact HO175.out) (Kd.R_base ho0) hb)
                have n1_ := Aside0.mk (Kd.R_lower (Kd.R_new' ho0 (Kd.R_lt (by (with_reducible repeat (first | apply Kd.R_alloc | apply Kd.R_drewN | apply Kd.R_drew)); exact HO175.out))) (below_size (by repeat (first | (with_reducible first | exact HB.out | apply below_alloc | apply pw_below_drewN | apply below_drew1) | exact HB.out))))
                have n2_ := Aside0.mk (below_step (by repeat (first | (with_reducible first | exact HB.out | apply below_alloc | apply pw_below_drewN | apply below_drew1) | exact HB.out)) hb)
                clear HO175
                clear HB
                have HO175 := n0_
                have HO178 := n1_
                have HB := n2_
                clear n0_ n1_ n2_
                (try clear hb)
                (try clear hb2)
                (try clear hk)
                (try clear hi)
                (try clear ho0)
                refine hK.out _ _ trivial (fun hHeld => ?_)
                clear hK K
                refine norm_ (a' := ?_) ?_ ?_
                rotate_left
                · show Act.put _ (some 30) _ = _
                  simp only [Act.put, List.setIfInBounds_toArray, List.set_cons_zero, List.set_cons_succ, i64_w, i32_w]
                  rfl
                refine one_ (i := 5) (N := some 31) #[true, true, true, true, true, true, false, false] rfl rfl (one_of HT_.out (by kernel_rfl)) (by decide) (fun K hK => ?_)
                have hcv247 := own_string (P := Try.prog) Try.underlying24 Try.underlying5 Try.underlying9 (Kd.own_of_R HO178.out); have hcv247m_ := fun m_ : Nat => own_string (P := Try.prog) Try.underlying24 Try.underlying5 Try.underlying9 (Kd.own_of_R (Kd.R_drewN HO178.out m_))
                refine value_ (w1 := ?_) (v := ?_) (by rfl) rfl ?_ ?_
                rotate_left 2
                · go_simp
                  constructor
                  · rfl
                  · rfl
                clear hcv247
                refine hK.out _ _ trivial (fun hHeld => ?_)
                clear hK K
                refine norm_ (a' := ?_) ?_ ?_
                rotate_left
                · show Act.put _ (some 31) _ = _
                  simp only [Act.put, List.setIfInBounds_toArray, List.set_cons_zero, List.set_cons_succ, i64_w, i32_w]
                  rfl
                exact norm_ (by simp only [putAll, Act.put, List.setIfInBounds_toArray, List.set_cons_zero, List.set_cons_succ]) (hCont (v177) _ ⟨(by (with_reducible repeat (first | apply Kd.R_alloc | apply Kd.R_drewN | apply Kd.R_drew)); exact Kd.R_mono HO175.out (fun _ hk => hk.2)), (by (with_reducible repeat (first | apply Kd.R_alloc | apply Kd.R_drewN | apply Kd.R_drew)); exact Kd.R_mono HO178.out (fun _ hk => hk.2)), (by repeat (first | (with_reducible first | exact HB.out | apply below_alloc | apply pw_below_drewN | apply below_drew1) | exact HB.out))⟩)
              · skip
                refine goes_ Try.func13 (by kernel_rfl) rfl #[.slice A1 l1.length c1] (by rfl) rfl rfl (by (try simp only [List.map_toArray, List.map_cons, List.map_nil]); first | done | rfl | (simp only [List.length_drop, List.length_take]; rfl)) ?_
                with_reducible refine (plain_PutInts.calls _ _ l1 t176 _ ?side1 ?side2 A8.out).mono ?_
                (case side1 => repeat (first | exact (Kd.C_below HR1.out HB.out) | (with_reducible refine Kd.C_alloc ?_ _) | (with_reducible refine Kd.C_drewN ?_ _) | (with_reducible refine Kd.C_drew ?_)))
                (case side2 => exact HC1.out)
                rintro e w245 ⟨v177, rfl, ho0, hb⟩
                refine ⟨_, rfl, ?_⟩
                have n0_ := Aside0.mk (Kd.R_elder' (by (with_reducible repeat (first | apply Kd.R_alloc | apply Kd.R_drewN | apply Kd.R_drew)); exact HO175.out) (Kd.R_base ho0) hb)
                have n1_ := Aside0.mk (Kd.R_lower (Kd.R_new' ho0 (Kd.R_lt (by (with_reducible repeat (first | apply Kd.R_alloc | apply Kd.R_drewN | apply Kd.R_drew)); exact HO175.out))) (below_size (by repeat (first | (with_reducible first | exact HB.out | apply below_alloc | apply pw_below_drewN | apply below_drew1) | exact HB.out))))
                have n2_ := Aside0.mk (below_step (by repeat (first | (with_reducible first | exact HB.out | apply below_alloc | apply pw_below_drewN | apply below_drew1) | exact HB.out)) hb)
                clear HO175
                clear HB
                have HO175 := n0_
                have HO178 := n1_
                have HB := n2_
                clear n0_ n1_ n2_
                (try clear hb)
                (try clear hb2)
                (try clear hk)
                (try clear hi)
                (try clear ho0)
                refine hK.out _ _ trivial (fun hHeld => ?_)
                clear hK K
                refine norm_ (a' := ?_) ?_ ?_
                rotate_left
                · show Act.put _ (some 30) _ = _
                  simp only [Act.put, List.setIfInBounds_toArray, List.set_cons_zero, List.set_cons_succ, i64_w, i32_w]
                  rfl
                refine two_ (i := 2) (j := 5) (Ni := some 28) (Nj := some 31) #[true, true, true, true, true, false, false, false] #[true, true, false, true, true, true, false, false] rfl rfl rfl rfl (two_of HT_.out (by kernel_rfl)) (by decide) (by decide) (fun K hK => ?_) (fun K hK => ?_)
                · skip
                  have hcv246 := own_string (P := Try.prog) Try.underlying24 Try.underlying5 Try.underlying9 (Kd.own_of_R HO175.out); have hcv246m_ := fun m_ : Nat => own_string (P := Try.prog) Try.underlying24 Try.underlying5 Try.underlying9 (Kd.own_of_R (Kd.R_drewN HO175.out m_))
                  refine value_ (w1 := ?_) (v := ?_) (by rfl) rfl ?_ ?_
                  rotate_left 2
                  · go_simp
                    constructor
                    · rfl
                    · rfl
                  clear hcv246
                  refine hK.out _ _ trivial (fun hHeld => ?_)
                  clear hK K
                  refine norm_ (a' := ?_) ?_ ?_
                  rotate_left
                  · show Act.put _ (some 28) _ = _
                    simp only [Act.put, List.setIfInBounds_toArray, List.set_cons_zero, List.set_cons_succ, i64_w, i32_w]
                    rfl
                  refine one_ (i := 5) (N := some 31) #[true, true, true, true, true, true, false, false] rfl rfl (one_of HT_.out (by kernel_rfl)) (by decide) (fun K hK => ?_)
                  have hcv247 := own_string (P := Try.prog) Try.underlying24 Try.underlying5 Try.underlying9 (Kd.own_of_R HO178.out); have hcv247m_ := fun m_ : Nat => own_string (P := Try.prog) Try.underlying24 Try.underlying5 Try.underlying9 (Kd.own_of_R (Kd.R_drewN HO178.out m_))
                  refine value_ (w1 := ?_) (v := ?_) (by rfl) rfl ?_ ?_
                  rotate_left 2
                  · go_simp
                    constructor
                    · rfl
                    · rfl
                  clear hcv247
                  refine hK.out _ _ trivial (fun hHeld => ?_)
                  clear hK K
                  refine norm_ (a' := ?_) ?_ ?_
                  rotate_left
                  · show Act.put _ (some 31) _ = _
                    simp only [Act.put, List.setIfInBounds_toArray, List.set_cons_zero, List.set_cons_succ, i64_w, i32_w]
                    rfl
                  exact norm_ (by simp only [putAll, Act.put, List.setIfInBounds_toArray, List.set_cons_zero, List.set_cons_succ]) (hCont (v177) _ ⟨(by (with_reducible repeat (first | apply Kd.R_alloc | apply Kd.R_drewN | apply Kd.R_drew)); exact Kd.R_mono HO175.out (fun _ hk => hk.2)), (by (with_reducible repeat (first | apply Kd.R_alloc | apply Kd.R_drewN | apply Kd.R_drew)); exact Kd.R_mono HO178.out (fun _ hk => hk.2)), (by repeat (first | (with_reducible first | exact HB.out | apply below_alloc | apply pw_below_drewN | apply below_drew1) | exact HB.out))⟩)
                · skip
                  have hcv246 := own_string (P := Try.prog) Try.underlying24 Try.underlying5 Try.underlying9 (Kd.own_of_R HO178.out); have hcv246m_ := fun m_ : Nat => own_string (P := Try.prog) Try.underlying24 Try.underlying5 Try.underlying9 (Kd.own_of_R (Kd.R_drewN HO178.out m_))
                  refine value_ (w1 := ?_) (v := ?_) (by rfl) rfl ?_ ?_
                  rotate_left 2
                  · go_simp
                    constructor
                    · rfl
                    · rfl
                  clear hcv246
                  refine hK.out _ _ trivial (fun hHeld => ?_)
                  clear hK K
                  refine norm_ (a' := ?_) ?_ ?_
                  rotate_left
                  · show Act.put _ (some 31) _ = _
                    simp only [Act.put, List.setIfInBounds_toArray, List.set_cons_zero, List.set_cons_succ, i64_w, i32_w]
                    rfl
                  refine one_ (i := 2) (N := some 28) #[true, true, true, true, true, true, false, false] rfl rfl (one_of HT_.out (by kernel_rfl)) (by decide) (fun K hK => ?_)
                  have hcv247 := own_string (P := Try.prog) Try.underlying24 Try.underlying5 Try.underlying9 (Kd.own_of_R HO175.out); have hcv247m_ := fun m_ : Nat => own_string (P := Try.prog) Try.underlying24 Try.underlying5 Try.underlying9 (Kd.own_of_R (Kd.R_drewN HO175.out m_))
                  refine value_ (w1 := ?_) (v := ?_) (by rfl) rfl ?_ ?_
                  rotate_left 2
                  · go_simp
                    constructor
                    · rfl
                    · rfl
                  clear hcv247
                  refine hK.out _ _ trivial (fun hHeld => ?_)
                  clear hK K
                  refine norm_ (a' := ?_) ?_ ?_
                  rotate_left
                  · show Act.put _ (some 28) _ = _
                    simp only [Act.put, List.setIfInBounds_toArray, List.set_cons_zero, List.set_cons_succ, i64_w, i32_w]
                    rfl
                  exact norm_ (by simp only [putAll, Act.put, List.setIfInBounds_toArray, List.set_cons_zero, List.set_cons_succ]) (hCont (v177) _ ⟨(by (with_reducible repeat (first | apply Kd.R_alloc | apply Kd.R_drewN | apply Kd.R_drew)); exact Kd.R_mono HO175.out (fun _ hk => hk.2)), (by (with_reducible repeat (first | apply Kd.R_alloc | apply Kd.R_drewN | apply Kd.R_drew)); exact Kd.R_mono HO178.out (fun _ hk => hk.2)), (by repeat (first | (with_reducible first | exact HB.out | apply below_alloc | apply pw_below_drewN | apply below_drew1) | exact HB.out))⟩)
            rintro v177 w248 ⟨h0_, h1_, h2_⟩
            have n0_ : Aside0 (Kd.R (Kd.int .u8) 5 w248 w.heap.size (fun k_ => some k_ ≠ (v177 : Value).ownBlock) v174 t173) := ⟨h0_⟩
            have n1_ : Aside0 (Kd.R (Kd.int .u8) 5 w248 w.heap.size (fun k_ => some k_ ≠ (v174 : Value).ownBlock) v177 t176) := ⟨h1_⟩
            have n2_ : Aside0 (Below w.heap.size w w248) := ⟨h2_⟩
            clear HB
            clear h0_ h1_ h2_
            have HO175 := n0_
            have HO178 := n1_
            have HB := n2_
            clear n0_ n1_ n2_
            have hHeld := trivial
            refine norm_ (a' := ?_) ?_ ?_
            rotate_left
            · simp only [putAll, Act.put, List.setIfInBounds_toArray, List.set_cons_zero, List.set_cons_succ]
              rfl
            refine pure_ (i := 6) (N := some 32) (v := ?_) (a' := ?_) #[true, true, true, true, true, true, true, false] rfl rfl (any_of HT_.out (by kernel_rfl)) (fun _ _ _ h => h) (Or.inl ⟨by rfl, ?_⟩) ?_ ?_
            rotate_left
            · intro w'
              go_simp
              with_reducible rfl
            rotate_left
            · simp only [Act.put, List.setIfInBounds_toArray, List.set_cons_zero, List.set_cons_succ, i64_w, i32_w]
              rfl
            refine pure_ (i := 7) (N := some 10) (v := ?_) (a' := ?_) #[true, true, true, true, true, true, true, true] rfl rfl (any_of HT_.out (by kernel_rfl)) (fun _ _ _ h => h) (Or.inl ⟨by rfl, ?_⟩) ?_ ?_
            rotate_left
            · intro w'
              go_simp
              with_reducible rfl
            rotate_left
            · simp only [Act.put, List.setIfInBounds_toArray, List.set_cons_zero, List.set_cons_succ, i64_w, i32_w]
              rfl
            refine done_ (done_of HT_.out (by kernel_rfl)) ?_
            try go_wp2_with (first | ((with_reducible refine gate_dst (N := 33) rfl ?_); (try (refine gate_guard (by rfl) ?_; dsimp only)); refine Kd.R_lit (Kd.int .i64) _ 2 ?hg (N := 33) ?hd (xs := ([] : List Int)) (inner := []) (ok := fun _ => True) (okp := fun _ => True) ?hr ?hp (fun _ hk => hk) trivial (Below.refl _ _) (Nat.le_refl _) (by simp) ?_; (case hd => rfl); (case hg => rfl); (case hr => first | (go_simp; done) | (go_simp; rfl)); (case hp => exact (Reps.none _ _)); intro v180 w249 ho250 hb hg_ hnew_; clear hg_ hnew_; (first | rw [← Ny179.out] at ho250 | (simp only [Int.reduceToNat] at ho250; rw [← Ny179.out] at ho250)); have n0_ := Aside0.mk (Kd.R_below (by (with_reducible repeat (first | apply Kd.R_alloc | apply Kd.R_drewN | apply Kd.R_drew)); exact HO175.out) hb); have n1_ := Aside0.mk (Kd.R_below (by (with_reducible repeat (first | apply Kd.R_alloc | apply Kd.R_drewN | apply Kd.R_drew)); exact HO178.out) hb); have n2_ := Aside0.mk (Kd.R_lower ho250 (below_size (by repeat (first | (with_reducible first | exact HB.out | apply below_alloc | apply pw_below_drewN | apply below_drew1) | exact HB.out)))); have n3_ := Aside0.mk (below_step (by repeat (first | (with_reducible first | exact HB.out | apply below_alloc | apply pw_below_drewN | apply below_drew1) | exact HB.out)) hb); clear HO175; clear HO178; clear HB; have HO175 := n0_; have HO178 := n1_; have HO181 := n2_; have HB := n3_; clear n0_ n1_ n2_ n3_; clear hb ho250) | ((with_reducible refine gate_builtin (b := .append) (xs := #[.tmp 33, .tmp 34]) rfl ?_); (try (refine gate_guard (by rfl) ?_; dsimp only)); at_builtin; refine Kd.R_append_rows (Kd.int .i64) (w0 := w) w.heap.size rfl (.tmp 33) (.tmp 34) 22 2 (.int .i64 0) 8 rfl Try.underlying22 info2 rfl (by decide) (by omega) v180 y179 l0 _ _ _ (fun _ => True) (fun _ => False) rfl rfl ?aO ?aR (fun _ _ h => h) (fun _ h => h.elim) ?aF ?aB ?aS ?aL ?_; (case aR => repeat (first | exact (Kd.C_below HR0.out HB.out) | (with_reducible refine Kd.C_alloc ?_ _) | (with_reducible refine Kd.C_drewN ?_ _) | (with_reducible refine Kd.C_drew ?_))); (case aB => exact (by repeat (first | (with_reducible first | exact HB.out | apply below_alloc | apply pw_below_drewN | apply below_drew1) | exact HB.out))); (case aF => exact (fun _ _ => trivial)); (case aO => exact (by (with_reducible repeat (first | apply Kd.R_alloc | apply Kd.R_drewN | apply Kd.R_drew)); exact HO181.out)); (case aS => exact (below_size (by repeat (first | (with_reducible first | exact HB.out | apply below_alloc | apply pw_below_drewN | apply below_drew1) | exact HB.out)))); (case aL => have := LMc10.out; omega); intro v183 w251 ho hb hg hat; rw [← Ny182.out] at ho; have n0_ := Aside0.mk (Kd.R_over' (by (with_reducible repeat (first | apply Kd.R_alloc | apply Kd.R_drewN | apply Kd.R_drew)); exact HO175.out) (Kd.R_typed (by (with_reducible repeat (first | apply Kd.R_alloc | apply Kd.R_drewN | apply Kd.R_drew)); exact HO181.out)) (by decide) hg); have n1_ := Aside0.mk (Kd.R_over' (by (with_reducible repeat (first | apply Kd.R_alloc | apply Kd.R_drewN | apply Kd.R_drew)); exact HO178.out) (Kd.R_typed (by (with_reducible repeat (first | apply Kd.R_alloc | apply Kd.R_drewN | apply Kd.R_drew)); exact HO181.out)) (by decide) hg); have n2_ := Aside0.mk (hb); have n3_ := Aside0.mk (ho); clear HO175; clear HO178; clear HB; clear HO181; have HO175 := n0_; have HO178 := n1_; have HB := n2_; have HO184 := n3_; clear n0_ n1_ n2_ n3_; clear ho hb hg hat) | ((with_reducible refine gate_builtin (b := .append) (xs := #[.tmp 35, .tmp 36]) rfl ?_); (try (refine gate_guard (by rfl) ?_; dsimp only)); at_builtin; refine Kd.R_append_rows (Kd.int .i64) (w0 := w) w.heap.size rfl (.tmp 35) (.tmp 36) 22 2 (.int .i64 0) 8 rfl Try.underlying22 info2 rfl (by decide) (by omega) v183 y182 l1 _ _ _ (fun _ => True) (fun _ => False) rfl rfl ?aO ?aR (fun _ _ h => h) (fun _ h => h.elim) ?aF ?aB ?aS ?aL ?_; (case aR => repeat (first | exact (Kd.C_below HR1.out HB.out) | (with_reducible refine Kd.C_alloc ?_ _) | (with_reducible refine Kd.C_drewN ?_ _) | (with_reducible refine Kd.C_drew ?_))); (case aB => exact (by repeat (first | (with_reducible first | exact HB.out | apply below_alloc | apply pw_below_drewN | apply below_drew1) | exact HB.out))); (case aF => exact (fun _ _ => trivial)); (case aO => exact (by (with_reducible repeat (first | apply Kd.R_alloc | apply Kd.R_drewN | apply Kd.R_drew)); exact HO184.out)); (case aS => exact (below_size (by repeat (first | (with_reducible first | exact HB.out | apply below_alloc | apply pw_below_drewN | apply below_drew1) | exact HB.out)))); (case aL => have := LMc11.out; omega); intro v186 w252 ho hb hg hat; rw [← Ny185.out] at ho; have n0_ := Aside0.mk (Kd.R_over' (by (with_reducible repeat (first | apply Kd.R_alloc | apply Kd.R_drewN | apply Kd.R_drew)); exact HO175.out) (Kd.R_typed (by (with_reducible repeat (first | apply Kd.R_alloc | apply Kd.R_drewN | apply Kd.R_drew)); exact HO184.out)) (by decide) hg); have n1_ := Aside0.mk (Kd.R_over' (by (with_reducible repeat (first | apply Kd.R_alloc | apply Kd.R_drewN | apply Kd.R_drew)); exact HO178.out) (Kd.R_typed (by (with_reducible repeat (first | apply Kd.R_alloc | apply Kd.R_drewN | apply Kd.R_drew)); exact HO184.out)) (by decide) hg); have n2_ := Aside0.mk (hb); have n3_ := Aside0.mk (ho); clear HO175; clear HO178; clear HB; clear HO184; have HO175 := n0_; have HO178 := n1_; have HB := n2_; have HO187 := n3_; clear n0_ n1_ n2_ n3_; clear ho hb hg hat; obtain ⟨Ao253, co253, eo253⟩ := Kd.R_slice HO187.out; subst eo253) | ((with_reducible refine gate_callee (f := 13) rfl ?_); refine goesL_ (some 40) rfl rfl Try.func13 (by kernel_rfl) rfl #[.slice Ao253 y185.length co253] rfl (by (try simp only [List.map_toArray, List.map_cons, List.map_nil]); first | done | rfl | (simp only [List.length_drop, List.length_take]; rfl)) ?_; (with_reducible refine (plain_PutInts.calls _ _ y185 t188 _ ?side1 ?side2 A12.out).mono ?_); (case side1 => repeat (first | exact (Kd.R_reads' HO187.out).2.2 | (with_reducible refine Kd.C_alloc ?_ _) | (with_reducible refine Kd.C_drewN ?_ _) | (with_reducible refine Kd.C_drew ?_))); (case side2 => exact (Kd.R_reads' HO187.out).2.1); rintro e w254 ⟨v189, rfl, ho0, hb⟩; refine ⟨_, rfl, ?_⟩; have n0_ := Aside0.mk (Kd.R_elder' (by (with_reducible repeat (first | apply Kd.R_alloc | apply Kd.R_drewN | apply Kd.R_drew)); exact HO175.out) (Kd.R_base ho0) hb); have n1_ := Aside0.mk (Kd.R_elder' (by (with_reducible repeat (first | apply Kd.R_alloc | apply Kd.R_drewN | apply Kd.R_drew)); exact HO178.out) (Kd.R_base ho0) hb); have n2_ := Aside0.mk (Kd.R_below (by (with_reducible repeat (first | apply Kd.R_alloc | apply Kd.R_drewN | apply Kd.R_drew)); exact HO187.out) hb); have n3_ := Aside0.mk (Kd.R_lower (Kd.R_new' (Kd.R_new' ho0 (Kd.R_lt (by (with_reducible repeat (first | apply Kd.R_alloc | apply Kd.R_drewN | apply Kd.R_drew)); exact HO175.out))) (Kd.R_lt (by (with_reducible repeat (first | apply Kd.R_alloc | apply Kd.R_drewN | apply Kd.R_drew)); exact HO178.out))) (below_size (by repeat (first | (with_reducible first | exact HB.out | apply below_alloc | apply pw_below_drewN | apply below_drew1) | exact HB.out)))); have n4_ := Aside0.mk (below_step (by repeat (first | (with_reducible first | exact HB.out | apply below_alloc | apply pw_below_drewN | apply below_drew1) | exact HB.out)) hb); clear HO175; clear HO178; clear HO187; clear HB; have HO175 := n0_; have HO178 := n1_; have HO187 := n2_; have HO190 := n3_; have HB := n4_; clear n0_ n1_ n2_ n3_ n4_; (try clear hb); (try clear hb2); (try clear hk); (try clear hi); (try clear ho0); have hcv255 := own_string (P := Try.prog) Try.underlying24 Try.underlying5 Try.underlying9 (Kd.own_of_R HO190.out); have hcv255m_ := fun m_ : Nat => own_string (P := Try.prog) Try.underlying24 Try.underlying5 Try.underlying9 (Kd.own_of_R (Kd.R_drewN HO190.out m_))))
            go_ret
            exact ⟨by first | rfl | (simp [*, errW_none, errW_some] <;> rfl), by repeat (first | (with_reducible first | exact HB.out | apply below_alloc | apply pw_below_drewN | apply below_drew1) | exact HB.out)⟩
        · rw [if_neg c11] at H
          exact absurd H (by simp)
      · rw [if_neg c10] at H
        exact absurd H (by simp)
    · rw [if_neg c9] at H
      exact absurd H (by simp)
  · replace c6 := Bool.eq_false_iff.mpr c6
    subst c6
    have H1 : (some false) = some r := by rw [if_neg (show ¬ (false = true) by decide)] at H; exact H
    clear H
    have H := H1
    clear H1
    obtain rfl := Option.some.inj H
    go_enter Try.func8, Try.ntmps8
    go_wp2_with (first | ((with_reducible refine gate_callee (f := 29) rfl ?_); refine goesL_ (some 23) rfl rfl Try.func29 (by kernel_rfl) rfl #[] rfl (by (try simp only [List.map_toArray, List.map_cons, List.map_nil]); first | done | rfl | (simp only [List.length_drop, List.length_take]; rfl)) ?_; (with_reducible refine (colonnadelaw08_awake.calls k  false _ A5.out).mono ?_); rintro e w256 ⟨rfl, hb⟩; refine ⟨_, rfl, ?_⟩; have n0_ := Aside0.mk (below_step (by repeat (first | (with_reducible first | exact HB.out | apply below_alloc | apply pw_below_drewN | apply below_drew1) | exact HB.out)) hb); clear HB; have HB := n0_; clear n0_; (try clear hb); (try clear hb2); (try clear hk); (try clear hi)))
    go_ret
    exact ⟨by first | rfl | (simp [*, errW_none, errW_some] <;> rfl), by repeat (first | (with_reducible first | exact HB.out | apply below_alloc | apply pw_below_drewN | apply below_drew1) | exact HB.out)⟩

end Go.Proofs.Ytkepimkabfoapab.PPlainJoins
