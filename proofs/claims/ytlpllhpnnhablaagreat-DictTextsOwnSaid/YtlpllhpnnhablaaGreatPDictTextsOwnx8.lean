-- Written by xprint.py, this session's own program over the kit's print; Lean checks it.
import Derived.Test.YtlpllhpnnhablaaGreatPDictTextsOwnx0
import Derived.Test.YtlpllhpnnhablaaGreatPDictTextsOwnx1
import Derived.Test.YtlpllhpnnhablaaGreatPDictTextsOwnx2
import Derived.Test.YtlpllhpnnhablaaGreatPDictTextsOwnx3
namespace Go.Proofs.YtlpllhpnnhablaaGreat.PDictTextsOwn
open Go.RowKit Go.Proofs.YtlpllhpnnhablaaGreatW.PrintWords Go.Proofs.YtlpllhpnnhablaaGreatW.PrintLast Go.Proofs.YtlpllhpnnhablaaGreatW.PrintMore
attribute [local go_sem] max2_int min2_int max_two min_two max_three min_three max_four min_four   -- for this text's walks alone
set_option linter.unusedVariables false
set_option linter.unusedSimpArgs false
theorem string_leqX8 (t : TypeId) (a b : ByteArray) : binOp .leq t (.string a) (.string b) = pure (.bool (!(Op.bytesLess b.toList a.toList))) := by rw [← Go.Proofs.YtlpllhpnnhablaaGreat.XMapS.leq_form]; simp [binOp, Op.stringOp]
theorem string_gtrX8 (t : TypeId) (a b : ByteArray) : binOp .gtr t (.string a) (.string b) = pure (.bool (Op.bytesLess b.toList a.toList)) := by rw [← Bool.not_not (Op.bytesLess b.toList a.toList), ← Go.Proofs.YtlpllhpnnhablaaGreat.XMapS.leq_form]; simp [binOp, Op.stringOp]
theorem string_geqX8 (t : TypeId) (a b : ByteArray) : binOp .geq t (.string a) (.string b) = pure (.bool !(Op.bytesLess a.toList b.toList)) := by simp [binOp, Op.stringOp]
attribute [local go_sem] string_leqX8 string_gtrX8 string_geqX8

/-! ### colonnadelaw09_may: function 6 -/
def colonnadelaw09_may.l0 : Nat → List ByteArray → Int → Int → Option (Bool)
  | 0, _, _, _ => none
  | k + 1, x0, x3, x4 => if x4 < (x0.length : Int) then (if 0 ≤ x4 then (if ((rdOf ByteArray.empty x0 x4).size : Int) > 65535 then (some false) else (if (wrap64 (x3 + ((rdOf ByteArray.empty x0 x4).size : Int))) ≥ 1073741824 then (some false) else (colonnadelaw09_may.l0 k x0 (wrap64 (x3 + ((rdOf ByteArray.empty x0 x4).size : Int))) (wrap64 (x4 + 1))))) else (none)) else (some true)
def colonnadelaw09_may.f (k : Nat) (l0 : List ByteArray) : Option (Bool) := colonnadelaw09_may.l0 k l0 0 0
theorem colonnadelaw09_may.mono_l : ∀ k, (∀ y0 y1 y2, LeO (colonnadelaw09_may.l0 k y0 y1 y2) (colonnadelaw09_may.l0 (k + 1) y0 y1 y2))
  | 0 => fun _ _ _ r h => by simp [colonnadelaw09_may.l0] at h
  | k + 1 => by
    have ih0 := colonnadelaw09_may.mono_l k
    · intro y0 y1 y2
      unfold colonnadelaw09_may.l0
      repeat' first
      | (with_reducible exact ih0 _ _ _)
      | (with_reducible exact LeO.refl _)
      | (with_reducible exact LeO.none _)
      | (with_reducible refine LeO.ite ?_ ?_)
      | (with_reducible refine LeO.bind ?_ (fun _ => ?_))
      | exact ih0 _ _ _
      | exact LeO.none _
      | refine LeO.ite ?_ ?_
      | refine LeO.bind ?_ (fun _ => ?_)
theorem colonnadelaw09_may.mono : ∀ a0 k, LeO (colonnadelaw09_may.f k a0) (colonnadelaw09_may.f (k + 1) a0) := by
  intro a0 k
  have ih0 := colonnadelaw09_may.mono_l k
  unfold colonnadelaw09_may.f
  repeat' first
      | (with_reducible exact ih0 _ _ _)
      | (with_reducible exact LeO.refl _)
      | (with_reducible exact LeO.none _)
      | (with_reducible refine LeO.ite ?_ ?_)
      | (with_reducible refine LeO.bind ?_ (fun _ => ?_))
      | exact ih0 _ _ _
      | exact LeO.none _
      | refine LeO.ite ?_ ?_
      | refine LeO.bind ?_ (fun _ => ?_)
set_option maxHeartbeats 8000000 in
set_option maxRecDepth 100000 in
theorem colonnadelaw09_may.calls (k : Nat) (A0 : Option Addr) (c0 : Nat) (l0 : List ByteArray) (r : Bool) (w : World) (hr0 : Kd.C Kd.string w A0 l0.length l0) (hc0 : l0.length ≤ c0) (h : colonnadelaw09_may.f k l0 = some r) :
    Calls Tryz.prog 6 #[.slice A0 l0.length c0] w fun e w' => e = .returned (.bool r) ∧ Drawn0 w w' := by
  have HR0 := Aside0.mk hr0
  have HC0 := Aside0.mk hc0
  clear hr0 hc0
  have H : (colonnadelaw09_may.l0 k l0 0 0) = some r := h
  clear h
  have H' := Aside0.mk H
  clear H
  go_enter Tryz.func6, Tryz.ntmps6
  go_wp2
  (try simp only [add_plain])
  go_loopg [3, 4] k (fun kq v3 v4 w' => ∃ (x3_1 : Int) (x4_1 : Int), v3 = .int .i64 x3_1 ∧ v4 = .int .i64 x4_1 ∧ Aside0 (colonnadelaw09_may.l0 kq l0 x3_1 x4_1 = some r) ∧ Aside0 (kq ≤ k) ∧ Drawn0 w w')
  case atStart => exact ⟨(0), (0), (by first | rfl | (simp; done) | (simp [*]; done)), (by first | rfl | (simp; done) | (simp [*]; done)), H', ⟨Nat.le_refl _⟩, by repeat (first | exact Drawn0.refl _ | apply Drawn0.step)⟩
  case round =>
    clear H'
    obtain ⟨x3_1, x4_1, rfl, rfl, HA, HK1, ⟨m1, rfl⟩⟩ := hrel
    cases gk with
    | zero => exact absurd HA.out (by simp [colonnadelaw09_may.l0])
    | succ k1 =>
      have H := HA.out
      clear HA
      simp only [colonnadelaw09_may.l0] at H
      by_cases c2 : x4_1 < (l0.length : Int)
      · rw [if_pos c2] at H
        have c2b0 : decide (x4_1 < (l0.length : Int)) = true := decide_eq_true c2
        clear c2
        by_cases c3 : 0 ≤ x4_1
        · rw [if_pos c3] at H
          have c3b0 : decide (0 ≤ x4_1) = true := decide_eq_true c3
          clear c3
          by_cases c4 : ((rdOf ByteArray.empty l0 x4_1).size : Int) > 65535
          · rw [if_pos c4] at H
            have c4b0 : decide (65535 < ((rdOf ByteArray.empty l0 x4_1).size : Int)) = true := decide_eq_true c4
            have c4b1 : decide (65535 < (rdOf ByteArray.empty l0 x4_1).size) = true := decide_eq_true (by omega)
            clear c4
            obtain rfl := Option.some.inj H
            have p208 : 0 ≤ (x4_1 : Int) := of_decide_eq_true (by first | (with_reducible assumption) | assumption)
            have q208 : x4_1 < (l0.length : Int) := of_decide_eq_true (by first | (with_reducible assumption) | assumption)
            obtain ⟨ad208, e208, hx208_0⟩ := Kd.at_string HR0.out x4_1 p208 q208
            cases e208
            replace p208 := eq_true p208
            replace q208 := eq_true q208
            have p209 : 0 ≤ (x4_1 : Int) := of_decide_eq_true (by first | (with_reducible assumption) | assumption)
            have q209 : x4_1 < (l0.length : Int) := of_decide_eq_true (by first | (with_reducible assumption) | assumption)
            obtain ⟨ad209, e209, hx209_0⟩ := Kd.at_string HR0.out x4_1 p209 q209
            obtain rfl : ad208 = ad209 := (by injection e209)
            replace p209 := eq_true p209
            replace q209 := eq_true q209
            go_wp2
            go_ret
            exact ⟨by first | rfl | (simp; done) | (simp [*]; done), by repeat (first | exact Drawn0.refl _ | apply Drawn0.step)⟩
          · rw [if_neg c4] at H
            have c4b0 : decide (65535 < ((rdOf ByteArray.empty l0 x4_1).size : Int)) = false := decide_eq_false c4
            have c4b1 : decide (65535 < (rdOf ByteArray.empty l0 x4_1).size) = false := decide_eq_false (by omega)
            clear c4
            by_cases c5 : (wrap64 (x3_1 + ((rdOf ByteArray.empty l0 x4_1).size : Int))) ≥ 1073741824
            · rw [if_pos c5] at H
              have c5b0 : decide (1073741824 ≤ (wrap64 (x3_1 + ((rdOf ByteArray.empty l0 x4_1).size : Int)))) = true := decide_eq_true c5
              clear c5
              obtain rfl := Option.some.inj H
              have p208 : 0 ≤ (x4_1 : Int) := of_decide_eq_true (by first | (with_reducible assumption) | assumption)
              have q208 : x4_1 < (l0.length : Int) := of_decide_eq_true (by first | (with_reducible assumption) | assumption)
              obtain ⟨ad208, e208, hx208_0⟩ := Kd.at_string HR0.out x4_1 p208 q208
              cases e208
              replace p208 := eq_true p208
              replace q208 := eq_true q208
              have p209 : 0 ≤ (x4_1 : Int) := of_decide_eq_true (by first | (with_reducible assumption) | assumption)
              have q209 : x4_1 < (l0.length : Int) := of_decide_eq_true (by first | (with_reducible assumption) | assumption)
              obtain ⟨ad209, e209, hx209_0⟩ := Kd.at_string HR0.out x4_1 p209 q209
              obtain rfl : ad208 = ad209 := (by injection e209)
              replace p209 := eq_true p209
              replace q209 := eq_true q209
              go_wp2
              go_ret
              exact ⟨by first | rfl | (simp; done) | (simp [*]; done), by repeat (first | exact Drawn0.refl _ | apply Drawn0.step)⟩
            · rw [if_neg c5] at H
              have c5b0 : decide (1073741824 ≤ (wrap64 (x3_1 + ((rdOf ByteArray.empty l0 x4_1).size : Int)))) = false := decide_eq_false c5
              clear c5
              have H' := Aside0.mk H
              clear H
              have p208 : 0 ≤ (x4_1 : Int) := of_decide_eq_true (by first | (with_reducible assumption) | assumption)
              have q208 : x4_1 < (l0.length : Int) := of_decide_eq_true (by first | (with_reducible assumption) | assumption)
              obtain ⟨ad208, e208, hx208_0⟩ := Kd.at_string HR0.out x4_1 p208 q208
              cases e208
              replace p208 := eq_true p208
              replace q208 := eq_true q208
              have p209 : 0 ≤ (x4_1 : Int) := of_decide_eq_true (by first | (with_reducible assumption) | assumption)
              have q209 : x4_1 < (l0.length : Int) := of_decide_eq_true (by first | (with_reducible assumption) | assumption)
              obtain ⟨ad209, e209, hx209_0⟩ := Kd.at_string HR0.out x4_1 p209 q209
              obtain rfl : ad208 = ad209 := (by injection e209)
              replace p209 := eq_true p209
              replace q209 := eq_true q209
              go_wp2
              go_roundg k1
              case measure => have := HK1.out; omega
              case rel => exact ⟨(wrap64 (x3_1 + ((rdOf ByteArray.empty l0 x4_1).size : Int))), (wrap64 (x4_1 + 1)), (by first | rfl | (simp; done) | (simp [*]; done)), (by first | rfl | (simp; done) | (simp [*]; done)), H', ⟨by have := HK1.out; omega⟩, by repeat (first | exact Drawn0.refl _ | apply Drawn0.step)⟩
        · rw [if_neg c3] at H
          exact absurd H (by simp)
      · rw [if_neg c2] at H
        have c2b0 : decide (x4_1 < (l0.length : Int)) = false := decide_eq_false c2
        clear c2
        obtain rfl := Option.some.inj H
        go_wp2
        go_ret
        exact ⟨by first | rfl | (simp; done) | (simp [*]; done), by repeat (first | exact Drawn0.refl _ | apply Drawn0.step)⟩

-- NOT PRINTED: function 84 (slices_insertionSortCmpFunc_string)

-- NOT PRINTED: function 101 (slices_siftDownCmpFunc_string)

-- NOT PRINTED: function 85 (slices_heapSortCmpFunc_string)

-- NOT PRINTED: function 86 (slices_breakPatternsCmpFunc_string)

-- NOT PRINTED: function 109 (slices_order2CmpFunc_string)

-- NOT PRINTED: function 105 (slices_medianCmpFunc_string)

-- NOT PRINTED: function 104 (slices_medianAdjacentCmpFunc_string)

-- NOT PRINTED: function 87 (slices_choosePivotCmpFunc_string)

-- NOT PRINTED: function 88 (slices_reverseRangeCmpFunc_string)

-- NOT PRINTED: function 89 (slices_partialInsertionSortCmpFunc_string)

-- NOT PRINTED: function 90 (slices_partitionEqualCmpFunc_string)

-- NOT PRINTED: function 91 (slices_partitionCmpFunc_string)

-- NOT PRINTED: function 70 (slices_pdqsortCmpFunc_string)

-- NOT PRINTED: function 44 (slices_SortFunc_string_string)

/-! ### cmp_isNaN_string: function 72 -/
def cmp_isNaN_string.f (a0 : ByteArray) : Option (Bool) := some (a0.toList != a0.toList)
set_option maxHeartbeats 8000000 in
set_option maxRecDepth 100000 in
theorem cmp_isNaN_string.calls (a0 : ByteArray) (r : Bool) (w : World) (h : cmp_isNaN_string.f a0 = some r) :
    Calls Tryz.prog 72 #[.string a0] w fun e w' => e = .returned (.bool r) ∧ Drawn0 w w' := by
  have H : (some (a0.toList != a0.toList)) = some r := h
  clear h
  obtain rfl := Option.some.inj H
  go_enter Tryz.func72, Tryz.ntmps72
  go_wp2
  go_ret
  exact ⟨by first | rfl | (simp; done) | (simp [*]; done), by repeat (first | exact Drawn0.refl _ | apply Drawn0.step)⟩

/-! ### cmp_Compare_string: function 45 -/
def cmp_Compare_string.f (a0 : ByteArray) (a1 : ByteArray) : Option (Int) := (cmp_isNaN_string.f a0).bind fun t210 => ((cmp_isNaN_string.f a1).bind fun t211 => (if t210 = true then (if t211 = true then (some 0) else (some (-1))) else (if t211 = true then (some 1) else (if (Op.bytesLess a0.toList a1.toList) = true then (some (-1)) else (if (Op.bytesLess a1.toList a0.toList) = true then (some 1) else (some 0))))))
set_option maxHeartbeats 8000000 in
set_option maxRecDepth 100000 in
theorem cmp_Compare_string.calls (a0 : ByteArray) (a1 : ByteArray) (r : Int) (w : World) (h : cmp_Compare_string.f a0 a1 = some r) :
    Calls Tryz.prog 45 #[.string a0, .string a1] w fun e w' => e = .returned (.int .i64 r) ∧ Drawn0 w w' := by
  have H : ((cmp_isNaN_string.f a0).bind fun t210 => ((cmp_isNaN_string.f a1).bind fun t211 => (if t210 = true then (if t211 = true then (some 0) else (some (-1))) else (if t211 = true then (some 1) else (if (Op.bytesLess a0.toList a1.toList) = true then (some (-1)) else (if (Op.bytesLess a1.toList a0.toList) = true then (some 1) else (some 0))))))) = some r := h
  clear h
  replace H := Option.bind_eq_some_iff.mp H
  obtain ⟨t210, A30, H⟩ := H
  replace H : ((cmp_isNaN_string.f a1).bind fun t211 => (if t210 = true then (if t211 = true then (some 0) else (some (-1))) else (if t211 = true then (some 1) else (if (Op.bytesLess a0.toList a1.toList) = true then (some (-1)) else (if (Op.bytesLess a1.toList a0.toList) = true then (some 1) else (some 0)))))) = some r := H
  have A3 := Aside0.mk A30
  clear A30
  replace H := Option.bind_eq_some_iff.mp H
  obtain ⟨t211, A40, H⟩ := H
  replace H : (if t210 = true then (if t211 = true then (some 0) else (some (-1))) else (if t211 = true then (some 1) else (if (Op.bytesLess a0.toList a1.toList) = true then (some (-1)) else (if (Op.bytesLess a1.toList a0.toList) = true then (some 1) else (some 0))))) = some r := H
  have A4 := Aside0.mk A40
  clear A40
  by_cases c5 : t210 = true
  · subst c5
    have H1 : (if t211 = true then (some 0) else (some (-1))) = some r := by rw [if_pos rfl] at H; exact H
    clear H
    have H := H1
    clear H1
    by_cases c6 : t211 = true
    · subst c6
      have H1 : (some 0) = some r := by rw [if_pos rfl] at H; exact H
      clear H
      have H := H1
      clear H1
      obtain rfl := Option.some.inj H
      go_enter Tryz.func45, Tryz.ntmps45
      go_wp2_with (first | ((with_reducible refine gate_callee (f := 72) rfl ?_); refine goesL_ (some 8) rfl rfl Tryz.func72 (by kernel_rfl) rfl #[.string a0] rfl (by (try simp only [List.map_toArray, List.map_cons, List.map_nil]); first | done | rfl | (simp only [List.length_drop, List.length_take]; rfl)) ?_; (with_reducible refine (cmp_isNaN_string.calls a0 true _ A3.out).mono ?_); rintro e w' ⟨rfl, ⟨nd, rfl⟩⟩; refine ⟨_, rfl, ?_⟩) | ((with_reducible refine gate_callee (f := 72) rfl ?_); refine goesL_ (some 10) rfl rfl Tryz.func72 (by kernel_rfl) rfl #[.string a1] rfl (by (try simp only [List.map_toArray, List.map_cons, List.map_nil]); first | done | rfl | (simp only [List.length_drop, List.length_take]; rfl)) ?_; (with_reducible refine (cmp_isNaN_string.calls a1 true _ A4.out).mono ?_); rintro e w' ⟨rfl, ⟨nd, rfl⟩⟩; refine ⟨_, rfl, ?_⟩))
      go_ret
      exact ⟨by first | rfl | (simp; done) | (simp [*]; done), by repeat (first | exact Drawn0.refl _ | apply Drawn0.step)⟩
    · replace c6 := Bool.eq_false_iff.mpr c6
      subst c6
      have H1 : (some (-1)) = some r := by rw [if_neg (show ¬ (false = true) by decide)] at H; exact H
      clear H
      have H := H1
      clear H1
      obtain rfl := Option.some.inj H
      go_enter Tryz.func45, Tryz.ntmps45
      go_wp2_with (first | ((with_reducible refine gate_callee (f := 72) rfl ?_); refine goesL_ (some 8) rfl rfl Tryz.func72 (by kernel_rfl) rfl #[.string a0] rfl (by (try simp only [List.map_toArray, List.map_cons, List.map_nil]); first | done | rfl | (simp only [List.length_drop, List.length_take]; rfl)) ?_; (with_reducible refine (cmp_isNaN_string.calls a0 true _ A3.out).mono ?_); rintro e w' ⟨rfl, ⟨nd, rfl⟩⟩; refine ⟨_, rfl, ?_⟩) | ((with_reducible refine gate_callee (f := 72) rfl ?_); refine goesL_ (some 10) rfl rfl Tryz.func72 (by kernel_rfl) rfl #[.string a1] rfl (by (try simp only [List.map_toArray, List.map_cons, List.map_nil]); first | done | rfl | (simp only [List.length_drop, List.length_take]; rfl)) ?_; (with_reducible refine (cmp_isNaN_string.calls a1 false _ A4.out).mono ?_); rintro e w' ⟨rfl, ⟨nd, rfl⟩⟩; refine ⟨_, rfl, ?_⟩))
      go_ret
      exact ⟨by first | rfl | (simp; done) | (simp [*]; done), by repeat (first | exact Drawn0.refl _ | apply Drawn0.step)⟩
  · replace c5 := Bool.eq_false_iff.mpr c5
    subst c5
    have H1 : (if t211 = true then (some 1) else (if (Op.bytesLess a0.toList a1.toList) = true then (some (-1)) else (if (Op.bytesLess a1.toList a0.toList) = true then (some 1) else (some 0)))) = some r := by rw [if_neg (show ¬ (false = true) by decide)] at H; exact H
    clear H
    have H := H1
    clear H1
    by_cases c7 : t211 = true
    · subst c7
      have H1 : (some 1) = some r := by rw [if_pos rfl] at H; exact H
      clear H
      have H := H1
      clear H1
      obtain rfl := Option.some.inj H
      go_enter Tryz.func45, Tryz.ntmps45
      go_wp2_with (first | ((with_reducible refine gate_callee (f := 72) rfl ?_); refine goesL_ (some 8) rfl rfl Tryz.func72 (by kernel_rfl) rfl #[.string a0] rfl (by (try simp only [List.map_toArray, List.map_cons, List.map_nil]); first | done | rfl | (simp only [List.length_drop, List.length_take]; rfl)) ?_; (with_reducible refine (cmp_isNaN_string.calls a0 false _ A3.out).mono ?_); rintro e w' ⟨rfl, ⟨nd, rfl⟩⟩; refine ⟨_, rfl, ?_⟩) | ((with_reducible refine gate_callee (f := 72) rfl ?_); refine goesL_ (some 10) rfl rfl Tryz.func72 (by kernel_rfl) rfl #[.string a1] rfl (by (try simp only [List.map_toArray, List.map_cons, List.map_nil]); first | done | rfl | (simp only [List.length_drop, List.length_take]; rfl)) ?_; (with_reducible refine (cmp_isNaN_string.calls a1 true _ A4.out).mono ?_); rintro e w' ⟨rfl, ⟨nd, rfl⟩⟩; refine ⟨_, rfl, ?_⟩))
      go_ret
      exact ⟨by first | rfl | (simp; done) | (simp [*]; done), by repeat (first | exact Drawn0.refl _ | apply Drawn0.step)⟩
    · replace c7 := Bool.eq_false_iff.mpr c7
      subst c7
      have H1 : (if (Op.bytesLess a0.toList a1.toList) = true then (some (-1)) else (if (Op.bytesLess a1.toList a0.toList) = true then (some 1) else (some 0))) = some r := by rw [if_neg (show ¬ (false = true) by decide)] at H; exact H
      clear H
      have H := H1
      clear H1
      by_cases c8 : (Op.bytesLess a0.toList a1.toList) = true
      · rw [if_pos c8] at H
        have c8b0 : (Op.bytesLess a0.toList a1.toList) = true := c8
        clear c8
        obtain rfl := Option.some.inj H
        go_enter Tryz.func45, Tryz.ntmps45
        go_wp2_with (first | ((with_reducible refine gate_callee (f := 72) rfl ?_); refine goesL_ (some 8) rfl rfl Tryz.func72 (by kernel_rfl) rfl #[.string a0] rfl (by (try simp only [List.map_toArray, List.map_cons, List.map_nil]); first | done | rfl | (simp only [List.length_drop, List.length_take]; rfl)) ?_; (with_reducible refine (cmp_isNaN_string.calls a0 false _ A3.out).mono ?_); rintro e w' ⟨rfl, ⟨nd, rfl⟩⟩; refine ⟨_, rfl, ?_⟩) | ((with_reducible refine gate_callee (f := 72) rfl ?_); refine goesL_ (some 10) rfl rfl Tryz.func72 (by kernel_rfl) rfl #[.string a1] rfl (by (try simp only [List.map_toArray, List.map_cons, List.map_nil]); first | done | rfl | (simp only [List.length_drop, List.length_take]; rfl)) ?_; (with_reducible refine (cmp_isNaN_string.calls a1 false _ A4.out).mono ?_); rintro e w' ⟨rfl, ⟨nd, rfl⟩⟩; refine ⟨_, rfl, ?_⟩))
        go_ret
        exact ⟨by first | rfl | (simp; done) | (simp [*]; done), by repeat (first | exact Drawn0.refl _ | apply Drawn0.step)⟩
      · rw [if_neg c8] at H
        have c8b0 : (Op.bytesLess a0.toList a1.toList) = false := by simpa using c8
        clear c8
        by_cases c9 : (Op.bytesLess a1.toList a0.toList) = true
        · rw [if_pos c9] at H
          have c9b0 : (Op.bytesLess a1.toList a0.toList) = true := c9
          clear c9
          obtain rfl := Option.some.inj H
          go_enter Tryz.func45, Tryz.ntmps45
          go_wp2_with (first | ((with_reducible refine gate_callee (f := 72) rfl ?_); refine goesL_ (some 8) rfl rfl Tryz.func72 (by kernel_rfl) rfl #[.string a0] rfl (by (try simp only [List.map_toArray, List.map_cons, List.map_nil]); first | done | rfl | (simp only [List.length_drop, List.length_take]; rfl)) ?_; (with_reducible refine (cmp_isNaN_string.calls a0 false _ A3.out).mono ?_); rintro e w' ⟨rfl, ⟨nd, rfl⟩⟩; refine ⟨_, rfl, ?_⟩) | ((with_reducible refine gate_callee (f := 72) rfl ?_); refine goesL_ (some 10) rfl rfl Tryz.func72 (by kernel_rfl) rfl #[.string a1] rfl (by (try simp only [List.map_toArray, List.map_cons, List.map_nil]); first | done | rfl | (simp only [List.length_drop, List.length_take]; rfl)) ?_; (with_reducible refine (cmp_isNaN_string.calls a1 false _ A4.out).mono ?_); rintro e w' ⟨rfl, ⟨nd, rfl⟩⟩; refine ⟨_, rfl, ?_⟩))
          go_ret
          exact ⟨by first | rfl | (simp; done) | (simp [*]; done), by repeat (first | exact Drawn0.refl _ | apply Drawn0.step)⟩
        · rw [if_neg c9] at H
          have c9b0 : (Op.bytesLess a1.toList a0.toList) = false := by simpa using c9
          clear c9
          obtain rfl := Option.some.inj H
          go_enter Tryz.func45, Tryz.ntmps45
          go_wp2_with (first | ((with_reducible refine gate_callee (f := 72) rfl ?_); refine goesL_ (some 8) rfl rfl Tryz.func72 (by kernel_rfl) rfl #[.string a0] rfl (by (try simp only [List.map_toArray, List.map_cons, List.map_nil]); first | done | rfl | (simp only [List.length_drop, List.length_take]; rfl)) ?_; (with_reducible refine (cmp_isNaN_string.calls a0 false _ A3.out).mono ?_); rintro e w' ⟨rfl, ⟨nd, rfl⟩⟩; refine ⟨_, rfl, ?_⟩) | ((with_reducible refine gate_callee (f := 72) rfl ?_); refine goesL_ (some 10) rfl rfl Tryz.func72 (by kernel_rfl) rfl #[.string a1] rfl (by (try simp only [List.map_toArray, List.map_cons, List.map_nil]); first | done | rfl | (simp only [List.length_drop, List.length_take]; rfl)) ?_; (with_reducible refine (cmp_isNaN_string.calls a1 false _ A4.out).mono ?_); rintro e w' ⟨rfl, ⟨nd, rfl⟩⟩; refine ⟨_, rfl, ?_⟩))
          go_ret
          exact ⟨by first | rfl | (simp; done) | (simp [*]; done), by repeat (first | exact Drawn0.refl _ | apply Drawn0.step)⟩

-- NOT PRINTED: function 46 (slices_Clip_string_string)

/-! ### dict_Build_string: function 17 -/
section
open Go.Shelf Go.Sort
def XSortS.so_cf (x y : ByteArray) : Int := if XMapS.lt x y = true then -1 else if XMapS.lt y x = true then 1 else 0
theorem XSortS.so_lt (x y : ByteArray) : ltOf XSortS.so_cf x y = XMapS.lt x y := by
  unfold ltOf XSortS.so_cf
  cases h1 : XMapS.lt x y with
  | true => simp
  | false => cases h2 : XMapS.lt y x <;> simp
theorem XSortS.so_swo : SWO (ltOf XSortS.so_cf) where
  irrefl x := by rw [XSortS.so_lt]; exact XMapS.lt_irrefl x
  trans x y z h1 h2 := by rw [XSortS.so_lt] at *; exact XMapS.lt_trans h1 h2
  ntrans x y z h1 h2 := by
    rw [XSortS.so_lt] at *
    cases e : XMapS.lt x z with
    | false => rfl
    | true =>
      cases e2 : XMapS.lt y x with
      | true => have := XMapS.lt_trans e2 e; rw [h2] at this; cases this
      | false => have := XMapS.lt_tri h1 e2; subst this; rw [h2] at e; cases e
theorem XSortS.so_tot (x y : ByteArray) (h1 : ltOf XSortS.so_cf x y = false) (h2 : ltOf XSortS.so_cf y x = false) : x = y := by rw [XSortS.so_lt] at *; exact XMapS.lt_tri h1 h2
theorem XSortS.so_le : (fun x y : ByteArray => !ltOf XSortS.so_cf y x) = fun x y => !XMapS.lt y x := by
  funext x y
  rw [XSortS.so_lt]
theorem XSortS.so_cmp (x y : ByteArray) : cmp_Compare_string.f x y = some (XSortS.so_cf x y) := by
  unfold cmp_Compare_string.f cmp_isNaN_string.f XSortS.so_cf XMapS.lt
  cases h1 : Op.bytesLess x.toList y.toList <;> cases h2 : Op.bytesLess y.toList x.toList <;> simp
set_option maxHeartbeats 1000000 in
theorem XSortS.so_sort (A : Option Addr) (c : Nat) (ks : List ByteArray) (W : World) (base : Nat) (hR : Kd.string.R 9 W base (fun _ => True) (.slice A ks.length c) ks) (hb : base ≤ W.heap.size) (hl : ks.length < 4294967296) :
    Calls Tryz.prog 44 #[.slice A ks.length c, .func (.func 45) #[] #[]] W fun e w' => e = .returned (.tuple #[]) ∧ Kd.string.R 9 w' base (fun _ => True) (.slice A ks.length c) (ks.mergeSort fun x y => !XMapS.lt y x) ∧ W.grownBy w' (Value.slice A ks.length c).ownBlock ∧ ∀ k, (Value.slice A ks.length c).ownBlock = some k → base ≤ k := by
  have ho := Kd.own_of_R hR
  have eg : ∀ args w, (callFunc 45 args).run Tryz.prog w = .ok (.enter 45 args) w := enters_of Tryz.func45 (by kernel_rfl) rfl
  rcases ho.2 with ⟨hnil, _⟩ | ⟨g, cap, cur, he, hbase, hh, h1, h2, h3, h4⟩
  · injection hnil with e1 e2 e3
    obtain rfl : ks = [] := List.eq_nil_of_length_eq_zero e2
    have h := AnyF.slices_SortFunc_none (P := Tryz.prog) (ρ := Tryz.sortS_ren) { Tryz.sortS with } A c (.func (.func 45) #[] #[]) W
    change Calls Tryz.prog 44 _ _ _ at h
    refine h.mono ?_
    rintro e w' ⟨rfl, rfl⟩
    exact ⟨rfl, by simpa using hR, ⟨rfl, rfl, rfl, Nat.le_refl _, fun k _ _ => rfl⟩, fun k hk => (ho.lt k hk).1⟩
  · injection he with e1 e2 e3
    subst e1 e3
    have hcmp : CmpReads Tryz.prog 45 #[] (Value.string) XSortS.so_cf g 0 ks.toArray.size W := fun _ _ _ _ x y => by
      exact (cmp_Compare_string.calls x y _ _ (XSortS.so_cmp x y)).mono fun e w' ⟨he, hw⟩ => ⟨he, hw.out⟩
    have h := Any.slices_SortFunc_total Tryz.sortS (Value.string) (fun _ => rfl) XSortS.so_cf XSortS.so_swo 45 #[] g 0 c ks.toArray W eg hcmp.lays (XSort.so_holds hh (by simpa [encs] using h4)) ((Array.getElem?_eq_some_iff.1 hh).1) (by simp; omega) XSortS.so_tot
    rw [XSortS.so_le] at h
    change Calls Tryz.prog 44 _ _ _ at h
    refine (show Calls Tryz.prog 44 #[.slice (some ⟨g, 0, none⟩) ks.length c, .func (.func 45) #[] #[]] W _ from h).mono ?_
    rintro e w' ⟨rfl, n, os, rfl⟩
    exact ⟨rfl, Kd.R_of_own (h1 := fun _ => rfl) (by
      have ho' := XSort.so_owns (enc := Value.string) (n := n) (os := os) (ts := ks.mergeSort fun x y => !XMapS.lt y x) (List.length_mergeSort ks) hbase hh h1 h2 h3
      rw [List.length_mergeSort]; exact ho') (fun _ _ => trivial), XSort.so_grownBy _, fun k hk => (ho.lt k hk).1⟩
end

theorem XBuildS.law : Maps.Keyed Tryz.prog 9 := Maps.string_keyed Tryz.underlying9
theorem XBuildS.zeroI (w : World) : (zeroValue 3).run Tryz.prog w = .ok (.int .i64 0) w := by kernel_rfl
theorem XBuildS.zeroU (w : World) : (zeroValue 37).run Tryz.prog w = .ok (.int .u32 0) w := by kernel_rfl
theorem XBuildS.infoU : (Tryz.prog.info? 37).map (fun i => (i.zero, i.size, i.bytes)) = some (some (.int .u32 0), 1, 4) := by kernel_rfl
theorem XBuildS.info64 : (Tryz.prog.info? 9).map (fun i => (i.zero, i.size, i.bytes)) = some (some (.string ⟨#[]⟩), 1, 16) := by kernel_rfl
/-- what the first map says when i elements were met: of each of them a place at which it stands -/
def XBuildS.Good (l : List ByteArray) (i : Nat) (f : ByteArray → Option Int) : Prop := (∀ x, (f x).isSome = true ↔ x ∈ l.take i) ∧ ∀ x c, f x = some c → ∃ j : Nat, c = (j : Int) ∧ l[j]? = some x
theorem XBuildS.Good.zero (l : List ByteArray) : XBuildS.Good l 0 (fun _ => none) := ⟨fun x => by simp, fun x c h => by cases h⟩
theorem XBuildS.Good.old {l : List ByteArray} {i : Nat} {f : ByteArray → Option Int} (h : XBuildS.Good l i f) (hi : i < l.length) (hf : (f l[i]).isSome = true) : XBuildS.Good l (i + 1) f :=
  ⟨fun x => by
    rw [List.take_succ_eq_append_getElem hi, List.mem_append, List.mem_singleton, ← h.1 x]
    constructor
    · exact .inl
    · rintro (h' | rfl)
      · exact h'
      · exact hf, h.2⟩
theorem XBuildS.Good.new {l : List ByteArray} {i : Nat} {f : ByteArray → Option Int} (h : XBuildS.Good l i f) (hi : i < l.length) : XBuildS.Good l (i + 1) (fun y => if y = l[i] then some (i : Int) else f y) :=
  ⟨fun x => by
    rw [List.take_succ_eq_append_getElem hi, List.mem_append, List.mem_singleton, ← h.1 x]
    by_cases e : x = l[i]
    · simp [e]
    · simp [e], fun x c hc => by
    by_cases e : x = l[i]
    · simp only [e, if_true, Option.some.injEq] at hc
      exact ⟨i, hc.symm, by rw [e]; exact List.getElem?_eq_getElem hi⟩
    · simp only [e, if_false] at hc
      exact h.2 x c hc⟩
/-- a value's code: which of the keys it is -/
def XBuildS.code (SK : List ByteArray) (x : ByteArray) : Int := (SK.idxOf x : Nat)
theorem XBuildS.Good.code {SK : List ByteArray} {g : ByteArray → Option Int} (h : XBuildS.Good SK SK.length g) (hn : SK.Nodup) {x : ByteArray} (hx : x ∈ SK) : g x = some (XBuildS.code SK x) := by
  have h1 := (h.1 x).2 (by rw [List.take_length]; exact hx)
  obtain ⟨c, hc⟩ := Option.isSome_iff_exists.1 h1
  obtain ⟨j, rfl, hj⟩ := h.2 x c hc
  obtain ⟨hjl, hje⟩ := List.getElem?_eq_some_iff.1 hj
  have h2 : SK.idxOf x < SK.length := List.idxOf_lt_length_iff.2 hx
  have h3 : SK[SK.idxOf x] = x := List.getElem_idxOf h2
  have h4 : j = SK.idxOf x := by
    have hp := List.pairwise_iff_getElem.1 hn
    rcases Nat.lt_trichotomy j (SK.idxOf x) with h | h | h
    · exact absurd (hje.trans h3.symm) (hp _ _ hjl h2 h)
    · exact h
    · exact absurd (h3.trans hje.symm) (hp _ _ h2 hjl h)
  rw [hc, XBuildS.code, ← h4]
theorem XBuildS.setCodes (L : List Int) (i : Nat) (hi : i < L.length) : (L.take i ++ List.replicate (L.length - i) (0 : Int)).set i L[i] = L.take (i + 1) ++ List.replicate (L.length - (i + 1)) 0 := by
  rw [List.take_succ_eq_append_getElem hi, show L.length - i = (L.length - (i + 1)) + 1 by omega, List.replicate_succ, List.set_append_right _ _ (by simp; omega)]
  rw [List.length_take, show i - min i L.length = 0 by omega, List.set_cons_zero, List.append_assoc]; rfl
/-- slices.SortFunc by cmp.Compare over one's own row -/
def XBuildS.SortC : Prop := ∀ (A : Option Addr) (c : Nat) (ks : List ByteArray) (W : World) (base : Nat), Kd.string.R 9 W base (fun _ => True) (.slice A ks.length c) ks → base ≤ W.heap.size → ks.length < 4294967296 →
  Calls Tryz.prog 44 #[.slice A ks.length c, .func (.func 45) #[] #[]] W fun e w' => e = .returned (.tuple #[]) ∧ Kd.string.R 9 w' base (fun _ => True) (.slice A ks.length c) (ks.mergeSort fun x y => !XMapS.lt y x) ∧ W.grownBy w' (Value.slice A ks.length c).ownBlock ∧ ∀ k, (Value.slice A ks.length c).ownBlock = some k → base ≤ k
set_option maxHeartbeats 4000000 in
set_option maxRecDepth 100000 in
theorem XBuildS.clip (A : Option Addr) (n c : Nat) (w : World) (hc : n ≤ c) : Calls Tryz.prog 46 #[.slice A n c] w fun e w' => e = .returned (.slice A n n) ∧ w' = w := by
  go_enter Tryz.func46, Tryz.ntmps46
  go_wp2_with fail
  refine bodyPost_ret (results_tmp rfl _ _ _) rfl ?_
  exact ⟨rfl, rfl⟩
set_option maxHeartbeats 4000000 in
set_option maxRecDepth 100000 in
theorem XBuildS.build (A0 : Option Addr) (c0 : Nat) (l0 : List ByteArray) (w : World) (hr0 : Kd.C Kd.string w A0 l0.length l0) (hc0 : l0.length ≤ c0) (hw : ∀ x ∈ l0, x.size ≤ maxLen) (hl : l0.length < 4294967296) (hsort : XBuildS.SortC) :
    Calls Tryz.prog 17 #[.slice A0 l0.length c0] w fun e w' => ∃ (Ak : Option Addr) (b : Nat) (SK : List ByteArray), SK = XMapS.keysOf l0 ∧ e = .returned (.tuple #[.slice Ak SK.length SK.length, .slice (some ⟨b, 0, none⟩) l0.length l0.length]) ∧ Kd.C Kd.string w' Ak SK.length SK ∧ (Kd.int .u32).R 37 w' w.heap.size (fun _ => True) (.slice (some ⟨b, 0, none⟩) l0.length l0.length) (l0.map (XBuildS.code SK)) ∧ ((∀ g, (Value.slice Ak SK.length SK.length).ownBlock = some g → w.heap.size ≤ g ∧ g ≠ b) ∧ XApartW.ownsW w' w.heap.size 9 (.slice Ak SK.length SK.length) SK.length (encs Value.string SK)) ∧ Below w.heap.size w w' := by
  have HR0 := Aside0.mk hr0
  have HW := Aside0.mk hw
  clear hr0 hw
  have hmm := @run_makeMap Tryz.prog
  go_enter Tryz.func17, Tryz.ntmps17
  go_wp2_with fail
  (try simp only [add_plain])
  go_loopg [5, 21] (l0.length + 1) (fun kq v5 v21 w' => ∃ (i : Nat) (D : DataW Nat) (f : ByteArray → Option Int), i ≤ l0.length ∧ v5 = .slice none 0 0 ∧ Aside0 (kq + i = l0.length + 1) ∧ v21 = .int .i64 (i : Int) ∧ Aside0 (w'.ownsMap Tryz.prog 9 (plainElem Tryz.prog 3) w.heap.size i D) ∧ Aside0 (XMapS.Rep .i64 D f) ∧ Aside0 (XBuildS.Good l0 i f) ∧ Aside0 (Below w.heap.size w w'))
  case atStart => exact ⟨0, .map [], fun _ => none, Nat.zero_le _, rfl, ⟨by omega⟩, rfl, ⟨World.ownsMap_made _ _ _ _⟩, ⟨XMapS.Rep.empty _⟩, ⟨XBuildS.Good.zero _⟩, ⟨below_alloc (Below.refl _ _) _⟩⟩
  case round =>
    clear hmm
    obtain ⟨i, D, f, hi, rfl, HK, rfl, HM, HF, HG, HB⟩ := hrel
    by_cases hlt : i < l0.length
    · have hd : decide ((i : Int) < (l0.length : Int)) = true := decide_eq_true (by omega)
      obtain ⟨k1, rfl⟩ : ∃ k1, gk = k1 + 1 := ⟨gk - 1, by have := HK.out; omega⟩
      obtain ⟨ad, e0, hx⟩ := Kd.at_string (Kd.C_below HR0.out HB.out) (i : Int) (by omega) (by omega)
      cases e0
      rw [Int.toNat_natCast, show rdOf ByteArray.empty l0 (i : Int) = l0[i] from by simp [rdOf, hlt]] at hx
      have hwx := HW.out l0[i] (List.getElem_mem hlt)
      have hk := WideMaps.keyOf_string_mk (P := Tryz.prog) (k := 9) Tryz.underlying9 hwx
      have hnew := Aside0.mk (HG.out.new hlt)
      have hold := Aside0.mk (HG.out.old hlt)
      have hh := HF.out.has_ l0[i]
      have hlen := hlt
      generalize l0[i] = x at hx hwx hk hnew hold hh
      by_cases hs : (f x).isSome = true
      · rw [hs] at hh
        have HG' := Aside0.mk (hold.out hs)
        clear hnew hold hs HG
        go_wp2_with (at_lookup; refine wpList_lookup_own_ok_int _ rfl _ _ 81 rfl 9 3 .i64 XBuildS.law Tryz.underlying81 Tryz.underlying3 (XBuildS.zeroI _) w.heap.size i D rfl HM.out _ _ rfl hk ?_; intro c hat hwc; rw [hh])
        go_roundg k1
        case measure => have := HK.out; omega
        case rel => exact ⟨i + 1, D, f, by omega, rfl, ⟨by have := HK.out; omega⟩, congrArg (Value.int .i64) (by omega), ⟨HM.out.mono (Nat.le_succ _)⟩, HF, HG', HB⟩
      · have hsf : (f x).isSome = false := by simpa using hs
        rw [hsf] at hh
        clear hold hs HG
        go_wp2_with (first | (at_lookup; refine wpList_lookup_own_ok_int _ rfl _ _ 81 rfl 9 3 .i64 XBuildS.law Tryz.underlying81 Tryz.underlying3 (XBuildS.zeroI _) w.heap.size i D rfl HM.out _ _ rfl hk ?_; intro c hat hwc; rw [hh]) | (at_mapUpdate; refine wpList_mapUpdate_own _ rfl _ _ _ 81 rfl 9 3 XBuildS.law Tryz.underlying81 _ w.heap.size i D rfl HM.out (by unfold maxLen; omega) _ _ _ rfl rfl hk _ [] (plainElem_int Tryz.underlying3 (WalkArith.wf_i64 (by omega))) ?_; intro w1 hown1 hgrow1))
        have HM' := Aside0.mk hown1
        have HF' := Aside0.mk (HF.out.put x (i : Int))
        have HB' := Aside0.mk (HB.out.grown hgrow1 HB.out.size (fun j hj => by cases hj; exact Nat.le_refl _))
        clear hown1 hgrow1
        go_roundg k1
        case measure => have := HK.out; omega
        case rel => exact ⟨i + 1, _, _, by omega, rfl, ⟨by have := HK.out; omega⟩, congrArg (Value.int .i64) (by omega), HM', HF', hnew, HB'⟩
    · obtain rfl : i = l0.length := by omega
      have hd : decide ((l0.length : Int) < (l0.length : Int)) = false := decide_eq_false (by omega)
      have hsz := HM.out.size_le
      go_wp2_with (at_range; refine wpList_range_own _ rfl _ 81 rfl 9 3 XBuildS.law Tryz.underlying81 _ w.heap.size l0.length D rfl HM.out ?_; intro w2 hrg hg2 hs2)
      go_frame
      have HRG := Aside0.mk hrg
      have HB2 := Aside0.mk (HB.out.grown hg2 HB.out.size (fun j hj => by cases hj))
      have HS2 := Aside0.mk hs2
      have HSZ := Aside0.mk hsz
      have hrb := HB.out.size
      generalize wr.heap.size = r at HRG HS2 hrb ⊢
      clear hrg hg2 hs2 hsz HM HB HK
      (try simp only [add_plain])
      go_loopg [5] (Maps.size D + 1) (fun kq v5 w' => ∃ (left : Lit → Bool) (cnt : Nat) (ks : List ByteArray), Aside0 (cnt < kq) ∧ Aside0 (ks.length + cnt ≤ l0.length) ∧ Aside0 (w'.ranges Tryz.prog 9 (plainElem Tryz.prog 3) w.heap.size r l0.length D left cnt) ∧ Aside0 (XMapS.Coll f left ks) ∧ Aside0 (Kd.string.R 9 w' (r + 1) (fun _ => True) v5 ks) ∧ Aside0 (Below w.heap.size w w') ∧ Aside0 (r + 1 ≤ w'.heap.size))
      case atStart => exact ⟨_, _, [], ⟨by omega⟩, ⟨by have := HSZ.out; simp; omega⟩, HRG, ⟨XMapS.Coll.start HF.out⟩, ⟨Kd.R_nil _ _ _ _ _⟩, HB2, ⟨by have := HS2.out; omega⟩⟩
      case round =>
        clear HRG HB2 HSZ HS2
        obtain ⟨left, cnt, ks, HK2, HL2, HRG, HC, HR, HBw, HSz⟩ := hrel
        obtain ⟨Ak, ck, rfl⟩ := Kd.R_slice HR.out
        obtain ⟨k2, rfl⟩ : ∃ k2, gk = k2 + 1 := ⟨gk - 1, by have := HK2.out; omega⟩
        go_wp2_with (at_next; refine XMapS.wpList_next_ranges_si _ rfl _ rfl 9 3 .i64 XBuildS.law Tryz.underlying9 Tryz.underlying3 w.heap.size r l0.length _ _ _ rfl HRG.out ?_ ?_)
        · intro hc0 hl0
          have hm : ∀ x, x ∈ ks ↔ x ∈ l0 := fun x => by rw [HC.out.2 x, hl0, HG.out.1 x, List.take_length]; simp
          have HKS := Aside0.mk (XMapS.sorted_keys HC.out.1 hm)
          have HKL : Aside0 (ks.length ≤ l0.length) := ⟨by have := HL2.out; omega⟩
          clear hm hl0 hc0 HC HL2 HK2 HRG HG HF
          go_wp2_with fail
          refine (hsort Ak ck ks wr (r + 1) HR.out HSz.out (by have := HKL.out; omega)).mono ?_
          rintro e w3 ⟨rfl, hR3, hb3, hz3⟩
          have HR3 := Aside0.mk hR3
          have HB3 := Aside0.mk (HBw.out.grown hb3 HBw.out.size (fun k hk => by have := hz3 k hk; omega))
          have HSz3 := Aside0.mk (Nat.le_trans HSz.out hb3.size)
          rw [HKS.out] at HR3
          have hKL := (HKS.out ▸ List.length_mergeSort ks : (XMapS.keysOf l0).length = ks.length)
          clear hR3 hb3 hz3 HR HBw HSz
          have hmk := @run_makeMap_hint_ Tryz.prog 84 9 37 Tryz.underlying84
          generalize hSK : XMapS.keysOf l0 = SK at HR3 hKL
          have HSK := Aside0.mk hSK
          have hkl := HKL.out
          clear hSK HKS HKL
          go_wp2_with fail
          clear hmk
          have HB4 := Aside0.mk (below_alloc HB3.out (.map #[] 0))
          have HR4 := Aside0.mk (Kd.R_below HR3.out (below_alloc (Below.refl w3.heap.size w3) (.map #[] 0)))
          have HM4 : Aside0 ((w3.alloc (.map #[] 0)).ownsMap Tryz.prog 9 (plainElem (H := Nat) Tryz.prog 37) w3.heap.size 0 (.map [])) := ⟨World.ownsMap_made _ _ _ _⟩
          have hb3 : w.heap.size ≤ w3.heap.size := HB3.out.size
          have HNB : Aside0 (∀ g, (Value.slice Ak ks.length ck).ownBlock = some g → g < w3.heap.size) := ⟨fun g hg => own_lt (Kd.own_of_R HR3.out) g hg⟩
          generalize w3.alloc (.map #[] 0) = w4 at HB4 HR4 HM4 ⊢
          generalize w3.heap.size = B2 at HM4 hb3 HSz3 HNB ⊢
          clear HR3 HB3
          (try simp only [add_plain])
          go_loopg [68] (ks.length + 1) (fun kq v68 w' => ∃ (i : Nat) (D : DataW Nat) (g : ByteArray → Option Int), i ≤ ks.length ∧ Aside0 (kq + i = ks.length + 1) ∧ v68 = .int .i64 (i : Int) ∧ Aside0 (w'.ownsMap Tryz.prog 9 (plainElem Tryz.prog 37) B2 i D) ∧ Aside0 (XMapS.Rep .u32 D g) ∧ Aside0 (XBuildS.Good SK i g) ∧ Aside0 (Kd.string.R 9 w' (r + 1) (fun _ => True) (.slice Ak ks.length ck) SK) ∧ Aside0 (Below w.heap.size w w'))
          case atStart => exact ⟨0, .map [], fun _ => none, Nat.zero_le _, ⟨by omega⟩, rfl, HM4, ⟨XMapS.Rep.empty _⟩, ⟨XBuildS.Good.zero _⟩, HR4, HB4⟩
          case round =>
            clear HM4 HR4 HB4
            obtain ⟨i, D, g, hi, HK, rfl, HM, HF, HG, HR, HB⟩ := hrel
            by_cases hlt : i < ks.length
            · have hd : decide ((i : Int) < (ks.length : Int)) = true := decide_eq_true (by omega)
              obtain ⟨k3, rfl⟩ : ∃ k3, gk = k3 + 1 := ⟨gk - 1, by have := HK.out; omega⟩
              have hC := (Kd.R_reads' HR.out).2.2
              obtain ⟨ad, e0, hx⟩ := Kd.at_string hC (i : Int) (by omega) (by omega)
              rw [Int.toNat_natCast, show rdOf ByteArray.empty SK (i : Int) = SK[i]'(by omega) from by simp [rdOf, show i < SK.length by omega]] at hx
              have hwx := HW.out (SK[i]'(by omega)) ((XMapS.keysOf_spec l0).2 _ |>.1 (by rw [HSK.out]; exact List.getElem_mem _))
              have hk := WideMaps.keyOf_string_mk (P := Tryz.prog) (k := 9) Tryz.underlying9 hwx
              have hnew := Aside0.mk (HG.out.new (show i < SK.length by omega))
              have hwr : IntKind.u32.wrap (i : Int) = (i : Int) := by simp [IntKind.wrap, IntKind.bits, IntKind.signed]; omega
              generalize SK[i]'(by omega) = x at hx hwx hk hnew
              cases Ak with
              | none => cases e0
              | some ak =>
                cases e0
                clear hC HG
                go_wp2_with (at_mapUpdate; refine wpList_mapUpdate_own _ rfl _ _ _ 84 rfl 9 37 XBuildS.law Tryz.underlying84 _ B2 i D rfl HM.out (by unfold maxLen; omega) _ _ _ rfl rfl hk _ [] (plainElem_int Tryz.underlying37 (WalkArith.wf_u32 (by omega))) ?_; intro w5 hown5 hg5)
                have HR' := Aside0.mk (Kd.R_of_own (h1 := fun _ => rfl) (ok := fun _ => True) ((Kd.own_of_R HR.out).kept hg5 (by
                  cases hb : (Value.slice (some ad) ks.length ck).ownBlock with
                  | none => exact .inl rfl
                  | some g => exact .inr (fun e => by have := HNB.out g hb; cases e; omega))) (fun _ _ => trivial))
                have HB' := Aside0.mk (HB.out.grown hg5 HB.out.size (fun k hk => by cases hk; exact hb3))
                have HM' := Aside0.mk hown5
                have HF' := Aside0.mk (HF.out.put x (i : Int))
                clear hown5 hg5 HR HB HM HF
                go_roundg k3
                case measure => have := HK.out; omega
                case rel => exact ⟨i + 1, _, _, by omega, ⟨by have := HK.out; omega⟩, congrArg (Value.int .i64) (by omega), HM', HF', hnew, HR', HB'⟩
            · obtain rfl : i = ks.length := by omega
              have hd : decide ((ks.length : Int) < (ks.length : Int)) = false := decide_eq_false (by omega)
              have hmk := print_make_of (P := Tryz.prog) 34 37 (.int .u32 0) 4 Tryz.underlying34 XBuildS.infoU rfl (by decide) l0.length (by omega)
              go_wp2_with fail
              clear hmk
              have HB5 := Aside0.mk (below_alloc HB.out (.cells (madeCells #[.int .u32 0] l0.length) 37))
              have HR5 := Aside0.mk (Kd.R_below HR.out (below_alloc (Below.refl wr.heap.size wr) (.cells (madeCells #[.int .u32 0] l0.length) 37)))
              have HM5 := Aside0.mk (HM.out.alloc (.cells (madeCells #[.int .u32 0] l0.length) 37))
              have hmb : B2 < wr.heap.size := HM.out.lt
              have HC5 : Aside0 ((Kd.int .u32).R 37 (wr.alloc (.cells (madeCells #[.int .u32 0] l0.length) 37)) wr.heap.size (fun _ => True) (.slice (some ⟨wr.heap.size, 0, none⟩) l0.length l0.length) (List.replicate l0.length 0)) :=
                ⟨Kd.R_of_own (h1 := fun _ => rfl) (own_made_of' (enc := Value.int .u32) (d := 0) wr wr.heap.size 37 l0.length (Nat.le_refl _) (by omega)) (fun _ _ => trivial)⟩
              generalize wr.alloc (.cells (madeCells #[.int .u32 0] l0.length) 37) = w5 at HB5 HR5 HM5 HC5 ⊢
              have hb5 := HB.out.size
              have HNB5 : Aside0 (∀ g, (Value.slice Ak ks.length ck).ownBlock = some g → g < wr.heap.size) := ⟨fun g hg => own_lt (Kd.own_of_R HR.out) g hg⟩
              generalize wr.heap.size = B3 at HC5 hb5 hmb HNB5 ⊢
              clear HB HR HM HNB HK
              have hnd : SK.Nodup := by rw [← HSK.out]; exact (XMapS.keysOf_spec l0).1.imp XMapS.lt_ne
              have hcd : ∀ x ∈ l0, g x = some (XBuildS.code SK x) := fun x hx => (hKL ▸ HG.out).code hnd (by rw [← HSK.out]; exact ((XMapS.keysOf_spec l0).2 x).2 hx)
              clear HG hnd
              (try simp only [add_plain])
              go_loopg [83] (l0.length + 1) (fun kq v83 w' => ∃ (i : Nat) (Z : List Int), i ≤ l0.length ∧ Aside0 (kq + i = l0.length + 1) ∧ v83 = .int .i64 (i : Int) ∧ Aside0 (Z = (l0.map (XBuildS.code SK)).take i ++ List.replicate ((l0.map (XBuildS.code SK)).length - i) (0 : Int)) ∧ Aside0 (w'.ownsMap Tryz.prog 9 (plainElem Tryz.prog 37) B2 ks.length D) ∧ Aside0 (Kd.string.R 9 w' (r + 1) (fun _ => True) (.slice Ak ks.length ck) SK) ∧ Aside0 ((Kd.int .u32).R 37 w' B3 (fun _ => True) (.slice (some ⟨B3, 0, none⟩) l0.length l0.length) Z) ∧ Aside0 (Below w.heap.size w w'))
              case atStart => exact ⟨0, _, Nat.zero_le _, ⟨by omega⟩, rfl, ⟨by simp⟩, HM5, HR5, HC5, HB5⟩
              case round =>
                clear HM5 HR5 HB5 HC5
                obtain ⟨i, Z, hi, HK, rfl, HZ, HM, HR, HC, HB⟩ := hrel
                by_cases hlt : i < l0.length
                · have hd : decide ((i : Int) < (l0.length : Int)) = true := decide_eq_true (by omega)
                  obtain ⟨k4, rfl⟩ : ∃ k4, gk = k4 + 1 := ⟨gk - 1, by have := HK.out; omega⟩
                  obtain ⟨ad, e0, hx⟩ := Kd.at_string (Kd.C_below HR0.out HB.out) (i : Int) (by omega) (by omega)
                  cases e0
                  rw [Int.toNat_natCast, show rdOf ByteArray.empty l0 (i : Int) = l0[i] from by simp [rdOf, hlt]] at hx
                  have hwx := HW.out l0[i] (List.getElem_mem hlt)
                  have hk := WideMaps.keyOf_string_mk (P := Tryz.prog) (k := 9) Tryz.underlying9 hwx
                  have hat0 := HF.out.at_ l0[i] (.lit (.int .u32 0))
                  rw [hcd _ (List.getElem_mem hlt)] at hat0
                  have hZ := Aside0.mk (XBuildS.setCodes (l0.map (XBuildS.code SK)) i (by simpa using hlt))
                  rw [List.getElem_map] at hZ
                  rw [← HZ.out] at hZ
                  have hlen := hlt
                  generalize l0[i] = x at hx hwx hk hat0 hZ
                  generalize XBuildS.code SK x = y at hat0 hZ
                  obtain ⟨hx10, hf10⟩ := Kd.R_celln 0 HC.out (i : Int) (by omega) (by omega)
                  have HP := Kd.R_putg HC.out (i : Int) y
                  rw [Int.toNat_natCast] at hx10 hf10 HP
                  have hwr : IntKind.u32.wrap (i : Int) = (i : Int) := by simp [IntKind.wrap, IntKind.bits, IntKind.signed]; omega
                  go_wp2_with (first
                    | (at_lookup; refine wpList_lookup_own_int _ rfl _ _ 84 rfl 9 37 .u32 XBuildS.law Tryz.underlying84 Tryz.underlying37 (XBuildS.zeroU _) B2 ks.length D rfl HM.out _ _ rfl hk ?_; intro c hat hwc; (obtain rfl : y = c := by (rw [hat0] at hat; injection hat with hat; injection hat with _ hat)); clear hat hat0)
                    | ((with_reducible refine gate_store (t := 37) (p := 93) rfl ?_); refine store_event (t := 37) (p := 93) (v := ?vo_w12) (w1 := (wr.setCell ⟨B3, i, none⟩ (.int .u32 y))) ?hg ?ho ?hn ?hr ?_; (case ho => rfl); (case hg => rfl); (case hn => rfl); (case hr => first | (go_simp; done) | (go_simp; rfl)); intro w12 hw; have hg12 : wr.grownBy w12 (some B3) := (by rw [hw]; exact HP.2); have HC' := Aside0.mk (show (Kd.int .u32).R 37 w12 B3 (fun _ => True) (.slice (some ⟨B3, 0, none⟩) l0.length l0.length) (Z.set i y) from (by rw [hw]; exact HP.1)); clear hw HP HC; have HG12 := Aside0.mk hg12; clear hg12))
                  have hg12 := HG12.out
                  have HR' := Aside0.mk (Kd.R_of_own (h1 := fun _ => rfl) (ok := fun _ => True) ((Kd.own_of_R HR.out).kept hg12 (by
                    cases hb : (Value.slice Ak ks.length ck).ownBlock with
                    | none => exact .inl rfl
                    | some g => exact .inr (fun e => by have := HNB5.out g hb; cases e; omega))) (fun _ _ => trivial))
                  have HB' := Aside0.mk (HB.out.grown hg12 HB.out.size (fun k hk => by cases hk; exact hb5))
                  have HM' := Aside0.mk (HM.out.kept hg12 (fun e => by cases e; omega))
                  clear hg12 HG12 HR HB HM
                  go_roundg k4
                  case measure => have := HK.out; omega
                  case rel => exact ⟨i + 1, _, by omega, ⟨by have := HK.out; omega⟩, congrArg (Value.int .i64) (by omega), hZ, HM', HR', HC', HB'⟩
                · obtain rfl : i = l0.length := by omega
                  have hd : decide ((l0.length : Int) < (l0.length : Int)) = false := decide_eq_false (by omega)
                  go_wp2_with fail
                  have hck := (Kd.R_reads' HR.out).2.1
                  refine (XBuildS.clip Ak ks.length ck wr hck).mono ?_
                  rintro e w6 ⟨rfl, rfl⟩
                  go_wp2_with fail
                  refine bodyPost_ret (results_tmp2 rfl _ _ _) rfl ?_
                  have hZ0 := HZ.out
                  rw [List.take_of_length_le (by simp), show (l0.map (XBuildS.code SK)).length - l0.length = 0 by simp, List.replicate_zero, List.append_nil] at hZ0
                  have hCk := (Kd.R_reads' HR.out).2.2
                  have hbk : ∀ g, (Value.slice Ak SK.length SK.length).ownBlock = some g → w.heap.size ≤ g ∧ g ≠ B3 := fun g hg => by
                    have hg' : (Value.slice Ak ks.length ck).ownBlock = some g := by
                      cases Ak with
                      | none => simp [Value.ownBlock] at hg
                      | some a => exact hg
                    have h1 := HNB5.out g hg'
                    have h2 := ((Kd.own_of_R HR.out).lt g hg').1
                    omega
                  have hOW : XApartW.ownsW w6 w.heap.size 9 (.slice Ak SK.length SK.length) SK.length (encs Value.string SK) := by
                    have h1 := Kd.own_of_R HR.out
                    rw [← hKL] at h1
                    exact XRowsW.less (XApartW.ownsW.clip h1) (by omega)
                  exact ⟨Ak, B3, SK, HSK.out.symm, by rw [hKL]; rfl, hCk, hZ0 ▸ Kd.R_lower HC.out hb5, ⟨hbk, hOW⟩, HB.out⟩
        · intro x c w3 cnt3 hwx hwc hlx hat hrg3 hlt3 hg3 hs3 hen
          have hfx : f x = some c := by
            have h1 := HF.out.at_ x .nil
            rw [hat] at h1
            cases e : f x with
            | none => rw [e] at h1; cases h1
            | some c' => rw [e] at h1; simp at h1; rw [h1]
          obtain ⟨j, rfl, hj⟩ := HG.out.2 x c hfx
          obtain ⟨hjl, hje⟩ := List.getElem?_eq_some_iff.mp hj
          have HBw3 := Aside0.mk (HBw.out.grown hg3 HBw.out.size (fun k hk => by cases hk; exact hrb))
          have hown := Kd.own_of_R HR.out
          have hne : ∀ g, (Value.slice Ak ks.length ck).ownBlock = some g → r + 1 ≤ g := fun g hg => (hown.lt g hg).1
          have HR3 := Aside0.mk (Kd.R_of_own (h1 := fun _ => rfl) (ok := fun _ => True) (hown.kept hg3 (by
            cases hb : (Value.slice Ak ks.length ck).ownBlock with
            | none => exact .inl rfl
            | some g => exact .inr (fun e => by have := hne g hb; cases e; omega))) (fun _ _ => trivial))
          have HNE := Aside0.mk hne
          have HC3 := Aside0.mk (HC.out.step (by rw [hfx]; rfl) hlx)
          have HRG3 := Aside0.mk hrg3
          have HSz3 := Aside0.mk (Nat.le_trans HSz.out (Nat.le_of_eq hs3.symm))
          obtain ⟨ad, e0, hx⟩ := Kd.at_string (Kd.C_below HR0.out HBw3.out) (j : Int) (by omega) (by omega)
          cases e0
          rw [Int.toNat_natCast, show rdOf ByteArray.empty l0 (j : Int) = x from by simp [rdOf, hjl, hje]] at hx
          have hj0 : (0 : Int) ≤ (j : Int) := by omega
          have hj1 : (j : Int) < (l0.length : Int) := by omega
          clear hat hrg3 hg3 hs3 hfx hj hje hown hne HC HRG HBw HSz HR hlx
          go_wp2_with ((with_reducible refine gate_builtin (b := .append) (xs := #[.tmp 54, .tmp 59]) rfl ?_); at_builtin; refine Kd.R_append Kd.string (w0 := w3) (r + 1) rfl (.tmp 54) (.tmp 59) 23 9 (.string ⟨#[]⟩) 16 rfl Tryz.underlying23 XBuildS.info64 rfl (by decide) (by decide) (.slice Ak ks.length ck) ks x [.string x] (fun _ => True) (fun _ => False) rfl rfl rfl (fun _ h => h.elim) (fun _ _ => trivial) HR3.out (Below.refl _ _) HSz3.out (by have := HL2.out; omega) ?_; intro v4 w4 ho hb hg hat)
          have HRG4 := Aside0.mk (HRG3.out.kept hg (fun e => by have := HNE.out _ e.symm; omega) (fun e => by have := HNE.out _ e.symm; omega))
          have HBw4 := Aside0.mk (HBw3.out.grown hg HBw3.out.size (fun k hk => by have := HNE.out k hk; omega))
          have HSz4 := Aside0.mk (Nat.le_trans HSz3.out hg.size)
          clear hb hg hat HRG3 HBw3 HSz3 HNE
          go_roundg k2
          case measure => have := HK2.out; omega
          case rel => exact ⟨_, cnt3, ks ++ [x], ⟨by have := HK2.out; omega⟩, ⟨by have := HL2.out; simp; omega⟩, HRG4, HC3, ⟨ho⟩, HBw4, HSz4⟩
theorem XBuildS.sortC : XBuildS.SortC := fun A c ks W base hR hb hl => XSortS.so_sort A c ks W base hR hb hl

/-! ### plain_PutTexts: function 38 -/
def plain_PutTexts.f (l0 : List ByteArray) : Option (List Int × Int) := some ((XPlain.putTexts l0).1, (XPlain.putTexts l0).2)
theorem plain_PutTexts.calls (A0 : Option Addr) (c0 : Nat) (l0 : List ByteArray) (r1 : List Int) (r2 : Int) (w : World) (hr0 : Kd.C Kd.string w A0 l0.length l0) (hc0 : l0.length ≤ c0) (h : plain_PutTexts.f l0 = some (r1, r2)) :
    Calls Tryz.prog 38 #[.slice A0 l0.length c0] w fun e w' => ∃ v0_ : Value, e = .returned (.tuple #[v0_, .int .i64 r2]) ∧ Kd.R (Kd.int .u8) 5 w' w.heap.size (fun _ => True) v0_ r1 ∧ Below w.heap.size w w' := by
  have e := Option.some.inj h
  injection e with e1 e2
  subst e1 e2
  exact XPlain.putTexts_calls A0 c0 l0 w hr0

/-! ### dict_PutTexts: function 12 -/
/-- what dict.PutTexts answers -/
def XPutS.putM (K : Nat) (l : List ByteArray) : Option (List Int × Int) :=
  if 16777216 < l.length then some ([], 3) else if 65536 < (XMapS.keysOf l).length then some ([], 110) else
    (plain_PutTexts.f (XMapS.keysOf l)).bind fun be => if be.2 = 0 then dict_form.f K ((XMapS.keysOf l).length : Int) be.1 (l.map (XBuildS.code (XMapS.keysOf l))) else some ([], be.2)
set_option maxHeartbeats 2000000 in
set_option maxRecDepth 100000 in
theorem XPutS.putTexts (K : Nat) (A : Option Addr) (c : Nat) (l : List ByteArray) (r : List Int × Int) (w : World) (hr : Kd.C Kd.string w A l.length l) (hc : l.length ≤ c) (hw : ∀ x ∈ l, x.size ≤ maxLen) (h : XPutS.putM K l = some r) :
    Calls Tryz.prog 12 #[.slice A l.length c] w fun e w' => ∃ v, e = .returned (.tuple #[v, .int .i64 r.2]) ∧ (Kd.int .u8).R 5 w' w.heap.size (fun _ => True) v r.1 ∧ Below w.heap.size w w' := by
  have HR := Aside0.mk hr
  have HCC := Aside0.mk hc
  have HW := Aside0.mk hw
  unfold XPutS.putM at h
  clear hr hc hw
  by_cases h1 : 16777216 < l.length
  · rw [if_pos h1] at h
    obtain rfl := Option.some.inj h
    have hd : decide ((16777216 : Int) < (l.length : Int)) = true := decide_eq_true (by omega)
    clear h h1
    go_enter Tryz.func12, Tryz.ntmps12
    go_wp2_with fail
    refine bodyPost_ret (v := .tuple #[.slice none 0 0, .int .i64 3]) (by simp [results, Tryz.results12, go_sem]) rfl ?_
    exact ⟨_, rfl, Kd.R_nil _ _ _ _ _, Below.refl _ _⟩
  · rw [if_neg h1] at h
    have hd : decide ((16777216 : Int) < (l.length : Int)) = false := decide_eq_false (by omega)
    have hl : l.length < 4294967296 := by omega
    have HH := Aside0.mk h
    clear h h1
    go_enter Tryz.func12, Tryz.ntmps12
    go_wp2_with fail
    refine (XBuildS.build A c l w HR.out HCC.out HW.out hl XBuildS.sortC).mono ?_
    rintro e w1 ⟨Ak, b, SK, hSK, rfl, hCk, hRc, hap, hB⟩
    have hh := HH.out
    rw [← hSK] at hh
    have HCK := Aside0.mk hCk
    have HRC := Aside0.mk (Kd.R_reads' hRc).2.2
    have HB := Aside0.mk hB
    have hlc : (l.map (XBuildS.code SK)).length = l.length := by simp
    generalize l.map (XBuildS.code SK) = CS at HRC hh hlc
    clear hCk hRc hap hB hSK HH
    by_cases h2 : 65536 < SK.length
    · rw [if_pos h2] at hh
      obtain rfl := Option.some.inj hh
      have hd2 : decide ((65536 : Int) < (SK.length : Int)) = true := decide_eq_true (by omega)
      clear hh h2 hlc
      go_wp2_with fail
      refine bodyPost_ret (v := .tuple #[.slice none 0 0, .int .i64 110]) (by simp [results, Tryz.results12, go_sem]) rfl ?_
      exact ⟨_, rfl, Kd.R_nil _ _ _ _ _, HB.out⟩
    · rw [if_neg h2] at hh
      obtain ⟨⟨bs, er⟩, hb, hh2⟩ := Option.bind_eq_some_iff.mp hh
      simp only at hh2
      have hd2 : decide ((65536 : Int) < (SK.length : Int)) = false := decide_eq_false (by omega)
      have HBS := Aside0.mk hb
      rw [← hlc]
      have HLC := Aside0.mk hlc
      by_cases he : er = 0
      · subst he
        rw [if_pos rfl] at hh2
        have HF := Aside0.mk hh2
        clear hh hh2 h2 hb hlc hd hl
        go_wp2_with fail
        refine (plain_PutTexts.calls Ak SK.length SK bs 0 w1 HCK.out (Nat.le_refl _) HBS.out).mono ?_
        rintro e w2 ⟨v2, rfl, hv2, hb2⟩
        obtain ⟨A2, n2, rfl⟩ := Kd.R_slice hv2
        obtain ⟨_, hn2, hC2⟩ := Kd.R_reads' hv2
        have HC2 := Aside0.mk hC2
        have HN2 := Aside0.mk hn2
        have HB2 := Aside0.mk (below_then HB.out HB.out.size hb2)
        have HRC2 := Aside0.mk (Kd.C_below HRC.out hb2)
        clear hv2 hn2 hC2 hb2 HRC HCK HB
        go_wp2_with fail
        refine (dict_form.calls K _ A2 n2 bs (some ⟨b, 0, none⟩) CS.length CS r.1 r.2 w2 HC2.out HN2.out HRC2.out (Nat.le_refl _) HF.out).mono ?_
        rintro e w3 ⟨v3, rfl, hv3, hb3⟩
        have HV3 := Aside0.mk (Kd.R_lower hv3 HB2.out.size)
        have HB3 := Aside0.mk (below_then HB2.out HB2.out.size hb3)
        obtain ⟨A3, n3, rfl⟩ := Kd.R_slice hv3
        clear hv3 hb3
        go_wp2_with fail
        refine bodyPost_ret (v := .tuple #[.slice A3 r.1.length n3, .int .i64 r.2]) (by simp [results, Tryz.results12, go_sem]) rfl ?_
        exact ⟨_, rfl, HV3.out, HB3.out⟩
      · rw [if_neg he] at hh2
        obtain rfl := Option.some.inj hh2
        have heb : (er == 0) = false := by simpa using he
        have heb2 : (er != 0) = true := by simpa using he
        clear hh hh2 h2 hb hlc hd hl he
        go_wp2_with fail
        refine (plain_PutTexts.calls Ak SK.length SK bs er w1 HCK.out (Nat.le_refl _) HBS.out).mono ?_
        rintro e w2 ⟨v2, rfl, hv2, hb2⟩
        obtain ⟨A2, n2, rfl⟩ := Kd.R_slice hv2
        have HB2 := Aside0.mk (below_then HB.out HB.out.size hb2)
        clear hv2 hb2 HRC HCK HB
        go_wp2_with fail
        refine bodyPost_ret (v := .tuple #[.slice none 0 0, .int .i64 er]) (by simp [results, Tryz.results12, go_sem]) rfl ?_
        exact ⟨_, rfl, Kd.R_nil _ _ _ _ _, HB2.out⟩

def dict_PutTexts.f (k : Nat) (l0 : List ByteArray) : Option (List Int × Int) := if ∀ x ∈ l0, x.size ≤ maxLen then XPutS.putM k l0 else none
theorem dict_PutTexts.mono : ∀ a0 k, LeO (dict_PutTexts.f k a0) (dict_PutTexts.f (k + 1) a0) := by
  intro a0 k
  unfold dict_PutTexts.f XPutS.putM
  exact LeO.ite (LeO.ite (LeO.refl _) (LeO.ite (LeO.refl _) (LeO.bind (LeO.refl _) fun _ => LeO.ite (dict_form.mono _ _ _ _) (LeO.refl _)))) (LeO.none _)
theorem dict_PutTexts.calls (k : Nat) (A0 : Option Addr) (c0 : Nat) (l0 : List ByteArray) (r1 : List Int) (r2 : Int) (w : World) (hr0 : Kd.C Kd.string w A0 l0.length l0) (hc0 : l0.length ≤ c0) (h : dict_PutTexts.f k l0 = some (r1, r2)) :
    Calls Tryz.prog 12 #[.slice A0 l0.length c0] w fun e w' => ∃ v0_ : Value, e = .returned (.tuple #[v0_, .int .i64 r2]) ∧ Kd.R (Kd.int .u8) 5 w' w.heap.size (fun _ => True) v0_ r1 ∧ Below w.heap.size w w' := by
  unfold dict_PutTexts.f at h
  split at h
  · rename_i hw
    exact XPutS.putTexts k A0 c0 l0 (r1, r2) w hr0 hc0 hw h
  · cases h

/-! ### colonnadelaw09_texts: function 13 -/
def colonnadelaw09_texts.f (l0 : List ByteArray) : Option (List ByteArray) := if ([] : List ByteArray).length + l0.length < 8796093022208 then (some (([] : List ByteArray) ++ l0)) else (none)
set_option maxHeartbeats 8000000 in
set_option maxRecDepth 100000 in
theorem colonnadelaw09_texts.calls (A0 : Option Addr) (c0 : Nat) (l0 : List ByteArray) (r : List ByteArray) (w : World) (hr0 : Kd.C Kd.string w A0 l0.length l0) (hc0 : l0.length ≤ c0) (h : colonnadelaw09_texts.f l0 = some r) :
    Calls Tryz.prog 13 #[.slice A0 l0.length c0] w fun e w' => ∃ v0_ : Value, e = .returned (v0_) ∧ Kd.R Kd.string 9 w' w.heap.size (fun _ => True) v0_ r ∧ Below w.heap.size w w' := by
  have HR0 := Aside0.mk hr0
  have HC0 := Aside0.mk hc0
  clear hr0 hc0
  have HB := Aside0.mk (Below.refl w.heap.size w)
  have H : (if ([] : List ByteArray).length + l0.length < 8796093022208 then (some (([] : List ByteArray) ++ l0)) else (none)) = some r := h
  clear h
  by_cases c2 : ([] : List ByteArray).length + l0.length < 8796093022208
  · rw [if_pos c2] at H
    have LMc2 := Aside0.mk c2
    clear c2
    obtain ⟨y212, hy212⟩ : ∃ y_ : List ByteArray, y_ = (([] : List ByteArray) ++ l0) := ⟨_, rfl⟩
    replace H : (some y212) = some r := by first | (rw [hy212]; with_reducible exact H) | (have H2_ := (Option.bind_some _ _).symm.trans H; rw [hy212]; with_reducible exact H2_) | (have H2_ := (Option.bind_some _ _).symm.trans H; with_reducible exact H2_) | with_reducible exact H | (rw [hy212]; exact H) | exact H
    have Ny212 := Aside0.mk hy212
    clear hy212
    obtain rfl := Option.some.inj H
    go_enter Tryz.func13, Tryz.ntmps13
    go_wp2_with (first | ((with_reducible refine gate_builtin (b := .append) (xs := #[.tmp 4, .tmp 5]) rfl ?_); at_builtin; refine Kd.R_append_rows Kd.string (w0 := w) w.heap.size rfl (.tmp 4) (.tmp 5) 23 9 (.string ⟨#[]⟩) 16 rfl Tryz.underlying23 info9 rfl (by decide) (by omega) (.slice none 0 0) ([] : List ByteArray) l0 _ _ _ (fun _ => True) (fun _ => False) rfl rfl ?aO ?aR (fun _ _ h => h) (fun _ h => h.elim) ?aF ?aB ?aS ?aL ?_; (case aR => repeat (first | exact HR0.out | (with_reducible refine Kd.C_alloc ?_ _) | (with_reducible refine Kd.C_drewN ?_ _) | (with_reducible refine Kd.C_drew ?_))); (case aB => exact (by repeat (first | (with_reducible first | exact HB.out | apply below_alloc | apply pw_below_drewN | apply below_drew1) | exact HB.out))); (case aF => exact (fun _ _ => trivial)); (case aO => exact ((Kd.R_nil _ _ _ _ (fun _ => True)))); (case aS => exact (below_size (by repeat (first | (with_reducible first | exact HB.out | apply below_alloc | apply pw_below_drewN | apply below_drew1) | exact HB.out)))); (case aL => have := LMc2.out; omega); intro v213 w3 ho hb hg hat; rw [← Ny212.out] at ho; have n0_ := Aside0.mk (hb); have n1_ := Aside0.mk (ho); clear HB; have HB := n0_; have HO214 := n1_; clear n0_ n1_; clear ho hb hg hat))
    go_ret
    exact ⟨_, by first | rfl | (simp [errW_none, errW_some] <;> rfl) | (simp [*, errW_none, errW_some] <;> rfl), by (with_reducible repeat (first | apply Kd.R_alloc | apply Kd.R_drewN | apply Kd.R_drew)); exact HO214.out, by repeat (first | (with_reducible first | exact HB.out | apply below_alloc | apply pw_below_drewN | apply below_drew1) | exact HB.out)⟩
  · rw [if_neg c2] at H
    exact absurd H (by simp)

/-! ### cursor_Take_uint32: function 40 -/
def cursor_Take_uint32.f (s0_0 : List Int) (s0_1 : Int) (s0_2 : Int) : Option (Int × Int × Int) := none
set_option maxHeartbeats 8000000 in
set_option maxRecDepth 100000 in
theorem cursor_Take_uint32.calls (g : Nat) (s0_0 : List Int) (s0_1 : Int) (s0_2 : Int) (r1 : Int) (r2 : Int) (r3 : Int) (w0 w : World) (hI : IsS97 w0 w g s0_0 s0_1 s0_2) (hB : Below w0.heap.size w0 w) (h : cursor_Take_uint32.f s0_0 s0_1 s0_2 = some (r1, r2, r3)) :
    Calls Tryz.prog 40 #[.pointer (some ⟨g, 0, none⟩)] w fun e w' => e = .returned (.int .u32 r1) ∧ IsS97 w0 w' g s0_0 r2 r3 ∧ Below w0.heap.size w0 w' ∧ KeepBut w w' g none := by
  have HI0 := Aside0.mk hI
  have HK := Aside0.mk (KeepBut.refl w g none)
  have HL := Aside0.mk hB.size
  clear hI
  have HW0 := Aside0.mk hB.size
  have HB := Aside0.mk hB
  clear hB
  have H : (none) = some (r1, r2, r3) := h
  clear h
  exact absurd H (by simp)

/-! ### plain_end: function 68 -/
def plain_end.f (k : Nat) (l0 : List Int) (a1 : Int) : Option (Int) := if 0 ≤ (wrap64 (4 * a1)) then (if (wrap64 (4 * a1)) ≤ (wrap64 (4 * (wrap64 (a1 + 1)))) then (if (wrap64 (4 * (wrap64 (a1 + 1)))) ≤ (l0.length : Int) then ((plain_low.f k ((l0.take ((wrap64 (4 * (wrap64 (a1 + 1)))) : Int).toNat).drop ((wrap64 (4 * a1)) : Int).toNat)).bind fun t216 => (some (wrap64 (t216)))) else (none)) else (none)) else (none)
theorem plain_end.mono : ∀ a0 a1 k, LeO (plain_end.f k a0 a1) (plain_end.f (k + 1) a0 a1) := by
  intro a0 a1 k
  unfold plain_end.f
  repeat' first
      | (with_reducible exact plain_low.mono _ _)
      | (with_reducible exact LeO.refl _)
      | (with_reducible exact LeO.none _)
      | (with_reducible refine LeO.ite ?_ ?_)
      | (with_reducible refine LeO.bind ?_ (fun _ => ?_))
      | exact plain_low.mono _ _
      | exact LeO.none _
      | refine LeO.ite ?_ ?_
      | refine LeO.bind ?_ (fun _ => ?_)
set_option maxHeartbeats 8000000 in
set_option maxRecDepth 100000 in
theorem plain_end.calls (k : Nat) (A0 : Option Addr) (c0 : Nat) (l0 : List Int) (a1 : Int) (r : Int) (w : World) (hr0 : Kd.C (Kd.int .u8) w A0 l0.length l0) (hc0 : l0.length ≤ c0) (h : plain_end.f k l0 a1 = some r) :
    Calls Tryz.prog 68 #[.slice A0 l0.length c0, .int .i64 a1] w fun e w' => e = .returned (.int .i64 r) ∧ Drawn0 w w' := by
  have HR0 := Aside0.mk hr0
  have HC0 := Aside0.mk hc0
  clear hr0 hc0
  have H : (if 0 ≤ (wrap64 (4 * a1)) then (if (wrap64 (4 * a1)) ≤ (wrap64 (4 * (wrap64 (a1 + 1)))) then (if (wrap64 (4 * (wrap64 (a1 + 1)))) ≤ (l0.length : Int) then ((plain_low.f k ((l0.take ((wrap64 (4 * (wrap64 (a1 + 1)))) : Int).toNat).drop ((wrap64 (4 * a1)) : Int).toNat)).bind fun t216 => (some (wrap64 (t216)))) else (none)) else (none)) else (none)) = some r := h
  clear h
  obtain ⟨ji3, hji3⟩ : ∃ j_ : Int, (wrap64 (4 * a1)) = j_ := ⟨_, rfl⟩
  replace H : (if 0 ≤ (ji3) then (if (ji3) ≤ (wrap64 (4 * (wrap64 (a1 + 1)))) then (if (wrap64 (4 * (wrap64 (a1 + 1)))) ≤ (l0.length : Int) then ((plain_low.f k ((l0.take ((wrap64 (4 * (wrap64 (a1 + 1)))) : Int).toNat).drop ((ji3) : Int).toNat)).bind fun t216 => (some (wrap64 (t216)))) else (none)) else (none)) else (none)) = some r := by first | (rw [hji3] at H; exact H) | (simp only [hji3] at H ⊢; exact H)
  have hji3w : (IntKind.i64.wrap (4 * a1)) = ji3 := (i64_w _).trans hji3
  by_cases c4 : 0 ≤ (ji3)
  · rw [if_pos c4] at H
    have c4b0 := eq_true c4
    have c4b1 : decide (0 ≤ (ji3)) = true := decide_eq_true c4
    clear c4
    by_cases c5 : (ji3) ≤ (wrap64 (4 * (wrap64 (a1 + 1))))
    · rw [if_pos c5] at H
      have c5b0 := eq_true c5
      have c5b1 : decide ((ji3) ≤ (wrap64 (4 * (wrap64 (a1 + 1))))) = true := decide_eq_true c5
      by_cases c6 : (wrap64 (4 * (wrap64 (a1 + 1)))) ≤ (l0.length : Int)
      · rw [if_pos c6] at H
        have c6b0 := eq_true c6
        have c6b1 : decide ((wrap64 (4 * (wrap64 (a1 + 1)))) ≤ (l0.length : Int)) = true := decide_eq_true c6
        replace H := Option.bind_eq_some_iff.mp H
        obtain ⟨t216, A70, H⟩ := H
        replace H : (some (wrap64 (t216))) = some r := H
        have A7 := Aside0.mk A70
        clear A70
        obtain rfl := Option.some.inj H
        obtain ⟨i08, hi08, _, hsz8, _⟩ := info_parts info5
        obtain ⟨A8, hcut8, hA8, hC8⟩ := print_mid_of (P := Tryz.prog) (Value.int .u8) 0 26 5 .i64 .i64 Tryz.underlying26 hi08 hsz8 A0 c0 l0 (ji3) (wrap64 (4 * (wrap64 (a1 + 1)))) (of_decide_eq_true (by first | (with_reducible assumption) | assumption)) (by first | omega | exact of_decide_eq_true (by first | (with_reducible assumption) | assumption)) (of_decide_eq_true (by first | (with_reducible assumption) | assumption)) HC0.out
        have HR215 := Aside0.mk (Kd.C_of_reads (h1 := fun _ => rfl) (hA8 _ (Kd.reads_of_C HR0.out)))
        have HC215 := Aside0.mk hC8
        clear hA8 hC8 hi08 hsz8
        go_enter Tryz.func68, Tryz.ntmps68
        go_wp2_with (first | ((with_reducible refine gate_callee (f := 80) rfl ?_); refine goesL_ (some 12) rfl rfl Tryz.func80 (by kernel_rfl) rfl #[.slice A8 ((l0.take ((wrap64 (4 * (wrap64 (a1 + 1)))) : Int).toNat).drop ((ji3) : Int).toNat).length (c0 - (ji3).toNat)] rfl (by (try simp only [List.map_toArray, List.map_cons, List.map_nil]); first | done | (rw [show ((l0.take ((wrap64 (4 * (wrap64 (a1 + 1)))) : Int).toNat).drop ((ji3) : Int).toNat).length = ((wrap64 (4 * (wrap64 (a1 + 1)))).toNat - (ji3).toNat) from (by rw [List.length_drop, List.length_take]; have h_ : ((wrap64 (4 * (wrap64 (a1 + 1)))) : Int) ≤ (l0.length : Int) := of_decide_eq_true (by first | (with_reducible assumption) | assumption); omega)] <;> rfl) | (simp only [hji3]; rfl) | rfl | (simp only [List.length_drop, List.length_take]; rfl)) ?_; (with_reducible refine (plain_low.calls k _ _ ((l0.take ((wrap64 (4 * (wrap64 (a1 + 1)))) : Int).toNat).drop ((ji3) : Int).toNat) t216 _ ?side1 ?side2 A7.out).mono ?_); (case side1 => repeat (first | exact HR215.out | (with_reducible refine Kd.C_alloc ?_ _) | (with_reducible refine Kd.C_drewN ?_ _) | (with_reducible refine Kd.C_drew ?_))); (case side2 => exact HC215.out); rintro e w' ⟨rfl, ⟨nd, rfl⟩⟩; refine ⟨_, rfl, ?_⟩))
        go_ret
        exact ⟨by first | rfl | (simp; done) | (simp only [← hji3] <;> (first | rfl | simp)) | (simp [*]; done), by repeat (first | exact Drawn0.refl _ | apply Drawn0.step)⟩
      · rw [if_neg c6] at H
        exact absurd H (by simp)
    · rw [if_neg c5] at H
      exact absurd H (by simp)
  · rw [if_neg c4] at H
    exact absurd H (by simp)

end Go.Proofs.YtlpllhpnnhablaaGreat.PDictTextsOwn
