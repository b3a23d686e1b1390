-- Written by xprint.py, this session's own program over the kit's print; Lean checks it.
import Derived.Test.YtlpllhpnnhablaaPDictTextOrderx0
import Derived.Test.YtlpllhpnnhablaaPDictTextOrderx7
namespace Go.Proofs.Ytlpllhpnnhablaa.PDictTextOrder
open Go.RowKit Go.Proofs.YtlpllhpnnhablaaW.PrintWords Go.Proofs.YtlpllhpnnhablaaW.PrintLast Go.Proofs.YtlpllhpnnhablaaW.PrintMore
attribute [local go_sem] max2_int min2_int max_two min_two max_three min_three max_four min_four   -- for this text's walks alone
set_option linter.unusedVariables false
set_option linter.unusedSimpArgs false

/-! ### slices_BinarySearch_string_string: function 59 -/
def slices_BinarySearch_string_string.l0 : Nat → List ByteArray → ByteArray → Int → Int → Int → Option (Int × Bool)
  | 0, _, _, _, _, _ => none
  | k + 1, x0, x1, x6, x7, x8 => if x7 < x8 then (if 0 ≤ (wrap64 ((IntKind.u64.wrap (wrap64 (x7 + x8))) / 2)) then (if (wrap64 ((IntKind.u64.wrap (wrap64 (x7 + x8))) / 2)) < (x0.length : Int) then ((cmp_Less_string.f (rdOf ByteArray.empty x0 (wrap64 ((IntKind.u64.wrap (wrap64 (x7 + x8))) / 2))) x1).bind fun t216 => (if t216 = true then (slices_BinarySearch_string_string.l0 k x0 x1 x6 (wrap64 ((wrap64 ((IntKind.u64.wrap (wrap64 (x7 + x8))) / 2)) + 1)) x8) else (slices_BinarySearch_string_string.l0 k x0 x1 x6 x7 (wrap64 ((IntKind.u64.wrap (wrap64 (x7 + x8))) / 2))))) else (none)) else (none)) else (if x7 < x6 then (if 0 ≤ x7 then (if x7 < (x0.length : Int) then (if (rdOf ByteArray.empty x0 x7).toList = x1.toList then (some (x7, true)) else ((slices_isNaN_string.f (rdOf ByteArray.empty x0 x7)).bind fun t219 => (if t219 = true then ((slices_isNaN_string.f x1).bind fun t220 => (some (x7, t220))) else (some (x7, false))))) else (none)) else (none)) else (some (x7, false)))
def slices_BinarySearch_string_string.f (k : Nat) (l0 : List ByteArray) (a1 : ByteArray) : Option (Int × Bool) := slices_BinarySearch_string_string.l0 k l0 a1 (l0.length : Int) 0 (l0.length : Int)
theorem slices_BinarySearch_string_string.mono_l : ∀ k, (∀ y0 y1 y2 y3 y4, LeO (slices_BinarySearch_string_string.l0 k y0 y1 y2 y3 y4) (slices_BinarySearch_string_string.l0 (k + 1) y0 y1 y2 y3 y4))
  | 0 => fun _ _ _ _ _ r h => by simp [slices_BinarySearch_string_string.l0] at h
  | k + 1 => by
    have ih0 := slices_BinarySearch_string_string.mono_l k
    · intro y0 y1 y2 y3 y4
      unfold slices_BinarySearch_string_string.l0
      repeat' first
      | (with_reducible exact ih0 _ _ _ _ _)
      | (with_reducible exact LeO.refl _)
      | (with_reducible exact LeO.none _)
      | (with_reducible refine LeO.ite ?_ ?_)
      | (with_reducible refine LeO.bind ?_ (fun _ => ?_))
      | exact ih0 _ _ _ _ _
      | exact LeO.none _
      | refine LeO.ite ?_ ?_
      | refine LeO.bind ?_ (fun _ => ?_)
theorem slices_BinarySearch_string_string.mono : ∀ a0 a1 k, LeO (slices_BinarySearch_string_string.f k a0 a1) (slices_BinarySearch_string_string.f (k + 1) a0 a1) := by
  intro a0 a1 k
  have ih0 := slices_BinarySearch_string_string.mono_l k
  unfold slices_BinarySearch_string_string.f
  repeat' first
      | (with_reducible exact ih0 _ _ _ _ _)
      | (with_reducible exact LeO.refl _)
      | (with_reducible exact LeO.none _)
      | (with_reducible refine LeO.ite ?_ ?_)
      | (with_reducible refine LeO.bind ?_ (fun _ => ?_))
      | exact ih0 _ _ _ _ _
      | exact LeO.none _
      | refine LeO.ite ?_ ?_
      | refine LeO.bind ?_ (fun _ => ?_)
set_option maxHeartbeats 8000000 in
set_option maxRecDepth 100000 in
theorem slices_BinarySearch_string_string.calls (k : Nat) (A0 : Option Addr) (c0 : Nat) (l0 : List ByteArray) (a1 : ByteArray) (r1 : Int) (r2 : Bool) (w : World) (hr0 : Kd.C Kd.string w A0 l0.length l0) (hc0 : l0.length ≤ c0) (h : slices_BinarySearch_string_string.f k l0 a1 = some (r1, r2)) :
    Calls Try.prog 59 #[.slice A0 l0.length c0, .string a1] w fun e w' => e = .returned (.tuple #[.int .i64 r1, .bool r2]) ∧ Drawn0 w w' := by
  have HR0 := Aside0.mk hr0
  have HC0 := Aside0.mk hc0
  clear hr0 hc0
  have H : (slices_BinarySearch_string_string.l0 k l0 a1 (l0.length : Int) 0 (l0.length : Int)) = some (r1, r2) := h
  clear h
  have H' := Aside0.mk H
  clear H
  go_enter Try.func59, Try.ntmps59
  go_wp2
  (try simp only [add_plain])
  go_loopg [7, 8] k (fun kq v7 v8 w' => ∃ (x7_1 : Int) (x8_1 : Int), v7 = .int .i64 x7_1 ∧ v8 = .int .i64 x8_1 ∧ Aside0 (slices_BinarySearch_string_string.l0 kq l0 a1 (l0.length : Int) x7_1 x8_1 = some (r1, r2)) ∧ Aside0 (kq ≤ k) ∧ Drawn0 w w')
  case atStart => exact ⟨(0), ((l0.length : Int)), (by first | rfl | (simp; done) | (simp [*]; done)), (by first | rfl | (simp; done) | (simp [*]; done)), H', ⟨Nat.le_refl _⟩, by repeat (first | exact Drawn0.refl _ | apply Drawn0.step)⟩
  case round =>
    clear H'
    try clear p2
    obtain ⟨x7_1, x8_1, rfl, rfl, HA, HK1, ⟨m1, rfl⟩⟩ := hrel
    cases gk with
    | zero => exact absurd HA.out (by simp [slices_BinarySearch_string_string.l0])
    | succ k1 =>
      have H := HA.out
      clear HA
      simp only [slices_BinarySearch_string_string.l0] at H
      by_cases c3 : x7_1 < x8_1
      · rw [if_pos c3] at H
        have c3b0 : decide (x7_1 < x8_1) = true := decide_eq_true c3
        clear c3
        obtain ⟨ji4, hji4⟩ : ∃ j_ : Int, (wrap64 ((IntKind.u64.wrap (wrap64 (x7_1 + x8_1))) / 2)) = j_ := ⟨_, rfl⟩
        replace H : (if 0 ≤ (ji4) then (if (ji4) < (l0.length : Int) then ((cmp_Less_string.f (rdOf ByteArray.empty l0 (ji4)) a1).bind fun t216 => (if t216 = true then (slices_BinarySearch_string_string.l0 k1 l0 a1 (l0.length : Int) (wrap64 ((ji4) + 1)) x8_1) else (slices_BinarySearch_string_string.l0 k1 l0 a1 (l0.length : Int) x7_1 ji4))) else (none)) else (none)) = some (r1, r2) := by first | (rw [hji4] at H; exact H) | (simp only [hji4] at H ⊢; exact H)
        have hji4w : (IntKind.i64.wrap ((IntKind.u64.wrap (wrap64 (x7_1 + x8_1))) / 2)) = ji4 := (i64_w _).trans hji4
        by_cases c5 : 0 ≤ (ji4)
        · rw [if_pos c5] at H
          have c5b0 : decide (0 ≤ (ji4)) = true := decide_eq_true c5
          clear c5
          by_cases c6 : (ji4) < (l0.length : Int)
          · rw [if_pos c6] at H
            have c6b0 : decide ((ji4) < (l0.length : Int)) = true := decide_eq_true c6
            clear c6
            replace H := Option.bind_eq_some_iff.mp H
            obtain ⟨t216, A70, H⟩ := H
            replace H : (if t216 = true then (slices_BinarySearch_string_string.l0 k1 l0 a1 (l0.length : Int) (wrap64 ((ji4) + 1)) x8_1) else (slices_BinarySearch_string_string.l0 k1 l0 a1 (l0.length : Int) x7_1 ji4)) = some (r1, r2) := H
            have A7 := Aside0.mk A70
            clear A70
            by_cases c8 : t216 = true
            · subst c8
              have H1 : (slices_BinarySearch_string_string.l0 k1 l0 a1 (l0.length : Int) (wrap64 ((ji4) + 1)) x8_1) = some (r1, r2) := by rw [if_pos rfl] at H; exact H
              clear H
              have H := H1
              clear H1
              have H' := Aside0.mk H
              clear H
              have p215 : 0 ≤ ((ji4) : Int) := of_decide_eq_true (by first | (with_reducible assumption) | assumption)
              have q215 : (ji4) < (l0.length : Int) := of_decide_eq_true (by first | (with_reducible assumption) | assumption)
              obtain ⟨ad215, e215, hx215_0⟩ := Kd.at_string HR0.out (ji4) p215 q215
              cases e215
              replace p215 := eq_true p215
              replace q215 := eq_true q215
              go_wp2_with (first | ((with_reducible refine gate_callee (f := 98) rfl ?_); refine goesL_ (some 27) rfl rfl Try.func98 (by kernel_rfl) rfl #[.string (rdOf ByteArray.empty l0 (ji4)), .string a1] rfl (by (try simp only [List.map_toArray, List.map_cons, List.map_nil]); first | done | (simp only [hji4]; rfl) | rfl | (simp only [List.length_drop, List.length_take]; rfl)) ?_; (with_reducible refine (cmp_Less_string.calls (rdOf ByteArray.empty l0 (ji4)) a1 true _ A7.out).mono ?_); rintro e w' ⟨rfl, ⟨nd, rfl⟩⟩; refine ⟨_, rfl, ?_⟩))
              go_roundg k1
              case measure => have := HK1.out; omega
              case rel => exact ⟨(wrap64 ((ji4) + 1)), (x8_1), (by first | rfl | (simp; done) | (simp only [← hji4] <;> (first | rfl | simp)) | (simp [*]; done)), (by first | rfl | (simp; done) | (simp [*]; done)), H', ⟨by have := HK1.out; omega⟩, by repeat (first | exact Drawn0.refl _ | apply Drawn0.step)⟩
            · replace c8 := Bool.eq_false_iff.mpr c8
              subst c8
              have H1 : (slices_BinarySearch_string_string.l0 k1 l0 a1 (l0.length : Int) x7_1 ji4) = some (r1, r2) := by rw [if_neg (show ¬ (false = true) by decide)] at H; exact H
              clear H
              have H := H1
              clear H1
              have H' := Aside0.mk H
              clear H
              have p215 : 0 ≤ ((ji4) : Int) := of_decide_eq_true (by first | (with_reducible assumption) | assumption)
              have q215 : (ji4) < (l0.length : Int) := of_decide_eq_true (by first | (with_reducible assumption) | assumption)
              obtain ⟨ad215, e215, hx215_0⟩ := Kd.at_string HR0.out (ji4) p215 q215
              cases e215
              replace p215 := eq_true p215
              replace q215 := eq_true q215
              go_wp2_with (first | ((with_reducible refine gate_callee (f := 98) rfl ?_); refine goesL_ (some 27) rfl rfl Try.func98 (by kernel_rfl) rfl #[.string (rdOf ByteArray.empty l0 (ji4)), .string a1] rfl (by (try simp only [List.map_toArray, List.map_cons, List.map_nil]); first | done | (simp only [hji4]; rfl) | rfl | (simp only [List.length_drop, List.length_take]; rfl)) ?_; (with_reducible refine (cmp_Less_string.calls (rdOf ByteArray.empty l0 (ji4)) a1 false _ A7.out).mono ?_); rintro e w' ⟨rfl, ⟨nd, rfl⟩⟩; refine ⟨_, rfl, ?_⟩))
              go_roundg k1
              case measure => have := HK1.out; omega
              case rel => exact ⟨(x7_1), (ji4), (by first | rfl | (simp; done) | (simp [*]; done)), (by first | rfl | (simp; done) | (simp only [← hji4] <;> (first | rfl | simp)) | (simp [*]; done)), H', ⟨by have := HK1.out; omega⟩, by repeat (first | exact Drawn0.refl _ | apply Drawn0.step)⟩
          · rw [if_neg c6] at H
            exact absurd H (by simp)
        · rw [if_neg c5] at H
          exact absurd H (by simp)
      · rw [if_neg c3] at H
        have c3b0 : decide (x7_1 < x8_1) = false := decide_eq_false c3
        clear c3
        by_cases c9 : x7_1 < (l0.length : Int)
        · rw [if_pos c9] at H
          have c9b0 : decide (x7_1 < (l0.length : Int)) = true := decide_eq_true c9
          clear c9
          by_cases c10 : 0 ≤ x7_1
          · rw [if_pos c10] at H
            have c10b0 : decide (0 ≤ x7_1) = true := decide_eq_true c10
            clear c10
            by_cases c11 : x7_1 < (l0.length : Int)
            · rw [if_pos c11] at H
              have c11b0 : decide (x7_1 < (l0.length : Int)) = true := decide_eq_true c11
              clear c11
              by_cases c12 : (rdOf ByteArray.empty l0 x7_1).toList = a1.toList
              · rw [if_pos c12] at H
                have c12b0 : ((rdOf ByteArray.empty l0 x7_1).toList == a1.toList) = true := beq_iff_eq.mpr c12
                have c12b1 : ((rdOf ByteArray.empty l0 x7_1).toList != a1.toList) = false := bne_eq_false_iff_eq.mpr c12
                clear c12
                simp only [Option.some.injEq, Prod.mk.injEq] at H
                obtain ⟨rfl, rfl⟩ := H
                have p217 : 0 ≤ (x7_1 : Int) := of_decide_eq_true (by first | (with_reducible assumption) | assumption)
                have q217 : x7_1 < (l0.length : Int) := of_decide_eq_true (by first | (with_reducible assumption) | assumption)
                obtain ⟨ad217, e217, hx217_0⟩ := Kd.at_string HR0.out x7_1 p217 q217
                cases e217
                replace p217 := eq_true p217
                replace q217 := eq_true q217
                go_wp2
                go_ret2
                exact ⟨by first | rfl | (simp; done) | (simp [*]; done), by repeat (first | exact Drawn0.refl _ | apply Drawn0.step)⟩
              · rw [if_neg c12] at H
                have c12b0 : ((rdOf ByteArray.empty l0 x7_1).toList == a1.toList) = false := beq_eq_false_iff_ne.mpr c12
                have c12b1 : ((rdOf ByteArray.empty l0 x7_1).toList != a1.toList) = true := bne_iff_ne.mpr c12
                replace H := Option.bind_eq_some_iff.mp H
                obtain ⟨t219, A130, H⟩ := H
                replace H : (if t219 = true then ((slices_isNaN_string.f a1).bind fun t220 => (some (x7_1, t220))) else (some (x7_1, false))) = some (r1, r2) := H
                have A13 := Aside0.mk A130
                clear A130
                by_cases c14 : t219 = true
                · subst c14
                  have H1 : ((slices_isNaN_string.f a1).bind fun t220 => (some (x7_1, t220))) = some (r1, r2) := by rw [if_pos rfl] at H; exact H
                  clear H
                  have H := H1
                  clear H1
                  replace H := Option.bind_eq_some_iff.mp H
                  obtain ⟨t220, A150, H⟩ := H
                  replace H : (some (x7_1, t220)) = some (r1, r2) := H
                  have A15 := Aside0.mk A150
                  clear A150
                  simp only [Option.some.injEq, Prod.mk.injEq] at H
                  obtain ⟨rfl, rfl⟩ := H
                  have p217 : 0 ≤ (x7_1 : Int) := of_decide_eq_true (by first | (with_reducible assumption) | assumption)
                  have q217 : x7_1 < (l0.length : Int) := of_decide_eq_true (by first | (with_reducible assumption) | assumption)
                  obtain ⟨ad217, e217, hx217_0⟩ := Kd.at_string HR0.out x7_1 p217 q217
                  cases e217
                  replace p217 := eq_true p217
                  replace q217 := eq_true q217
                  have p218 : 0 ≤ (x7_1 : Int) := of_decide_eq_true (by first | (with_reducible assumption) | assumption)
                  have q218 : x7_1 < (l0.length : Int) := of_decide_eq_true (by first | (with_reducible assumption) | assumption)
                  obtain ⟨ad218, e218, hx218_0⟩ := Kd.at_string HR0.out x7_1 p218 q218
                  obtain rfl : ad217 = ad218 := (by injection e218)
                  replace p218 := eq_true p218
                  replace q218 := eq_true q218
                  go_wp2_with (first | (go_at_call 99; (with_reducible refine (slices_isNaN_string.calls (rdOf ByteArray.empty l0 x7_1) true _ A13.out).mono ?_); rintro e w' ⟨rfl, ⟨nd, rfl⟩⟩) | (go_at_call 99; (with_reducible refine (slices_isNaN_string.calls a1 t220 _ A15.out).mono ?_); rintro e w' ⟨rfl, ⟨nd, rfl⟩⟩))
                  go_ret2
                  exact ⟨by first | rfl | (simp; done) | (simp [*]; done), by repeat (first | exact Drawn0.refl _ | apply Drawn0.step)⟩
                · replace c14 := Bool.eq_false_iff.mpr c14
                  subst c14
                  have H1 : (some (x7_1, false)) = some (r1, r2) := by rw [if_neg (show ¬ (false = true) by decide)] at H; exact H
                  clear H
                  have H := H1
                  clear H1
                  simp only [Option.some.injEq, Prod.mk.injEq] at H
                  obtain ⟨rfl, rfl⟩ := H
                  have p217 : 0 ≤ (x7_1 : Int) := of_decide_eq_true (by first | (with_reducible assumption) | assumption)
                  have q217 : x7_1 < (l0.length : Int) := of_decide_eq_true (by first | (with_reducible assumption) | assumption)
                  obtain ⟨ad217, e217, hx217_0⟩ := Kd.at_string HR0.out x7_1 p217 q217
                  cases e217
                  replace p217 := eq_true p217
                  replace q217 := eq_true q217
                  have p218 : 0 ≤ (x7_1 : Int) := of_decide_eq_true (by first | (with_reducible assumption) | assumption)
                  have q218 : x7_1 < (l0.length : Int) := of_decide_eq_true (by first | (with_reducible assumption) | assumption)
                  obtain ⟨ad218, e218, hx218_0⟩ := Kd.at_string HR0.out x7_1 p218 q218
                  obtain rfl : ad217 = ad218 := (by injection e218)
                  replace p218 := eq_true p218
                  replace q218 := eq_true q218
                  go_wp2_with (first | (go_at_call 99; (with_reducible refine (slices_isNaN_string.calls (rdOf ByteArray.empty l0 x7_1) false _ A13.out).mono ?_); rintro e w' ⟨rfl, ⟨nd, rfl⟩⟩))
                  go_ret2
                  exact ⟨by first | rfl | (simp; done) | (simp [*]; done), by repeat (first | exact Drawn0.refl _ | apply Drawn0.step)⟩
            · rw [if_neg c11] at H
              exact absurd H (by simp)
          · rw [if_neg c10] at H
            exact absurd H (by simp)
        · rw [if_neg c9] at H
          have c9b0 : decide (x7_1 < (l0.length : Int)) = false := decide_eq_false c9
          clear c9
          simp only [Option.some.injEq, Prod.mk.injEq] at H
          obtain ⟨rfl, rfl⟩ := H
          go_wp2
          go_ret2
          exact ⟨by first | rfl | (simp; done) | (simp [*]; done), by repeat (first | exact Drawn0.refl _ | apply Drawn0.step)⟩

/-! ### dict_Floor_string: function 31 -/
def dict_Floor_string.f (k : Nat) (l0 : List ByteArray) (a1 : ByteArray) : Option (Int) := (slices_BinarySearch_string_string.f k l0 a1).bind fun bt221 => (some bt221.1)
theorem dict_Floor_string.mono : ∀ a0 a1 k, LeO (dict_Floor_string.f k a0 a1) (dict_Floor_string.f (k + 1) a0 a1) := by
  intro a0 a1 k
  unfold dict_Floor_string.f
  repeat' first
      | (with_reducible exact slices_BinarySearch_string_string.mono _ _ _)
      | (with_reducible exact LeO.refl _)
      | (with_reducible exact LeO.none _)
      | (with_reducible refine LeO.ite ?_ ?_)
      | (with_reducible refine LeO.bind ?_ (fun _ => ?_))
      | exact slices_BinarySearch_string_string.mono _ _ _
      | exact LeO.none _
      | refine LeO.ite ?_ ?_
      | refine LeO.bind ?_ (fun _ => ?_)
set_option maxHeartbeats 8000000 in
set_option maxRecDepth 100000 in
theorem dict_Floor_string.calls (k : Nat) (A0 : Option Addr) (c0 : Nat) (l0 : List ByteArray) (a1 : ByteArray) (r : Int) (w : World) (hr0 : Kd.C Kd.string w A0 l0.length l0) (hc0 : l0.length ≤ c0) (h : dict_Floor_string.f k l0 a1 = some r) :
    Calls Try.prog 31 #[.slice A0 l0.length c0, .string a1] w fun e w' => e = .returned (.int .i64 r) ∧ Drawn0 w w' := by
  have HR0 := Aside0.mk hr0
  have HC0 := Aside0.mk hc0
  clear hr0 hc0
  have H : ((slices_BinarySearch_string_string.f k l0 a1).bind fun bt221 => (some bt221.1)) = some r := h
  clear h
  replace H := Option.bind_eq_some_iff.mp H
  obtain ⟨⟨t221, t222⟩, A30, H⟩ := H
  replace H : (some t221) = some r := H
  have A3 := Aside0.mk A30
  clear A30
  obtain rfl := Option.some.inj H
  go_enter Try.func31, Try.ntmps31
  go_wp2_with (first | ((with_reducible refine gate_callee (f := 59) rfl ?_); refine goesL_ (some 10) rfl rfl Try.func59 (by kernel_rfl) rfl #[.slice A0 l0.length c0, .string a1] rfl (by (try simp only [List.map_toArray, List.map_cons, List.map_nil]); first | done | rfl | (simp only [List.length_drop, List.length_take]; rfl)) ?_; (with_reducible refine (slices_BinarySearch_string_string.calls k _ _ l0 a1 t221 t222 _ ?side1 ?side2 A3.out).mono ?_); (case side1 => repeat (first | exact HR0.out | (with_reducible refine Kd.C_alloc ?_ _) | (with_reducible refine Kd.C_drewN ?_ _) | (with_reducible refine Kd.C_drew ?_))); (case side2 => exact HC0.out); rintro e w' ⟨rfl, ⟨nd, rfl⟩⟩; refine ⟨_, rfl, ?_⟩))
  go_ret
  exact ⟨by first | rfl | (simp; done) | (simp [*]; done), by repeat (first | exact Drawn0.refl _ | apply Drawn0.step)⟩

/-! ### colonnadelaw09_begins: function 42 -/
def colonnadelaw09_begins.f (a0 : ByteArray) (a1 : ByteArray) : Option (Bool) := if (a0.size : Int) ≥ (a1.size : Int) then (if 0 ≤ (a1.size : Int) then (if (a1.size : Int) ≤ (a0.size : Int) then (some ((a0.extract 0 ((a1.size : Int) : Int).toNat).toList == a1.toList)) else (none)) else (none)) else (some false)
set_option maxHeartbeats 8000000 in
set_option maxRecDepth 100000 in
theorem colonnadelaw09_begins.calls (a0 : ByteArray) (a1 : ByteArray) (r : Bool) (w : World) (h : colonnadelaw09_begins.f a0 a1 = some r) :
    Calls Try.prog 42 #[.string a0, .string a1] w fun e w' => e = .returned (.bool r) ∧ Drawn0 w w' := by
  have H : (if (a0.size : Int) ≥ (a1.size : Int) then (if 0 ≤ (a1.size : Int) then (if (a1.size : Int) ≤ (a0.size : Int) then (some ((a0.extract 0 ((a1.size : Int) : Int).toNat).toList == a1.toList)) else (none)) else (none)) else (some false)) = some r := h
  clear h
  by_cases c3 : (a0.size : Int) ≥ (a1.size : Int)
  · rw [if_pos c3] at H
    have c3b0 : decide ((a1.size : Int) ≤ (a0.size : Int)) = true := decide_eq_true c3
    have c3b1 : decide (a1.size ≤ a0.size) = true := decide_eq_true (Int.ofNat_le.mp c3)
    clear c3
    by_cases c4 : 0 ≤ (a1.size : Int)
    · rw [if_pos c4] at H
      have c4b0 := eq_true c4
      have c4b1 : decide (0 ≤ (a1.size : Int)) = true := decide_eq_true c4
      clear c4
      by_cases c5 : (a1.size : Int) ≤ (a0.size : Int)
      · rw [if_pos c5] at H
        have c5b0 := eq_true c5
        have c5b1 : decide ((a1.size : Int) ≤ (a0.size : Int)) = true := decide_eq_true c5
        clear c5
        obtain rfl := Option.some.inj H
        go_enter Try.func42, Try.ntmps42
        go_wp2
        go_ret
        exact ⟨by first | rfl | (simp; done) | (simp [*]; done), by repeat (first | exact Drawn0.refl _ | apply Drawn0.step)⟩
      · rw [if_neg c5] at H
        exact absurd H (by simp)
    · rw [if_neg c4] at H
      exact absurd H (by simp)
  · rw [if_neg c3] at H
    have c3b0 : decide ((a1.size : Int) ≤ (a0.size : Int)) = false := decide_eq_false c3
    have c3b1 : decide (a1.size ≤ a0.size) = false := decide_eq_false (fun h => c3 (Int.ofNat_le.mpr h))
    clear c3
    obtain rfl := Option.some.inj H
    go_enter Try.func42, Try.ntmps42
    go_wp2
    go_ret
    exact ⟨by first | rfl | (simp; done) | (simp [*]; done), by repeat (first | exact Drawn0.refl _ | apply Drawn0.step)⟩

/-! ### colonnadelaw09_DictTextOrder: function 10 -/
/-- what is known of a list's keys and codes, and of a beginning -/
structure colonnadelaw09_DictTextOrder.Facts (l SK : List ByteArray) (v : ByteArray) (cd : ByteArray → Nat) (bg : ByteArray → Bool) (F E : Nat) : Prop where
  lt : ∀ x ∈ l, cd x < SK.length
  key : ∀ x ∈ l, ∀ h : cd x < SK.length, SK[cd x] = x
  less : ∀ x ∈ l, Op.bytesLess x.toList v.toList = decide (cd x < F)
  fe : F ≤ E
  el : E ≤ SK.length
  says : ∀ x, (x ∈ l ∨ x ∈ SK) → colonnadelaw09_begins.f x v = some (bg x)
  run : ∀ j, F ≤ j → j < E → ∀ h : j < SK.length, bg SK[j] = true
  stop : ∀ h : E < SK.length, bg SK[E] = false
  bgn : ∀ x ∈ l, bg x = (decide (F ≤ cd x) && decide (cd x < E))
set_option maxHeartbeats 8000000 in
set_option maxRecDepth 100000 in
theorem colonnadelaw09_DictTextOrder.q_add {P : Program} {f : FuncId} {args : Array Value} {w : World} {a n : Nat} {v : Value} (h : Calls P f args (w.drewN (a + n)) fun e w' => e = .returned v ∧ ∃ m, w' = (w.drewN (a + n)).drewN m) : Calls P f args (w.drewN (a + n)) fun e w' => e = .returned v ∧ ∃ m, w' = w.drewN (a + m) := by
  refine h.mono ?_
  rintro e w' ⟨he, m, rfl⟩
  exact ⟨he, n + m, by rw [World.drewN_drewN, Nat.add_assoc]⟩
set_option maxRecDepth 40000 in
theorem colonnadelaw09_DictTextOrder.ck (k : Nat) (A0 : Option Addr) (c0 : Nat) (l0 : List ByteArray) (v : ByteArray) (w : World) (hr0 : Kd.C Kd.string w A0 l0.length l0) (hc0 : l0.length ≤ c0) (hl : l0.length ≤ 1048576) (hw : ∀ x ∈ l0, x.size ≤ maxLen)
    (SK : List ByteArray) (cd : ByteArray → Nat) (bg : ByteArray → Bool) (F E : Nat) (hSK : SK = XMapS.keysOf l0) (hcd : ∀ x ∈ l0, XBuildS.code SK x = (cd x : Int)) (h3 : colonnadelaw09_texts.f l0 = some l0) (h4 : dict_Floor_string.f k SK v = some (F : Int)) (hf : colonnadelaw09_DictTextOrder.Facts l0 SK v cd bg F E) :
    Calls Try.prog 10 #[.slice A0 l0.length c0, .string v] w fun e w' => e = .returned (.bool true) ∧ Below w.heap.size w w' := by
  have HR0 := Aside0.mk hr0
  have HC0 := Aside0.mk hc0
  have HW := Aside0.mk hw
  have HL := Aside0.mk hl
  have H3 := Aside0.mk h3
  have H4 := Aside0.mk h4
  have HSK := Aside0.mk hSK
  have HCD := Aside0.mk hcd
  have HF := Aside0.mk hf
  have hskl : SK.length ≤ 1048576 := by rw [hSK]; exact Nat.le_trans (XMapS.keysOf_length l0) hl
  have HSL := Aside0.mk hskl
  clear hr0 hc0 hw hl h3 h4 hSK hcd hf hskl
  go_enter Try.func10, Try.ntmps10
  go_wp2_with fail
  refine (XKn.known _).mono ?_
  rintro e w1 ⟨rfl, hb1⟩
  have L1 := Aside0.mk (Kd.C_below HR0.out hb1)
  have B1 := Aside0.mk hb1
  clear hb1
  go_wp2_with fail
  refine (colonnadelaw09_texts.calls A0 c0 l0 l0 w1 L1.out HC0.out H3.out).mono ?_
  rintro e w3 ⟨v3, rfl, hv3, hb3⟩
  obtain ⟨A3, n3, rfl⟩ := Kd.R_slice hv3
  have I3 := Aside0.mk (Kd.R_reads' hv3).2.2
  have N3 := Aside0.mk (Kd.R_reads' hv3).2.1
  have L3 := Aside0.mk (Kd.C_below L1.out hb3)
  have B3 := Aside0.mk (below_then B1.out B1.out.size hb3)
  clear hv3 hb3 L1 B1
  go_wp2_with fail
  refine (XBuildS.build A3 n3 l0 w3 I3.out N3.out HW.out (by have := HL.out; omega) XBuildS.sortC).mono ?_
  rintro e w4 ⟨A4, b4, SK', hSK', rfl, hk4, hc4, hap, hb4⟩
  obtain rfl : SK' = SK := hSK'.trans HSK.out.symm
  have P4 := Aside0.mk hk4
  have Q4 := Aside0.mk (Kd.R_reads' hc4).2.2
  have L4 := Aside0.mk (Kd.C_below L3.out hb4)
  have B4 := Aside0.mk (below_then B3.out B3.out.size hb4)
  clear hSK' hk4 hc4 hap hb4 L3 I3 B3
  have hF0 : decide ((F : Int) < 0) = false := decide_eq_false (by omega)
  have hFn : decide (SK'.length < F) = false := decide_eq_false (by have := HF.out.fe; have := HF.out.el; omega)
  go_wp2_with fail
  refine (dict_Floor_string.calls k A4 SK'.length SK' v _ w4 P4.out (Nat.le_refl _) H4.out).mono ?_
  rintro e w5 ⟨rfl, ⟨nd5, rfl⟩⟩
  have h46 := pw_below_drewN (Below.refl w4.heap.size w4) nd5
  generalize w4.drewN nd5 = w6 at h46 ⊢
  have P6 := Aside0.mk (Kd.C_below P4.out h46)
  have Q6 := Aside0.mk (Kd.C_below Q4.out h46)
  have L6 := Aside0.mk (Kd.C_below L4.out h46)
  have B6 := Aside0.mk (below_then B4.out B4.out.size h46)
  clear h46 P4 Q4 L4 B4
  go_wp2_with fail
  clear hF0 hFn
  (try simp only [add_plain])
  go_loopg [8] (SK'.length + 1) (fun kq v8 w' => ∃ (j : Nat) (nd : Nat), F ≤ j ∧ j ≤ E ∧ Aside0 (kq + j = SK'.length + 1 + F) ∧ v8 = .int .i64 (j : Int) ∧ w' = w6.drewN nd)
  case atStart => exact ⟨F, 0, Nat.le_refl _, HF.out.fe, ⟨by omega⟩, rfl, rfl⟩
  case round =>
    obtain ⟨j, nd, hjF, hjE, HK, rfl, rfl⟩ := hrel
    by_cases hlt : j < E
    · have hjn : j < SK'.length := Nat.lt_of_lt_of_le hlt HF.out.el
      have hd : decide ((j : Int) < (SK'.length : Int)) = true := decide_eq_true (by omega)
      obtain ⟨k1, rfl⟩ : ∃ k1, gk = k1 + 1 := ⟨gk - 1, by have := HK.out; omega⟩
      obtain ⟨ad, e0, hx⟩ := Kd.at_string P6.out (j : Int) (by omega) (by omega)
      rw [Int.toNat_natCast, show rdOf ByteArray.empty SK' (j : Int) = SK'[j] from by simp [rdOf, hjn]] at hx
      have hbg := HF.out.run j hjF hlt hjn
      have HS := Aside0.mk (HF.out.says SK'[j] (Or.inr (List.getElem_mem hjn)))
      rw [hbg] at HS
      generalize SK'[j] = s at hx HS
      have hjb : (0 : Int) ≤ (j : Int) := by omega
      have hjc : (j : Int) < (SK'.length : Int) := by omega
      have HLT := Aside0.mk hlt
      have HJF := Aside0.mk hjF
      subst e0
      clear hbg hlt hjn hjF hjE
      go_wp2_with (go_at_call 42; (with_reducible refine (colonnadelaw09_begins.calls s v true _ HS.out).mono ?_); rintro e w7 ⟨rfl, ⟨nd7, rfl⟩⟩)
      go_roundg k1
      case measure => have := HK.out; have := HJF.out; omega
      case rel => exact ⟨j + 1, nd + nd7, by have := HJF.out; omega, HLT.out, ⟨by have := HK.out; have := HJF.out; omega⟩, congrArg (Value.int .i64) (by have := HSL.out; first | omega | (unfold wrap64; omega)), by simp⟩
    · obtain rfl : j = E := by omega
      have hexit : (decide ((j : Int) < (SK'.length : Int)) = false) ∨ (decide ((j : Int) < (SK'.length : Int)) = true ∧ ∃ (ad : Addr) (s : ByteArray), A4 = some ad ∧ w6.cell? (ad.add j) = some (.string s) ∧ colonnadelaw09_begins.f s v = some false ∧ (0 : Int) ≤ (j : Int) ∧ (j : Int) < (SK'.length : Int)) := by
        by_cases hjn : j < SK'.length
        · obtain ⟨ad, e0, hx⟩ := Kd.at_string P6.out (j : Int) (by omega) (by omega)
          rw [Int.toNat_natCast, show rdOf ByteArray.empty SK' (j : Int) = SK'[j] from by simp [rdOf, hjn]] at hx
          exact .inr ⟨decide_eq_true (by omega), ad, SK'[j], e0, hx, by rw [HF.out.says _ (Or.inr (List.getElem_mem hjn)), HF.out.stop hjn], by omega, by omega⟩
        · exact .inl (decide_eq_false (by omega))
      clear hlt hjF hjE HK
      rcases hexit with hd | ⟨hd, ad, s, rfl, hx, HS, hjb, hjc⟩
      · have hdN : decide (j < SK'.length) = false := decide_eq_false (by have := of_decide_eq_false hd; omega)
        go_wp2_with fail
        clear hd hdN
        (try simp only [add_plain])
        go_loopg [9] (l0.length + 1) (fun kq v9 w' => ∃ (i n8 : Nat), i ≤ l0.length ∧ Aside0 (kq + i = l0.length + 1) ∧ v9 = .int .i64 (i : Int) ∧ w' = w6.drewN n8)
        case atStart => exact ⟨0, _, Nat.zero_le _, ⟨by omega⟩, rfl, by first | rfl | simp⟩
        case round =>
          obtain ⟨i, n8, hi, HK, rfl, rfl⟩ := hrel
          by_cases hlt : i < l0.length
          · have hd : decide ((i : Int) < (l0.length : Int)) = true := decide_eq_true (by omega)
            obtain ⟨k1, rfl⟩ : ∃ k1, gk = k1 + 1 := ⟨gk - 1, by have := HK.out; omega⟩
            obtain ⟨x, hxe⟩ : ∃ x, l0[i] = x := ⟨_, rfl⟩
            have hxm : x ∈ l0 := hxe ▸ List.getElem_mem hlt
            obtain ⟨y, hye⟩ : ∃ y, cd x = y := ⟨_, rfl⟩
            have hy : y < SK'.length := hye ▸ HF.out.lt x hxm
            have hky : SK'[y] = x := by
              have := HF.out.key x hxm (hye ▸ hy)
              simpa only [hye] using this
            obtain ⟨ad0, e0, hx⟩ := Kd.at_string L6.out (i : Int) (by omega) (by omega)
            obtain ⟨adk, e1, hk⟩ := Kd.at_string P6.out (y : Int) (by omega) (by omega)
            obtain ⟨adc, e2, hc⟩ := Kd.at_int Q6.out (i : Int) (by omega) (by simp; omega)
            cases e2
            cases e1
            subst e0
            rw [Int.toNat_natCast, show rdOf ByteArray.empty l0 (i : Int) = x from by rw [← hxe]; simp [rdOf, hlt]] at hx
            rw [Int.toNat_natCast, show rdOf ByteArray.empty SK' (y : Int) = x from by rw [← hky]; simp [rdOf, hy]] at hk
            rw [Int.toNat_natCast, show rd (l0.map (XBuildS.code SK')) (i : Int) = (y : Int) from by
              rw [← hye, ← HCD.out x hxm, ← hxe]; simp [rd, hlt], add_plain] at hc
            have hwy : IntKind.i64.wrap (y : Int) = (y : Int) := by have := HSL.out; rw [IntKind.wrap_i64]; omega
            have hy0 : decide ((y : Int) < 0) = false := decide_eq_false (by omega)
            have hyn : decide (SK'.length ≤ y) = false := decide_eq_false (by omega)
            have hyb : (0 : Int) ≤ (y : Int) := by omega
            have hyc : (y : Int) < (SK'.length : Int) := by omega
            have hib : (0 : Int) ≤ (i : Int) := by omega
            have hic : (i : Int) < (l0.length : Int) := by omega
            have hless := HF.out.less x hxm
            have hbgn := HF.out.bgn x hxm
            have hsay := HF.out.says x (Or.inl hxm)
            rw [hye] at hless hbgn
            rw [hbgn] at hsay
            have hcase : ∃ b1 c1 c2 : Bool, Op.bytesLess x.toList v.toList = b1 ∧ decide (y < F) = b1 ∧ decide (F ≤ y) = c1 ∧ decide (y < j) = c2 ∧ colonnadelaw09_begins.f x v = some (c1 && c2) ∧ ((b1 = true ∧ c1 = false) ∨ (b1 = false ∧ c1 = true)) := by
              refine ⟨_, _, _, hless, rfl, rfl, rfl, hsay, ?_⟩
              by_cases h : y < F
              · exact .inl ⟨decide_eq_true h, decide_eq_false (by omega)⟩
              · exact .inr ⟨decide_eq_false h, decide_eq_true (by omega)⟩
            obtain ⟨b1, c1, c2, t1, t2, t3, t4, hsy, hall⟩ := hcase
            have HLT := Aside0.mk hlt
            clear hless hbgn hsay hye hxe hxm hky hy hlt hi
            rcases hall with ⟨rfl, rfl⟩ | ⟨rfl, rfl⟩ <;> cases c2
            all_goals
              have HSY := Aside0.mk hsy
              clear hsy
              try simp only [Bool.and_true, Bool.and_false, Bool.true_and, Bool.false_and] at HSY
              go_wp2_with fail
              go_quiet ((go_at_call 42; exact colonnadelaw09_DictTextOrder.q_add ((colonnadelaw09_begins.calls x v _ _ HSY.out).mono fun e w' ⟨he, hd⟩ => ⟨he, hd.out⟩)))
              go_wp2_with fail
              go_roundg k1
              case measure => have := HK.out; omega
              case rel => exact ⟨i + 1, _, HLT.out, ⟨by have := HK.out; omega⟩, congrArg (Value.int .i64) (by have := HL.out; have := HLT.out; first | omega | (unfold wrap64; omega)), by first | rfl | simp⟩
          · obtain rfl : i = l0.length := by omega
            have hd : decide ((l0.length : Int) < (l0.length : Int)) = false := decide_eq_false (by omega)
            go_wp2_with fail
            go_ret
            exact ⟨rfl, below_then B6.out B6.out.size (pw_below_drewN (Below.refl _ _) _)⟩
      · have HS := Aside0.mk HS
        go_wp2_with (go_at_call 42; (with_reducible refine (colonnadelaw09_begins.calls s v false _ HS.out).mono ?_); rintro e w7 ⟨rfl, ⟨nd7, rfl⟩⟩)
        clear hd hx hjb hjc
        (try simp only [add_plain])
        go_loopg [9] (l0.length + 1) (fun kq v9 w' => ∃ (i n8 : Nat), i ≤ l0.length ∧ Aside0 (kq + i = l0.length + 1) ∧ v9 = .int .i64 (i : Int) ∧ w' = w6.drewN n8)
        case atStart => exact ⟨0, _, Nat.zero_le _, ⟨by omega⟩, rfl, by first | rfl | simp⟩
        case round =>
          obtain ⟨i, n8, hi, HK, rfl, rfl⟩ := hrel
          by_cases hlt : i < l0.length
          · have hd : decide ((i : Int) < (l0.length : Int)) = true := decide_eq_true (by omega)
            obtain ⟨k1, rfl⟩ : ∃ k1, gk = k1 + 1 := ⟨gk - 1, by have := HK.out; omega⟩
            obtain ⟨x, hxe⟩ : ∃ x, l0[i] = x := ⟨_, rfl⟩
            have hxm : x ∈ l0 := hxe ▸ List.getElem_mem hlt
            obtain ⟨y, hye⟩ : ∃ y, cd x = y := ⟨_, rfl⟩
            have hy : y < SK'.length := hye ▸ HF.out.lt x hxm
            have hky : SK'[y] = x := by
              have := HF.out.key x hxm (hye ▸ hy)
              simpa only [hye] using this
            obtain ⟨ad0, e0, hx⟩ := Kd.at_string L6.out (i : Int) (by omega) (by omega)
            obtain ⟨adk, e1, hk⟩ := Kd.at_string P6.out (y : Int) (by omega) (by omega)
            obtain ⟨adc, e2, hc⟩ := Kd.at_int Q6.out (i : Int) (by omega) (by simp; omega)
            cases e2
            cases e1
            subst e0
            rw [Int.toNat_natCast, show rdOf ByteArray.empty l0 (i : Int) = x from by rw [← hxe]; simp [rdOf, hlt]] at hx
            rw [Int.toNat_natCast, show rdOf ByteArray.empty SK' (y : Int) = x from by rw [← hky]; simp [rdOf, hy]] at hk
            rw [Int.toNat_natCast, show rd (l0.map (XBuildS.code SK')) (i : Int) = (y : Int) from by
              rw [← hye, ← HCD.out x hxm, ← hxe]; simp [rd, hlt], add_plain] at hc
            have hwy : IntKind.i64.wrap (y : Int) = (y : Int) := by have := HSL.out; rw [IntKind.wrap_i64]; omega
            have hy0 : decide ((y : Int) < 0) = false := decide_eq_false (by omega)
            have hyn : decide (SK'.length ≤ y) = false := decide_eq_false (by omega)
            have hyb : (0 : Int) ≤ (y : Int) := by omega
            have hyc : (y : Int) < (SK'.length : Int) := by omega
            have hib : (0 : Int) ≤ (i : Int) := by omega
            have hic : (i : Int) < (l0.length : Int) := by omega
            have hless := HF.out.less x hxm
            have hbgn := HF.out.bgn x hxm
            have hsay := HF.out.says x (Or.inl hxm)
            rw [hye] at hless hbgn
            rw [hbgn] at hsay
            have hcase : ∃ b1 c1 c2 : Bool, Op.bytesLess x.toList v.toList = b1 ∧ decide (y < F) = b1 ∧ decide (F ≤ y) = c1 ∧ decide (y < j) = c2 ∧ colonnadelaw09_begins.f x v = some (c1 && c2) ∧ ((b1 = true ∧ c1 = false) ∨ (b1 = false ∧ c1 = true)) := by
              refine ⟨_, _, _, hless, rfl, rfl, rfl, hsay, ?_⟩
              by_cases h : y < F
              · exact .inl ⟨decide_eq_true h, decide_eq_false (by omega)⟩
              · exact .inr ⟨decide_eq_false h, decide_eq_true (by omega)⟩
            obtain ⟨b1, c1, c2, t1, t2, t3, t4, hsy, hall⟩ := hcase
            have HLT := Aside0.mk hlt
            clear hless hbgn hsay hye hxe hxm hky hy hlt hi
            rcases hall with ⟨rfl, rfl⟩ | ⟨rfl, rfl⟩ <;> cases c2
            all_goals
              have HSY := Aside0.mk hsy
              clear hsy
              try simp only [Bool.and_true, Bool.and_false, Bool.true_and, Bool.false_and] at HSY
              go_wp2_with fail
              go_quiet ((go_at_call 42; exact colonnadelaw09_DictTextOrder.q_add ((colonnadelaw09_begins.calls x v _ _ HSY.out).mono fun e w' ⟨he, hd⟩ => ⟨he, hd.out⟩)))
              go_wp2_with fail
              go_roundg k1
              case measure => have := HK.out; omega
              case rel => exact ⟨i + 1, _, HLT.out, ⟨by have := HK.out; omega⟩, congrArg (Value.int .i64) (by have := HL.out; have := HLT.out; first | omega | (unfold wrap64; omega)), by first | rfl | simp⟩
          · obtain rfl : i = l0.length := by omega
            have hd : decide ((l0.length : Int) < (l0.length : Int)) = false := decide_eq_false (by omega)
            go_wp2_with fail
            go_ret
            exact ⟨rfl, below_then B6.out B6.out.size (pw_below_drewN (Below.refl _ _) _)⟩
open Classical in
noncomputable def colonnadelaw09_DictTextOrder.f (k : Nat) (l0 : List ByteArray) (a1 : ByteArray) : Option Bool :=
  if ∃ (cd : ByteArray → Nat) (bg : ByteArray → Bool) (F E : Nat), l0.length ≤ 1048576 ∧ (∀ x ∈ l0, x.size ≤ maxLen) ∧ (∀ x ∈ l0, XBuildS.code (XMapS.keysOf l0) x = (cd x : Int)) ∧ colonnadelaw09_texts.f l0 = some l0 ∧ dict_Floor_string.f k (XMapS.keysOf l0) a1 = some (F : Int) ∧ colonnadelaw09_DictTextOrder.Facts l0 (XMapS.keysOf l0) a1 cd bg F E then some true else none
theorem colonnadelaw09_DictTextOrder.calls (k : Nat) (A0 : Option Addr) (c0 : Nat) (l0 : List ByteArray) (a1 : ByteArray) (r : Bool) (w : World) (hr0 : Kd.C Kd.string w A0 l0.length l0) (hc0 : l0.length ≤ c0) (h : colonnadelaw09_DictTextOrder.f k l0 a1 = some r) :
    Calls Try.prog 10 #[.slice A0 l0.length c0, .string a1] w fun e w' => e = .returned (.bool r) ∧ Below w.heap.size w w' := by
  unfold colonnadelaw09_DictTextOrder.f at h
  split at h
  · rename_i hc
    obtain rfl := Option.some.inj h
    obtain ⟨cd, bg, F, E, a1, a2, a3, a4, a5, a6⟩ := hc
    exact colonnadelaw09_DictTextOrder.ck k A0 c0 l0 _ w hr0 hc0 a1 a2 _ cd bg F E rfl a3 a4 a5 a6
  · cases h

end Go.Proofs.Ytlpllhpnnhablaa.PDictTextOrder
