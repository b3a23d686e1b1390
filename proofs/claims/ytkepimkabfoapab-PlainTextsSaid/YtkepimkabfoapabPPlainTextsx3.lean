-- Written by xprint.py, this session's own program over the kit's print; Lean checks it.
import Derived.Test.YtkepimkabfoapabPPlainTextsx0
import Derived.Test.YtkepimkabfoapabPPlainTextsx1
namespace Go.Proofs.Ytkepimkabfoapab.PPlainTexts
open Go.RowKit Go.Proofs.YtkepimkabfoapabW.PrintWords Go.Proofs.YtkepimkabfoapabW.PrintLast Go.Proofs.YtkepimkabfoapabW.PrintMore
attribute [local go_sem] max2_int min2_int max_two min_two max_three min_three max_four min_four   -- for this text's walks alone
set_option linter.unusedVariables false
set_option linter.unusedSimpArgs false

/-! ### colonnaderef08_TextAt: function 27 -/
mutual
def colonnaderef08_TextAt.j0 : Nat → List Int → Int → Int → Bool → Option (ByteArray × Bool)
  | 0, _, _, _, _ => none
  | k + 1, x0, x1, x2, x30 => if x30 = true then (some ((⟨#[]⟩ : ByteArray), false)) else (if 0 ≤ (wrap64 (4 * (wrap64 (x1 + 1)))) then (if (wrap64 (4 * (wrap64 (x1 + 1)))) ≤ (x0.length : Int) then ((colonnaderef08_End.f k x0 x2).bind fun t140 => ((colonnaderef08_End.f k x0 (wrap64 (x2 + 1))).bind fun t141 => (if t140 > t141 then (colonnaderef08_TextAt.j1 k x0 x2 (x0.drop ((wrap64 (4 * (wrap64 (x1 + 1)))) : Int).toNat) true) else ((colonnaderef08_End.f k x0 (wrap64 (x2 + 1))).bind fun t142 => (colonnaderef08_TextAt.j1 k x0 x2 (x0.drop ((wrap64 (4 * (wrap64 (x1 + 1)))) : Int).toNat) (decide (t142 > ((x0.drop ((wrap64 (4 * (wrap64 (x1 + 1)))) : Int).toNat).length : Int)))))))) else (none)) else (none))
def colonnaderef08_TextAt.j1 : Nat → List Int → Int → List Int → Bool → Option (ByteArray × Bool)
  | 0, _, _, _, _ => none
  | k + 1, x0, x2, x9, x52 => if x52 = true then (some ((⟨#[]⟩ : ByteArray), false)) else ((colonnaderef08_End.f k x0 x2).bind fun t143 => ((colonnaderef08_End.f k x0 (wrap64 (x2 + 1))).bind fun t144 => (if 0 ≤ t143 then (if t143 ≤ t144 then (if t144 ≤ (x9.length : Int) then (some (strOfNums ((x9.take (t144 : Int).toNat).drop (t143 : Int).toNat), true)) else (none)) else (none)) else (none))))
end
def colonnaderef08_TextAt.f (k : Nat) (l0 : List Int) (a1 : Int) (a2 : Int) : Option (ByteArray × Bool) := (colonnaderef08_may.f a1).bind fun t138 => (if t138 = 0 then (if a2 < 0 then (colonnaderef08_TextAt.j0 k l0 a1 a2 true) else (if a2 ≥ a1 then (colonnaderef08_TextAt.j0 k l0 a1 a2 true) else (colonnaderef08_TextAt.j0 k l0 a1 a2 (decide ((l0.length : Int) < (wrap64 (4 * (wrap64 (a1 + 1))))))))) else (colonnaderef08_TextAt.j0 k l0 a1 a2 true))
theorem colonnaderef08_TextAt.mono_l : ∀ k, (∀ y0 y1 y2 y3, LeO (colonnaderef08_TextAt.j0 k y0 y1 y2 y3) (colonnaderef08_TextAt.j0 (k + 1) y0 y1 y2 y3)) ∧ (∀ y0 y1 y2 y3, LeO (colonnaderef08_TextAt.j1 k y0 y1 y2 y3) (colonnaderef08_TextAt.j1 (k + 1) y0 y1 y2 y3))
  | 0 => ⟨fun _ _ _ _ r h => by simp [colonnaderef08_TextAt.j0] at h, fun _ _ _ _ r h => by simp [colonnaderef08_TextAt.j1] at h⟩
  | k + 1 => by
    obtain ⟨ih0, ih1⟩ := colonnaderef08_TextAt.mono_l k
    refine ⟨?_, ?_⟩
    · intro y0 y1 y2 y3
      unfold colonnaderef08_TextAt.j0
      repeat' first
      | (with_reducible exact ih0 _ _ _ _)
      | (with_reducible exact ih1 _ _ _ _)
      | (with_reducible exact colonnaderef08_End.mono _ _ _)
      | (with_reducible exact LeO.refl _)
      | (with_reducible exact LeO.none _)
      | (with_reducible refine LeO.ite ?_ ?_)
      | (with_reducible refine LeO.bind ?_ (fun _ => ?_))
      | exact ih0 _ _ _ _
      | exact ih1 _ _ _ _
      | exact colonnaderef08_End.mono _ _ _
      | exact LeO.none _
      | refine LeO.ite ?_ ?_
      | refine LeO.bind ?_ (fun _ => ?_)
    · intro y0 y1 y2 y3
      unfold colonnaderef08_TextAt.j1
      repeat' first
      | (with_reducible exact ih0 _ _ _ _)
      | (with_reducible exact ih1 _ _ _ _)
      | (with_reducible exact colonnaderef08_End.mono _ _ _)
      | (with_reducible exact LeO.refl _)
      | (with_reducible exact LeO.none _)
      | (with_reducible refine LeO.ite ?_ ?_)
      | (with_reducible refine LeO.bind ?_ (fun _ => ?_))
      | exact ih0 _ _ _ _
      | exact ih1 _ _ _ _
      | exact colonnaderef08_End.mono _ _ _
      | exact LeO.none _
      | refine LeO.ite ?_ ?_
      | refine LeO.bind ?_ (fun _ => ?_)
theorem colonnaderef08_TextAt.mono : ∀ a0 a1 a2 k, LeO (colonnaderef08_TextAt.f k a0 a1 a2) (colonnaderef08_TextAt.f (k + 1) a0 a1 a2) := by
  intro a0 a1 a2 k
  obtain ⟨ih0, ih1⟩ := colonnaderef08_TextAt.mono_l k
  unfold colonnaderef08_TextAt.f
  repeat' first
      | (with_reducible exact ih0 _ _ _ _)
      | (with_reducible exact ih1 _ _ _ _)
      | (with_reducible exact colonnaderef08_End.mono _ _ _)
      | (with_reducible exact LeO.refl _)
      | (with_reducible exact LeO.none _)
      | (with_reducible refine LeO.ite ?_ ?_)
      | (with_reducible refine LeO.bind ?_ (fun _ => ?_))
      | exact ih0 _ _ _ _
      | exact ih1 _ _ _ _
      | exact colonnaderef08_End.mono _ _ _
      | exact LeO.none _
      | refine LeO.ite ?_ ?_
      | refine LeO.bind ?_ (fun _ => ?_)
set_option maxHeartbeats 8000000 in
set_option maxRecDepth 100000 in
theorem colonnaderef08_TextAt.calls (k : Nat) (A0 : Option Addr) (c0 : Nat) (l0 : List Int) (a1 : Int) (a2 : Int) (r1 : ByteArray) (r2 : Bool) (w : World) (hr0 : Kd.C (Kd.int .u8) w A0 l0.length l0) (hc0 : l0.length ≤ c0) (h : colonnaderef08_TextAt.f k l0 a1 a2 = some (r1, r2)) :
    Calls Try.prog 27 #[.slice A0 l0.length c0, .int .i64 a1, .int .i64 a2] w fun e w' => e = .returned (.tuple #[.string r1, .bool r2]) ∧ Drawn0 w w' := by
  have HR0 := Aside0.mk hr0
  have HC0 := Aside0.mk hc0
  clear hr0 hc0
  have H : ((colonnaderef08_may.f a1).bind fun t138 => (if t138 = 0 then (if a2 < 0 then (colonnaderef08_TextAt.j0 k l0 a1 a2 true) else (if a2 ≥ a1 then (colonnaderef08_TextAt.j0 k l0 a1 a2 true) else (colonnaderef08_TextAt.j0 k l0 a1 a2 (decide ((l0.length : Int) < (wrap64 (4 * (wrap64 (a1 + 1))))))))) else (colonnaderef08_TextAt.j0 k l0 a1 a2 true))) = some (r1, r2) := h
  clear h
  replace H := Option.bind_eq_some_iff.mp H
  obtain ⟨t138, A40, H⟩ := H
  replace H : (if t138 = 0 then (if a2 < 0 then (colonnaderef08_TextAt.j0 k l0 a1 a2 true) else (if a2 ≥ a1 then (colonnaderef08_TextAt.j0 k l0 a1 a2 true) else (colonnaderef08_TextAt.j0 k l0 a1 a2 (decide ((l0.length : Int) < (wrap64 (4 * (wrap64 (a1 + 1))))))))) else (colonnaderef08_TextAt.j0 k l0 a1 a2 true)) = some (r1, r2) := H
  have A4 := Aside0.mk A40
  clear A40
  have HC5 := Aside0.mk H
  clear H
  go_enter Try.func27, Try.ntmps27
  go_upto_region 2 with (first | ((with_reducible refine gate_callee (f := 40) rfl ?_); refine goesL_ (some 11) rfl rfl Try.func40 (by kernel_rfl) rfl #[.int .i64 a1] rfl (by (try simp only [List.map_toArray, List.map_cons, List.map_nil]); first | done | rfl | (simp only [List.length_drop, List.length_take]; rfl)) ?_; (with_reducible refine (colonnaderef08_may.calls a1 t138 _ A4.out).mono ?_); rintro e w' ⟨rfl, ⟨nd, rfl⟩⟩; refine ⟨_, rfl, ?_⟩))
  (try simp only [Act.put, List.setIfInBounds_toArray, List.set_cons_zero, List.set_cons_succ])
  go_cut [30] (fun v30 wc => ∃ (kq : Nat) (x30_4 : Bool), v30 = .bool x30_4 ∧ Aside0 (colonnaderef08_TextAt.j0 kq l0 a1 a2 x30_4 = some (r1, r2)) ∧ Aside0 (kq ≤ k) ∧ Drawn0 w wc)
  case first =>
    have H := HC5.out
    clear HC5
    by_cases c6 : t138 = 0
    · rw [if_pos c6] at H
      have c6b0 : (t138 == 0) = true := beq_iff_eq.mpr c6
      have c6b1 : (t138 != 0) = false := bne_eq_false_iff_eq.mpr c6
      clear c6
      (first | rw [c6b0] | (simp only [i64_w, i32_w]; rw [c6b0]) | skip)
      by_cases c7 : a2 < 0
      · rw [if_pos c7] at H
        have c7b0 : decide (a2 < 0) = true := decide_eq_true c7
        clear c7
        have H' := Aside0.mk H
        clear H
        go_wp2
        go_meet
        case rel => exact ⟨_, (true), (by first | rfl | (simp; done) | (simp [*]; done)), H', ⟨by first | omega | exact Nat.le_refl _⟩, by repeat (first | exact Drawn0.refl _ | apply Drawn0.step)⟩
      · rw [if_neg c7] at H
        have c7b0 : decide (a2 < 0) = false := decide_eq_false c7
        clear c7
        by_cases c8 : a2 ≥ a1
        · rw [if_pos c8] at H
          have c8b0 : decide (a1 ≤ a2) = true := decide_eq_true c8
          clear c8
          have H' := Aside0.mk H
          clear H
          go_wp2
          go_meet
          case rel => exact ⟨_, (true), (by first | rfl | (simp; done) | (simp [*]; done)), H', ⟨by first | omega | exact Nat.le_refl _⟩, by repeat (first | exact Drawn0.refl _ | apply Drawn0.step)⟩
        · rw [if_neg c8] at H
          have c8b0 : decide (a1 ≤ a2) = false := decide_eq_false c8
          clear c8
          have H' := Aside0.mk H
          clear H
          go_wp2
          go_meet
          case rel => exact ⟨_, (decide ((l0.length : Int) < (wrap64 (4 * (wrap64 (a1 + 1)))))), (by first | rfl | (simp; done) | (simp [*]; done)), H', ⟨by first | omega | exact Nat.le_refl _⟩, by repeat (first | exact Drawn0.refl _ | apply Drawn0.step)⟩
    · rw [if_neg c6] at H
      have c6b0 : (t138 == 0) = false := beq_eq_false_iff_ne.mpr c6
      have c6b1 : (t138 != 0) = true := bne_iff_ne.mpr c6
      (first | rw [c6b0] | (simp only [i64_w, i32_w]; rw [c6b0]) | skip)
      have H' := Aside0.mk H
      clear H
      go_wp2
      go_meet
      case rel => exact ⟨_, (true), (by first | rfl | (simp; done) | (simp [*]; done)), H', ⟨by first | omega | exact Nat.le_refl _⟩, by repeat (first | exact Drawn0.refl _ | apply Drawn0.step)⟩
  case rest =>
    clear HC5
    try clear c2
    try clear p2
    try clear c4
    try clear c6
    try clear c6b0
    try clear c6b1
    try clear p6
    try clear c7
    try clear c7b0
    try clear c8
    try clear c8b0
    obtain ⟨kq, x30_4, rfl, HA, HJ4, ⟨mc4, rfl⟩⟩ := hcut
    cases kq with
    | zero => exact absurd HA.out (by simp [colonnaderef08_TextAt.j0])
    | succ kj4 =>
      have H := HA.out
      clear HA
      simp only [colonnaderef08_TextAt.j0] at H
      by_cases c9 : x30_4 = true
      · subst c9
        have H1 : (some ((⟨#[]⟩ : ByteArray), false)) = some (r1, r2) := by rw [if_pos rfl] at H; exact H
        clear H
        have H := H1
        clear H1
        simp only [Option.some.injEq, Prod.mk.injEq] at H
        obtain ⟨rfl, rfl⟩ := H
        go_wp2
        go_ret2
        exact ⟨by first | rfl | (simp; done) | (simp [*]; done), by repeat (first | exact Drawn0.refl _ | apply Drawn0.step)⟩
      · replace c9 := Bool.eq_false_iff.mpr c9
        subst c9
        have H1 : (if 0 ≤ (wrap64 (4 * (wrap64 (a1 + 1)))) then (if (wrap64 (4 * (wrap64 (a1 + 1)))) ≤ (l0.length : Int) then ((colonnaderef08_End.f kj4 l0 a2).bind fun t140 => ((colonnaderef08_End.f kj4 l0 (wrap64 (a2 + 1))).bind fun t141 => (if t140 > t141 then (colonnaderef08_TextAt.j1 kj4 l0 a2 (l0.drop ((wrap64 (4 * (wrap64 (a1 + 1)))) : Int).toNat) true) else ((colonnaderef08_End.f kj4 l0 (wrap64 (a2 + 1))).bind fun t142 => (colonnaderef08_TextAt.j1 kj4 l0 a2 (l0.drop ((wrap64 (4 * (wrap64 (a1 + 1)))) : Int).toNat) (decide (t142 > ((l0.drop ((wrap64 (4 * (wrap64 (a1 + 1)))) : Int).toNat).length : Int)))))))) else (none)) else (none)) = some (r1, r2) := by rw [if_neg (show ¬ (false = true) by decide)] at H; exact H
        clear H
        have H := H1
        clear H1
        obtain ⟨ji10, hji10⟩ : ∃ j_ : Int, (wrap64 (4 * (wrap64 (a1 + 1)))) = j_ := ⟨_, rfl⟩
        replace H : (if 0 ≤ (ji10) then (if (ji10) ≤ (l0.length : Int) then ((colonnaderef08_End.f kj4 l0 a2).bind fun t140 => ((colonnaderef08_End.f kj4 l0 (wrap64 (a2 + 1))).bind fun t141 => (if t140 > t141 then (colonnaderef08_TextAt.j1 kj4 l0 a2 (l0.drop ((ji10) : Int).toNat) true) else ((colonnaderef08_End.f kj4 l0 (wrap64 (a2 + 1))).bind fun t142 => (colonnaderef08_TextAt.j1 kj4 l0 a2 (l0.drop ((ji10) : Int).toNat) (decide (t142 > ((l0.drop ((ji10) : Int).toNat).length : Int)))))))) else (none)) else (none)) = some (r1, r2) := by first | (rw [hji10] at H; exact H) | (simp only [hji10] at H ⊢; exact H)
        have hji10w : (IntKind.i64.wrap (4 * (wrap64 (a1 + 1)))) = ji10 := (i64_w _).trans hji10
        by_cases c11 : 0 ≤ (ji10)
        · rw [if_pos c11] at H
          have c11b0 := eq_true c11
          have c11b1 : decide (0 ≤ (ji10)) = true := decide_eq_true c11
          clear c11
          by_cases c12 : (ji10) ≤ (l0.length : Int)
          · rw [if_pos c12] at H
            have c12b0 := eq_true c12
            have c12b1 : decide ((ji10) ≤ (l0.length : Int)) = true := decide_eq_true c12
            clear c12
            have HC13 := Aside0.mk H
            clear H
            obtain ⟨i014, hi014, _, hsz14, _⟩ := info_parts info5
            obtain ⟨A14, hcut14, hA14, hC14⟩ := print_drop_of (P := Try.prog) (Value.int .u8) 0 24 5 .i64 Try.underlying24 hi014 hsz14 A0 c0 l0 (ji10) (of_decide_eq_true (by first | (with_reducible assumption) | assumption)) (of_decide_eq_true (by first | (with_reducible assumption) | assumption)) HC0.out
            have HR139 := Aside0.mk (Kd.C_of_reads (h1 := fun _ => rfl) (hA14 _ (Kd.reads_of_C HR0.out)))
            have HC139 := Aside0.mk hC14
            clear hA14 hC14 hi014 hsz14
            go_upto_region 5 with (fail)
            go_cut [52] (fun v52 wc => ∃ (kq : Nat) (x52_12 : Bool), v52 = .bool x52_12 ∧ Aside0 (colonnaderef08_TextAt.j1 kq l0 a2 (l0.drop ((ji10) : Int).toNat) x52_12 = some (r1, r2)) ∧ Aside0 (kq ≤ kj4) ∧ Drawn0 w wc)
            case first =>
              have H := HC13.out
              clear HC13
              replace H := Option.bind_eq_some_iff.mp H
              obtain ⟨t140, A150, H⟩ := H
              replace H : ((colonnaderef08_End.f kj4 l0 (wrap64 (a2 + 1))).bind fun t141 => (if t140 > t141 then (colonnaderef08_TextAt.j1 kj4 l0 a2 (l0.drop ((ji10) : Int).toNat) true) else ((colonnaderef08_End.f kj4 l0 (wrap64 (a2 + 1))).bind fun t142 => (colonnaderef08_TextAt.j1 kj4 l0 a2 (l0.drop ((ji10) : Int).toNat) (decide (t142 > ((l0.drop ((ji10) : Int).toNat).length : Int))))))) = some (r1, r2) := H
              have A15 := Aside0.mk A150
              clear A150
              replace H := Option.bind_eq_some_iff.mp H
              obtain ⟨t141, A160, H⟩ := H
              replace H : (if t140 > t141 then (colonnaderef08_TextAt.j1 kj4 l0 a2 (l0.drop ((ji10) : Int).toNat) true) else ((colonnaderef08_End.f kj4 l0 (wrap64 (a2 + 1))).bind fun t142 => (colonnaderef08_TextAt.j1 kj4 l0 a2 (l0.drop ((ji10) : Int).toNat) (decide (t142 > ((l0.drop ((ji10) : Int).toNat).length : Int)))))) = some (r1, r2) := H
              have A16 := Aside0.mk A160
              clear A160
              by_cases c17 : t140 > t141
              · rw [if_pos c17] at H
                have c17b0 : decide (t141 < t140) = true := decide_eq_true c17
                clear c17
                (first | rw [c17b0] | (simp only [i64_w, i32_w]; rw [c17b0]) | skip)
                have H' := Aside0.mk H
                clear H
                go_wp2_with (first | ((with_reducible refine gate_callee (f := 46) rfl ?_); refine goesL_ (some 38) rfl rfl Try.func46 (by kernel_rfl) rfl #[.slice A0 l0.length c0, .int .i64 a2] rfl (by (try simp only [List.map_toArray, List.map_cons, List.map_nil]); first | done | rfl | (simp only [List.length_drop, List.length_take]; rfl)) ?_; (with_reducible refine (colonnaderef08_End.calls kj4 _ _ l0 a2 t140 _ ?side1 ?side2 A15.out).mono ?_); (case side1 => repeat (first | exact HR0.out | (with_reducible refine Kd.C_alloc ?_ _) | (with_reducible refine Kd.C_drewN ?_ _) | (with_reducible refine Kd.C_drew ?_))); (case side2 => exact HC0.out); rintro e w' ⟨rfl, ⟨nd, rfl⟩⟩; refine ⟨_, rfl, ?_⟩) | ((with_reducible refine gate_callee (f := 46) rfl ?_); refine goesL_ (some 42) rfl rfl Try.func46 (by kernel_rfl) rfl #[.slice A0 l0.length c0, .int .i64 (wrap64 (a2 + 1))] rfl (by (try simp only [List.map_toArray, List.map_cons, List.map_nil]); first | done | rfl | (simp only [List.length_drop, List.length_take]; rfl)) ?_; (with_reducible refine (colonnaderef08_End.calls kj4 _ _ l0 (wrap64 (a2 + 1)) t141 _ ?side1 ?side2 A16.out).mono ?_); (case side1 => repeat (first | exact HR0.out | (with_reducible refine Kd.C_alloc ?_ _) | (with_reducible refine Kd.C_drewN ?_ _) | (with_reducible refine Kd.C_drew ?_))); (case side2 => exact HC0.out); rintro e w' ⟨rfl, ⟨nd, rfl⟩⟩; refine ⟨_, rfl, ?_⟩))
                go_meet
                case rel => exact ⟨_, (true), (by first | rfl | (simp; done) | (simp [*]; done)), H', ⟨by have := HJ4.out; first | omega | exact Nat.le_refl _⟩, by repeat (first | exact Drawn0.refl _ | apply Drawn0.step)⟩
              · rw [if_neg c17] at H
                have c17b0 : decide (t141 < t140) = false := decide_eq_false c17
                clear c17
                (first | rw [c17b0] | (simp only [i64_w, i32_w]; rw [c17b0]) | skip)
                replace H := Option.bind_eq_some_iff.mp H
                obtain ⟨t142, A180, H⟩ := H
                replace H : (colonnaderef08_TextAt.j1 kj4 l0 a2 (l0.drop ((ji10) : Int).toNat) (decide (t142 > ((l0.drop ((ji10) : Int).toNat).length : Int)))) = some (r1, r2) := H
                have A18 := Aside0.mk A180
                clear A180
                have H' := Aside0.mk H
                clear H
                go_wp2_with (first | ((with_reducible refine gate_callee (f := 46) rfl ?_); refine goesL_ (some 38) rfl rfl Try.func46 (by kernel_rfl) rfl #[.slice A0 l0.length c0, .int .i64 a2] rfl (by (try simp only [List.map_toArray, List.map_cons, List.map_nil]); first | done | rfl | (simp only [List.length_drop, List.length_take]; rfl)) ?_; (with_reducible refine (colonnaderef08_End.calls kj4 _ _ l0 a2 t140 _ ?side1 ?side2 A15.out).mono ?_); (case side1 => repeat (first | exact HR0.out | (with_reducible refine Kd.C_alloc ?_ _) | (with_reducible refine Kd.C_drewN ?_ _) | (with_reducible refine Kd.C_drew ?_))); (case side2 => exact HC0.out); rintro e w' ⟨rfl, ⟨nd, rfl⟩⟩; refine ⟨_, rfl, ?_⟩) | ((with_reducible refine gate_callee (f := 46) rfl ?_); refine goesL_ (some 42) rfl rfl Try.func46 (by kernel_rfl) rfl #[.slice A0 l0.length c0, .int .i64 (wrap64 (a2 + 1))] rfl (by (try simp only [List.map_toArray, List.map_cons, List.map_nil]); first | done | rfl | (simp only [List.length_drop, List.length_take]; rfl)) ?_; (with_reducible refine (colonnaderef08_End.calls kj4 _ _ l0 (wrap64 (a2 + 1)) t141 _ ?side1 ?side2 A16.out).mono ?_); (case side1 => repeat (first | exact HR0.out | (with_reducible refine Kd.C_alloc ?_ _) | (with_reducible refine Kd.C_drewN ?_ _) | (with_reducible refine Kd.C_drew ?_))); (case side2 => exact HC0.out); rintro e w' ⟨rfl, ⟨nd, rfl⟩⟩; refine ⟨_, rfl, ?_⟩) | (go_at_call 46; (with_reducible refine (colonnaderef08_End.calls kj4 _ _ l0 (wrap64 (a2 + 1)) t142 _ ?side1 ?side2 A18.out).mono ?_); (case side1 => repeat (first | exact HR0.out | (with_reducible refine Kd.C_alloc ?_ _) | (with_reducible refine Kd.C_drewN ?_ _) | (with_reducible refine Kd.C_drew ?_))); (case side2 => exact HC0.out); rintro e w' ⟨rfl, ⟨nd, rfl⟩⟩))
                go_meet
                case rel => exact ⟨_, (decide (t142 > ((l0.drop ((ji10) : Int).toNat).length : Int))), (by first | rfl | (simp; done) | (simp only [← hji10] <;> (first | rfl | simp)) | (simp [*]; done)), H', ⟨by have := HJ4.out; first | omega | exact Nat.le_refl _⟩, by repeat (first | exact Drawn0.refl _ | apply Drawn0.step)⟩
            case rest =>
              clear HC13
              try clear c1
              try clear c2
              try clear p2
              try clear c4
              try clear c6
              try clear c6b0
              try clear c6b1
              try clear p6
              try clear c7
              try clear c7b0
              try clear c8
              try clear c8b0
              try clear c9
              try clear c11
              try clear c11b0
              try clear c11b1
              try clear c12
              try clear c12b0
              try clear c12b1
              try clear c17
              try clear c17b0
              try clear p2
              try clear p6
              obtain ⟨kq, x52_12, rfl, HA, HJ12, ⟨mc12, rfl⟩⟩ := hcut
              cases kq with
              | zero => exact absurd HA.out (by simp [colonnaderef08_TextAt.j1])
              | succ kj12 =>
                have H := HA.out
                clear HA
                simp only [colonnaderef08_TextAt.j1] at H
                by_cases c19 : x52_12 = true
                · subst c19
                  have H1 : (some ((⟨#[]⟩ : ByteArray), false)) = some (r1, r2) := by rw [if_pos rfl] at H; exact H
                  clear H
                  have H := H1
                  clear H1
                  simp only [Option.some.injEq, Prod.mk.injEq] at H
                  obtain ⟨rfl, rfl⟩ := H
                  go_wp2
                  go_ret2
                  exact ⟨by first | rfl | (simp; done) | (simp only [← hji10] <;> (first | rfl | simp)) | (simp [*]; done), by repeat (first | exact Drawn0.refl _ | apply Drawn0.step)⟩
                · replace c19 := Bool.eq_false_iff.mpr c19
                  subst c19
                  have H1 : ((colonnaderef08_End.f kj12 l0 a2).bind fun t143 => ((colonnaderef08_End.f kj12 l0 (wrap64 (a2 + 1))).bind fun t144 => (if 0 ≤ t143 then (if t143 ≤ t144 then (if t144 ≤ ((l0.drop ((ji10) : Int).toNat).length : Int) then (some (strOfNums (((l0.drop ((ji10) : Int).toNat).take (t144 : Int).toNat).drop (t143 : Int).toNat), true)) else (none)) else (none)) else (none)))) = some (r1, r2) := by rw [if_neg (show ¬ (false = true) by decide)] at H; exact H
                  clear H
                  have H := H1
                  clear H1
                  replace H := Option.bind_eq_some_iff.mp H
                  obtain ⟨t143, A200, H⟩ := H
                  replace H : ((colonnaderef08_End.f kj12 l0 (wrap64 (a2 + 1))).bind fun t144 => (if 0 ≤ t143 then (if t143 ≤ t144 then (if t144 ≤ ((l0.drop ((ji10) : Int).toNat).length : Int) then (some (strOfNums (((l0.drop ((ji10) : Int).toNat).take (t144 : Int).toNat).drop (t143 : Int).toNat), true)) else (none)) else (none)) else (none))) = some (r1, r2) := H
                  have A20 := Aside0.mk A200
                  clear A200
                  replace H := Option.bind_eq_some_iff.mp H
                  obtain ⟨t144, A210, H⟩ := H
                  replace H : (if 0 ≤ t143 then (if t143 ≤ t144 then (if t144 ≤ ((l0.drop ((ji10) : Int).toNat).length : Int) then (some (strOfNums (((l0.drop ((ji10) : Int).toNat).take (t144 : Int).toNat).drop (t143 : Int).toNat), true)) else (none)) else (none)) else (none)) = some (r1, r2) := H
                  have A21 := Aside0.mk A210
                  clear A210
                  by_cases c22 : 0 ≤ t143
                  · rw [if_pos c22] at H
                    have c22b0 := eq_true c22
                    have c22b1 : decide (0 ≤ t143) = true := decide_eq_true c22
                    clear c22
                    by_cases c23 : t143 ≤ t144
                    · rw [if_pos c23] at H
                      have c23b0 := eq_true c23
                      have c23b1 : decide (t143 ≤ t144) = true := decide_eq_true c23
                      clear c23
                      by_cases c24 : t144 ≤ ((l0.drop ((ji10) : Int).toNat).length : Int)
                      · rw [if_pos c24] at H
                        have c24b0 := eq_true c24
                        have c24b1 : decide (t144 ≤ ((l0.drop ((ji10) : Int).toNat).length : Int)) = true := decide_eq_true c24
                        clear c24
                        simp only [Option.some.injEq, Prod.mk.injEq] at H
                        obtain ⟨rfl, rfl⟩ := H
                        go_wp2_with (first | ((with_reducible refine gate_callee (f := 46) rfl ?_); refine goesL_ (some 56) rfl rfl Try.func46 (by kernel_rfl) rfl #[.slice A0 l0.length c0, .int .i64 a2] rfl (by (try simp only [List.map_toArray, List.map_cons, List.map_nil]); first | done | rfl | (simp only [List.length_drop, List.length_take]; rfl)) ?_; (with_reducible refine (colonnaderef08_End.calls kj12 _ _ l0 a2 t143 _ ?side1 ?side2 A20.out).mono ?_); (case side1 => repeat (first | exact HR0.out | (with_reducible refine Kd.C_alloc ?_ _) | (with_reducible refine Kd.C_drewN ?_ _) | (with_reducible refine Kd.C_drew ?_))); (case side2 => exact HC0.out); rintro e w' ⟨rfl, ⟨nd, rfl⟩⟩; refine ⟨_, rfl, ?_⟩) | ((with_reducible refine gate_callee (f := 46) rfl ?_); refine goesL_ (some 60) rfl rfl Try.func46 (by kernel_rfl) rfl #[.slice A0 l0.length c0, .int .i64 (wrap64 (a2 + 1))] rfl (by (try simp only [List.map_toArray, List.map_cons, List.map_nil]); first | done | rfl | (simp only [List.length_drop, List.length_take]; rfl)) ?_; (with_reducible refine (colonnaderef08_End.calls kj12 _ _ l0 (wrap64 (a2 + 1)) t144 _ ?side1 ?side2 A21.out).mono ?_); (case side1 => repeat (first | exact HR0.out | (with_reducible refine Kd.C_alloc ?_ _) | (with_reducible refine Kd.C_drewN ?_ _) | (with_reducible refine Kd.C_drew ?_))); (case side2 => exact HC0.out); rintro e w' ⟨rfl, ⟨nd, rfl⟩⟩; refine ⟨_, rfl, ?_⟩; obtain ⟨i025, hi025, _, hsz25, _⟩ := info_parts info5; obtain ⟨A25, hcut25, hA25, hC25⟩ := print_mid_of (P := Try.prog) (Value.int .u8) 0 24 5 .i64 .i64 Try.underlying24 hi025 hsz25 A14 (c0 - (ji10).toNat) (l0.drop ((ji10) : Int).toNat) t143 t144 (of_decide_eq_true (by first | (with_reducible assumption) | assumption)) (by first | omega | exact of_decide_eq_true (by first | (with_reducible assumption) | assumption)) (of_decide_eq_true (by first | (with_reducible assumption) | assumption)) HC139.out; have HR145 := Aside0.mk (Kd.C_of_reads (h1 := fun _ => rfl) (hA25 _ (Kd.reads_of_C HR139.out))); have HC145 := Aside0.mk hC25; clear hA25 hC25 hi025 hsz25; have hcv26 := Kd.C_string (P := Try.prog) (A := A25) (c := ((c0 - (ji10).toNat) - t143.toNat)) Try.underlying24 Try.underlying5 Try.underlying9 HR145.out; have hcv26m_ := fun m_ : Nat => Kd.C_string (P := Try.prog) (A := A25) (c := ((c0 - (ji10).toNat) - t143.toNat)) Try.underlying24 Try.underlying5 Try.underlying9 (Kd.C_drewN HR145.out m_); have hcut25s_ := hcut25; have hcv26s_ := hcv26; have hcv26t_ := hcv26m_; (try simp only [List.length_drop, List.length_take] at hcut25s_ hcv26s_ hcv26t_)))
                        go_ret2
                        exact ⟨by first | rfl | (simp; done) | (simp only [← hji10] <;> (first | rfl | simp)) | (simp [*]; done), by repeat (first | exact Drawn0.refl _ | apply Drawn0.step)⟩
                      · rw [if_neg c24] at H
                        exact absurd H (by simp)
                    · rw [if_neg c23] at H
                      exact absurd H (by simp)
                  · rw [if_neg c22] at H
                    exact absurd H (by simp)
          · rw [if_neg c12] at H
            exact absurd H (by simp)
        · rw [if_neg c11] at H
          exact absurd H (by simp)

end Go.Proofs.Ytkepimkabfoapab.PPlainTexts
-- MIDSIMP
