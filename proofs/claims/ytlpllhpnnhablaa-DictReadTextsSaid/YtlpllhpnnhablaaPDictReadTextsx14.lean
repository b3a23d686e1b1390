-- Written by xprint.py, this session's own program over the kit's print; Lean checks it.
import Derived.Test.YtlpllhpnnhablaaPDictReadTextsx0
import Derived.Test.YtlpllhpnnhablaaPDictReadTextsx10
import Derived.Test.YtlpllhpnnhablaaPDictReadTextsx11
import Derived.Test.YtlpllhpnnhablaaPDictReadTextsx12
import Derived.Test.YtlpllhpnnhablaaPDictReadTextsx13
namespace Go.Proofs.Ytlpllhpnnhablaa.PDictReadTexts
open Go.RowKit Go.Proofs.YtlpllhpnnhablaaW.PrintWords Go.Proofs.YtlpllhpnnhablaaW.PrintLast Go.Proofs.YtlpllhpnnhablaaW.PrintMore
attribute [local go_sem] max2_int min2_int max_two min_two max_three min_three max_four min_four   -- for this text's walks alone
set_option linter.unusedVariables false
set_option linter.unusedSimpArgs false

/-! ### colonnaderef09_Texts: function 51 -/
mutual
def colonnaderef09_Texts.j0 : Nat → List Int → Int → Int → Int → Bool → Option (List ByteArray × Int × List Int × Int)
  | 0, _, _, _, _, _ => none
  | k + 1, x0, x1, x9, x10, x47 => if x47 = true then (some (([] : List ByteArray), 0, ([] : List Int), 90)) else (colonnaderef09_Texts.l0 k x0 x1 x9 x10 (wrap64 ((wrap64 (x10 + (wrap64 (4 * x9)))) + 4)) 0 ([] : List ByteArray) 0)
def colonnaderef09_Texts.l0 : Nat → List Int → Int → Int → Int → Int → Int → List ByteArray → Int → Option (List ByteArray × Int × List Int × Int)
  | 0, _, _, _, _, _, _, _, _ => none
  | k + 1, x0, x1, x9, x10, x11, x12, x13, x14 => if x14 ≤ x9 then (if 0 ≤ (wrap64 (x10 + (wrap64 (4 * x14)))) then (if (wrap64 (x10 + (wrap64 (4 * x14)))) ≤ (x0.length : Int) then ((colonnaderef09_four.f (x0.drop ((wrap64 (x10 + (wrap64 (4 * x14)))) : Int).toNat)).bind fun t342 => (if t342 < x12 then (colonnaderef09_Texts.j2 k x0 x1 x9 x10 x11 x12 x13 x14 t342 true) else (if x14 = 0 then (if t342 = 0 then (colonnaderef09_Texts.j2 k x0 x1 x9 x10 x11 x12 x13 x14 t342 (decide (t342 > (wrap64 ((x0.length : Int) - x11))))) else (colonnaderef09_Texts.j2 k x0 x1 x9 x10 x11 x12 x13 x14 t342 true)) else (colonnaderef09_Texts.j2 k x0 x1 x9 x10 x11 x12 x13 x14 t342 (decide (t342 > (wrap64 ((x0.length : Int) - x11)))))))) else (none)) else (none)) else (if 0 ≤ (wrap64 (x11 + x12)) then (if (wrap64 (x11 + x12)) ≤ (x0.length : Int) then ((colonnaderef09_used.f k (x0.drop ((wrap64 (x11 + x12)) : Int).toNat) x9 x1).bind fun bt348 => (if bt348.2 = true then (colonnaderef09_Texts.l1 k x0 x1 x9 x13 bt348.1 ([] : List ByteArray) 0) else (some (([] : List ByteArray), 0, ([] : List Int), 90)))) else (none)) else (none))
def colonnaderef09_Texts.j2 : Nat → List Int → Int → Int → Int → Int → Int → List ByteArray → Int → Int → Bool → Option (List ByteArray × Int × List Int × Int)
  | 0, _, _, _, _, _, _, _, _, _, _ => none
  | k + 1, x0, x1, x9, x10, x11, x12, x13, x14, x15, x83 => if x83 = true then (some (([] : List ByteArray), 0, ([] : List Int), 90)) else (if x14 > 0 then (if 0 ≤ (wrap64 (x11 + x12)) then (if (wrap64 (x11 + x12)) ≤ (wrap64 (x11 + x15)) then (if (wrap64 (x11 + x15)) ≤ (x0.length : Int) then (if x13.length < 8796093022208 then (colonnaderef09_Texts.l0 k x0 x1 x9 x10 x11 x15 (x13 ++ [strOfNums ((x0.take ((wrap64 (x11 + x15)) : Int).toNat).drop ((wrap64 (x11 + x12)) : Int).toNat)]) (wrap64 (x14 + 1))) else (none)) else (none)) else (none)) else (none)) else (colonnaderef09_Texts.l0 k x0 x1 x9 x10 x11 x15 x13 (wrap64 (x14 + 1))))
def colonnaderef09_Texts.l1 : Nat → List Int → Int → Int → List ByteArray → List Int → List ByteArray → Int → Option (List ByteArray × Int × List Int × Int)
  | 0, _, _, _, _, _, _, _ => none
  | k + 1, x0, x1, x9, x13, x16, x18, x19 => if x19 < x1 then (if 0 ≤ x19 then (if x19 < (x16.length : Int) then (if 0 ≤ (rd x16 x19) then (if (rd x16 x19) < (x13.length : Int) then (if x18.length < 8796093022208 then (colonnaderef09_Texts.l1 k x0 x1 x9 x13 x16 (x18 ++ [rdOf ByteArray.empty x13 (rd x16 x19)]) (wrap64 (x19 + 1))) else (none)) else (none)) else (none)) else (none)) else (none)) else ((colonnaderef09_PutTexts.f k x18).bind fun bt357 => (if bt357.2 = 0 then (colonnaderef09_Texts.j4 k x9 x13 x16 ((strOfNums bt357.1).toList != (strOfNums x0).toList)) else (colonnaderef09_Texts.j4 k x9 x13 x16 true)))
def colonnaderef09_Texts.j4 : Nat → Int → List ByteArray → List Int → Bool → Option (List ByteArray × Int × List Int × Int)
  | 0, _, _, _, _ => none
  | k + 1, x9, x13, x16, x140 => if x140 = true then (some (([] : List ByteArray), 0, ([] : List Int), 90)) else ((colonnaderef09_Width.f k x9).bind fun t361 => ((colonnaderef09_Width.f k x9).bind fun t362 => ((colonnaderef03_Pack.f k x16 t362).bind fun t363 => (some (x13, t361, t363, 0)))))
end
def colonnaderef09_Texts.f (k : Nat) (l0 : List Int) (a1 : Int) : Option (List ByteArray × Int × List Int × Int) := (colonnaderef09_count.f a1).bind fun t338 => (if t338 = 0 then ((colonnaderef09_number.f k l0).bind fun bt339 => (if bt339.2 = 0 then (colonnaderef09_Texts.j0 k l0 a1 bt339.1 bt339.2 true) else (if bt339.1 > 65536 then (colonnaderef09_Texts.j0 k l0 a1 bt339.1 bt339.2 true) else (colonnaderef09_Texts.j0 k l0 a1 bt339.1 bt339.2 (decide ((wrap64 ((l0.length : Int) - bt339.2)) < (wrap64 ((wrap64 (4 * bt339.1)) + 4)))))))) else (some (([] : List ByteArray), 0, ([] : List Int), t338)))
theorem colonnaderef09_Texts.mono_l : ∀ k, (∀ y0 y1 y2 y3 y4, LeO (colonnaderef09_Texts.j0 k y0 y1 y2 y3 y4) (colonnaderef09_Texts.j0 (k + 1) y0 y1 y2 y3 y4)) ∧ (∀ y0 y1 y2 y3 y4 y5 y6 y7, LeO (colonnaderef09_Texts.l0 k y0 y1 y2 y3 y4 y5 y6 y7) (colonnaderef09_Texts.l0 (k + 1) y0 y1 y2 y3 y4 y5 y6 y7)) ∧ (∀ y0 y1 y2 y3 y4 y5 y6 y7 y8 y9, LeO (colonnaderef09_Texts.j2 k y0 y1 y2 y3 y4 y5 y6 y7 y8 y9) (colonnaderef09_Texts.j2 (k + 1) y0 y1 y2 y3 y4 y5 y6 y7 y8 y9)) ∧ (∀ y0 y1 y2 y3 y4 y5 y6, LeO (colonnaderef09_Texts.l1 k y0 y1 y2 y3 y4 y5 y6) (colonnaderef09_Texts.l1 (k + 1) y0 y1 y2 y3 y4 y5 y6)) ∧ (∀ y0 y1 y2 y3, LeO (colonnaderef09_Texts.j4 k y0 y1 y2 y3) (colonnaderef09_Texts.j4 (k + 1) y0 y1 y2 y3))
  | 0 => ⟨fun _ _ _ _ _ r h => by simp [colonnaderef09_Texts.j0] at h, fun _ _ _ _ _ _ _ _ r h => by simp [colonnaderef09_Texts.l0] at h, fun _ _ _ _ _ _ _ _ _ _ r h => by simp [colonnaderef09_Texts.j2] at h, fun _ _ _ _ _ _ _ r h => by simp [colonnaderef09_Texts.l1] at h, fun _ _ _ _ r h => by simp [colonnaderef09_Texts.j4] at h⟩
  | k + 1 => by
    obtain ⟨ih0, ih1, ih2, ih3, ih4⟩ := colonnaderef09_Texts.mono_l k
    refine ⟨?_, ?_, ?_, ?_, ?_⟩
    · intro y0 y1 y2 y3 y4
      unfold colonnaderef09_Texts.j0
      repeat' first
      | (with_reducible exact ih0 _ _ _ _ _)
      | (with_reducible exact ih1 _ _ _ _ _ _ _ _)
      | (with_reducible exact ih2 _ _ _ _ _ _ _ _ _ _)
      | (with_reducible exact ih3 _ _ _ _ _ _ _)
      | (with_reducible exact ih4 _ _ _ _)
      | (with_reducible exact colonnaderef03_Pack.mono _ _ _)
      | (with_reducible exact colonnaderef09_PutTexts.mono _ _)
      | (with_reducible exact colonnaderef09_Width.mono _ _)
      | (with_reducible exact colonnaderef09_number.mono _ _)
      | (with_reducible exact colonnaderef09_used.mono _ _ _ _)
      | (with_reducible exact LeO.refl _)
      | (with_reducible exact LeO.none _)
      | (with_reducible refine LeO.ite ?_ ?_)
      | (with_reducible refine LeO.bind ?_ (fun _ => ?_))
      | exact ih0 _ _ _ _ _
      | exact ih1 _ _ _ _ _ _ _ _
      | exact ih2 _ _ _ _ _ _ _ _ _ _
      | exact ih3 _ _ _ _ _ _ _
      | exact ih4 _ _ _ _
      | exact colonnaderef03_Pack.mono _ _ _
      | exact colonnaderef09_PutTexts.mono _ _
      | exact colonnaderef09_Width.mono _ _
      | exact colonnaderef09_number.mono _ _
      | exact colonnaderef09_used.mono _ _ _ _
      | exact LeO.none _
      | refine LeO.ite ?_ ?_
      | refine LeO.bind ?_ (fun _ => ?_)
    · intro y0 y1 y2 y3 y4 y5 y6 y7
      unfold colonnaderef09_Texts.l0
      repeat' first
      | (with_reducible exact ih0 _ _ _ _ _)
      | (with_reducible exact ih1 _ _ _ _ _ _ _ _)
      | (with_reducible exact ih2 _ _ _ _ _ _ _ _ _ _)
      | (with_reducible exact ih3 _ _ _ _ _ _ _)
      | (with_reducible exact ih4 _ _ _ _)
      | (with_reducible exact colonnaderef03_Pack.mono _ _ _)
      | (with_reducible exact colonnaderef09_PutTexts.mono _ _)
      | (with_reducible exact colonnaderef09_Width.mono _ _)
      | (with_reducible exact colonnaderef09_number.mono _ _)
      | (with_reducible exact colonnaderef09_used.mono _ _ _ _)
      | (with_reducible exact LeO.refl _)
      | (with_reducible exact LeO.none _)
      | (with_reducible refine LeO.ite ?_ ?_)
      | (with_reducible refine LeO.bind ?_ (fun _ => ?_))
      | exact ih0 _ _ _ _ _
      | exact ih1 _ _ _ _ _ _ _ _
      | exact ih2 _ _ _ _ _ _ _ _ _ _
      | exact ih3 _ _ _ _ _ _ _
      | exact ih4 _ _ _ _
      | exact colonnaderef03_Pack.mono _ _ _
      | exact colonnaderef09_PutTexts.mono _ _
      | exact colonnaderef09_Width.mono _ _
      | exact colonnaderef09_number.mono _ _
      | exact colonnaderef09_used.mono _ _ _ _
      | exact LeO.none _
      | refine LeO.ite ?_ ?_
      | refine LeO.bind ?_ (fun _ => ?_)
    · intro y0 y1 y2 y3 y4 y5 y6 y7 y8 y9
      unfold colonnaderef09_Texts.j2
      repeat' first
      | (with_reducible exact ih0 _ _ _ _ _)
      | (with_reducible exact ih1 _ _ _ _ _ _ _ _)
      | (with_reducible exact ih2 _ _ _ _ _ _ _ _ _ _)
      | (with_reducible exact ih3 _ _ _ _ _ _ _)
      | (with_reducible exact ih4 _ _ _ _)
      | (with_reducible exact colonnaderef03_Pack.mono _ _ _)
      | (with_reducible exact colonnaderef09_PutTexts.mono _ _)
      | (with_reducible exact colonnaderef09_Width.mono _ _)
      | (with_reducible exact colonnaderef09_number.mono _ _)
      | (with_reducible exact colonnaderef09_used.mono _ _ _ _)
      | (with_reducible exact LeO.refl _)
      | (with_reducible exact LeO.none _)
      | (with_reducible refine LeO.ite ?_ ?_)
      | (with_reducible refine LeO.bind ?_ (fun _ => ?_))
      | exact ih0 _ _ _ _ _
      | exact ih1 _ _ _ _ _ _ _ _
      | exact ih2 _ _ _ _ _ _ _ _ _ _
      | exact ih3 _ _ _ _ _ _ _
      | exact ih4 _ _ _ _
      | exact colonnaderef03_Pack.mono _ _ _
      | exact colonnaderef09_PutTexts.mono _ _
      | exact colonnaderef09_Width.mono _ _
      | exact colonnaderef09_number.mono _ _
      | exact colonnaderef09_used.mono _ _ _ _
      | exact LeO.none _
      | refine LeO.ite ?_ ?_
      | refine LeO.bind ?_ (fun _ => ?_)
    · intro y0 y1 y2 y3 y4 y5 y6
      unfold colonnaderef09_Texts.l1
      repeat' first
      | (with_reducible exact ih0 _ _ _ _ _)
      | (with_reducible exact ih1 _ _ _ _ _ _ _ _)
      | (with_reducible exact ih2 _ _ _ _ _ _ _ _ _ _)
      | (with_reducible exact ih3 _ _ _ _ _ _ _)
      | (with_reducible exact ih4 _ _ _ _)
      | (with_reducible exact colonnaderef03_Pack.mono _ _ _)
      | (with_reducible exact colonnaderef09_PutTexts.mono _ _)
      | (with_reducible exact colonnaderef09_Width.mono _ _)
      | (with_reducible exact colonnaderef09_number.mono _ _)
      | (with_reducible exact colonnaderef09_used.mono _ _ _ _)
      | (with_reducible exact LeO.refl _)
      | (with_reducible exact LeO.none _)
      | (with_reducible refine LeO.ite ?_ ?_)
      | (with_reducible refine LeO.bind ?_ (fun _ => ?_))
      | exact ih0 _ _ _ _ _
      | exact ih1 _ _ _ _ _ _ _ _
      | exact ih2 _ _ _ _ _ _ _ _ _ _
      | exact ih3 _ _ _ _ _ _ _
      | exact ih4 _ _ _ _
      | exact colonnaderef03_Pack.mono _ _ _
      | exact colonnaderef09_PutTexts.mono _ _
      | exact colonnaderef09_Width.mono _ _
      | exact colonnaderef09_number.mono _ _
      | exact colonnaderef09_used.mono _ _ _ _
      | exact LeO.none _
      | refine LeO.ite ?_ ?_
      | refine LeO.bind ?_ (fun _ => ?_)
    · intro y0 y1 y2 y3
      unfold colonnaderef09_Texts.j4
      repeat' first
      | (with_reducible exact ih0 _ _ _ _ _)
      | (with_reducible exact ih1 _ _ _ _ _ _ _ _)
      | (with_reducible exact ih2 _ _ _ _ _ _ _ _ _ _)
      | (with_reducible exact ih3 _ _ _ _ _ _ _)
      | (with_reducible exact ih4 _ _ _ _)
      | (with_reducible exact colonnaderef03_Pack.mono _ _ _)
      | (with_reducible exact colonnaderef09_PutTexts.mono _ _)
      | (with_reducible exact colonnaderef09_Width.mono _ _)
      | (with_reducible exact colonnaderef09_number.mono _ _)
      | (with_reducible exact colonnaderef09_used.mono _ _ _ _)
      | (with_reducible exact LeO.refl _)
      | (with_reducible exact LeO.none _)
      | (with_reducible refine LeO.ite ?_ ?_)
      | (with_reducible refine LeO.bind ?_ (fun _ => ?_))
      | exact ih0 _ _ _ _ _
      | exact ih1 _ _ _ _ _ _ _ _
      | exact ih2 _ _ _ _ _ _ _ _ _ _
      | exact ih3 _ _ _ _ _ _ _
      | exact ih4 _ _ _ _
      | exact colonnaderef03_Pack.mono _ _ _
      | exact colonnaderef09_PutTexts.mono _ _
      | exact colonnaderef09_Width.mono _ _
      | exact colonnaderef09_number.mono _ _
      | exact colonnaderef09_used.mono _ _ _ _
      | exact LeO.none _
      | refine LeO.ite ?_ ?_
      | refine LeO.bind ?_ (fun _ => ?_)
theorem colonnaderef09_Texts.mono : ∀ a0 a1 k, LeO (colonnaderef09_Texts.f k a0 a1) (colonnaderef09_Texts.f (k + 1) a0 a1) := by
  intro a0 a1 k
  obtain ⟨ih0, ih1, ih2, ih3, ih4⟩ := colonnaderef09_Texts.mono_l k
  unfold colonnaderef09_Texts.f
  repeat' first
      | (with_reducible exact ih0 _ _ _ _ _)
      | (with_reducible exact ih1 _ _ _ _ _ _ _ _)
      | (with_reducible exact ih2 _ _ _ _ _ _ _ _ _ _)
      | (with_reducible exact ih3 _ _ _ _ _ _ _)
      | (with_reducible exact ih4 _ _ _ _)
      | (with_reducible exact colonnaderef03_Pack.mono _ _ _)
      | (with_reducible exact colonnaderef09_PutTexts.mono _ _)
      | (with_reducible exact colonnaderef09_Width.mono _ _)
      | (with_reducible exact colonnaderef09_number.mono _ _)
      | (with_reducible exact colonnaderef09_used.mono _ _ _ _)
      | (with_reducible exact LeO.refl _)
      | (with_reducible exact LeO.none _)
      | (with_reducible refine LeO.ite ?_ ?_)
      | (with_reducible refine LeO.bind ?_ (fun _ => ?_))
      | exact ih0 _ _ _ _ _
      | exact ih1 _ _ _ _ _ _ _ _
      | exact ih2 _ _ _ _ _ _ _ _ _ _
      | exact ih3 _ _ _ _ _ _ _
      | exact ih4 _ _ _ _
      | exact colonnaderef03_Pack.mono _ _ _
      | exact colonnaderef09_PutTexts.mono _ _
      | exact colonnaderef09_Width.mono _ _
      | exact colonnaderef09_number.mono _ _
      | exact colonnaderef09_used.mono _ _ _ _
      | exact LeO.none _
      | refine LeO.ite ?_ ?_
      | refine LeO.bind ?_ (fun _ => ?_)
set_option maxHeartbeats 8000000 in
set_option maxRecDepth 100000 in
theorem colonnaderef09_Texts.calls (k : Nat) (A0 : Option Addr) (c0 : Nat) (l0 : List Int) (a1 : Int) (r1 : List ByteArray) (r2 : Int) (r3 : List Int) (r4 : Int) (w : World) (hr0 : Kd.C (Kd.int .u8) w A0 l0.length l0) (hc0 : l0.length ≤ c0) (h : colonnaderef09_Texts.f k l0 a1 = some (r1, r2, r3, r4)) :
    Calls Try.prog 51 #[.slice A0 l0.length c0, .int .i64 a1] w fun e w' => ∃ v0_ v2_ : Value, e = .returned (.tuple #[v0_, .int .i64 r2, v2_, .int .i64 r4]) ∧ Kd.R Kd.string 9 w' w.heap.size (fun _ => True) v0_ r1 ∧ Kd.R (Kd.int .u8) 5 w' w.heap.size (fun _ => True) v2_ r3 ∧ Below w.heap.size w w' := by
  have HR0 := Aside0.mk hr0
  have HC0 := Aside0.mk hc0
  clear hr0 hc0
  have HB := Aside0.mk (Below.refl w.heap.size w)
  have H : ((colonnaderef09_count.f a1).bind fun t338 => (if t338 = 0 then ((colonnaderef09_number.f k l0).bind fun bt339 => (if bt339.2 = 0 then (colonnaderef09_Texts.j0 k l0 a1 bt339.1 bt339.2 true) else (if bt339.1 > 65536 then (colonnaderef09_Texts.j0 k l0 a1 bt339.1 bt339.2 true) else (colonnaderef09_Texts.j0 k l0 a1 bt339.1 bt339.2 (decide ((wrap64 ((l0.length : Int) - bt339.2)) < (wrap64 ((wrap64 (4 * bt339.1)) + 4)))))))) else (some (([] : List ByteArray), 0, ([] : List Int), t338)))) = some (r1, r2, r3, r4) := h
  clear h
  replace H := Option.bind_eq_some_iff.mp H
  obtain ⟨t338, A30, H⟩ := H
  replace H : (if t338 = 0 then ((colonnaderef09_number.f k l0).bind fun bt339 => (if bt339.2 = 0 then (colonnaderef09_Texts.j0 k l0 a1 bt339.1 bt339.2 true) else (if bt339.1 > 65536 then (colonnaderef09_Texts.j0 k l0 a1 bt339.1 bt339.2 true) else (colonnaderef09_Texts.j0 k l0 a1 bt339.1 bt339.2 (decide ((wrap64 ((l0.length : Int) - bt339.2)) < (wrap64 ((wrap64 (4 * bt339.1)) + 4)))))))) else (some (([] : List ByteArray), 0, ([] : List Int), t338))) = some (r1, r2, r3, r4) := H
  have A3 := Aside0.mk A30
  clear A30
  by_cases c4 : t338 = 0
  · rw [if_pos c4] at H
    have c4b0 : (t338 == 0) = true := beq_iff_eq.mpr c4
    have c4b1 : (t338 != 0) = false := bne_eq_false_iff_eq.mpr c4
    clear c4
    replace H := Option.bind_eq_some_iff.mp H
    obtain ⟨⟨t339, t340⟩, A50, H⟩ := H
    replace H : (if t340 = 0 then (colonnaderef09_Texts.j0 k l0 a1 t339 t340 true) else (if t339 > 65536 then (colonnaderef09_Texts.j0 k l0 a1 t339 t340 true) else (colonnaderef09_Texts.j0 k l0 a1 t339 t340 (decide ((wrap64 ((l0.length : Int) - t340)) < (wrap64 ((wrap64 (4 * t339)) + 4))))))) = some (r1, r2, r3, r4) := H
    have A5 := Aside0.mk A50
    clear A50
    have HC6 := Aside0.mk H
    clear H
    go_enter Try.func51, Try.ntmps51
    go_upto_region 5 with (first | ((with_reducible refine gate_callee (f := 63) rfl ?_); refine goesL_ (some 23) rfl rfl Try.func63 (by kernel_rfl) rfl #[.int .i64 a1] rfl (by (try simp only [List.map_toArray, List.map_cons, List.map_nil]); first | done | rfl | (simp only [List.length_drop, List.length_take]; rfl)) ?_; (with_reducible refine (colonnaderef09_count.calls a1 t338 _ A3.out).mono ?_); rintro e w' ⟨rfl, ⟨nd, rfl⟩⟩; refine ⟨_, rfl, ?_⟩) | ((with_reducible refine gate_callee (f := 64) rfl ?_); refine goesL_ (some 29) rfl rfl Try.func64 (by kernel_rfl) rfl #[.slice A0 l0.length c0] rfl (by (try simp only [List.map_toArray, List.map_cons, List.map_nil]); first | done | rfl | (simp only [List.length_drop, List.length_take]; rfl)) ?_; (with_reducible refine (colonnaderef09_number.calls k _ _ l0 t339 t340 _ ?side1 ?side2 A5.out).mono ?_); (case side1 => repeat (first | exact HR0.out | (with_reducible refine Kd.C_alloc ?_ _) | (with_reducible refine Kd.C_drewN ?_ _) | (with_reducible refine Kd.C_drew ?_))); (case side2 => exact HC0.out); rintro e w' ⟨rfl, ⟨nd, rfl⟩⟩; refine ⟨_, rfl, ?_⟩))
    (try simp only [Act.put, List.setIfInBounds_toArray, List.set_cons_zero, List.set_cons_succ])
    go_cut [47] (fun v47 wc => ∃ (kq : Nat) (x47_5 : Bool), v47 = .bool x47_5 ∧ Aside0 (colonnaderef09_Texts.j0 kq l0 a1 t339 t340 x47_5 = some (r1, r2, r3, r4)) ∧ Aside0 (kq ≤ k) ∧ Aside0 (Below w.heap.size w wc))
    case first =>
      have H := HC6.out
      clear HC6
      by_cases c7 : t340 = 0
      · rw [if_pos c7] at H
        have c7b0 : (t340 == 0) = true := beq_iff_eq.mpr c7
        have c7b1 : (t340 != 0) = false := bne_eq_false_iff_eq.mpr c7
        clear c7
        (first | rw [c7b0] | (simp only [i64_w, i32_w]; rw [c7b0]) | skip)
        have H' := Aside0.mk H
        clear H
        go_wp2
        go_meet
        case rel => exact ⟨_, (true), (by first | rfl | (simp; done) | (simp [*]; done)), H', ⟨by first | omega | exact Nat.le_refl _⟩, ⟨by repeat (first | (with_reducible first | exact HB.out | apply below_alloc | apply pw_below_drewN | apply below_drew1) | exact HB.out)⟩⟩
      · rw [if_neg c7] at H
        have c7b0 : (t340 == 0) = false := beq_eq_false_iff_ne.mpr c7
        have c7b1 : (t340 != 0) = true := bne_iff_ne.mpr c7
        (first | rw [c7b0] | (simp only [i64_w, i32_w]; rw [c7b0]) | skip)
        by_cases c8 : t339 > 65536
        · rw [if_pos c8] at H
          have c8b0 : decide (65536 < t339) = true := decide_eq_true c8
          clear c8
          have H' := Aside0.mk H
          clear H
          go_wp2
          go_meet
          case rel => exact ⟨_, (true), (by first | rfl | (simp; done) | (simp [*]; done)), H', ⟨by first | omega | exact Nat.le_refl _⟩, ⟨by repeat (first | (with_reducible first | exact HB.out | apply below_alloc | apply pw_below_drewN | apply below_drew1) | exact HB.out)⟩⟩
        · rw [if_neg c8] at H
          have c8b0 : decide (65536 < t339) = false := decide_eq_false c8
          clear c8
          have H' := Aside0.mk H
          clear H
          go_wp2
          go_meet
          case rel => exact ⟨_, (decide ((wrap64 ((l0.length : Int) - t340)) < (wrap64 ((wrap64 (4 * t339)) + 4)))), (by first | rfl | (simp; done) | (simp [*]; done)), H', ⟨by first | omega | exact Nat.le_refl _⟩, ⟨by repeat (first | (with_reducible first | exact HB.out | apply below_alloc | apply pw_below_drewN | apply below_drew1) | exact HB.out)⟩⟩
    case rest =>
      clear HC6
      try clear p2
      try clear c4
      try clear c4b0
      try clear c4b1
      try clear c5
      try clear c6
      try clear p6
      try clear c7
      try clear c7b0
      try clear c7b1
      try clear c8
      try clear c8b0
      obtain ⟨kq, x47_5, rfl, HA, HJ5, HB⟩ := hcut
      cases kq with
      | zero => exact absurd HA.out (by simp [colonnaderef09_Texts.j0])
      | succ kj5 =>
        have H := HA.out
        clear HA
        simp only [colonnaderef09_Texts.j0] at H
        by_cases c9 : x47_5 = true
        · subst c9
          have H1 : (some (([] : List ByteArray), 0, ([] : List Int), 90)) = some (r1, r2, r3, r4) := by rw [if_pos rfl] at H; exact H
          clear H
          have H := H1
          clear H1
          simp only [Option.some.injEq, Prod.mk.injEq] at H
          obtain ⟨rfl, rfl, rfl, rfl⟩ := H
          go_wp2
          refine bodyPost_ret (results_list (rs := [.tmp 4, .tmp 5, .tmp 6, .tmp 7]) rfl (by simp) (.tmp (.tmp (.tmp (.tmp .nil))))) rfl ?_
          exact ⟨_, _, by first | rfl | (simp [errW_none, errW_some] <;> rfl) | (simp [*, errW_none, errW_some] <;> rfl), by first | exact Kd.R_nil _ _ _ _ _ | exact Kd.N_nil _ _ _ _ _ | exact Kd.V_nil _ _ _ _ _ | exact Kd.Q_nil _ _ _ _ _ | exact Kd.S_nil _ _ _ _ _, by first | exact Kd.R_nil _ _ _ _ _ | exact Kd.N_nil _ _ _ _ _ | exact Kd.V_nil _ _ _ _ _ | exact Kd.Q_nil _ _ _ _ _ | exact Kd.S_nil _ _ _ _ _, by repeat (first | (with_reducible first | exact HB.out | apply below_alloc | apply pw_below_drewN | apply below_drew1) | exact HB.out)⟩
        · replace c9 := Bool.eq_false_iff.mpr c9
          subst c9
          have H1 : (colonnaderef09_Texts.l0 kj5 l0 a1 t339 t340 (wrap64 ((wrap64 (t340 + (wrap64 (4 * t339)))) + 4)) 0 ([] : List ByteArray) 0) = some (r1, r2, r3, r4) := by rw [if_neg (show ¬ (false = true) by decide)] at H; exact H
          clear H
          have H := H1
          clear H1
          have H' := Aside0.mk H
          clear H
          go_wp2
          (try simp only [add_plain])
          go_loopg [12, 13, 14] kj5 (fun kq v12 v13 v14 w' => ∃ (x12_2 : Int) (x13_2 : List ByteArray) (x14_2 : Int), v12 = .int .i64 x12_2 ∧ v14 = .int .i64 x14_2 ∧ Aside0 (colonnaderef09_Texts.l0 kq l0 a1 t339 t340 (wrap64 ((wrap64 (t340 + (wrap64 (4 * t339)))) + 4)) x12_2 x13_2 x14_2 = some (r1, r2, r3, r4)) ∧ Aside0 (kq ≤ kj5) ∧ Aside0 (Kd.R Kd.string 9 w' w.heap.size (fun _ => True) v13 x13_2) ∧ Aside0 (Below w.heap.size w w'))
          case atStart => exact ⟨(0), (([] : List ByteArray)), (0), (by first | rfl | (simp; done) | (simp [*]; done)), (by first | rfl | (simp; done) | (simp [*]; done)), H', ⟨Nat.le_refl _⟩, ⟨by first | exact Kd.R_nil _ _ _ _ _ | exact Kd.N_nil _ _ _ _ _ | exact Kd.V_nil _ _ _ _ _ | exact Kd.Q_nil _ _ _ _ _ | exact Kd.S_nil _ _ _ _ _⟩, ⟨by repeat (first | (with_reducible first | exact HB.out | apply below_alloc | apply pw_below_drewN | apply below_drew1) | exact HB.out)⟩⟩
          case round =>
            clear H'
            try clear p2
            try clear c4
            try clear c4b0
            try clear c4b1
            try clear c5
            try clear c6
            try clear p6
            try clear c7
            try clear c7b0
            try clear c7b1
            try clear c8
            try clear c8b0
            try clear c9
            try clear p2
            try clear p6
            obtain ⟨x12_2, x13_2, x14_2, rfl, rfl, HA, HK2, HO_13, HB⟩ := hrel
            cases gk with
            | zero => exact absurd HA.out (by simp [colonnaderef09_Texts.l0])
            | succ k2 =>
              have H := HA.out
              clear HA
              simp only [colonnaderef09_Texts.l0] at H
              by_cases c10 : x14_2 ≤ t339
              · rw [if_pos c10] at H
                have c10b0 : decide (x14_2 ≤ t339) = true := decide_eq_true c10
                clear c10
                obtain ⟨ji11, hji11⟩ : ∃ j_ : Int, (wrap64 (t340 + (wrap64 (4 * x14_2)))) = j_ := ⟨_, rfl⟩
                replace H : (if 0 ≤ (ji11) then (if (ji11) ≤ (l0.length : Int) then ((colonnaderef09_four.f (l0.drop ((ji11) : Int).toNat)).bind fun t342 => (if t342 < x12_2 then (colonnaderef09_Texts.j2 k2 l0 a1 t339 t340 (wrap64 ((wrap64 (t340 + (wrap64 (4 * t339)))) + 4)) x12_2 x13_2 x14_2 t342 true) else (if x14_2 = 0 then (if t342 = 0 then (colonnaderef09_Texts.j2 k2 l0 a1 t339 t340 (wrap64 ((wrap64 (t340 + (wrap64 (4 * t339)))) + 4)) x12_2 x13_2 x14_2 t342 (decide (t342 > (wrap64 ((l0.length : Int) - (wrap64 ((wrap64 (t340 + (wrap64 (4 * t339)))) + 4))))))) else (colonnaderef09_Texts.j2 k2 l0 a1 t339 t340 (wrap64 ((wrap64 (t340 + (wrap64 (4 * t339)))) + 4)) x12_2 x13_2 x14_2 t342 true)) else (colonnaderef09_Texts.j2 k2 l0 a1 t339 t340 (wrap64 ((wrap64 (t340 + (wrap64 (4 * t339)))) + 4)) x12_2 x13_2 x14_2 t342 (decide (t342 > (wrap64 ((l0.length : Int) - (wrap64 ((wrap64 (t340 + (wrap64 (4 * t339)))) + 4)))))))))) else (none)) else (none)) = some (r1, r2, r3, r4) := by first | (rw [hji11] at H; exact H) | (simp only [hji11] at H ⊢; exact H)
                have hji11w : (IntKind.i64.wrap (t340 + (wrap64 (4 * x14_2)))) = ji11 := (i64_w _).trans hji11
                by_cases c12 : 0 ≤ (ji11)
                · rw [if_pos c12] at H
                  have c12b0 := eq_true c12
                  have c12b1 : decide (0 ≤ (ji11)) = true := decide_eq_true c12
                  clear c12
                  by_cases c13 : (ji11) ≤ (l0.length : Int)
                  · rw [if_pos c13] at H
                    have c13b0 := eq_true c13
                    have c13b1 : decide ((ji11) ≤ (l0.length : Int)) = true := decide_eq_true c13
                    clear c13
                    replace H := Option.bind_eq_some_iff.mp H
                    obtain ⟨t342, A140, H⟩ := H
                    replace H : (if t342 < x12_2 then (colonnaderef09_Texts.j2 k2 l0 a1 t339 t340 (wrap64 ((wrap64 (t340 + (wrap64 (4 * t339)))) + 4)) x12_2 x13_2 x14_2 t342 true) else (if x14_2 = 0 then (if t342 = 0 then (colonnaderef09_Texts.j2 k2 l0 a1 t339 t340 (wrap64 ((wrap64 (t340 + (wrap64 (4 * t339)))) + 4)) x12_2 x13_2 x14_2 t342 (decide (t342 > (wrap64 ((l0.length : Int) - (wrap64 ((wrap64 (t340 + (wrap64 (4 * t339)))) + 4))))))) else (colonnaderef09_Texts.j2 k2 l0 a1 t339 t340 (wrap64 ((wrap64 (t340 + (wrap64 (4 * t339)))) + 4)) x12_2 x13_2 x14_2 t342 true)) else (colonnaderef09_Texts.j2 k2 l0 a1 t339 t340 (wrap64 ((wrap64 (t340 + (wrap64 (4 * t339)))) + 4)) x12_2 x13_2 x14_2 t342 (decide (t342 > (wrap64 ((l0.length : Int) - (wrap64 ((wrap64 (t340 + (wrap64 (4 * t339)))) + 4))))))))) = some (r1, r2, r3, r4) := H
                    have A14 := Aside0.mk A140
                    clear A140
                    have HC15 := Aside0.mk H
                    clear H
                    obtain ⟨i016, hi016, _, hsz16, _⟩ := info_parts info5
                    obtain ⟨A16, hcut16, hA16, hC16⟩ := print_drop_of (P := Try.prog) (Value.int .u8) 0 46 5 .i64 Try.underlying46 hi016 hsz16 A0 c0 l0 (ji11) (of_decide_eq_true (by first | (with_reducible assumption) | assumption)) (of_decide_eq_true (by first | (with_reducible assumption) | assumption)) HC0.out
                    have HR341 := Aside0.mk (Kd.C_of_reads (h1 := fun _ => rfl) (hA16 _ (Kd.reads_of_C HR0.out)))
                    have HC341 := Aside0.mk hC16
                    clear hA16 hC16 hi016 hsz16
                    go_upto_region 14 with (first | ((with_reducible refine gate_callee (f := 65) rfl ?_); refine goesL_ (some 64) rfl rfl Try.func65 (by kernel_rfl) rfl #[.slice A16 (l0.drop ((ji11) : Int).toNat).length (c0 - (ji11).toNat)] rfl (by (try simp only [List.map_toArray, List.map_cons, List.map_nil]); first | done | (rw [show (l0.drop ((ji11) : Int).toNat).length = (l0.length - (ji11).toNat) from List.length_drop] <;> rfl) | (simp only [hji11]; rfl) | rfl | (simp only [List.length_drop, List.length_take]; rfl)) ?_; (with_reducible refine (colonnaderef09_four.calls _ _ (l0.drop ((ji11) : Int).toNat) t342 _ ?side1 ?side2 A14.out).mono ?_); (case side1 => repeat (first | exact (Kd.C_below HR341.out HB.out) | (with_reducible refine Kd.C_alloc ?_ _) | (with_reducible refine Kd.C_drewN ?_ _) | (with_reducible refine Kd.C_drew ?_))); (case side2 => exact HC341.out); rintro e w' ⟨rfl, ⟨nd, rfl⟩⟩; refine ⟨_, rfl, ?_⟩))
                    (try simp only [Act.put, List.setIfInBounds_toArray, List.set_cons_zero, List.set_cons_succ])
                    go_cut [83] (fun v83 wc => ∃ (kq : Nat) (x83_14 : Bool), v83 = .bool x83_14 ∧ Aside0 (colonnaderef09_Texts.j2 kq l0 a1 t339 t340 (wrap64 ((wrap64 (t340 + (wrap64 (4 * t339)))) + 4)) x12_2 x13_2 x14_2 t342 x83_14 = some (r1, r2, r3, r4)) ∧ Aside0 (kq ≤ k2) ∧ Aside0 (Kd.R Kd.string 9 wc w.heap.size (fun _ => True) u13 x13_2) ∧ Aside0 (Below w.heap.size w wc))
                    case first =>
                      have H := HC15.out
                      clear HC15
                      by_cases c17 : t342 < x12_2
                      · rw [if_pos c17] at H
                        have c17b0 : decide (t342 < x12_2) = true := decide_eq_true c17
                        clear c17
                        (first | rw [c17b0] | (simp only [i64_w, i32_w]; rw [c17b0]) | skip)
                        have H' := Aside0.mk H
                        clear H
                        go_wp2
                        go_meet
                        case rel => exact ⟨_, (true), (by first | rfl | (simp; done) | (simp [*]; done)), H', ⟨by have := HJ5.out; have := HK2.out; first | omega | exact Nat.le_refl _⟩, ⟨by (with_reducible repeat (first | apply Kd.R_alloc | apply Kd.R_drewN | apply Kd.R_drew)); first | exact HO_13.out | exact Kd.R_mono HO_13.out (fun _ hk => hk.2)⟩, ⟨by repeat (first | (with_reducible first | exact HB.out | apply below_alloc | apply pw_below_drewN | apply below_drew1) | exact HB.out)⟩⟩
                      · rw [if_neg c17] at H
                        have c17b0 : decide (t342 < x12_2) = false := decide_eq_false c17
                        clear c17
                        (first | rw [c17b0] | (simp only [i64_w, i32_w]; rw [c17b0]) | skip)
                        by_cases c18 : x14_2 = 0
                        · rw [if_pos c18] at H
                          have c18b0 : (x14_2 == 0) = true := beq_iff_eq.mpr c18
                          have c18b1 : (x14_2 != 0) = false := bne_eq_false_iff_eq.mpr c18
                          clear c18
                          by_cases c19 : t342 = 0
                          · rw [if_pos c19] at H
                            have c19b0 : (t342 == 0) = true := beq_iff_eq.mpr c19
                            have c19b1 : (t342 != 0) = false := bne_eq_false_iff_eq.mpr c19
                            clear c19
                            have H' := Aside0.mk H
                            clear H
                            go_wp2
                            go_meet
                            case rel => exact ⟨_, (decide (t342 > (wrap64 ((l0.length : Int) - (wrap64 ((wrap64 (t340 + (wrap64 (4 * t339)))) + 4)))))), (by first | rfl | (simp; done) | (simp [*]; done)), H', ⟨by have := HJ5.out; have := HK2.out; first | omega | exact Nat.le_refl _⟩, ⟨by (with_reducible repeat (first | apply Kd.R_alloc | apply Kd.R_drewN | apply Kd.R_drew)); first | exact HO_13.out | exact Kd.R_mono HO_13.out (fun _ hk => hk.2)⟩, ⟨by repeat (first | (with_reducible first | exact HB.out | apply below_alloc | apply pw_below_drewN | apply below_drew1) | exact HB.out)⟩⟩
                          · rw [if_neg c19] at H
                            have c19b0 : (t342 == 0) = false := beq_eq_false_iff_ne.mpr c19
                            have c19b1 : (t342 != 0) = true := bne_iff_ne.mpr c19
                            have H' := Aside0.mk H
                            clear H
                            go_wp2
                            go_meet
                            case rel => exact ⟨_, (true), (by first | rfl | (simp; done) | (simp [*]; done)), H', ⟨by have := HJ5.out; have := HK2.out; first | omega | exact Nat.le_refl _⟩, ⟨by (with_reducible repeat (first | apply Kd.R_alloc | apply Kd.R_drewN | apply Kd.R_drew)); first | exact HO_13.out | exact Kd.R_mono HO_13.out (fun _ hk => hk.2)⟩, ⟨by repeat (first | (with_reducible first | exact HB.out | apply below_alloc | apply pw_below_drewN | apply below_drew1) | exact HB.out)⟩⟩
                        · rw [if_neg c18] at H
                          have c18b0 : (x14_2 == 0) = false := beq_eq_false_iff_ne.mpr c18
                          have c18b1 : (x14_2 != 0) = true := bne_iff_ne.mpr c18
                          have H' := Aside0.mk H
                          clear H
                          go_wp2
                          go_meet
                          case rel => exact ⟨_, (decide (t342 > (wrap64 ((l0.length : Int) - (wrap64 ((wrap64 (t340 + (wrap64 (4 * t339)))) + 4)))))), (by first | rfl | (simp; done) | (simp [*]; done)), H', ⟨by have := HJ5.out; have := HK2.out; first | omega | exact Nat.le_refl _⟩, ⟨by (with_reducible repeat (first | apply Kd.R_alloc | apply Kd.R_drewN | apply Kd.R_drew)); first | exact HO_13.out | exact Kd.R_mono HO_13.out (fun _ hk => hk.2)⟩, ⟨by repeat (first | (with_reducible first | exact HB.out | apply below_alloc | apply pw_below_drewN | apply below_drew1) | exact HB.out)⟩⟩
                    case rest =>
                      clear HC15
                      try clear c1
                      try clear p2
                      try clear c4
                      try clear c4b0
                      try clear c4b1
                      try clear c5
                      try clear c6
                      try clear p6
                      try clear c7
                      try clear c7b0
                      try clear c7b1
                      try clear c8
                      try clear c8b0
                      try clear c9
                      try clear c10
                      try clear c10b0
                      try clear c12
                      try clear c12b0
                      try clear c12b1
                      try clear c13
                      try clear c13b0
                      try clear c13b1
                      try clear c17
                      try clear c17b0
                      try clear c18
                      try clear c18b0
                      try clear c18b1
                      try clear c19
                      try clear c19b0
                      try clear c19b1
                      try clear p2
                      try clear p6
                      obtain ⟨kq, x83_14, rfl, HA, HJ14, HO_13, HB⟩ := hcut
                      cases kq with
                      | zero => exact absurd HA.out (by simp [colonnaderef09_Texts.j2])
                      | succ kj14 =>
                        have H := HA.out
                        clear HA
                        simp only [colonnaderef09_Texts.j2] at H
                        by_cases c20 : x83_14 = true
                        · subst c20
                          have H1 : (some (([] : List ByteArray), 0, ([] : List Int), 90)) = some (r1, r2, r3, r4) := by rw [if_pos rfl] at H; exact H
                          clear H
                          have H := H1
                          clear H1
                          simp only [Option.some.injEq, Prod.mk.injEq] at H
                          obtain ⟨rfl, rfl, rfl, rfl⟩ := H
                          go_wp2
                          refine bodyPost_ret (results_list (rs := [.tmp 4, .tmp 5, .tmp 6, .tmp 7]) rfl (by simp) (.tmp (.tmp (.tmp (.tmp .nil))))) rfl ?_
                          exact ⟨_, _, by first | rfl | (simp [errW_none, errW_some] <;> rfl) | (simp only [← hji11]; first | rfl | (simp [errW_none, errW_some] <;> rfl)) | (simp [*, errW_none, errW_some] <;> rfl), by first | exact Kd.R_nil _ _ _ _ _ | exact Kd.N_nil _ _ _ _ _ | exact Kd.V_nil _ _ _ _ _ | exact Kd.Q_nil _ _ _ _ _ | exact Kd.S_nil _ _ _ _ _, by first | exact Kd.R_nil _ _ _ _ _ | exact Kd.N_nil _ _ _ _ _ | exact Kd.V_nil _ _ _ _ _ | exact Kd.Q_nil _ _ _ _ _ | exact Kd.S_nil _ _ _ _ _, by repeat (first | (with_reducible first | exact HB.out | apply below_alloc | apply pw_below_drewN | apply below_drew1) | exact HB.out)⟩
                        · replace c20 := Bool.eq_false_iff.mpr c20
                          subst c20
                          have H1 : (if x14_2 > 0 then (if 0 ≤ (wrap64 ((wrap64 ((wrap64 (t340 + (wrap64 (4 * t339)))) + 4)) + x12_2)) then (if (wrap64 ((wrap64 ((wrap64 (t340 + (wrap64 (4 * t339)))) + 4)) + x12_2)) ≤ (wrap64 ((wrap64 ((wrap64 (t340 + (wrap64 (4 * t339)))) + 4)) + t342)) then (if (wrap64 ((wrap64 ((wrap64 (t340 + (wrap64 (4 * t339)))) + 4)) + t342)) ≤ (l0.length : Int) then (if x13_2.length < 8796093022208 then (colonnaderef09_Texts.l0 kj14 l0 a1 t339 t340 (wrap64 ((wrap64 (t340 + (wrap64 (4 * t339)))) + 4)) t342 (x13_2 ++ [strOfNums ((l0.take ((wrap64 ((wrap64 ((wrap64 (t340 + (wrap64 (4 * t339)))) + 4)) + t342)) : Int).toNat).drop ((wrap64 ((wrap64 ((wrap64 (t340 + (wrap64 (4 * t339)))) + 4)) + x12_2)) : Int).toNat)]) (wrap64 (x14_2 + 1))) else (none)) else (none)) else (none)) else (none)) else (colonnaderef09_Texts.l0 kj14 l0 a1 t339 t340 (wrap64 ((wrap64 (t340 + (wrap64 (4 * t339)))) + 4)) t342 x13_2 (wrap64 (x14_2 + 1)))) = some (r1, r2, r3, r4) := by rw [if_neg (show ¬ (false = true) by decide)] at H; exact H
                          clear H
                          have H := H1
                          clear H1
                          by_cases c21 : x14_2 > 0
                          · rw [if_pos c21] at H
                            have c21b0 : decide (0 < x14_2) = true := decide_eq_true c21
                            clear c21
                            obtain ⟨ji22, hji22⟩ : ∃ j_ : Int, (wrap64 ((wrap64 ((wrap64 (t340 + (wrap64 (4 * t339)))) + 4)) + x12_2)) = j_ := ⟨_, rfl⟩
                            replace H : (if 0 ≤ (ji22) then (if (ji22) ≤ (wrap64 ((wrap64 ((wrap64 (t340 + (wrap64 (4 * t339)))) + 4)) + t342)) then (if (wrap64 ((wrap64 ((wrap64 (t340 + (wrap64 (4 * t339)))) + 4)) + t342)) ≤ (l0.length : Int) then (if x13_2.length < 8796093022208 then (colonnaderef09_Texts.l0 kj14 l0 a1 t339 t340 (wrap64 ((wrap64 (t340 + (wrap64 (4 * t339)))) + 4)) t342 (x13_2 ++ [strOfNums ((l0.take ((wrap64 ((wrap64 ((wrap64 (t340 + (wrap64 (4 * t339)))) + 4)) + t342)) : Int).toNat).drop ((ji22) : Int).toNat)]) (wrap64 (x14_2 + 1))) else (none)) else (none)) else (none)) else (none)) = some (r1, r2, r3, r4) := by first | (rw [hji22] at H; exact H) | (simp only [hji22] at H ⊢; exact H)
                            have hji22w : (IntKind.i64.wrap ((wrap64 ((wrap64 (t340 + (wrap64 (4 * t339)))) + 4)) + x12_2)) = ji22 := (i64_w _).trans hji22
                            by_cases c23 : 0 ≤ (ji22)
                            · rw [if_pos c23] at H
                              have c23b0 := eq_true c23
                              have c23b1 : decide (0 ≤ (ji22)) = true := decide_eq_true c23
                              clear c23
                              by_cases c24 : (ji22) ≤ (wrap64 ((wrap64 ((wrap64 (t340 + (wrap64 (4 * t339)))) + 4)) + t342))
                              · rw [if_pos c24] at H
                                have c24b0 := eq_true c24
                                have c24b1 : decide ((ji22) ≤ (wrap64 ((wrap64 ((wrap64 (t340 + (wrap64 (4 * t339)))) + 4)) + t342))) = true := decide_eq_true c24
                                by_cases c25 : (wrap64 ((wrap64 ((wrap64 (t340 + (wrap64 (4 * t339)))) + 4)) + t342)) ≤ (l0.length : Int)
                                · rw [if_pos c25] at H
                                  have c25b0 := eq_true c25
                                  have c25b1 : decide ((wrap64 ((wrap64 ((wrap64 (t340 + (wrap64 (4 * t339)))) + 4)) + t342)) ≤ (l0.length : Int)) = true := decide_eq_true c25
                                  by_cases c26 : x13_2.length < 8796093022208
                                  · rw [if_pos c26] at H
                                    have LMc26 := Aside0.mk c26
                                    clear c26
                                    obtain ⟨y344, hy344⟩ : ∃ y_ : List ByteArray, y_ = (x13_2 ++ [strOfNums ((l0.take ((wrap64 ((wrap64 ((wrap64 (t340 + (wrap64 (4 * t339)))) + 4)) + t342)) : Int).toNat).drop ((ji22) : Int).toNat)]) := ⟨_, rfl⟩
                                    replace H : (colonnaderef09_Texts.l0 kj14 l0 a1 t339 t340 (wrap64 ((wrap64 (t340 + (wrap64 (4 * t339)))) + 4)) t342 y344 (wrap64 (x14_2 + 1))) = some (r1, r2, r3, r4) := by first | (rw [hy344]; with_reducible exact H) | (have H2_ := (Option.bind_some _ _).symm.trans H; rw [hy344]; with_reducible exact H2_) | (have H2_ := (Option.bind_some _ _).symm.trans H; with_reducible exact H2_) | with_reducible exact H | (rw [hy344]; exact H) | exact H
                                    have Ny344 := Aside0.mk hy344
                                    clear hy344
                                    have H' := Aside0.mk H
                                    clear H
                                    obtain ⟨i027, hi027, _, hsz27, _⟩ := info_parts info5
                                    obtain ⟨A27, hcut27, hA27, hC27⟩ := print_mid_of (P := Try.prog) (Value.int .u8) 0 46 5 .i64 .i64 Try.underlying46 hi027 hsz27 A0 c0 l0 (ji22) (wrap64 ((wrap64 ((wrap64 (t340 + (wrap64 (4 * t339)))) + 4)) + t342)) (of_decide_eq_true (by first | (with_reducible assumption) | assumption)) (by first | omega | exact of_decide_eq_true (by first | (with_reducible assumption) | assumption)) (of_decide_eq_true (by first | (with_reducible assumption) | assumption)) HC0.out
                                    have HR343 := Aside0.mk (Kd.C_of_reads (h1 := fun _ => rfl) (hA27 _ (Kd.reads_of_C HR0.out)))
                                    have HC343 := Aside0.mk hC27
                                    clear hA27 hC27 hi027 hsz27
                                    have hcv28 := Kd.C_string (P := Try.prog) (A := A27) (c := (c0 - (ji22).toNat)) Try.underlying46 Try.underlying5 Try.underlying9 (Kd.C_below HR343.out HB.out); have hcv28m_ := fun m_ : Nat => Kd.C_string (P := Try.prog) (A := A27) (c := (c0 - (ji22).toNat)) Try.underlying46 Try.underlying5 Try.underlying9 (Kd.C_drewN (Kd.C_below HR343.out HB.out) m_)
                                    (try (obtain ⟨n27_, hn27_⟩ : ∃ n_, ((l0.take ((wrap64 ((wrap64 ((wrap64 (t340 + (wrap64 (4 * t339)))) + 4)) + t342)) : Int).toNat).drop ((ji22) : Int).toNat).length = n_ := ⟨_, rfl⟩; rw [hn27_] at hcut27 hcv28 hcv28m_))
                                    go_wp2_with (first | ((with_reducible refine gate_builtin (b := .append) (xs := #[.tmp 86, .tmp 96]) rfl ?_); (try (refine gate_guard (by rfl) ?_; dsimp only)); at_builtin; refine Kd.R_append Kd.string (w0 := w) w.heap.size rfl (.tmp 86) (.tmp 96) 33 9 (.string ⟨#[]⟩) 16 rfl Try.underlying33 info9 rfl (by decide) (by omega) u13 x13_2 (strOfNums ((l0.take ((wrap64 ((wrap64 ((wrap64 (t340 + (wrap64 (4 * t339)))) + 4)) + t342)) : Int).toNat).drop ((ji22) : Int).toNat)) [.string (strOfNums ((l0.take ((wrap64 ((wrap64 ((wrap64 (t340 + (wrap64 (4 * t339)))) + 4)) + t342)) : Int).toNat).drop ((ji22) : Int).toNat))] (fun _ => True) (fun _ => False) rfl rfl ?aP (fun _ hk => hk.elim) ?aF ?aO ?aB ?aS ?aL ?_; (case aP => exact rfl); (case aB => exact (by repeat (first | (with_reducible first | exact HB.out | apply below_alloc | apply pw_below_drewN | apply below_drew1) | exact HB.out))); (case aF => exact (fun _ _ => trivial)); (case aO => exact (by (with_reducible repeat (first | apply Kd.R_alloc | apply Kd.R_drewN | apply Kd.R_drew)); exact HO_13.out)); (case aS => exact (below_size (by repeat (first | (with_reducible first | exact HB.out | apply below_alloc | apply pw_below_drewN | apply below_drew1) | exact HB.out)))); (case aL => have := LMc26.out; omega); intro v345 w29 ho hb hg hat; rw [← Ny344.out] at ho; have n0_ := Aside0.mk (hb); have n1_ := Aside0.mk (ho); clear HB; clear HO_13; have HB := n0_; have HO346 := n1_; clear n0_ n1_; clear ho hb hg hat))
                                    go_roundg kj14
                                    case measure => have := HJ5.out; have := HK2.out; have := HJ14.out; omega
                                    case rel => exact ⟨(t342), (y344), (wrap64 (x14_2 + 1)), (by first | rfl | (simp; done) | (simp [*]; done)), (by first | rfl | (simp; done) | (simp [*]; done)), H', ⟨by have := HJ5.out; have := HK2.out; have := HJ14.out; omega⟩, ⟨by (with_reducible repeat (first | apply Kd.R_alloc | apply Kd.R_drewN | apply Kd.R_drew)); first | exact HO346.out | exact Kd.R_mono HO346.out (fun _ hk => hk.2)⟩, ⟨by repeat (first | (with_reducible first | exact HB.out | apply below_alloc | apply pw_below_drewN | apply below_drew1) | exact HB.out)⟩⟩
                                  · rw [if_neg c26] at H
                                    exact absurd H (by simp)
                                · rw [if_neg c25] at H
                                  exact absurd H (by simp)
                              · rw [if_neg c24] at H
                                exact absurd H (by simp)
                            · rw [if_neg c23] at H
                              exact absurd H (by simp)
                          · rw [if_neg c21] at H
                            have c21b0 : decide (0 < x14_2) = false := decide_eq_false c21
                            clear c21
                            have H' := Aside0.mk H
                            clear H
                            go_wp2
                            go_roundg kj14
                            case measure => have := HJ5.out; have := HK2.out; have := HJ14.out; omega
                            case rel => exact ⟨(t342), (x13_2), (wrap64 (x14_2 + 1)), (by first | rfl | (simp; done) | (simp [*]; done)), (by first | rfl | (simp; done) | (simp [*]; done)), H', ⟨by have := HJ5.out; have := HK2.out; have := HJ14.out; omega⟩, ⟨by (with_reducible repeat (first | apply Kd.R_alloc | apply Kd.R_drewN | apply Kd.R_drew)); first | exact HO_13.out | exact Kd.R_mono HO_13.out (fun _ hk => hk.2)⟩, ⟨by repeat (first | (with_reducible first | exact HB.out | apply below_alloc | apply pw_below_drewN | apply below_drew1) | exact HB.out)⟩⟩
                  · rw [if_neg c13] at H
                    exact absurd H (by simp)
                · rw [if_neg c12] at H
                  exact absurd H (by simp)
              · rw [if_neg c10] at H
                have c10b0 : decide (x14_2 ≤ t339) = false := decide_eq_false c10
                clear c10
                obtain ⟨ji30, hji30⟩ : ∃ j_ : Int, (wrap64 ((wrap64 ((wrap64 (t340 + (wrap64 (4 * t339)))) + 4)) + x12_2)) = j_ := ⟨_, rfl⟩
                replace H : (if 0 ≤ (ji30) then (if (ji30) ≤ (l0.length : Int) then ((colonnaderef09_used.f k2 (l0.drop ((ji30) : Int).toNat) t339 a1).bind fun bt348 => (if bt348.2 = true then (colonnaderef09_Texts.l1 k2 l0 a1 t339 x13_2 bt348.1 ([] : List ByteArray) 0) else (some (([] : List ByteArray), 0, ([] : List Int), 90)))) else (none)) else (none)) = some (r1, r2, r3, r4) := by first | (rw [hji30] at H; exact H) | (simp only [hji30] at H ⊢; exact H)
                have hji30w : (IntKind.i64.wrap ((wrap64 ((wrap64 (t340 + (wrap64 (4 * t339)))) + 4)) + x12_2)) = ji30 := (i64_w _).trans hji30
                by_cases c31 : 0 ≤ (ji30)
                · rw [if_pos c31] at H
                  have c31b0 := eq_true c31
                  have c31b1 : decide (0 ≤ (ji30)) = true := decide_eq_true c31
                  clear c31
                  by_cases c32 : (ji30) ≤ (l0.length : Int)
                  · rw [if_pos c32] at H
                    have c32b0 := eq_true c32
                    have c32b1 : decide ((ji30) ≤ (l0.length : Int)) = true := decide_eq_true c32
                    clear c32
                    replace H := Option.bind_eq_some_iff.mp H
                    obtain ⟨⟨t348, t349⟩, A330, H⟩ := H
                    replace H : (if t349 = true then (colonnaderef09_Texts.l1 k2 l0 a1 t339 x13_2 t348 ([] : List ByteArray) 0) else (some (([] : List ByteArray), 0, ([] : List Int), 90))) = some (r1, r2, r3, r4) := H
                    have A33 := Aside0.mk A330
                    clear A330
                    by_cases c34 : t349 = true
                    · subst c34
                      have H1 : (colonnaderef09_Texts.l1 k2 l0 a1 t339 x13_2 t348 ([] : List ByteArray) 0) = some (r1, r2, r3, r4) := by rw [if_pos rfl] at H; exact H
                      clear H
                      have H := H1
                      clear H1
                      have H' := Aside0.mk H
                      clear H
                      obtain ⟨i035, hi035, _, hsz35, _⟩ := info_parts info5
                      obtain ⟨A35, hcut35, hA35, hC35⟩ := print_drop_of (P := Try.prog) (Value.int .u8) 0 46 5 .i64 Try.underlying46 hi035 hsz35 A0 c0 l0 (ji30) (of_decide_eq_true (by first | (with_reducible assumption) | assumption)) (of_decide_eq_true (by first | (with_reducible assumption) | assumption)) HC0.out
                      have HR347 := Aside0.mk (Kd.C_of_reads (h1 := fun _ => rfl) (hA35 _ (Kd.reads_of_C HR0.out)))
                      have HC347 := Aside0.mk hC35
                      clear hA35 hC35 hi035 hsz35
                      go_wp2_with (first | ((with_reducible refine gate_callee (f := 66) rfl ?_); refine goesL_ (some 107) rfl rfl Try.func66 (by kernel_rfl) rfl #[.slice A35 (l0.drop ((ji30) : Int).toNat).length (c0 - (ji30).toNat), .int .i64 t339, .int .i64 a1] rfl (by (try simp only [List.map_toArray, List.map_cons, List.map_nil]); first | done | (rw [show (l0.drop ((ji30) : Int).toNat).length = (l0.length - (ji30).toNat) from List.length_drop] <;> rfl) | (simp only [hji30]; rfl) | rfl | (simp only [List.length_drop, List.length_take]; rfl)) ?_; (with_reducible refine (colonnaderef09_used.calls k2 _ _ (l0.drop ((ji30) : Int).toNat) t339 a1 t348 true _ ?side1 ?side2 A33.out).mono ?_); (case side1 => repeat (first | exact (Kd.C_below HR347.out HB.out) | (with_reducible refine Kd.C_alloc ?_ _) | (with_reducible refine Kd.C_drewN ?_ _) | (with_reducible refine Kd.C_drew ?_))); (case side2 => exact HC347.out); rintro e w36 ⟨v350, rfl, ho0, hb⟩; refine ⟨_, rfl, ?_⟩; have n0_ := Aside0.mk (Kd.R_below (by (with_reducible repeat (first | apply Kd.R_alloc | apply Kd.R_drewN | apply Kd.R_drew)); exact HO_13.out) hb); have n1_ := Aside0.mk (Kd.R_lower ho0 (below_size (by repeat (first | (with_reducible first | exact HB.out | apply below_alloc | apply pw_below_drewN | apply below_drew1) | exact HB.out)))); have n2_ := Aside0.mk (below_step (by repeat (first | (with_reducible first | exact HB.out | apply below_alloc | apply pw_below_drewN | apply below_drew1) | exact HB.out)) hb); clear HO_13; clear HB; have HO_13 := n0_; have HO351 := n1_; have HB := n2_; clear n0_ n1_ n2_; (try clear hb); (try clear hb2); (try clear hk); (try clear hi); (try clear ho0)))
                      (try simp only [add_plain])
                      go_loopg [18, 19] k2 (fun kq v18 v19 w' => ∃ (x18_3 : List ByteArray) (x19_3 : Int), v19 = .int .i64 x19_3 ∧ Aside0 (colonnaderef09_Texts.l1 kq l0 a1 t339 x13_2 t348 x18_3 x19_3 = some (r1, r2, r3, r4)) ∧ Aside0 (kq ≤ k2) ∧ Aside0 (Kd.R Kd.string 9 w' w.heap.size (fun k_ => some k_ ≠ (v18 : Value).ownBlock) u13 x13_2) ∧ Aside0 (Kd.R (Kd.int .u64) 80 w' w.heap.size (fun _ => True) v350 t348) ∧ Aside0 (Kd.R Kd.string 9 w' w.heap.size (fun k_ => some k_ ≠ (u13 : Value).ownBlock) v18 x18_3) ∧ Aside0 (Below w.heap.size w w'))
                      case atStart => exact ⟨(([] : List ByteArray)), (0), (by first | rfl | (simp; done) | (simp [*]; done)), H', ⟨Nat.le_refl _⟩, ⟨by (with_reducible repeat (first | apply Kd.R_alloc | apply Kd.R_drewN | apply Kd.R_drew)); exact Kd.R_mono HO_13.out (fun _ hk => (by simp [Value.ownBlock]))⟩, ⟨by (with_reducible repeat (first | apply Kd.R_alloc | apply Kd.R_drewN | apply Kd.R_drew)); exact HO351.out⟩, ⟨by first | exact Kd.R_nil _ _ _ _ _ | exact Kd.N_nil _ _ _ _ _ | exact Kd.V_nil _ _ _ _ _ | exact Kd.Q_nil _ _ _ _ _ | exact Kd.S_nil _ _ _ _ _⟩, ⟨by repeat (first | (with_reducible first | exact HB.out | apply below_alloc | apply pw_below_drewN | apply below_drew1) | exact HB.out)⟩⟩
                      case round =>
                        clear H'
                        try clear c1
                        try clear c2
                        try clear p2
                        try clear hcv2
                        try clear c3
                        try clear c4
                        try clear c4b0
                        try clear c4b1
                        try clear c5
                        try clear c6
                        try clear p6
                        try clear c7
                        try clear c7b0
                        try clear c7b1
                        try clear c8
                        try clear c8b0
                        try clear c9
                        try clear c10
                        try clear c10b0
                        try clear c12
                        try clear c12b0
                        try clear c12b1
                        try clear c13
                        try clear c13b0
                        try clear c13b1
                        try clear c17
                        try clear c17b0
                        try clear c18
                        try clear c18b0
                        try clear c18b1
                        try clear c19
                        try clear c19b0
                        try clear c19b1
                        try clear c20
                        try clear c21
                        try clear c21b0
                        try clear c23
                        try clear c23b0
                        try clear c23b1
                        try clear c24
                        try clear c24b0
                        try clear c24b1
                        try clear c25
                        try clear c25b0
                        try clear c25b1
                        try clear c26
                        try clear hcv28
                        try clear c31
                        try clear c31b0
                        try clear c31b1
                        try clear c32
                        try clear c32b0
                        try clear c32b1
                        try clear c34
                        try clear p2
                        try clear p6
                        obtain ⟨x18_3, x19_3, rfl, HA, HK3, HO_13, HO_16, HO_18, HB⟩ := hrel
                        cases gk with
                        | zero => exact absurd HA.out (by simp [colonnaderef09_Texts.l1])
                        | succ k3 =>
                          have H := HA.out
                          clear HA
                          simp only [colonnaderef09_Texts.l1] at H
                          by_cases c37 : x19_3 < a1
                          · rw [if_pos c37] at H
                            have c37b0 : decide (x19_3 < a1) = true := decide_eq_true c37
                            clear c37
                            by_cases c38 : 0 ≤ x19_3
                            · rw [if_pos c38] at H
                              have c38b0 : decide (0 ≤ x19_3) = true := decide_eq_true c38
                              clear c38
                              by_cases c39 : x19_3 < (t348.length : Int)
                              · rw [if_pos c39] at H
                                have c39b0 : decide (x19_3 < (t348.length : Int)) = true := decide_eq_true c39
                                clear c39
                                by_cases c40 : 0 ≤ (rd t348 x19_3)
                                · rw [if_pos c40] at H
                                  have c40b0 : decide (0 ≤ (rd t348 x19_3)) = true := decide_eq_true c40
                                  clear c40
                                  by_cases c41 : (rd t348 x19_3) < (x13_2.length : Int)
                                  · rw [if_pos c41] at H
                                    have c41b0 : decide ((rd t348 x19_3) < (x13_2.length : Int)) = true := decide_eq_true c41
                                    clear c41
                                    by_cases c42 : x18_3.length < 8796093022208
                                    · rw [if_pos c42] at H
                                      have LMc42 := Aside0.mk c42
                                      clear c42
                                      obtain ⟨y354, hy354⟩ : ∃ y_ : List ByteArray, y_ = (x18_3 ++ [rdOf ByteArray.empty x13_2 (rd t348 x19_3)]) := ⟨_, rfl⟩
                                      replace H : (colonnaderef09_Texts.l1 k3 l0 a1 t339 x13_2 t348 y354 (wrap64 (x19_3 + 1))) = some (r1, r2, r3, r4) := by first | (rw [hy354]; with_reducible exact H) | (have H2_ := (Option.bind_some _ _).symm.trans H; rw [hy354]; with_reducible exact H2_) | (have H2_ := (Option.bind_some _ _).symm.trans H; with_reducible exact H2_) | with_reducible exact H | (rw [hy354]; exact H) | exact H
                                      have Ny354 := Aside0.mk hy354
                                      clear hy354
                                      have H' := Aside0.mk H
                                      clear H
                                      obtain ⟨Ao43, co43, eo43⟩ := Kd.R_slice HO_16.out
                                      subst eo43
                                      have p352 : 0 ≤ (x19_3 : Int) := of_decide_eq_true (by first | (with_reducible assumption) | assumption)
                                      have q352 : x19_3 < (t348.length : Int) := of_decide_eq_true (by first | (with_reducible assumption) | assumption)
                                      obtain ⟨ad352, e352, hx352_0⟩ := Kd.at_int (Kd.R_reads' HO_16.out).2.2 x19_3 p352 q352
                                      cases e352
                                      replace p352 := eq_true p352
                                      replace q352 := eq_true q352
                                      obtain ⟨Ao44, co44, eo44⟩ := Kd.R_slice HO_13.out
                                      subst eo44
                                      have p353 : 0 ≤ ((rd t348 x19_3) : Int) := of_decide_eq_true (by first | (with_reducible assumption) | assumption)
                                      have q353 : (rd t348 x19_3) < (x13_2.length : Int) := of_decide_eq_true (by first | (with_reducible assumption) | assumption)
                                      obtain ⟨ad353, e353, hx353_0⟩ := Kd.at_string (Kd.R_reads' HO_13.out).2.2 (rd t348 x19_3) p353 q353
                                      cases e353
                                      replace p353 := eq_true p353
                                      replace q353 := eq_true q353
                                      go_wp2_with (first | ((with_reducible refine gate_builtin (b := .append) (xs := #[.tmp 117, .tmp 125]) rfl ?_); (try (refine gate_guard (by rfl) ?_; dsimp only)); at_builtin; refine Kd.R_append Kd.string (w0 := w) w.heap.size rfl (.tmp 117) (.tmp 125) 33 9 (.string ⟨#[]⟩) 16 rfl Try.underlying33 info9 rfl (by decide) (by omega) u18 x18_3 (rdOf ByteArray.empty x13_2 (rd t348 x19_3)) [.string (rdOf ByteArray.empty x13_2 (rd t348 x19_3))] (fun k_ => some k_ ≠ (.slice (some ad353) x13_2.length co44 : Value).ownBlock) (fun _ => False) rfl rfl ?aP (fun _ hk => hk.elim) ?aF ?aO ?aB ?aS ?aL ?_; (case aP => exact rfl); (case aB => exact (by repeat (first | (with_reducible first | exact HB.out | apply below_alloc | apply pw_below_drewN | apply below_drew1) | exact HB.out))); (case aF => exact (fun k_ hk => Kd.fresh' (Kd.R_lt (by (with_reducible repeat (first | apply Kd.R_alloc | apply Kd.R_drewN | apply Kd.R_drew)); exact HO_13.out)) k_ hk)); (case aO => exact (by (with_reducible repeat (first | apply Kd.R_alloc | apply Kd.R_drewN | apply Kd.R_drew)); exact HO_18.out)); (case aS => exact (below_size (by repeat (first | (with_reducible first | exact HB.out | apply below_alloc | apply pw_below_drewN | apply below_drew1) | exact HB.out)))); (case aL => have := LMc42.out; omega); intro v355 w45 ho hb hg hat; rw [← Ny354.out] at ho; have n0_ := Aside0.mk (Kd.R_after (ok := (fun _ => True)) (by (with_reducible repeat (first | apply Kd.R_alloc | apply Kd.R_drewN | apply Kd.R_drew)); exact Kd.R_mono HO_13.out (fun _ hk => ⟨trivial, hk⟩)) hg hat); have n1_ := Aside0.mk (Kd.R_over' (by (with_reducible repeat (first | apply Kd.R_alloc | apply Kd.R_drewN | apply Kd.R_drew)); exact HO_16.out) (Kd.R_typed (by (with_reducible repeat (first | apply Kd.R_alloc | apply Kd.R_drewN | apply Kd.R_drew)); exact HO_18.out)) (by decide) hg); have n2_ := Aside0.mk (hb); have n3_ := Aside0.mk (ho); clear HO_13; clear HO_16; clear HB; clear HO_18; have HO_13 := n0_; have HO_16 := n1_; have HB := n2_; have HO356 := n3_; clear n0_ n1_ n2_ n3_; clear ho hb hg hat))
                                      go_roundg k3
                                      case measure => have := HJ5.out; have := HK2.out; have := HK3.out; omega
                                      case rel => exact ⟨(y354), (wrap64 (x19_3 + 1)), (by first | rfl | (simp; done) | (simp [*]; done)), H', ⟨by have := HJ5.out; have := HK2.out; have := HK3.out; omega⟩, ⟨by (with_reducible repeat (first | apply Kd.R_alloc | apply Kd.R_drewN | apply Kd.R_drew)); exact Kd.R_mono HO_13.out (fun _ hk => hk.2)⟩, ⟨by (with_reducible repeat (first | apply Kd.R_alloc | apply Kd.R_drewN | apply Kd.R_drew)); first | exact HO_16.out | exact Kd.R_mono HO_16.out (fun _ hk => hk.2)⟩, ⟨by (with_reducible repeat (first | apply Kd.R_alloc | apply Kd.R_drewN | apply Kd.R_drew)); first | exact HO356.out | exact Kd.R_mono HO356.out (fun _ hk => hk.2)⟩, ⟨by repeat (first | (with_reducible first | exact HB.out | apply below_alloc | apply pw_below_drewN | apply below_drew1) | exact HB.out)⟩⟩
                                    · rw [if_neg c42] at H
                                      exact absurd H (by simp)
                                  · rw [if_neg c41] at H
                                    exact absurd H (by simp)
                                · rw [if_neg c40] at H
                                  exact absurd H (by simp)
                              · rw [if_neg c39] at H
                                exact absurd H (by simp)
                            · rw [if_neg c38] at H
                              exact absurd H (by simp)
                          · rw [if_neg c37] at H
                            have c37b0 : decide (x19_3 < a1) = false := decide_eq_false c37
                            clear c37
                            replace H := Option.bind_eq_some_iff.mp H
                            obtain ⟨⟨t357, t358⟩, A460, H⟩ := H
                            replace H : (if t358 = 0 then (colonnaderef09_Texts.j4 k3 t339 x13_2 t348 ((strOfNums t357).toList != (strOfNums l0).toList)) else (colonnaderef09_Texts.j4 k3 t339 x13_2 t348 true)) = some (r1, r2, r3, r4) := H
                            have A46 := Aside0.mk A460
                            clear A460
                            have HC47 := Aside0.mk H
                            clear H
                            obtain ⟨Ao48, co48, eo48⟩ := Kd.R_slice HO_18.out
                            subst eo48
                            go_upto_region 28 with (first | ((with_reducible refine gate_callee (f := 48) rfl ?_); refine goesL_ (some 129) rfl rfl Try.func48 (by kernel_rfl) rfl #[.slice Ao48 x18_3.length co48] rfl (by (try simp only [List.map_toArray, List.map_cons, List.map_nil]); first | done | rfl | (simp only [List.length_drop, List.length_take]; rfl)) ?_; (with_reducible refine (colonnaderef09_PutTexts.calls k3 _ _ x18_3 t357 t358 _ ?side1 ?side2 A46.out).mono ?_); (case side1 => repeat (first | exact (Kd.R_reads' HO_18.out).2.2 | (with_reducible refine Kd.C_alloc ?_ _) | (with_reducible refine Kd.C_drewN ?_ _) | (with_reducible refine Kd.C_drew ?_))); (case side2 => exact (Kd.R_reads' HO_18.out).2.1); rintro e w49 ⟨v359, rfl, ho0, hb⟩; refine ⟨_, rfl, ?_⟩; have n0_ := Aside0.mk (Kd.R_below (by (with_reducible repeat (first | apply Kd.R_alloc | apply Kd.R_drewN | apply Kd.R_drew)); exact HO_13.out) hb); have n1_ := Aside0.mk (Kd.R_below (by (with_reducible repeat (first | apply Kd.R_alloc | apply Kd.R_drewN | apply Kd.R_drew)); exact HO_16.out) hb); have n2_ := Aside0.mk (Kd.R_below (by (with_reducible repeat (first | apply Kd.R_alloc | apply Kd.R_drewN | apply Kd.R_drew)); exact HO_18.out) hb); have n3_ := Aside0.mk (Kd.R_lower ho0 (below_size (by repeat (first | (with_reducible first | exact HB.out | apply below_alloc | apply pw_below_drewN | apply below_drew1) | exact HB.out)))); have n4_ := Aside0.mk (below_step (by repeat (first | (with_reducible first | exact HB.out | apply below_alloc | apply pw_below_drewN | apply below_drew1) | exact HB.out)) hb); clear HO_13; clear HO_16; clear HO_18; clear HB; have HO_13 := n0_; have HO_16 := n1_; have HO_18 := n2_; have HO360 := n3_; have HB := n4_; clear n0_ n1_ n2_ n3_ n4_; (try clear hb); (try clear hb2); (try clear hk); (try clear hi); (try clear ho0)))
                            (try simp only [Act.put, List.setIfInBounds_toArray, List.set_cons_zero, List.set_cons_succ])
                            go_cut [140] (fun v140 wc => ∃ (kq : Nat) (x140_46 : Bool), v140 = .bool x140_46 ∧ Aside0 (colonnaderef09_Texts.j4 kq t339 x13_2 t348 x140_46 = some (r1, r2, r3, r4)) ∧ Aside0 (kq ≤ k3) ∧ Aside0 (Kd.R Kd.string 9 wc w.heap.size (fun _ => True) u13 x13_2) ∧ Aside0 (Kd.R (Kd.int .u64) 80 wc w.heap.size (fun _ => True) v350 t348) ∧ Aside0 (Below w.heap.size w wc))
                            case first =>
                              have H := HC47.out
                              clear HC47
                              by_cases c50 : t358 = 0
                              · rw [if_pos c50] at H
                                have c50b0 : (t358 == 0) = true := beq_iff_eq.mpr c50
                                have c50b1 : (t358 != 0) = false := bne_eq_false_iff_eq.mpr c50
                                clear c50
                                (first | rw [c50b0] | (simp only [i64_w, i32_w]; rw [c50b0]) | skip)
                                have H' := Aside0.mk H
                                clear H
                                have hcv51 := own_string (P := Try.prog) Try.underlying46 Try.underlying5 Try.underlying9 (Kd.own_of_R HO360.out); have hcv51m_ := fun m_ : Nat => own_string (P := Try.prog) Try.underlying46 Try.underlying5 Try.underlying9 (Kd.own_of_R (Kd.R_drewN HO360.out m_))
                                have hcv52 := Kd.C_string (P := Try.prog) (A := A0) (c := c0) Try.underlying46 Try.underlying5 Try.underlying9 (Kd.C_below HR0.out HB.out); have hcv52m_ := fun m_ : Nat => Kd.C_string (P := Try.prog) (A := A0) (c := c0) Try.underlying46 Try.underlying5 Try.underlying9 (Kd.C_drewN (Kd.C_below HR0.out HB.out) m_)
                                go_wp2
                                go_meet
                                case rel => exact ⟨_, (((strOfNums t357).toList != (strOfNums l0).toList)), (by first | rfl | (simp; done) | (simp [*]; done)), H', ⟨by have := HJ5.out; have := HK2.out; have := HK3.out; first | omega | exact Nat.le_refl _⟩, ⟨by (with_reducible repeat (first | apply Kd.R_alloc | apply Kd.R_drewN | apply Kd.R_drew)); exact Kd.R_mono HO_13.out (fun _ hk => trivial)⟩, ⟨by (with_reducible repeat (first | apply Kd.R_alloc | apply Kd.R_drewN | apply Kd.R_drew)); first | exact HO_16.out | exact Kd.R_mono HO_16.out (fun _ hk => hk.2)⟩, ⟨by repeat (first | (with_reducible first | exact HB.out | apply below_alloc | apply pw_below_drewN | apply below_drew1) | exact HB.out)⟩⟩
                              · rw [if_neg c50] at H
                                have c50b0 : (t358 == 0) = false := beq_eq_false_iff_ne.mpr c50
                                have c50b1 : (t358 != 0) = true := bne_iff_ne.mpr c50
                                (first | rw [c50b0] | (simp only [i64_w, i32_w]; rw [c50b0]) | skip)
                                have H' := Aside0.mk H
                                clear H
                                go_wp2
                                go_meet
                                case rel => exact ⟨_, (true), (by first | rfl | (simp; done) | (simp [*]; done)), H', ⟨by have := HJ5.out; have := HK2.out; have := HK3.out; first | omega | exact Nat.le_refl _⟩, ⟨by (with_reducible repeat (first | apply Kd.R_alloc | apply Kd.R_drewN | apply Kd.R_drew)); exact Kd.R_mono HO_13.out (fun _ hk => trivial)⟩, ⟨by (with_reducible repeat (first | apply Kd.R_alloc | apply Kd.R_drewN | apply Kd.R_drew)); first | exact HO_16.out | exact Kd.R_mono HO_16.out (fun _ hk => hk.2)⟩, ⟨by repeat (first | (with_reducible first | exact HB.out | apply below_alloc | apply pw_below_drewN | apply below_drew1) | exact HB.out)⟩⟩
                            case rest =>
                              clear HC47
                              try clear c1
                              try clear c2
                              try clear p2
                              try clear hcv2
                              try clear c3
                              try clear p3
                              try clear q3
                              try clear hx3
                              try clear c4
                              try clear c4b0
                              try clear c4b1
                              try clear c5
                              try clear hcv5
                              try clear c6
                              try clear p6
                              try clear c7
                              try clear c7b0
                              try clear c7b1
                              try clear c8
                              try clear c8b0
                              try clear c9
                              try clear c10
                              try clear c10b0
                              try clear c12
                              try clear c12b0
                              try clear c12b1
                              try clear c13
                              try clear c13b0
                              try clear c13b1
                              try clear c17
                              try clear c17b0
                              try clear c18
                              try clear c18b0
                              try clear c18b1
                              try clear c19
                              try clear c19b0
                              try clear c19b1
                              try clear c20
                              try clear c21
                              try clear c21b0
                              try clear c23
                              try clear c23b0
                              try clear c23b1
                              try clear c24
                              try clear c24b0
                              try clear c24b1
                              try clear c25
                              try clear c25b0
                              try clear c25b1
                              try clear c26
                              try clear hcv28
                              try clear c31
                              try clear c31b0
                              try clear c31b1
                              try clear c32
                              try clear c32b0
                              try clear c32b1
                              try clear c34
                              try clear p35
                              try clear q35
                              try clear hx35
                              try clear c37
                              try clear c37b0
                              try clear c38
                              try clear c38b0
                              try clear c39
                              try clear c39b0
                              try clear c40
                              try clear c40b0
                              try clear c41
                              try clear c41b0
                              try clear c42
                              try clear c48
                              try clear c50
                              try clear c50b0
                              try clear c50b1
                              try clear c51
                              try clear hcv51
                              try clear hcv52
                              try clear hx352_0
                              try clear hx353_0
                              try clear p2
                              try clear p352
                              try clear p353
                              try clear p6
                              try clear q352
                              try clear q353
                              obtain ⟨kq, x140_46, rfl, HA, HJ46, HO_13, HO_16, HB⟩ := hcut
                              cases kq with
                              | zero => exact absurd HA.out (by simp [colonnaderef09_Texts.j4])
                              | succ kj46 =>
                                have H := HA.out
                                clear HA
                                simp only [colonnaderef09_Texts.j4] at H
                                by_cases c53 : x140_46 = true
                                · subst c53
                                  have H1 : (some (([] : List ByteArray), 0, ([] : List Int), 90)) = some (r1, r2, r3, r4) := by rw [if_pos rfl] at H; exact H
                                  clear H
                                  have H := H1
                                  clear H1
                                  simp only [Option.some.injEq, Prod.mk.injEq] at H
                                  obtain ⟨rfl, rfl, rfl, rfl⟩ := H
                                  go_wp2
                                  refine bodyPost_ret (results_list (rs := [.tmp 4, .tmp 5, .tmp 6, .tmp 7]) rfl (by simp) (.tmp (.tmp (.tmp (.tmp .nil))))) rfl ?_
                                  exact ⟨_, _, by first | rfl | (simp [errW_none, errW_some] <;> rfl) | (simp only [← hji30]; first | rfl | (simp [errW_none, errW_some] <;> rfl)) | (simp [*, errW_none, errW_some] <;> rfl), by first | exact Kd.R_nil _ _ _ _ _ | exact Kd.N_nil _ _ _ _ _ | exact Kd.V_nil _ _ _ _ _ | exact Kd.Q_nil _ _ _ _ _ | exact Kd.S_nil _ _ _ _ _, by first | exact Kd.R_nil _ _ _ _ _ | exact Kd.N_nil _ _ _ _ _ | exact Kd.V_nil _ _ _ _ _ | exact Kd.Q_nil _ _ _ _ _ | exact Kd.S_nil _ _ _ _ _, by repeat (first | (with_reducible first | exact HB.out | apply below_alloc | apply pw_below_drewN | apply below_drew1) | exact HB.out)⟩
                                · replace c53 := Bool.eq_false_iff.mpr c53
                                  subst c53
                                  have H1 : ((colonnaderef09_Width.f kj46 t339).bind fun t361 => ((colonnaderef09_Width.f kj46 t339).bind fun t362 => ((colonnaderef03_Pack.f kj46 t348 t362).bind fun t363 => (some (x13_2, t361, t363, 0))))) = some (r1, r2, r3, r4) := by rw [if_neg (show ¬ (false = true) by decide)] at H; exact H
                                  clear H
                                  have H := H1
                                  clear H1
                                  replace H := Option.bind_eq_some_iff.mp H
                                  obtain ⟨t361, A540, H⟩ := H
                                  replace H : ((colonnaderef09_Width.f kj46 t339).bind fun t362 => ((colonnaderef03_Pack.f kj46 t348 t362).bind fun t363 => (some (x13_2, t361, t363, 0)))) = some (r1, r2, r3, r4) := H
                                  have A54 := Aside0.mk A540
                                  clear A540
                                  replace H := Option.bind_eq_some_iff.mp H
                                  obtain ⟨t362, A550, H⟩ := H
                                  replace H : ((colonnaderef03_Pack.f kj46 t348 t362).bind fun t363 => (some (x13_2, t361, t363, 0))) = some (r1, r2, r3, r4) := H
                                  have A55 := Aside0.mk A550
                                  clear A550
                                  replace H := Option.bind_eq_some_iff.mp H
                                  obtain ⟨t363, A560, H⟩ := H
                                  replace H : (some (x13_2, t361, t363, 0)) = some (r1, r2, r3, r4) := H
                                  have A56 := Aside0.mk A560
                                  clear A560
                                  simp only [Option.some.injEq, Prod.mk.injEq] at H
                                  obtain ⟨rfl, rfl, rfl, rfl⟩ := H
                                  go_wp2_with (first | ((with_reducible refine gate_callee (f := 67) rfl ?_); refine goesL_ (some 143) rfl rfl Try.func67 (by kernel_rfl) rfl #[.int .i64 t339] rfl (by (try simp only [List.map_toArray, List.map_cons, List.map_nil]); first | done | rfl | (simp only [List.length_drop, List.length_take]; rfl)) ?_; (with_reducible refine (colonnaderef09_Width.calls kj46 t339 t361 _ A54.out).mono ?_); rintro e w' ⟨rfl, ⟨nd, rfl⟩⟩; refine ⟨_, rfl, ?_⟩) | ((with_reducible refine gate_callee (f := 67) rfl ?_); refine goesL_ (some 146) rfl rfl Try.func67 (by kernel_rfl) rfl #[.int .i64 t339] rfl (by (try simp only [List.map_toArray, List.map_cons, List.map_nil]); first | done | rfl | (simp only [List.length_drop, List.length_take]; rfl)) ?_; (with_reducible refine (colonnaderef09_Width.calls kj46 t339 t362 _ A55.out).mono ?_); rintro e w' ⟨rfl, ⟨nd, rfl⟩⟩; refine ⟨_, rfl, ?_⟩; obtain ⟨Ao57, co57, eo57⟩ := Kd.R_slice HO_16.out; subst eo57) | ((with_reducible refine gate_callee (f := 68) rfl ?_); refine goesL_ (some 147) rfl rfl Try.func68 (by kernel_rfl) rfl #[.slice Ao57 t348.length co57, .int .i64 t362] rfl (by (try simp only [List.map_toArray, List.map_cons, List.map_nil]); first | done | rfl | (simp only [List.length_drop, List.length_take]; rfl)) ?_; (with_reducible refine (colonnaderef03_Pack.calls kj46 _ _ t348 t362 t363 _ ?side1 ?side2 A56.out).mono ?_); (case side1 => repeat (first | exact (Kd.R_reads' HO_16.out).2.2 | (with_reducible refine Kd.C_alloc ?_ _) | (with_reducible refine Kd.C_drewN ?_ _) | (with_reducible refine Kd.C_drew ?_))); (case side2 => exact (Kd.R_reads' HO_16.out).2.1); rintro e w58 ⟨v364, rfl, ho0, hb⟩; refine ⟨_, rfl, ?_⟩; have n0_ := Aside0.mk (Kd.R_below (by (with_reducible repeat (first | apply Kd.R_alloc | apply Kd.R_drewN | apply Kd.R_drew)); exact HO_13.out) hb); have n1_ := Aside0.mk (Kd.R_below (by (with_reducible repeat (first | apply Kd.R_alloc | apply Kd.R_drewN | apply Kd.R_drew)); exact HO_16.out) hb); have n2_ := Aside0.mk (Kd.R_lower ho0 (below_size (by repeat (first | (with_reducible first | exact HB.out | apply below_alloc | apply pw_below_drewN | apply below_drew1) | exact HB.out)))); have n3_ := Aside0.mk (below_step (by repeat (first | (with_reducible first | exact HB.out | apply below_alloc | apply pw_below_drewN | apply below_drew1) | exact HB.out)) hb); clear HO_13; clear HO_16; clear HB; have HO_13 := n0_; have HO_16 := n1_; have HO365 := n2_; have HB := n3_; clear n0_ n1_ n2_ n3_; (try clear hb); (try clear hb2); (try clear hk); (try clear hi); (try clear ho0)))
                                  refine bodyPost_ret (results_list (rs := [.tmp 4, .tmp 5, .tmp 6, .tmp 7]) rfl (by simp) (.tmp (.tmp (.tmp (.tmp .nil))))) rfl ?_
                                  exact ⟨_, _, by first | rfl | (simp [errW_none, errW_some] <;> rfl) | (simp only [← hji30]; first | rfl | (simp [errW_none, errW_some] <;> rfl)) | (simp [*, errW_none, errW_some] <;> rfl), by (with_reducible repeat (first | apply Kd.R_alloc | apply Kd.R_drewN | apply Kd.R_drew)); exact HO_13.out, by (with_reducible repeat (first | apply Kd.R_alloc | apply Kd.R_drewN | apply Kd.R_drew)); exact HO365.out, by repeat (first | (with_reducible first | exact HB.out | apply below_alloc | apply pw_below_drewN | apply below_drew1) | exact HB.out)⟩
                    · replace c34 := Bool.eq_false_iff.mpr c34
                      subst c34
                      have H1 : (some (([] : List ByteArray), 0, ([] : List Int), 90)) = some (r1, r2, r3, r4) := by rw [if_neg (show ¬ (false = true) by decide)] at H; exact H
                      clear H
                      have H := H1
                      clear H1
                      simp only [Option.some.injEq, Prod.mk.injEq] at H
                      obtain ⟨rfl, rfl, rfl, rfl⟩ := H
                      obtain ⟨i059, hi059, _, hsz59, _⟩ := info_parts info5
                      obtain ⟨A59, hcut59, hA59, hC59⟩ := print_drop_of (P := Try.prog) (Value.int .u8) 0 46 5 .i64 Try.underlying46 hi059 hsz59 A0 c0 l0 (ji30) (of_decide_eq_true (by first | (with_reducible assumption) | assumption)) (of_decide_eq_true (by first | (with_reducible assumption) | assumption)) HC0.out
                      have HR347 := Aside0.mk (Kd.C_of_reads (h1 := fun _ => rfl) (hA59 _ (Kd.reads_of_C HR0.out)))
                      have HC347 := Aside0.mk hC59
                      clear hA59 hC59 hi059 hsz59
                      go_wp2_with (first | ((with_reducible refine gate_callee (f := 66) rfl ?_); refine goesL_ (some 107) rfl rfl Try.func66 (by kernel_rfl) rfl #[.slice A59 (l0.drop ((ji30) : Int).toNat).length (c0 - (ji30).toNat), .int .i64 t339, .int .i64 a1] rfl (by (try simp only [List.map_toArray, List.map_cons, List.map_nil]); first | done | (rw [show (l0.drop ((ji30) : Int).toNat).length = (l0.length - (ji30).toNat) from List.length_drop] <;> rfl) | (simp only [hji30]; rfl) | rfl | (simp only [List.length_drop, List.length_take]; rfl)) ?_; (with_reducible refine (colonnaderef09_used.calls k2 _ _ (l0.drop ((ji30) : Int).toNat) t339 a1 t348 false _ ?side1 ?side2 A33.out).mono ?_); (case side1 => repeat (first | exact (Kd.C_below HR347.out HB.out) | (with_reducible refine Kd.C_alloc ?_ _) | (with_reducible refine Kd.C_drewN ?_ _) | (with_reducible refine Kd.C_drew ?_))); (case side2 => exact HC347.out); rintro e w60 ⟨v350, rfl, ho0, hb⟩; refine ⟨_, rfl, ?_⟩; have n0_ := Aside0.mk (Kd.R_below (by (with_reducible repeat (first | apply Kd.R_alloc | apply Kd.R_drewN | apply Kd.R_drew)); exact HO_13.out) hb); have n1_ := Aside0.mk (Kd.R_lower ho0 (below_size (by repeat (first | (with_reducible first | exact HB.out | apply below_alloc | apply pw_below_drewN | apply below_drew1) | exact HB.out)))); have n2_ := Aside0.mk (below_step (by repeat (first | (with_reducible first | exact HB.out | apply below_alloc | apply pw_below_drewN | apply below_drew1) | exact HB.out)) hb); clear HO_13; clear HB; have HO_13 := n0_; have HO351 := n1_; have HB := n2_; clear n0_ n1_ n2_; (try clear hb); (try clear hb2); (try clear hk); (try clear hi); (try clear ho0)))
                      refine bodyPost_ret (results_list (rs := [.tmp 4, .tmp 5, .tmp 6, .tmp 7]) rfl (by simp) (.tmp (.tmp (.tmp (.tmp .nil))))) rfl ?_
                      exact ⟨_, _, by first | rfl | (simp [errW_none, errW_some] <;> rfl) | (simp only [← hji30]; first | rfl | (simp [errW_none, errW_some] <;> rfl)) | (simp [*, errW_none, errW_some] <;> rfl), by first | exact Kd.R_nil _ _ _ _ _ | exact Kd.N_nil _ _ _ _ _ | exact Kd.V_nil _ _ _ _ _ | exact Kd.Q_nil _ _ _ _ _ | exact Kd.S_nil _ _ _ _ _, by first | exact Kd.R_nil _ _ _ _ _ | exact Kd.N_nil _ _ _ _ _ | exact Kd.V_nil _ _ _ _ _ | exact Kd.Q_nil _ _ _ _ _ | exact Kd.S_nil _ _ _ _ _, by repeat (first | (with_reducible first | exact HB.out | apply below_alloc | apply pw_below_drewN | apply below_drew1) | exact HB.out)⟩
                  · rw [if_neg c32] at H
                    exact absurd H (by simp)
                · rw [if_neg c31] at H
                  exact absurd H (by simp)
  · rw [if_neg c4] at H
    have c4b0 : (t338 == 0) = false := beq_eq_false_iff_ne.mpr c4
    have c4b1 : (t338 != 0) = true := bne_iff_ne.mpr c4
    simp only [Option.some.injEq, Prod.mk.injEq] at H
    obtain ⟨rfl, rfl, rfl, rfl⟩ := H
    go_enter Try.func51, Try.ntmps51
    go_wp2_with (first | ((with_reducible refine gate_callee (f := 63) rfl ?_); refine goesL_ (some 23) rfl rfl Try.func63 (by kernel_rfl) rfl #[.int .i64 a1] rfl (by (try simp only [List.map_toArray, List.map_cons, List.map_nil]); first | done | rfl | (simp only [List.length_drop, List.length_take]; rfl)) ?_; (with_reducible refine (colonnaderef09_count.calls a1 t338 _ A3.out).mono ?_); rintro e w' ⟨rfl, ⟨nd, rfl⟩⟩; refine ⟨_, rfl, ?_⟩))
    refine bodyPost_ret (results_list (rs := [.tmp 4, .tmp 5, .tmp 6, .tmp 7]) rfl (by simp) (.tmp (.tmp (.tmp (.tmp .nil))))) rfl ?_
    exact ⟨_, _, by first | rfl | (simp [errW_none, errW_some] <;> rfl) | (simp [*, errW_none, errW_some] <;> rfl), by first | exact Kd.R_nil _ _ _ _ _ | exact Kd.N_nil _ _ _ _ _ | exact Kd.V_nil _ _ _ _ _ | exact Kd.Q_nil _ _ _ _ _ | exact Kd.S_nil _ _ _ _ _, by first | exact Kd.R_nil _ _ _ _ _ | exact Kd.N_nil _ _ _ _ _ | exact Kd.V_nil _ _ _ _ _ | exact Kd.Q_nil _ _ _ _ _ | exact Kd.S_nil _ _ _ _ _, by repeat (first | (with_reducible first | exact HB.out | apply below_alloc | apply pw_below_drewN | apply below_drew1) | exact HB.out)⟩

end Go.Proofs.Ytlpllhpnnhablaa.PDictReadTexts

-- MIDLEN
