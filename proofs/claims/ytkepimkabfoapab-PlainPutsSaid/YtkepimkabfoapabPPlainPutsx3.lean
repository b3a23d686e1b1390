-- Written by xprint.py, this session's own program over the kit's print; Lean checks it.
import Derived.Test.YtkepimkabfoapabPPlainPutsx0
import Derived.Test.YtkepimkabfoapabPPlainPutsx1
import Derived.Test.YtkepimkabfoapabPPlainPutsx2
namespace Go.Proofs.Ytkepimkabfoapab.PPlainPuts
open Go.RowKit Go.Proofs.YtkepimkabfoapabW.PrintWords Go.Proofs.YtkepimkabfoapabW.PrintLast Go.Proofs.YtkepimkabfoapabW.PrintMore
attribute [local go_sem] max2_int min2_int max_two min_two max_three min_three max_four min_four   -- for this text's walks alone
set_option linter.unusedVariables false
set_option linter.unusedSimpArgs false

/-! ### colonnadelaw08_PlainPuts: function 3 -/
mutual
def colonnadelaw08_PlainPuts.l0 : Nat → List Int → List ByteArray → List Int → List ByteArray → Int → Option (Bool)
  | 0, _, _, _, _, _ => none
  | k + 1, x0, x1, x5, x6, x7 => if x7 < 2 then ((some (([] : List Int) : List Int)).bind fun y159 => (if 0 ≤ (x0.length : Int) then (if (x0.length : Int) ≤ (x5.length : Int) then ((some (x5.take ((x0.length : Int) : Int).toNat : List Int)).bind fun y162 => (if y159.length + y162.length < 17592186044416 then ((some (y159 ++ y162 : List Int)).bind fun y166 => ((some (([] : List ByteArray) : List ByteArray)).bind fun y169 => (if 0 ≤ (x1.length : Int) then (if (x1.length : Int) ≤ (x6.length : Int) then ((some (x6.take ((x1.length : Int) : Int).toNat : List ByteArray)).bind fun y172 => (if y169.length + y172.length < 8796093022208 then ((some (y169 ++ y172 : List ByteArray)).bind fun y176 => ((colonnaderef08_PutTexts.f k y176).bind fun bt179 => ((plain_PutInts.f (x5.take ((x0.length : Int) : Int).toNat)).bind fun t187 => ((plain_PutTexts.f (x6.take ((x1.length : Int) : Int).toNat)).bind fun bt194 => ((colonnaderef08_PutInts.f k y166).bind fun t198 => (if (strOfNums t187).toList = (strOfNums t198).toList then ((colonnadelaw08_num.f bt194.2).bind fun t201 => (if t201 = bt179.2 then (colonnadelaw08_PlainPuts.j1 k x0 x1 x5 x6 x7 y166 y176 ((strOfNums bt194.1).toList != (strOfNums bt179.1).toList)) else (colonnadelaw08_PlainPuts.j1 k x0 x1 x5 x6 x7 y166 y176 true))) else (colonnadelaw08_PlainPuts.j1 k x0 x1 x5 x6 x7 y166 y176 true))))))) else (none))) else (none)) else (none)))) else (none))) else (none)) else (none))) else (some true)
def colonnadelaw08_PlainPuts.j1 : Nat → List Int → List ByteArray → List Int → List ByteArray → Int → List Int → List ByteArray → Bool → Option (Bool)
  | 0, _, _, _, _, _, _, _, _ => none
  | k + 1, x0, x1, x5, x6, x7, x8, x9, x79 => if x79 = true then (some false) else (if 0 ≤ (x0.length : Int) then (if (x0.length : Int) ≤ (x5.length : Int) then ((colonnaderef08_SameInts.f k (x5.take ((x0.length : Int) : Int).toNat) x8).bind fun t206 => (if t206 = true then (if 0 ≤ (x1.length : Int) then (if (x1.length : Int) ≤ (x6.length : Int) then ((colonnaderef08_SameTexts.f k (x6.take ((x1.length : Int) : Int).toNat) x9).bind fun t211 => (if t211 = true then (if (x0.length : Int) < (x5.length : Int) then (if (rd x5 (x0.length : Int)) = 71 then (if 0 ≤ (wrap64 ((x0.length : Int) + 1)) then (if (wrap64 ((x0.length : Int) + 1)) < (x5.length : Int) then (if (rd x5 (wrap64 ((x0.length : Int) + 1))) = 72 then (if (x1.length : Int) < (x6.length : Int) then (if (rdOf ByteArray.empty x6 (x1.length : Int)).toList = ([109, 97, 114, 107] : List UInt8) then (if 0 ≤ (wrap64 ((x1.length : Int) + 1)) then (if (wrap64 ((x1.length : Int) + 1)) < (x6.length : Int) then (colonnadelaw08_PlainPuts.j2 k x0 x1 x5 x6 x7 ((rdOf ByteArray.empty x6 (wrap64 ((x1.length : Int) + 1))).toList != ([109, 97, 114, 107, 115] : List UInt8))) else (none)) else (none)) else (colonnadelaw08_PlainPuts.j2 k x0 x1 x5 x6 x7 true)) else (none)) else (colonnadelaw08_PlainPuts.j2 k x0 x1 x5 x6 x7 true)) else (none)) else (none)) else (colonnadelaw08_PlainPuts.j2 k x0 x1 x5 x6 x7 true)) else (none)) else (colonnadelaw08_PlainPuts.j2 k x0 x1 x5 x6 x7 true))) else (none)) else (none)) else (colonnadelaw08_PlainPuts.j2 k x0 x1 x5 x6 x7 true))) else (none)) else (none))
def colonnadelaw08_PlainPuts.j2 : Nat → List Int → List ByteArray → List Int → List ByteArray → Int → Bool → Option (Bool)
  | 0, _, _, _, _, _, _ => none
  | k + 1, x0, x1, x5, x6, x7, x129 => if x129 = true then (some false) else (colonnadelaw08_PlainPuts.l1 k x0 x1 x5 x6 x7 0)
def colonnadelaw08_PlainPuts.l1 : Nat → List Int → List ByteArray → List Int → List ByteArray → Int → Int → Option (Bool)
  | 0, _, _, _, _, _, _ => none
  | k + 1, x0, x1, x5, x6, x7, x15 => if x15 < (x0.length : Int) then (if 0 ≤ x15 then (if x15 < (x5.length : Int) then (colonnadelaw08_PlainPuts.l1 k x0 x1 (x5.set (x15 : Int).toNat (Go.bits .xor .i64 (rd x5 x15) 5)) x6 x7 (wrap64 (x15 + 1))) else (none)) else (none)) else (colonnadelaw08_PlainPuts.l2 k x0 x1 x5 x6 x7 0)
def colonnadelaw08_PlainPuts.l2 : Nat → List Int → List ByteArray → List Int → List ByteArray → Int → Int → Option (Bool)
  | 0, _, _, _, _, _, _ => none
  | k + 1, x0, x1, x5, x6, x7, x16 => if x16 < (x1.length : Int) then (if 0 ≤ x16 then (if x16 < (x6.length : Int) then (colonnadelaw08_PlainPuts.l2 k x0 x1 x5 (x6.set (x16 : Int).toNat (⟨#[120]⟩ : ByteArray)) x7 (wrap64 (x16 + 1))) else (none)) else (none)) else (colonnadelaw08_PlainPuts.l0 k x0 x1 x5 x6 (wrap64 (x7 + 1)))
end
def colonnadelaw08_PlainPuts.f (k : Nat) (l0 : List Int) (l1 : List ByteArray) : Option (Bool) := (some (([] : List Int) : List Int)).bind fun y135 => (if y135.length + l0.length < 17592186044416 then ((some (y135 ++ l0 : List Int)).bind fun y138 => ((some (([71, 72] : List Int) : List Int)).bind fun y141 => (if y138.length + y141.length < 17592186044416 then ((some (([] : List ByteArray) : List ByteArray)).bind fun y147 => (if y147.length + l1.length < 8796093022208 then ((some (y147 ++ l1 : List ByteArray)).bind fun y150 => ((some (([(⟨#[109, 97, 114, 107]⟩ : ByteArray), (⟨#[109, 97, 114, 107, 115]⟩ : ByteArray)] : List ByteArray) : List ByteArray)).bind fun y153 => (if y150.length + y153.length < 8796093022208 then (colonnadelaw08_PlainPuts.l0 k l0 l1 (y138 ++ y141) (y150 ++ y153) 0) else (none)))) else (none))) else (none)))) else (none))
theorem colonnadelaw08_PlainPuts.mono_l : ∀ k, (∀ y0 y1 y2 y3 y4, LeO (colonnadelaw08_PlainPuts.l0 k y0 y1 y2 y3 y4) (colonnadelaw08_PlainPuts.l0 (k + 1) y0 y1 y2 y3 y4)) ∧ (∀ y0 y1 y2 y3 y4 y5 y6 y7, LeO (colonnadelaw08_PlainPuts.j1 k y0 y1 y2 y3 y4 y5 y6 y7) (colonnadelaw08_PlainPuts.j1 (k + 1) y0 y1 y2 y3 y4 y5 y6 y7)) ∧ (∀ y0 y1 y2 y3 y4 y5, LeO (colonnadelaw08_PlainPuts.j2 k y0 y1 y2 y3 y4 y5) (colonnadelaw08_PlainPuts.j2 (k + 1) y0 y1 y2 y3 y4 y5)) ∧ (∀ y0 y1 y2 y3 y4 y5, LeO (colonnadelaw08_PlainPuts.l1 k y0 y1 y2 y3 y4 y5) (colonnadelaw08_PlainPuts.l1 (k + 1) y0 y1 y2 y3 y4 y5)) ∧ (∀ y0 y1 y2 y3 y4 y5, LeO (colonnadelaw08_PlainPuts.l2 k y0 y1 y2 y3 y4 y5) (colonnadelaw08_PlainPuts.l2 (k + 1) y0 y1 y2 y3 y4 y5))
  | 0 => ⟨fun _ _ _ _ _ r h => by simp [colonnadelaw08_PlainPuts.l0] at h, fun _ _ _ _ _ _ _ _ r h => by simp [colonnadelaw08_PlainPuts.j1] at h, fun _ _ _ _ _ _ r h => by simp [colonnadelaw08_PlainPuts.j2] at h, fun _ _ _ _ _ _ r h => by simp [colonnadelaw08_PlainPuts.l1] at h, fun _ _ _ _ _ _ r h => by simp [colonnadelaw08_PlainPuts.l2] at h⟩
  | k + 1 => by
    obtain ⟨ih0, ih1, ih2, ih3, ih4⟩ := colonnadelaw08_PlainPuts.mono_l k
    refine ⟨?_, ?_, ?_, ?_, ?_⟩
    · intro y0 y1 y2 y3 y4
      unfold colonnadelaw08_PlainPuts.l0
      repeat' first
      | (with_reducible exact ih0 _ _ _ _ _)
      | (with_reducible exact ih1 _ _ _ _ _ _ _ _)
      | (with_reducible exact ih2 _ _ _ _ _ _)
      | (with_reducible exact ih3 _ _ _ _ _ _)
      | (with_reducible exact ih4 _ _ _ _ _ _)
      | (with_reducible exact colonnaderef08_PutInts.mono _ _)
      | (with_reducible exact colonnaderef08_PutTexts.mono _ _)
      | (with_reducible exact colonnaderef08_SameInts.mono _ _ _)
      | (with_reducible exact colonnaderef08_SameTexts.mono _ _ _)
      | (with_reducible exact LeO.refl _)
      | (with_reducible exact LeO.none _)
      | (with_reducible refine LeO.ite ?_ ?_)
      | (with_reducible refine LeO.bind ?_ (fun _ => ?_))
      | exact ih0 _ _ _ _ _
      | exact ih1 _ _ _ _ _ _ _ _
      | exact ih2 _ _ _ _ _ _
      | exact ih3 _ _ _ _ _ _
      | exact ih4 _ _ _ _ _ _
      | exact colonnaderef08_PutInts.mono _ _
      | exact colonnaderef08_PutTexts.mono _ _
      | exact colonnaderef08_SameInts.mono _ _ _
      | exact colonnaderef08_SameTexts.mono _ _ _
      | exact LeO.none _
      | refine LeO.ite ?_ ?_
      | refine LeO.bind ?_ (fun _ => ?_)
    · intro y0 y1 y2 y3 y4 y5 y6 y7
      unfold colonnadelaw08_PlainPuts.j1
      repeat' first
      | (with_reducible exact ih0 _ _ _ _ _)
      | (with_reducible exact ih1 _ _ _ _ _ _ _ _)
      | (with_reducible exact ih2 _ _ _ _ _ _)
      | (with_reducible exact ih3 _ _ _ _ _ _)
      | (with_reducible exact ih4 _ _ _ _ _ _)
      | (with_reducible exact colonnaderef08_PutInts.mono _ _)
      | (with_reducible exact colonnaderef08_PutTexts.mono _ _)
      | (with_reducible exact colonnaderef08_SameInts.mono _ _ _)
      | (with_reducible exact colonnaderef08_SameTexts.mono _ _ _)
      | (with_reducible exact LeO.refl _)
      | (with_reducible exact LeO.none _)
      | (with_reducible refine LeO.ite ?_ ?_)
      | (with_reducible refine LeO.bind ?_ (fun _ => ?_))
      | exact ih0 _ _ _ _ _
      | exact ih1 _ _ _ _ _ _ _ _
      | exact ih2 _ _ _ _ _ _
      | exact ih3 _ _ _ _ _ _
      | exact ih4 _ _ _ _ _ _
      | exact colonnaderef08_PutInts.mono _ _
      | exact colonnaderef08_PutTexts.mono _ _
      | exact colonnaderef08_SameInts.mono _ _ _
      | exact colonnaderef08_SameTexts.mono _ _ _
      | exact LeO.none _
      | refine LeO.ite ?_ ?_
      | refine LeO.bind ?_ (fun _ => ?_)
    · intro y0 y1 y2 y3 y4 y5
      unfold colonnadelaw08_PlainPuts.j2
      repeat' first
      | (with_reducible exact ih0 _ _ _ _ _)
      | (with_reducible exact ih1 _ _ _ _ _ _ _ _)
      | (with_reducible exact ih2 _ _ _ _ _ _)
      | (with_reducible exact ih3 _ _ _ _ _ _)
      | (with_reducible exact ih4 _ _ _ _ _ _)
      | (with_reducible exact colonnaderef08_PutInts.mono _ _)
      | (with_reducible exact colonnaderef08_PutTexts.mono _ _)
      | (with_reducible exact colonnaderef08_SameInts.mono _ _ _)
      | (with_reducible exact colonnaderef08_SameTexts.mono _ _ _)
      | (with_reducible exact LeO.refl _)
      | (with_reducible exact LeO.none _)
      | (with_reducible refine LeO.ite ?_ ?_)
      | (with_reducible refine LeO.bind ?_ (fun _ => ?_))
      | exact ih0 _ _ _ _ _
      | exact ih1 _ _ _ _ _ _ _ _
      | exact ih2 _ _ _ _ _ _
      | exact ih3 _ _ _ _ _ _
      | exact ih4 _ _ _ _ _ _
      | exact colonnaderef08_PutInts.mono _ _
      | exact colonnaderef08_PutTexts.mono _ _
      | exact colonnaderef08_SameInts.mono _ _ _
      | exact colonnaderef08_SameTexts.mono _ _ _
      | exact LeO.none _
      | refine LeO.ite ?_ ?_
      | refine LeO.bind ?_ (fun _ => ?_)
    · intro y0 y1 y2 y3 y4 y5
      unfold colonnadelaw08_PlainPuts.l1
      repeat' first
      | (with_reducible exact ih0 _ _ _ _ _)
      | (with_reducible exact ih1 _ _ _ _ _ _ _ _)
      | (with_reducible exact ih2 _ _ _ _ _ _)
      | (with_reducible exact ih3 _ _ _ _ _ _)
      | (with_reducible exact ih4 _ _ _ _ _ _)
      | (with_reducible exact colonnaderef08_PutInts.mono _ _)
      | (with_reducible exact colonnaderef08_PutTexts.mono _ _)
      | (with_reducible exact colonnaderef08_SameInts.mono _ _ _)
      | (with_reducible exact colonnaderef08_SameTexts.mono _ _ _)
      | (with_reducible exact LeO.refl _)
      | (with_reducible exact LeO.none _)
      | (with_reducible refine LeO.ite ?_ ?_)
      | (with_reducible refine LeO.bind ?_ (fun _ => ?_))
      | exact ih0 _ _ _ _ _
      | exact ih1 _ _ _ _ _ _ _ _
      | exact ih2 _ _ _ _ _ _
      | exact ih3 _ _ _ _ _ _
      | exact ih4 _ _ _ _ _ _
      | exact colonnaderef08_PutInts.mono _ _
      | exact colonnaderef08_PutTexts.mono _ _
      | exact colonnaderef08_SameInts.mono _ _ _
      | exact colonnaderef08_SameTexts.mono _ _ _
      | exact LeO.none _
      | refine LeO.ite ?_ ?_
      | refine LeO.bind ?_ (fun _ => ?_)
    · intro y0 y1 y2 y3 y4 y5
      unfold colonnadelaw08_PlainPuts.l2
      repeat' first
      | (with_reducible exact ih0 _ _ _ _ _)
      | (with_reducible exact ih1 _ _ _ _ _ _ _ _)
      | (with_reducible exact ih2 _ _ _ _ _ _)
      | (with_reducible exact ih3 _ _ _ _ _ _)
      | (with_reducible exact ih4 _ _ _ _ _ _)
      | (with_reducible exact colonnaderef08_PutInts.mono _ _)
      | (with_reducible exact colonnaderef08_PutTexts.mono _ _)
      | (with_reducible exact colonnaderef08_SameInts.mono _ _ _)
      | (with_reducible exact colonnaderef08_SameTexts.mono _ _ _)
      | (with_reducible exact LeO.refl _)
      | (with_reducible exact LeO.none _)
      | (with_reducible refine LeO.ite ?_ ?_)
      | (with_reducible refine LeO.bind ?_ (fun _ => ?_))
      | exact ih0 _ _ _ _ _
      | exact ih1 _ _ _ _ _ _ _ _
      | exact ih2 _ _ _ _ _ _
      | exact ih3 _ _ _ _ _ _
      | exact ih4 _ _ _ _ _ _
      | exact colonnaderef08_PutInts.mono _ _
      | exact colonnaderef08_PutTexts.mono _ _
      | exact colonnaderef08_SameInts.mono _ _ _
      | exact colonnaderef08_SameTexts.mono _ _ _
      | exact LeO.none _
      | refine LeO.ite ?_ ?_
      | refine LeO.bind ?_ (fun _ => ?_)
theorem colonnadelaw08_PlainPuts.mono : ∀ a0 a1 k, LeO (colonnadelaw08_PlainPuts.f k a0 a1) (colonnadelaw08_PlainPuts.f (k + 1) a0 a1) := by
  intro a0 a1 k
  obtain ⟨ih0, ih1, ih2, ih3, ih4⟩ := colonnadelaw08_PlainPuts.mono_l k
  unfold colonnadelaw08_PlainPuts.f
  repeat' first
      | (with_reducible exact ih0 _ _ _ _ _)
      | (with_reducible exact ih1 _ _ _ _ _ _ _ _)
      | (with_reducible exact ih2 _ _ _ _ _ _)
      | (with_reducible exact ih3 _ _ _ _ _ _)
      | (with_reducible exact ih4 _ _ _ _ _ _)
      | (with_reducible exact colonnaderef08_PutInts.mono _ _)
      | (with_reducible exact colonnaderef08_PutTexts.mono _ _)
      | (with_reducible exact colonnaderef08_SameInts.mono _ _ _)
      | (with_reducible exact colonnaderef08_SameTexts.mono _ _ _)
      | (with_reducible exact LeO.refl _)
      | (with_reducible exact LeO.none _)
      | (with_reducible refine LeO.ite ?_ ?_)
      | (with_reducible refine LeO.bind ?_ (fun _ => ?_))
      | exact ih0 _ _ _ _ _
      | exact ih1 _ _ _ _ _ _ _ _
      | exact ih2 _ _ _ _ _ _
      | exact ih3 _ _ _ _ _ _
      | exact ih4 _ _ _ _ _ _
      | exact colonnaderef08_PutInts.mono _ _
      | exact colonnaderef08_PutTexts.mono _ _
      | exact colonnaderef08_SameInts.mono _ _ _
      | exact colonnaderef08_SameTexts.mono _ _ _
      | exact LeO.none _
      | refine LeO.ite ?_ ?_
      | refine LeO.bind ?_ (fun _ => ?_)
def colonnadelaw08_PlainPuts.T11 : Bool × List (List Nat × List Nat) := (true, [([], []), ([0], [0]), ([], []), ([2], [2]), ([3], [3]), ([1, 4], [1, 4]), ([5, 3], [5]), ([6], [6]), ([7, 6, 6], [6, 7]), ([6], [6]), ([8, 9, 6], [6, 8, 9]), ([6, 10], [6, 10]), ([11, 8], [11]), ([12], [12]), ([13, 12], [12, 13]), ([12], [12]), ([15, 12], [12, 15]), ([14, 16, 12], [12, 14, 16]), ([12, 17], [12, 17])])
def colonnadelaw08_PlainPuts.B11 : List Nat := [0, 1, 0, 4, 12, 31, 63, 127, 255, 127, 1023, 2047, 4095, 8191, 16383, 8191, 40959, 131071, 262143]
theorem colonnadelaw08_PlainPuts.tab11 : rtab .any (opsOf Try.f3 11) = colonnadelaw08_PlainPuts.T11 := by kernel_rfl
theorem colonnadelaw08_PlainPuts.bits11 : waitsOk colonnadelaw08_PlainPuts.T11.2 colonnadelaw08_PlainPuts.B11 = true := by kernel_rfl
set_option maxHeartbeats 8000000 in
set_option maxRecDepth 100000 in
theorem colonnadelaw08_PlainPuts.calls (k : Nat) (A0 : Option Addr) (c0 : Nat) (l0 : List Int) (A1 : Option Addr) (c1 : Nat) (l1 : List ByteArray) (r : Bool) (w : World) (hr0 : Kd.C (Kd.int .i64) w A0 l0.length l0) (hc0 : l0.length ≤ c0) (hr1 : Kd.C Kd.string w A1 l1.length l1) (hc1 : l1.length ≤ c1) (h : colonnadelaw08_PlainPuts.f k l0 l1 = some r) :
    Calls Try.prog 3 #[.slice A0 l0.length c0, .slice A1 l1.length c1] w fun e w' => e = .returned (.bool r) ∧ Below w.heap.size w w' := by
  have HR0 := Aside0.mk hr0
  have HC0 := Aside0.mk hc0
  clear hr0 hc0
  have HR1 := Aside0.mk hr1
  have HC1 := Aside0.mk hc1
  clear hr1 hc1
  have HB := Aside0.mk (Below.refl w.heap.size w)
  have H : ((some (([] : List Int) : List Int)).bind fun y135 => (if y135.length + l0.length < 17592186044416 then ((some (y135 ++ l0 : List Int)).bind fun y138 => ((some (([71, 72] : List Int) : List Int)).bind fun y141 => (if y138.length + y141.length < 17592186044416 then ((some (([] : List ByteArray) : List ByteArray)).bind fun y147 => (if y147.length + l1.length < 8796093022208 then ((some (y147 ++ l1 : List ByteArray)).bind fun y150 => ((some (([(⟨#[109, 97, 114, 107]⟩ : ByteArray), (⟨#[109, 97, 114, 107, 115]⟩ : ByteArray)] : List ByteArray) : List ByteArray)).bind fun y153 => (if y150.length + y153.length < 8796093022208 then (colonnadelaw08_PlainPuts.l0 k l0 l1 (y138 ++ y141) (y150 ++ y153) 0) else (none)))) else (none))) else (none)))) else (none))) = some r := h
  clear h
  obtain ⟨y135, hy135⟩ : ∃ y_ : List Int, y_ = (([] : List Int)) := ⟨_, rfl⟩
  replace H : (if y135.length + l0.length < 17592186044416 then ((some (y135 ++ l0 : List Int)).bind fun y138 => ((some (([71, 72] : List Int) : List Int)).bind fun y141 => (if y138.length + y141.length < 17592186044416 then ((some (([] : List ByteArray) : List ByteArray)).bind fun y147 => (if y147.length + l1.length < 8796093022208 then ((some (y147 ++ l1 : List ByteArray)).bind fun y150 => ((some (([(⟨#[109, 97, 114, 107]⟩ : ByteArray), (⟨#[109, 97, 114, 107, 115]⟩ : ByteArray)] : List ByteArray) : List ByteArray)).bind fun y153 => (if y150.length + y153.length < 8796093022208 then (colonnadelaw08_PlainPuts.l0 k l0 l1 (y138 ++ y141) (y150 ++ y153) 0) else (none)))) else (none))) else (none)))) else (none)) = some r := by first | (rw [hy135]; with_reducible exact H) | (have H2_ := (Option.bind_some _ _).symm.trans H; rw [hy135]; with_reducible exact H2_) | (have H2_ := (Option.bind_some _ _).symm.trans H; with_reducible exact H2_) | with_reducible exact H | (rw [hy135]; exact H) | exact H
  have Ny135 := Aside0.mk hy135
  clear hy135
  by_cases c3 : y135.length + l0.length < 17592186044416
  · rw [if_pos c3] at H
    have LMc3 := Aside0.mk c3
    clear c3
    obtain ⟨y138, hy138⟩ : ∃ y_ : List Int, y_ = (y135 ++ l0) := ⟨_, rfl⟩
    replace H : ((some (([71, 72] : List Int) : List Int)).bind fun y141 => (if y138.length + y141.length < 17592186044416 then ((some (([] : List ByteArray) : List ByteArray)).bind fun y147 => (if y147.length + l1.length < 8796093022208 then ((some (y147 ++ l1 : List ByteArray)).bind fun y150 => ((some (([(⟨#[109, 97, 114, 107]⟩ : ByteArray), (⟨#[109, 97, 114, 107, 115]⟩ : ByteArray)] : List ByteArray) : List ByteArray)).bind fun y153 => (if y150.length + y153.length < 8796093022208 then (colonnadelaw08_PlainPuts.l0 k l0 l1 (y138 ++ y141) (y150 ++ y153) 0) else (none)))) else (none))) else (none))) = some r := by first | (rw [hy138]; with_reducible exact H) | (have H2_ := (Option.bind_some _ _).symm.trans H; rw [hy138]; with_reducible exact H2_) | (have H2_ := (Option.bind_some _ _).symm.trans H; with_reducible exact H2_) | with_reducible exact H | (rw [hy138]; exact H) | exact H
    have Ny138 := Aside0.mk hy138
    clear hy138
    obtain ⟨y141, hy141⟩ : ∃ y_ : List Int, y_ = (([71, 72] : List Int)) := ⟨_, rfl⟩
    replace H : (if y138.length + y141.length < 17592186044416 then ((some (([] : List ByteArray) : List ByteArray)).bind fun y147 => (if y147.length + l1.length < 8796093022208 then ((some (y147 ++ l1 : List ByteArray)).bind fun y150 => ((some (([(⟨#[109, 97, 114, 107]⟩ : ByteArray), (⟨#[109, 97, 114, 107, 115]⟩ : ByteArray)] : List ByteArray) : List ByteArray)).bind fun y153 => (if y150.length + y153.length < 8796093022208 then (colonnadelaw08_PlainPuts.l0 k l0 l1 (y138 ++ y141) (y150 ++ y153) 0) else (none)))) else (none))) else (none)) = some r := by first | (rw [hy141]; with_reducible exact H) | (have H2_ := (Option.bind_some _ _).symm.trans H; rw [hy141]; with_reducible exact H2_) | (have H2_ := (Option.bind_some _ _).symm.trans H; with_reducible exact H2_) | with_reducible exact H | (rw [hy141]; exact H) | exact H
    have Ny141 := Aside0.mk hy141
    clear hy141
    by_cases c4 : y138.length + y141.length < 17592186044416
    · rw [if_pos c4] at H
      have LMc4 := Aside0.mk c4
      clear c4
      obtain ⟨y144, hy144⟩ : ∃ y_ : List Int, y_ = (y138 ++ y141) := ⟨_, rfl⟩
      replace H : ((some (([] : List ByteArray) : List ByteArray)).bind fun y147 => (if y147.length + l1.length < 8796093022208 then ((some (y147 ++ l1 : List ByteArray)).bind fun y150 => ((some (([(⟨#[109, 97, 114, 107]⟩ : ByteArray), (⟨#[109, 97, 114, 107, 115]⟩ : ByteArray)] : List ByteArray) : List ByteArray)).bind fun y153 => (if y150.length + y153.length < 8796093022208 then (colonnadelaw08_PlainPuts.l0 k l0 l1 y144 (y150 ++ y153) 0) else (none)))) else (none))) = some r := by first | (rw [hy144]; with_reducible exact H) | (have H2_ := (Option.bind_some _ _).symm.trans H; rw [hy144]; with_reducible exact H2_) | (have H2_ := (Option.bind_some _ _).symm.trans H; with_reducible exact H2_) | with_reducible exact H | (rw [hy144]; exact H) | exact H
      have Ny144 := Aside0.mk hy144
      clear hy144
      obtain ⟨y147, hy147⟩ : ∃ y_ : List ByteArray, y_ = (([] : List ByteArray)) := ⟨_, rfl⟩
      replace H : (if y147.length + l1.length < 8796093022208 then ((some (y147 ++ l1 : List ByteArray)).bind fun y150 => ((some (([(⟨#[109, 97, 114, 107]⟩ : ByteArray), (⟨#[109, 97, 114, 107, 115]⟩ : ByteArray)] : List ByteArray) : List ByteArray)).bind fun y153 => (if y150.length + y153.length < 8796093022208 then (colonnadelaw08_PlainPuts.l0 k l0 l1 y144 (y150 ++ y153) 0) else (none)))) else (none)) = some r := by first | (rw [hy147]; with_reducible exact H) | (have H2_ := (Option.bind_some _ _).symm.trans H; rw [hy147]; with_reducible exact H2_) | (have H2_ := (Option.bind_some _ _).symm.trans H; with_reducible exact H2_) | with_reducible exact H | (rw [hy147]; exact H) | exact H
      have Ny147 := Aside0.mk hy147
      clear hy147
      by_cases c5 : y147.length + l1.length < 8796093022208
      · rw [if_pos c5] at H
        have LMc5 := Aside0.mk c5
        clear c5
        obtain ⟨y150, hy150⟩ : ∃ y_ : List ByteArray, y_ = (y147 ++ l1) := ⟨_, rfl⟩
        replace H : ((some (([(⟨#[109, 97, 114, 107]⟩ : ByteArray), (⟨#[109, 97, 114, 107, 115]⟩ : ByteArray)] : List ByteArray) : List ByteArray)).bind fun y153 => (if y150.length + y153.length < 8796093022208 then (colonnadelaw08_PlainPuts.l0 k l0 l1 y144 (y150 ++ y153) 0) else (none))) = some r := by first | (rw [hy150]; with_reducible exact H) | (have H2_ := (Option.bind_some _ _).symm.trans H; rw [hy150]; with_reducible exact H2_) | (have H2_ := (Option.bind_some _ _).symm.trans H; with_reducible exact H2_) | with_reducible exact H | (rw [hy150]; exact H) | exact H
        have Ny150 := Aside0.mk hy150
        clear hy150
        obtain ⟨y153, hy153⟩ : ∃ y_ : List ByteArray, y_ = (([(⟨#[109, 97, 114, 107]⟩ : ByteArray), (⟨#[109, 97, 114, 107, 115]⟩ : ByteArray)] : List ByteArray)) := ⟨_, rfl⟩
        replace H : (if y150.length + y153.length < 8796093022208 then (colonnadelaw08_PlainPuts.l0 k l0 l1 y144 (y150 ++ y153) 0) else (none)) = some r := by first | (rw [hy153]; with_reducible exact H) | (have H2_ := (Option.bind_some _ _).symm.trans H; rw [hy153]; with_reducible exact H2_) | (have H2_ := (Option.bind_some _ _).symm.trans H; with_reducible exact H2_) | with_reducible exact H | (rw [hy153]; exact H) | exact H
        have Ny153 := Aside0.mk hy153
        clear hy153
        by_cases c6 : y150.length + y153.length < 8796093022208
        · rw [if_pos c6] at H
          have LMc6 := Aside0.mk c6
          clear c6
          obtain ⟨y156, hy156⟩ : ∃ y_ : List ByteArray, y_ = (y150 ++ y153) := ⟨_, rfl⟩
          replace H : (colonnadelaw08_PlainPuts.l0 k l0 l1 y144 y156 0) = some r := by first | (rw [hy156]; with_reducible exact H) | (have H2_ := (Option.bind_some _ _).symm.trans H; rw [hy156]; with_reducible exact H2_) | (have H2_ := (Option.bind_some _ _).symm.trans H; with_reducible exact H2_) | with_reducible exact H | (rw [hy156]; exact H) | exact H
          have Ny156 := Aside0.mk hy156
          clear hy156
          have H' := Aside0.mk H
          clear H
          go_enter Try.func3, Try.ntmps3
          go_wp2_with (first | ((with_reducible refine gate_dst (N := 17) rfl ?_); (try (refine gate_guard (by rfl) ?_; dsimp only)); refine Kd.R_lit (Kd.int .i64) _ 2 ?hg (N := 17) ?hd (xs := ([] : List Int)) (inner := []) (ok := fun _ => True) (okp := fun _ => True) ?hr ?hp (fun _ hk => hk) trivial (Below.refl _ _) (Nat.le_refl _) (by simp) ?_; (case hd => rfl); (case hg => rfl); (case hr => first | (go_simp; done) | (go_simp; rfl)); (case hp => exact (Reps.none _ _)); intro v136 w7 ho8 hb hg_ hnew_; clear hg_ hnew_; (first | rw [← Ny135.out] at ho8 | (simp only [Int.reduceToNat] at ho8; rw [← Ny135.out] at ho8)); have n0_ := Aside0.mk (Kd.R_lower ho8 (below_size (by repeat (first | (with_reducible first | exact HB.out | apply below_alloc | apply pw_below_drewN | apply below_drew1) | exact HB.out)))); have n1_ := Aside0.mk (below_step (by repeat (first | (with_reducible first | exact HB.out | apply below_alloc | apply pw_below_drewN | apply below_drew1) | exact HB.out)) hb); clear HB; have HO137 := n0_; have HB := n1_; clear n0_ n1_; clear hb ho8) | ((with_reducible refine gate_builtin (b := .append) (xs := #[.tmp 17, .tmp 18]) rfl ?_); (try (refine gate_guard (by rfl) ?_; dsimp only)); at_builtin; refine Kd.R_append_rows (Kd.int .i64) (w0 := w) w.heap.size rfl (.tmp 17) (.tmp 18) 22 2 (.int .i64 0) 8 rfl Try.underlying22 info2 rfl (by decide) (by omega) v136 y135 l0 _ _ _ (fun _ => True) (fun _ => False) rfl rfl ?aO ?aR (fun _ _ h => h) (fun _ h => h.elim) ?aF ?aB ?aS ?aL ?_; (case aR => repeat (first | exact (Kd.C_below HR0.out HB.out) | (with_reducible refine Kd.C_alloc ?_ _) | (with_reducible refine Kd.C_drewN ?_ _) | (with_reducible refine Kd.C_drew ?_))); (case aB => exact (by repeat (first | (with_reducible first | exact HB.out | apply below_alloc | apply pw_below_drewN | apply below_drew1) | exact HB.out))); (case aF => exact (fun _ _ => trivial)); (case aO => exact (by (with_reducible repeat (first | apply Kd.R_alloc | apply Kd.R_drewN | apply Kd.R_drew)); exact HO137.out)); (case aS => exact (below_size (by repeat (first | (with_reducible first | exact HB.out | apply below_alloc | apply pw_below_drewN | apply below_drew1) | exact HB.out)))); (case aL => have := LMc3.out; omega); intro v139 w9 ho hb hg hat; rw [← Ny138.out] at ho; have n0_ := Aside0.mk (hb); have n1_ := Aside0.mk (ho); clear HB; clear HO137; have HB := n0_; have HO140 := n1_; clear n0_ n1_; clear ho hb hg hat) | ((with_reducible refine gate_dst (N := 20) rfl ?_); (try (refine gate_guard (by rfl) ?_; dsimp only)); refine Kd.R_lit (Kd.int .i64) _ 2 ?hg (N := 20) ?hd (xs := ([71, 72] : List Int)) (inner := [.int .i64 71, .int .i64 72]) (ok := fun _ => True) (okp := fun _ => True) ?hr ?hp (fun _ hk => hk) trivial (Below.refl _ _) (Nat.le_refl _) (by simp) ?_; (case hd => rfl); (case hg => rfl); (case hr => first | (go_simp; done) | (go_simp; rfl)); (case hp => exact (Reps.one (show Kd.M (Kd.int .i64) _ _ _ 71 [.int .i64 71] from rfl) (Reps.one (show Kd.M (Kd.int .i64) _ _ _ 72 [.int .i64 72] from rfl) (Reps.none _ _)))); intro v142 w10 ho11 hb hg_ hnew_; clear hg_ hnew_; (first | rw [← Ny141.out] at ho11 | (simp only [Int.reduceToNat] at ho11; rw [← Ny141.out] at ho11)); have n0_ := Aside0.mk (Kd.R_elder' (by (with_reducible repeat (first | apply Kd.R_alloc | apply Kd.R_drewN | apply Kd.R_drew)); exact HO140.out) (Kd.R_base ho11) hb); have n1_ := Aside0.mk (Kd.R_lower (Kd.R_new' ho11 (Kd.R_lt (by (with_reducible repeat (first | apply Kd.R_alloc | apply Kd.R_drewN | apply Kd.R_drew)); exact HO140.out))) (below_size (by repeat (first | (with_reducible first | exact HB.out | apply below_alloc | apply pw_below_drewN | apply below_drew1) | exact HB.out)))); have n2_ := Aside0.mk (below_step (by repeat (first | (with_reducible first | exact HB.out | apply below_alloc | apply pw_below_drewN | apply below_drew1) | exact HB.out)) hb); clear HO140; clear HB; have HO140 := n0_; have HO143 := n1_; have HB := n2_; clear n0_ n1_ n2_; clear hb ho11; obtain ⟨Ao13, co13, eo13⟩ := Kd.R_slice HO143.out; subst eo13) | ((with_reducible refine gate_builtin (b := .append) (xs := #[.tmp 19, .tmp 20]) rfl ?_); (try (refine gate_guard (by rfl) ?_; dsimp only)); at_builtin; refine Kd.R_append_rows (Kd.int .i64) (w0 := w) w.heap.size rfl (.tmp 19) (.tmp 20) 22 2 (.int .i64 0) 8 rfl Try.underlying22 info2 rfl (by decide) (by omega) v139 y138 y141 _ _ _ (fun k_ => some k_ ≠ (.slice Ao13 y141.length co13 : Value).ownBlock) (fun _ => False) rfl rfl ?aO ?aR (fun _ _ h => h) (fun _ h => h.elim) ?aF ?aB ?aS ?aL ?_; (case aR => repeat (first | exact (Kd.R_reads' HO143.out).2.2 | (with_reducible refine Kd.C_alloc ?_ _) | (with_reducible refine Kd.C_drewN ?_ _) | (with_reducible refine Kd.C_drew ?_))); (case aB => exact (by repeat (first | (with_reducible first | exact HB.out | apply below_alloc | apply pw_below_drewN | apply below_drew1) | exact HB.out))); (case aF => exact (fun k_ hk => Kd.fresh' (Kd.R_lt (by (with_reducible repeat (first | apply Kd.R_alloc | apply Kd.R_drewN | apply Kd.R_drew)); exact HO143.out)) k_ hk)); (case aO => exact (by (with_reducible repeat (first | apply Kd.R_alloc | apply Kd.R_drewN | apply Kd.R_drew)); exact Kd.R_mono HO140.out (fun _ hk => hk.2))); (case aS => exact (below_size (by repeat (first | (with_reducible first | exact HB.out | apply below_alloc | apply pw_below_drewN | apply below_drew1) | exact HB.out)))); (case aL => have := LMc4.out; omega); intro v145 w12 ho hb hg hat; rw [← Ny144.out] at ho; have n0_ := Aside0.mk (Kd.R_after (ok := (fun _ => True)) (by (with_reducible repeat (first | apply Kd.R_alloc | apply Kd.R_drewN | apply Kd.R_drew)); exact HO143.out) hg hat); have n1_ := Aside0.mk (hb); have n2_ := Aside0.mk (ho); clear HO143; clear HB; clear HO140; have HO143 := n0_; have HB := n1_; have HO146 := n2_; clear n0_ n1_ n2_; clear ho hb hg hat) | ((with_reducible refine gate_dst (N := 22) rfl ?_); (try (refine gate_guard (by rfl) ?_; dsimp only)); refine Kd.R_lit Kd.string _ 9 ?hg (N := 22) ?hd (xs := ([] : List ByteArray)) (inner := []) (ok := fun _ => True) (okp := fun _ => True) ?hr ?hp (fun _ hk => hk) trivial (Below.refl _ _) (Nat.le_refl _) (by simp) ?_; (case hd => rfl); (case hg => rfl); (case hr => first | (go_simp; done) | (go_simp; rfl)); (case hp => exact (Reps.none _ _)); intro v148 w14 ho15 hb hg_ hnew_; clear hg_ hnew_; (first | rw [← Ny147.out] at ho15 | (simp only [Int.reduceToNat] at ho15; rw [← Ny147.out] at ho15)); have n0_ := Aside0.mk (Kd.R_below (by (with_reducible repeat (first | apply Kd.R_alloc | apply Kd.R_drewN | apply Kd.R_drew)); exact HO143.out) hb); have n1_ := Aside0.mk (Kd.R_below (by (with_reducible repeat (first | apply Kd.R_alloc | apply Kd.R_drewN | apply Kd.R_drew)); exact HO146.out) hb); have n2_ := Aside0.mk (Kd.R_lower ho15 (below_size (by repeat (first | (with_reducible first | exact HB.out | apply below_alloc | apply pw_below_drewN | apply below_drew1) | exact HB.out)))); have n3_ := Aside0.mk (below_step (by repeat (first | (with_reducible first | exact HB.out | apply below_alloc | apply pw_below_drewN | apply below_drew1) | exact HB.out)) hb); clear HO143; clear HO146; clear HB; have HO143 := n0_; have HO146 := n1_; have HO149 := n2_; have HB := n3_; clear n0_ n1_ n2_ n3_; clear hb ho15) | ((with_reducible refine gate_builtin (b := .append) (xs := #[.tmp 22, .tmp 23]) rfl ?_); (try (refine gate_guard (by rfl) ?_; dsimp only)); at_builtin; refine Kd.R_append_rows Kd.string (w0 := w) w.heap.size rfl (.tmp 22) (.tmp 23) 23 9 (.string ⟨#[]⟩) 16 rfl Try.underlying23 info9 rfl (by decide) (by omega) v148 y147 l1 _ _ _ (fun _ => True) (fun _ => False) rfl rfl ?aO ?aR (fun _ _ h => h) (fun _ h => h.elim) ?aF ?aB ?aS ?aL ?_; (case aR => repeat (first | exact (Kd.C_below HR1.out HB.out) | (with_reducible refine Kd.C_alloc ?_ _) | (with_reducible refine Kd.C_drewN ?_ _) | (with_reducible refine Kd.C_drew ?_))); (case aB => exact (by repeat (first | (with_reducible first | exact HB.out | apply below_alloc | apply pw_below_drewN | apply below_drew1) | exact HB.out))); (case aF => exact (fun _ _ => trivial)); (case aO => exact (by (with_reducible repeat (first | apply Kd.R_alloc | apply Kd.R_drewN | apply Kd.R_drew)); exact HO149.out)); (case aS => exact (below_size (by repeat (first | (with_reducible first | exact HB.out | apply below_alloc | apply pw_below_drewN | apply below_drew1) | exact HB.out)))); (case aL => have := LMc5.out; omega); intro v151 w16 ho hb hg hat; rw [← Ny150.out] at ho; have n0_ := Aside0.mk (Kd.R_over' (by (with_reducible repeat (first | apply Kd.R_alloc | apply Kd.R_drewN | apply Kd.R_drew)); exact HO143.out) (Kd.R_typed (by (with_reducible repeat (first | apply Kd.R_alloc | apply Kd.R_drewN | apply Kd.R_drew)); exact HO149.out)) (by decide) hg); have n1_ := Aside0.mk (Kd.R_over' (by (with_reducible repeat (first | apply Kd.R_alloc | apply Kd.R_drewN | apply Kd.R_drew)); exact HO146.out) (Kd.R_typed (by (with_reducible repeat (first | apply Kd.R_alloc | apply Kd.R_drewN | apply Kd.R_drew)); exact HO149.out)) (by decide) hg); have n2_ := Aside0.mk (hb); have n3_ := Aside0.mk (ho); clear HO143; clear HO146; clear HB; clear HO149; have HO143 := n0_; have HO146 := n1_; have HB := n2_; have HO152 := n3_; clear n0_ n1_ n2_ n3_; clear ho hb hg hat) | ((with_reducible refine gate_dst (N := 25) rfl ?_); (try (refine gate_guard (by rfl) ?_; dsimp only)); refine Kd.R_lit Kd.string _ 9 ?hg (N := 25) ?hd (xs := ([(⟨#[109, 97, 114, 107]⟩ : ByteArray), (⟨#[109, 97, 114, 107, 115]⟩ : ByteArray)] : List ByteArray)) (inner := [.string (⟨#[109, 97, 114, 107]⟩ : ByteArray), .string (⟨#[109, 97, 114, 107, 115]⟩ : ByteArray)]) (ok := fun _ => True) (okp := fun _ => True) ?hr ?hp (fun _ hk => hk) trivial (Below.refl _ _) (Nat.le_refl _) (by simp) ?_; (case hd => rfl); (case hg => rfl); (case hr => first | (go_simp; done) | (go_simp; rfl)); (case hp => exact (Reps.one (show Kd.M Kd.string _ _ _ (⟨#[109, 97, 114, 107]⟩ : ByteArray) [.string (⟨#[109, 97, 114, 107]⟩ : ByteArray)] from rfl) (Reps.one (show Kd.M Kd.string _ _ _ (⟨#[109, 97, 114, 107, 115]⟩ : ByteArray) [.string (⟨#[109, 97, 114, 107, 115]⟩ : ByteArray)] from rfl) (Reps.none _ _)))); intro v154 w17 ho18 hb hg_ hnew_; clear hg_ hnew_; (first | rw [← Ny153.out] at ho18 | (simp only [Int.reduceToNat] at ho18; rw [← Ny153.out] at ho18)); have n0_ := Aside0.mk (Kd.R_below (by (with_reducible repeat (first | apply Kd.R_alloc | apply Kd.R_drewN | apply Kd.R_drew)); exact HO143.out) hb); have n1_ := Aside0.mk (Kd.R_below (by (with_reducible repeat (first | apply Kd.R_alloc | apply Kd.R_drewN | apply Kd.R_drew)); exact HO146.out) hb); have n2_ := Aside0.mk (Kd.R_elder' (by (with_reducible repeat (first | apply Kd.R_alloc | apply Kd.R_drewN | apply Kd.R_drew)); exact HO152.out) (Kd.R_base ho18) hb); have n3_ := Aside0.mk (Kd.R_lower (Kd.R_new' ho18 (Kd.R_lt (by (with_reducible repeat (first | apply Kd.R_alloc | apply Kd.R_drewN | apply Kd.R_drew)); exact HO152.out))) (below_size (by repeat (first | (with_reducible first | exact HB.out | apply below_alloc | apply pw_below_drewN | apply below_drew1) | exact HB.out)))); have n4_ := Aside0.mk (below_step (by repeat (first | (with_reducible first | exact HB.out | apply below_alloc | apply pw_below_drewN | apply below_drew1) | exact HB.out)) hb); clear HO143; clear HO146; clear HO152; clear HB; have HO143 := n0_; have HO146 := n1_; have HO152 := n2_; have HO155 := n3_; have HB := n4_; clear n0_ n1_ n2_ n3_ n4_; clear hb ho18; obtain ⟨Ao20, co20, eo20⟩ := Kd.R_slice HO155.out; subst eo20) | ((with_reducible refine gate_builtin (b := .append) (xs := #[.tmp 24, .tmp 25]) rfl ?_); (try (refine gate_guard (by rfl) ?_; dsimp only)); at_builtin; refine Kd.R_append_rows Kd.string (w0 := w) w.heap.size rfl (.tmp 24) (.tmp 25) 23 9 (.string ⟨#[]⟩) 16 rfl Try.underlying23 info9 rfl (by decide) (by omega) v151 y150 y153 _ _ _ (fun k_ => some k_ ≠ (.slice Ao20 y153.length co20 : Value).ownBlock) (fun _ => False) rfl rfl ?aO ?aR (fun _ _ h => h) (fun _ h => h.elim) ?aF ?aB ?aS ?aL ?_; (case aR => repeat (first | exact (Kd.R_reads' HO155.out).2.2 | (with_reducible refine Kd.C_alloc ?_ _) | (with_reducible refine Kd.C_drewN ?_ _) | (with_reducible refine Kd.C_drew ?_))); (case aB => exact (by repeat (first | (with_reducible first | exact HB.out | apply below_alloc | apply pw_below_drewN | apply below_drew1) | exact HB.out))); (case aF => exact (fun k_ hk => Kd.fresh' (Kd.R_lt (by (with_reducible repeat (first | apply Kd.R_alloc | apply Kd.R_drewN | apply Kd.R_drew)); exact HO155.out)) k_ hk)); (case aO => exact (by (with_reducible repeat (first | apply Kd.R_alloc | apply Kd.R_drewN | apply Kd.R_drew)); exact Kd.R_mono HO152.out (fun _ hk => hk.2))); (case aS => exact (below_size (by repeat (first | (with_reducible first | exact HB.out | apply below_alloc | apply pw_below_drewN | apply below_drew1) | exact HB.out)))); (case aL => have := LMc6.out; omega); intro v157 w19 ho hb hg hat; rw [← Ny156.out] at ho; have n0_ := Aside0.mk (Kd.R_over' (by (with_reducible repeat (first | apply Kd.R_alloc | apply Kd.R_drewN | apply Kd.R_drew)); exact HO143.out) (Kd.R_typed (by (with_reducible repeat (first | apply Kd.R_alloc | apply Kd.R_drewN | apply Kd.R_drew)); exact HO152.out)) (by decide) hg); have n1_ := Aside0.mk (Kd.R_over' (by (with_reducible repeat (first | apply Kd.R_alloc | apply Kd.R_drewN | apply Kd.R_drew)); exact HO146.out) (Kd.R_typed (by (with_reducible repeat (first | apply Kd.R_alloc | apply Kd.R_drewN | apply Kd.R_drew)); exact HO152.out)) (by decide) hg); have n2_ := Aside0.mk (Kd.R_after (ok := (fun _ => True)) (by (with_reducible repeat (first | apply Kd.R_alloc | apply Kd.R_drewN | apply Kd.R_drew)); exact HO155.out) hg hat); have n3_ := Aside0.mk (hb); have n4_ := Aside0.mk (ho); clear HO143; clear HO146; clear HO155; clear HB; clear HO152; have HO143 := n0_; have HO146 := n1_; have HO155 := n2_; have HB := n3_; have HO158 := n4_; clear n0_ n1_ n2_ n3_ n4_; clear ho hb hg hat))
          (try simp only [add_plain])
          (try simp only [add_plain])
          (try simp only [add_plain])
          go_loopg [7] k (fun kq v7 w' => ∃ (x5_1 : List Int) (x6_1 : List ByteArray) (x7_1 : Int), v7 = .int .i64 x7_1 ∧ Aside0 (colonnadelaw08_PlainPuts.l0 kq l0 l1 x5_1 x6_1 x7_1 = some r) ∧ Aside0 (kq ≤ k) ∧ Aside0 (Kd.R (Kd.int .i64) 2 w' w.heap.size (fun _ => True) v145 x5_1) ∧ Aside0 (Kd.R Kd.string 9 w' w.heap.size (fun _ => True) v157 x6_1) ∧ Aside0 (Below w.heap.size w w'))
          case atStart => exact ⟨(y144), (y156), (0), (by first | rfl | (simp; done) | (simp [*]; done)), H', ⟨Nat.le_refl _⟩, ⟨by (with_reducible repeat (first | apply Kd.R_alloc | apply Kd.R_drewN | apply Kd.R_drew)); exact Kd.R_mono HO146.out (fun _ hk => trivial)⟩, ⟨by (with_reducible repeat (first | apply Kd.R_alloc | apply Kd.R_drewN | apply Kd.R_drew)); exact Kd.R_mono HO158.out (fun _ hk => trivial)⟩, ⟨by repeat (first | (with_reducible first | exact HB.out | apply below_alloc | apply pw_below_drewN | apply below_drew1) | exact HB.out)⟩⟩
          case round =>
            clear H'
            try clear c1
            try clear p2
            try clear c3
            try clear c4
            try clear c5
            try clear c6
            obtain ⟨x5_1, x6_1, x7_1, rfl, HA, HK1, HO_5, HO_6, HB⟩ := hrel
            cases gk with
            | zero => exact absurd HA.out (by simp [colonnadelaw08_PlainPuts.l0])
            | succ k1 =>
              have H := HA.out
              clear HA
              simp only [colonnadelaw08_PlainPuts.l0] at H
              by_cases c21 : x7_1 < 2
              · rw [if_pos c21] at H
                have c21b0 : decide (x7_1 < 2) = true := decide_eq_true c21
                clear c21
                obtain ⟨y159, hy159⟩ : ∃ y_ : List Int, y_ = (([] : List Int)) := ⟨_, rfl⟩
                replace H : (if 0 ≤ (l0.length : Int) then (if (l0.length : Int) ≤ (x5_1.length : Int) then ((some (x5_1.take ((l0.length : Int) : Int).toNat : List Int)).bind fun y162 => (if y159.length + y162.length < 17592186044416 then ((some (y159 ++ y162 : List Int)).bind fun y166 => ((some (([] : List ByteArray) : List ByteArray)).bind fun y169 => (if 0 ≤ (l1.length : Int) then (if (l1.length : Int) ≤ (x6_1.length : Int) then ((some (x6_1.take ((l1.length : Int) : Int).toNat : List ByteArray)).bind fun y172 => (if y169.length + y172.length < 8796093022208 then ((some (y169 ++ y172 : List ByteArray)).bind fun y176 => ((colonnaderef08_PutTexts.f k1 y176).bind fun bt179 => ((plain_PutInts.f (x5_1.take ((l0.length : Int) : Int).toNat)).bind fun t187 => ((plain_PutTexts.f (x6_1.take ((l1.length : Int) : Int).toNat)).bind fun bt194 => ((colonnaderef08_PutInts.f k1 y166).bind fun t198 => (if (strOfNums t187).toList = (strOfNums t198).toList then ((colonnadelaw08_num.f bt194.2).bind fun t201 => (if t201 = bt179.2 then (colonnadelaw08_PlainPuts.j1 k1 l0 l1 x5_1 x6_1 x7_1 y166 y176 ((strOfNums bt194.1).toList != (strOfNums bt179.1).toList)) else (colonnadelaw08_PlainPuts.j1 k1 l0 l1 x5_1 x6_1 x7_1 y166 y176 true))) else (colonnadelaw08_PlainPuts.j1 k1 l0 l1 x5_1 x6_1 x7_1 y166 y176 true))))))) else (none))) else (none)) else (none)))) else (none))) else (none)) else (none)) = some r := by first | (rw [hy159]; with_reducible exact H) | (have H2_ := (Option.bind_some _ _).symm.trans H; rw [hy159]; with_reducible exact H2_) | (have H2_ := (Option.bind_some _ _).symm.trans H; with_reducible exact H2_) | with_reducible exact H | (rw [hy159]; exact H) | exact H
                have Ny159 := Aside0.mk hy159
                clear hy159
                by_cases c22 : 0 ≤ (l0.length : Int)
                · rw [if_pos c22] at H
                  have c22b0 := eq_true c22
                  have c22b1 : decide (0 ≤ (l0.length : Int)) = true := decide_eq_true c22
                  clear c22
                  by_cases c23 : (l0.length : Int) ≤ (x5_1.length : Int)
                  · rw [if_pos c23] at H
                    have c23b0 := eq_true c23
                    have c23b1 : decide ((l0.length : Int) ≤ (x5_1.length : Int)) = true := decide_eq_true c23
                    clear c23
                    obtain ⟨y162, hy162⟩ : ∃ y_ : List Int, y_ = (x5_1.take ((l0.length : Int) : Int).toNat) := ⟨_, rfl⟩
                    replace H : (if y159.length + y162.length < 17592186044416 then ((some (y159 ++ y162 : List Int)).bind fun y166 => ((some (([] : List ByteArray) : List ByteArray)).bind fun y169 => (if 0 ≤ (l1.length : Int) then (if (l1.length : Int) ≤ (x6_1.length : Int) then ((some (x6_1.take ((l1.length : Int) : Int).toNat : List ByteArray)).bind fun y172 => (if y169.length + y172.length < 8796093022208 then ((some (y169 ++ y172 : List ByteArray)).bind fun y176 => ((colonnaderef08_PutTexts.f k1 y176).bind fun bt179 => ((plain_PutInts.f (x5_1.take ((l0.length : Int) : Int).toNat)).bind fun t187 => ((plain_PutTexts.f (x6_1.take ((l1.length : Int) : Int).toNat)).bind fun bt194 => ((colonnaderef08_PutInts.f k1 y166).bind fun t198 => (if (strOfNums t187).toList = (strOfNums t198).toList then ((colonnadelaw08_num.f bt194.2).bind fun t201 => (if t201 = bt179.2 then (colonnadelaw08_PlainPuts.j1 k1 l0 l1 x5_1 x6_1 x7_1 y166 y176 ((strOfNums bt194.1).toList != (strOfNums bt179.1).toList)) else (colonnadelaw08_PlainPuts.j1 k1 l0 l1 x5_1 x6_1 x7_1 y166 y176 true))) else (colonnadelaw08_PlainPuts.j1 k1 l0 l1 x5_1 x6_1 x7_1 y166 y176 true))))))) else (none))) else (none)) else (none)))) else (none)) = some r := by first | (rw [hy162]; with_reducible exact H) | (have H2_ := (Option.bind_some _ _).symm.trans H; rw [hy162]; with_reducible exact H2_) | (have H2_ := (Option.bind_some _ _).symm.trans H; with_reducible exact H2_) | with_reducible exact H | (rw [hy162]; exact H) | exact H
                    have Ny162 := Aside0.mk hy162
                    clear hy162
                    by_cases c24 : y159.length + y162.length < 17592186044416
                    · rw [if_pos c24] at H
                      have LMc24 := Aside0.mk c24
                      clear c24
                      obtain ⟨y166, hy166⟩ : ∃ y_ : List Int, y_ = (y159 ++ y162) := ⟨_, rfl⟩
                      replace H : ((some (([] : List ByteArray) : List ByteArray)).bind fun y169 => (if 0 ≤ (l1.length : Int) then (if (l1.length : Int) ≤ (x6_1.length : Int) then ((some (x6_1.take ((l1.length : Int) : Int).toNat : List ByteArray)).bind fun y172 => (if y169.length + y172.length < 8796093022208 then ((some (y169 ++ y172 : List ByteArray)).bind fun y176 => ((colonnaderef08_PutTexts.f k1 y176).bind fun bt179 => ((plain_PutInts.f (x5_1.take ((l0.length : Int) : Int).toNat)).bind fun t187 => ((plain_PutTexts.f (x6_1.take ((l1.length : Int) : Int).toNat)).bind fun bt194 => ((colonnaderef08_PutInts.f k1 y166).bind fun t198 => (if (strOfNums t187).toList = (strOfNums t198).toList then ((colonnadelaw08_num.f bt194.2).bind fun t201 => (if t201 = bt179.2 then (colonnadelaw08_PlainPuts.j1 k1 l0 l1 x5_1 x6_1 x7_1 y166 y176 ((strOfNums bt194.1).toList != (strOfNums bt179.1).toList)) else (colonnadelaw08_PlainPuts.j1 k1 l0 l1 x5_1 x6_1 x7_1 y166 y176 true))) else (colonnadelaw08_PlainPuts.j1 k1 l0 l1 x5_1 x6_1 x7_1 y166 y176 true))))))) else (none))) else (none)) else (none))) = some r := by first | (rw [hy166]; with_reducible exact H) | (have H2_ := (Option.bind_some _ _).symm.trans H; rw [hy166]; with_reducible exact H2_) | (have H2_ := (Option.bind_some _ _).symm.trans H; with_reducible exact H2_) | with_reducible exact H | (rw [hy166]; exact H) | exact H
                      have Ny166 := Aside0.mk hy166
                      clear hy166
                      obtain ⟨y169, hy169⟩ : ∃ y_ : List ByteArray, y_ = (([] : List ByteArray)) := ⟨_, rfl⟩
                      replace H : (if 0 ≤ (l1.length : Int) then (if (l1.length : Int) ≤ (x6_1.length : Int) then ((some (x6_1.take ((l1.length : Int) : Int).toNat : List ByteArray)).bind fun y172 => (if y169.length + y172.length < 8796093022208 then ((some (y169 ++ y172 : List ByteArray)).bind fun y176 => ((colonnaderef08_PutTexts.f k1 y176).bind fun bt179 => ((plain_PutInts.f (x5_1.take ((l0.length : Int) : Int).toNat)).bind fun t187 => ((plain_PutTexts.f (x6_1.take ((l1.length : Int) : Int).toNat)).bind fun bt194 => ((colonnaderef08_PutInts.f k1 y166).bind fun t198 => (if (strOfNums t187).toList = (strOfNums t198).toList then ((colonnadelaw08_num.f bt194.2).bind fun t201 => (if t201 = bt179.2 then (colonnadelaw08_PlainPuts.j1 k1 l0 l1 x5_1 x6_1 x7_1 y166 y176 ((strOfNums bt194.1).toList != (strOfNums bt179.1).toList)) else (colonnadelaw08_PlainPuts.j1 k1 l0 l1 x5_1 x6_1 x7_1 y166 y176 true))) else (colonnadelaw08_PlainPuts.j1 k1 l0 l1 x5_1 x6_1 x7_1 y166 y176 true))))))) else (none))) else (none)) else (none)) = some r := by first | (rw [hy169]; with_reducible exact H) | (have H2_ := (Option.bind_some _ _).symm.trans H; rw [hy169]; with_reducible exact H2_) | (have H2_ := (Option.bind_some _ _).symm.trans H; with_reducible exact H2_) | with_reducible exact H | (rw [hy169]; exact H) | exact H
                      have Ny169 := Aside0.mk hy169
                      clear hy169
                      by_cases c25 : 0 ≤ (l1.length : Int)
                      · rw [if_pos c25] at H
                        have c25b0 := eq_true c25
                        have c25b1 : decide (0 ≤ (l1.length : Int)) = true := decide_eq_true c25
                        clear c25
                        by_cases c26 : (l1.length : Int) ≤ (x6_1.length : Int)
                        · rw [if_pos c26] at H
                          have c26b0 := eq_true c26
                          have c26b1 : decide ((l1.length : Int) ≤ (x6_1.length : Int)) = true := decide_eq_true c26
                          clear c26
                          obtain ⟨y172, hy172⟩ : ∃ y_ : List ByteArray, y_ = (x6_1.take ((l1.length : Int) : Int).toNat) := ⟨_, rfl⟩
                          replace H : (if y169.length + y172.length < 8796093022208 then ((some (y169 ++ y172 : List ByteArray)).bind fun y176 => ((colonnaderef08_PutTexts.f k1 y176).bind fun bt179 => ((plain_PutInts.f (x5_1.take ((l0.length : Int) : Int).toNat)).bind fun t187 => ((plain_PutTexts.f (x6_1.take ((l1.length : Int) : Int).toNat)).bind fun bt194 => ((colonnaderef08_PutInts.f k1 y166).bind fun t198 => (if (strOfNums t187).toList = (strOfNums t198).toList then ((colonnadelaw08_num.f bt194.2).bind fun t201 => (if t201 = bt179.2 then (colonnadelaw08_PlainPuts.j1 k1 l0 l1 x5_1 x6_1 x7_1 y166 y176 ((strOfNums bt194.1).toList != (strOfNums bt179.1).toList)) else (colonnadelaw08_PlainPuts.j1 k1 l0 l1 x5_1 x6_1 x7_1 y166 y176 true))) else (colonnadelaw08_PlainPuts.j1 k1 l0 l1 x5_1 x6_1 x7_1 y166 y176 true))))))) else (none)) = some r := by first | (rw [hy172]; with_reducible exact H) | (have H2_ := (Option.bind_some _ _).symm.trans H; rw [hy172]; with_reducible exact H2_) | (have H2_ := (Option.bind_some _ _).symm.trans H; with_reducible exact H2_) | with_reducible exact H | (rw [hy172]; exact H) | exact H
                          have Ny172 := Aside0.mk hy172
                          clear hy172
                          by_cases c27 : y169.length + y172.length < 8796093022208
                          · rw [if_pos c27] at H
                            have LMc27 := Aside0.mk c27
                            clear c27
                            obtain ⟨y176, hy176⟩ : ∃ y_ : List ByteArray, y_ = (y169 ++ y172) := ⟨_, rfl⟩
                            replace H : ((colonnaderef08_PutTexts.f k1 y176).bind fun bt179 => ((plain_PutInts.f (x5_1.take ((l0.length : Int) : Int).toNat)).bind fun t187 => ((plain_PutTexts.f (x6_1.take ((l1.length : Int) : Int).toNat)).bind fun bt194 => ((colonnaderef08_PutInts.f k1 y166).bind fun t198 => (if (strOfNums t187).toList = (strOfNums t198).toList then ((colonnadelaw08_num.f bt194.2).bind fun t201 => (if t201 = bt179.2 then (colonnadelaw08_PlainPuts.j1 k1 l0 l1 x5_1 x6_1 x7_1 y166 y176 ((strOfNums bt194.1).toList != (strOfNums bt179.1).toList)) else (colonnadelaw08_PlainPuts.j1 k1 l0 l1 x5_1 x6_1 x7_1 y166 y176 true))) else (colonnadelaw08_PlainPuts.j1 k1 l0 l1 x5_1 x6_1 x7_1 y166 y176 true)))))) = some r := by first | (rw [hy176]; with_reducible exact H) | (have H2_ := (Option.bind_some _ _).symm.trans H; rw [hy176]; with_reducible exact H2_) | (have H2_ := (Option.bind_some _ _).symm.trans H; with_reducible exact H2_) | with_reducible exact H | (rw [hy176]; exact H) | exact H
                            have Ny176 := Aside0.mk hy176
                            clear hy176
                            replace H := Option.bind_eq_some_iff.mp H
                            obtain ⟨⟨t179, t180⟩, A280, H⟩ := H
                            replace H : ((plain_PutInts.f (x5_1.take ((l0.length : Int) : Int).toNat)).bind fun t187 => ((plain_PutTexts.f (x6_1.take ((l1.length : Int) : Int).toNat)).bind fun bt194 => ((colonnaderef08_PutInts.f k1 y166).bind fun t198 => (if (strOfNums t187).toList = (strOfNums t198).toList then ((colonnadelaw08_num.f bt194.2).bind fun t201 => (if t201 = t180 then (colonnadelaw08_PlainPuts.j1 k1 l0 l1 x5_1 x6_1 x7_1 y166 y176 ((strOfNums bt194.1).toList != (strOfNums t179).toList)) else (colonnadelaw08_PlainPuts.j1 k1 l0 l1 x5_1 x6_1 x7_1 y166 y176 true))) else (colonnadelaw08_PlainPuts.j1 k1 l0 l1 x5_1 x6_1 x7_1 y166 y176 true))))) = some r := H
                            have A28 := Aside0.mk A280
                            clear A280
                            have c29b0 := eq_true (of_decide_eq_true (by first | (with_reducible assumption) | assumption) : 0 ≤ (l0.length : Int))
                            have c30b0 := eq_true (of_decide_eq_true (by first | (with_reducible assumption) | assumption) : (l0.length : Int) ≤ (x5_1.length : Int))
                            obtain ⟨y183, hy183⟩ : ∃ y_ : List Int, y_ = (x5_1.take ((l0.length : Int) : Int).toNat) := ⟨_, rfl⟩
                            replace H : ((plain_PutInts.f y183).bind fun t187 => ((plain_PutTexts.f (x6_1.take ((l1.length : Int) : Int).toNat)).bind fun bt194 => ((colonnaderef08_PutInts.f k1 y166).bind fun t198 => (if (strOfNums t187).toList = (strOfNums t198).toList then ((colonnadelaw08_num.f bt194.2).bind fun t201 => (if t201 = t180 then (colonnadelaw08_PlainPuts.j1 k1 l0 l1 x5_1 x6_1 x7_1 y166 y176 ((strOfNums bt194.1).toList != (strOfNums t179).toList)) else (colonnadelaw08_PlainPuts.j1 k1 l0 l1 x5_1 x6_1 x7_1 y166 y176 true))) else (colonnadelaw08_PlainPuts.j1 k1 l0 l1 x5_1 x6_1 x7_1 y166 y176 true))))) = some r := by first | (rw [hy183]; with_reducible exact H) | (have H2_ := (Option.bind_some _ _).symm.trans H; rw [hy183]; with_reducible exact H2_) | (have H2_ := (Option.bind_some _ _).symm.trans H; with_reducible exact H2_) | with_reducible exact H | (rw [hy183]; exact H) | exact H
                            have Ny183 := Aside0.mk hy183
                            clear hy183
                            replace H := Option.bind_eq_some_iff.mp H
                            obtain ⟨t187, A310, H⟩ := H
                            replace H : ((plain_PutTexts.f (x6_1.take ((l1.length : Int) : Int).toNat)).bind fun bt194 => ((colonnaderef08_PutInts.f k1 y166).bind fun t198 => (if (strOfNums t187).toList = (strOfNums t198).toList then ((colonnadelaw08_num.f bt194.2).bind fun t201 => (if t201 = t180 then (colonnadelaw08_PlainPuts.j1 k1 l0 l1 x5_1 x6_1 x7_1 y166 y176 ((strOfNums bt194.1).toList != (strOfNums t179).toList)) else (colonnadelaw08_PlainPuts.j1 k1 l0 l1 x5_1 x6_1 x7_1 y166 y176 true))) else (colonnadelaw08_PlainPuts.j1 k1 l0 l1 x5_1 x6_1 x7_1 y166 y176 true)))) = some r := H
                            have A31 := Aside0.mk A310
                            clear A310
                            have c32b0 := eq_true (of_decide_eq_true (by first | (with_reducible assumption) | assumption) : 0 ≤ (l1.length : Int))
                            have c33b0 := eq_true (of_decide_eq_true (by first | (with_reducible assumption) | assumption) : (l1.length : Int) ≤ (x6_1.length : Int))
                            obtain ⟨y190, hy190⟩ : ∃ y_ : List ByteArray, y_ = (x6_1.take ((l1.length : Int) : Int).toNat) := ⟨_, rfl⟩
                            replace H : ((plain_PutTexts.f y190).bind fun bt194 => ((colonnaderef08_PutInts.f k1 y166).bind fun t198 => (if (strOfNums t187).toList = (strOfNums t198).toList then ((colonnadelaw08_num.f bt194.2).bind fun t201 => (if t201 = t180 then (colonnadelaw08_PlainPuts.j1 k1 l0 l1 x5_1 x6_1 x7_1 y166 y176 ((strOfNums bt194.1).toList != (strOfNums t179).toList)) else (colonnadelaw08_PlainPuts.j1 k1 l0 l1 x5_1 x6_1 x7_1 y166 y176 true))) else (colonnadelaw08_PlainPuts.j1 k1 l0 l1 x5_1 x6_1 x7_1 y166 y176 true)))) = some r := by first | (rw [hy190]; with_reducible exact H) | (have H2_ := (Option.bind_some _ _).symm.trans H; rw [hy190]; with_reducible exact H2_) | (have H2_ := (Option.bind_some _ _).symm.trans H; with_reducible exact H2_) | with_reducible exact H | (rw [hy190]; exact H) | exact H
                            have Ny190 := Aside0.mk hy190
                            clear hy190
                            replace H := Option.bind_eq_some_iff.mp H
                            obtain ⟨⟨t194, t195⟩, A340, H⟩ := H
                            replace H : ((colonnaderef08_PutInts.f k1 y166).bind fun t198 => (if (strOfNums t187).toList = (strOfNums t198).toList then ((colonnadelaw08_num.f t195).bind fun t201 => (if t201 = t180 then (colonnadelaw08_PlainPuts.j1 k1 l0 l1 x5_1 x6_1 x7_1 y166 y176 ((strOfNums t194).toList != (strOfNums t179).toList)) else (colonnadelaw08_PlainPuts.j1 k1 l0 l1 x5_1 x6_1 x7_1 y166 y176 true))) else (colonnadelaw08_PlainPuts.j1 k1 l0 l1 x5_1 x6_1 x7_1 y166 y176 true))) = some r := H
                            have A34 := Aside0.mk A340
                            clear A340
                            have HC35 := Aside0.mk H
                            clear H
                            go_upto_region 11 with (first | ((with_reducible refine gate_dst (N := 31) rfl ?_); (try (refine gate_guard (by rfl) ?_; dsimp only)); refine Kd.R_lit (Kd.int .i64) _ 2 ?hg (N := 31) ?hd (xs := ([] : List Int)) (inner := []) (ok := fun _ => True) (okp := fun _ => True) ?hr ?hp (fun _ hk => hk) trivial (Below.refl _ _) (Nat.le_refl _) (by simp) ?_; (case hd => rfl); (case hg => rfl); (case hr => first | (go_simp; done) | (go_simp; rfl)); (case hp => exact (Reps.none _ _)); intro v160 w36 ho37 hb hg_ hnew_; clear hg_ hnew_; (first | rw [← Ny159.out] at ho37 | (simp only [Int.reduceToNat] at ho37; rw [← Ny159.out] at ho37)); have n0_ := Aside0.mk (Kd.R_elder' (by (with_reducible repeat (first | apply Kd.R_alloc | apply Kd.R_drewN | apply Kd.R_drew)); exact HO_5.out) (Kd.R_base ho37) hb); have n1_ := Aside0.mk (Kd.R_below (by (with_reducible repeat (first | apply Kd.R_alloc | apply Kd.R_drewN | apply Kd.R_drew)); exact HO_6.out) hb); have n2_ := Aside0.mk (Kd.R_lower (Kd.R_new' ho37 (Kd.R_lt (by (with_reducible repeat (first | apply Kd.R_alloc | apply Kd.R_drewN | apply Kd.R_drew)); exact HO_5.out))) (below_size (by repeat (first | (with_reducible first | exact HB.out | apply below_alloc | apply pw_below_drewN | apply below_drew1) | exact HB.out)))); have n3_ := Aside0.mk (below_step (by repeat (first | (with_reducible first | exact HB.out | apply below_alloc | apply pw_below_drewN | apply below_drew1) | exact HB.out)) hb); clear HO_5; clear HO_6; clear HB; have HO_5 := n0_; have HO_6 := n1_; have HO161 := n2_; have HB := n3_; clear n0_ n1_ n2_ n3_; clear hb ho37; obtain ⟨Ao39, co39, eo39⟩ := Kd.R_slice HO_5.out; subst eo39; have q38 : ((l0.length : Int) : Int) ≤ ((x5_1.length : Int) : Int) := of_decide_eq_true (by first | (with_reducible assumption) | assumption); obtain ⟨i038, hi038, _, hsz38, _⟩ := info_parts info2; have hroom38 : x5_1.length ≤ co39 := (Kd.R_reads' HO_5.out).2.1; have hC38 : Kd.C (Kd.int .i64) _ Ao39 x5_1.length x5_1 := (Kd.R_reads' HO_5.out).2.2; have hcut38 := cut_to (P := Try.prog) 22 2 .i64 Try.underlying22 hi038 Ao39 x5_1.length co39 (l0.length : Int) (of_decide_eq_true (by first | (with_reducible assumption) | assumption)) q38 hroom38; have hr38 := Kd.C_take (m := ((l0.length : Int) : Int).toNat) hC38 (by first | exact Int.toNat_le.mpr q38 | omega); have hy38 : y162.length = ((l0.length : Int) : Int).toNat := (by rw [Ny162.out, List.length_take]; omega); rw [← Ny162.out] at hr38; rw [← hy38] at hcut38; have HR165 := Aside0.mk hr38; have HC165 := Aside0.mk (show y162.length ≤ co39 from by omega); clear hr38 hC38 hroom38 hi038 hsz38; have KY38 := Aside0.mk hy38; clear hy38; have KL38 := Aside0.mk (show ((l0.length : Int) : Int).toNat ≤ x5_1.length from by first | exact Int.toNat_le.mpr q38 | omega); replace q38 := eq_true q38) | ((with_reducible refine gate_builtin (b := .append) (xs := #[.tmp 31, .tmp 35]) rfl ?_); (try (refine gate_guard (by rfl) ?_; dsimp only)); at_builtin; refine Kd.R_append_rows (Kd.int .i64) (w0 := w) w.heap.size rfl (.tmp 31) (.tmp 35) 22 2 (.int .i64 0) 8 rfl Try.underlying22 info2 rfl (by decide) (by omega) v160 y159 y162 _ _ _ (fun k_ => some k_ ≠ (.slice Ao39 x5_1.length co39 : Value).ownBlock) (fun _ => False) rfl rfl ?aO ?aR (fun _ _ h => h) (fun _ h => h.elim) ?aF ?aB ?aS ?aL ?_; (case aR => repeat (first | exact (by repeat (first | (with_reducible exact HR165.out) | (with_reducible refine Kd.C_alloc ?_ _) | (with_reducible refine Kd.C_drewN ?_ _) | (with_reducible refine Kd.C_drew ?_) | exact HR165.out)) | (with_reducible refine Kd.C_alloc ?_ _) | (with_reducible refine Kd.C_drewN ?_ _) | (with_reducible refine Kd.C_drew ?_))); (case aB => exact (by repeat (first | (with_reducible first | exact HB.out | apply below_alloc | apply pw_below_drewN | apply below_drew1) | exact HB.out))); (case aF => exact (fun k_ hk => Kd.fresh' (Kd.R_lt (by (with_reducible repeat (first | apply Kd.R_alloc | apply Kd.R_drewN | apply Kd.R_drew)); exact HO_5.out)) k_ hk)); (case aO => exact (by (with_reducible repeat (first | apply Kd.R_alloc | apply Kd.R_drewN | apply Kd.R_drew)); exact Kd.R_mono HO161.out (fun _ hk => hk.2))); (case aS => exact (below_size (by repeat (first | (with_reducible first | exact HB.out | apply below_alloc | apply pw_below_drewN | apply below_drew1) | exact HB.out)))); (case aL => have := LMc24.out; omega); intro v167 w40 ho hb hg hat; rw [← Ny166.out] at ho; have n0_ := Aside0.mk (Kd.R_after (ok := (fun _ => True)) (by (with_reducible repeat (first | apply Kd.R_alloc | apply Kd.R_drewN | apply Kd.R_drew)); exact HO_5.out) hg hat); have n1_ := Aside0.mk (Kd.R_over' (by (with_reducible repeat (first | apply Kd.R_alloc | apply Kd.R_drewN | apply Kd.R_drew)); exact HO_6.out) (Kd.R_typed (by (with_reducible repeat (first | apply Kd.R_alloc | apply Kd.R_drewN | apply Kd.R_drew)); exact HO161.out)) (by decide) hg); have n2_ := Aside0.mk (hb); have n3_ := Aside0.mk ((show Kd.C (Kd.int .i64) w40 Ao39 y162.length y162 from by rw [Ny162.out]; exact Kd.C_take (m := ((l0.length : Int) : Int).toNat) ((Kd.R_reads' (Kd.R_after (ok := (fun _ => True)) (by (with_reducible repeat (first | apply Kd.R_alloc | apply Kd.R_drewN | apply Kd.R_drew)); exact HO_5.out) hg hat)).2.2) KL38.out)); have n4_ := Aside0.mk (ho); clear HO_5; clear HO_6; clear HB; clear HR165; clear HO161; have HO_5 := n0_; have HO_6 := n1_; have HB := n2_; have HR165 := n3_; have HO168 := n4_; clear n0_ n1_ n2_ n3_ n4_; clear ho hb hg hat) | ((with_reducible refine gate_dst (N := 37) rfl ?_); (try (refine gate_guard (by rfl) ?_; dsimp only)); refine Kd.R_lit Kd.string _ 9 ?hg (N := 37) ?hd (xs := ([] : List ByteArray)) (inner := []) (ok := fun _ => True) (okp := fun _ => True) ?hr ?hp (fun _ hk => hk) trivial (Below.refl _ _) (Nat.le_refl _) (by simp) ?_; (case hd => rfl); (case hg => rfl); (case hr => first | (go_simp; done) | (go_simp; rfl)); (case hp => exact (Reps.none _ _)); intro v170 w41 ho42 hb hg_ hnew_; clear hg_ hnew_; (first | rw [← Ny169.out] at ho42 | (simp only [Int.reduceToNat] at ho42; rw [← Ny169.out] at ho42)); have n0_ := Aside0.mk (Kd.R_below (by (with_reducible repeat (first | apply Kd.R_alloc | apply Kd.R_drewN | apply Kd.R_drew)); exact HO_5.out) hb); have n1_ := Aside0.mk (Kd.R_elder' (by (with_reducible repeat (first | apply Kd.R_alloc | apply Kd.R_drewN | apply Kd.R_drew)); exact HO_6.out) (Kd.R_base ho42) hb); have n2_ := Aside0.mk (Kd.R_below (by (with_reducible repeat (first | apply Kd.R_alloc | apply Kd.R_drewN | apply Kd.R_drew)); exact HO168.out) hb); have n3_ := Aside0.mk (Kd.R_lower (Kd.R_new' ho42 (Kd.R_lt (by (with_reducible repeat (first | apply Kd.R_alloc | apply Kd.R_drewN | apply Kd.R_drew)); exact HO_6.out))) (below_size (by repeat (first | (with_reducible first | exact HB.out | apply below_alloc | apply pw_below_drewN | apply below_drew1) | exact HB.out)))); have n4_ := Aside0.mk (Kd.C_below (by repeat (first | (with_reducible exact HR165.out) | (with_reducible refine Kd.C_alloc ?_ _) | (with_reducible refine Kd.C_drewN ?_ _) | (with_reducible refine Kd.C_drew ?_) | exact HR165.out)) hb); have n5_ := Aside0.mk (below_step (by repeat (first | (with_reducible first | exact HB.out | apply below_alloc | apply pw_below_drewN | apply below_drew1) | exact HB.out)) hb); clear HO_5; clear HO_6; clear HO168; clear HR165; clear HB; have HO_5 := n0_; have HO_6 := n1_; have HO168 := n2_; have HO171 := n3_; have HR165 := n4_; have HB := n5_; clear n0_ n1_ n2_ n3_ n4_ n5_; clear hb ho42; obtain ⟨Ao44, co44, eo44⟩ := Kd.R_slice HO_6.out; subst eo44; have q43 : ((l1.length : Int) : Int) ≤ ((x6_1.length : Int) : Int) := of_decide_eq_true (by first | (with_reducible assumption) | assumption); obtain ⟨i043, hi043, _, hsz43, _⟩ := info_parts info9; have hroom43 : x6_1.length ≤ co44 := (Kd.R_reads' HO_6.out).2.1; have hC43 : Kd.C Kd.string _ Ao44 x6_1.length x6_1 := (Kd.R_reads' HO_6.out).2.2; have hcut43 := cut_to (P := Try.prog) 23 9 .i64 Try.underlying23 hi043 Ao44 x6_1.length co44 (l1.length : Int) (of_decide_eq_true (by first | (with_reducible assumption) | assumption)) q43 hroom43; have hr43 := Kd.C_take (m := ((l1.length : Int) : Int).toNat) hC43 (by first | exact Int.toNat_le.mpr q43 | omega); have hy43 : y172.length = ((l1.length : Int) : Int).toNat := (by rw [Ny172.out, List.length_take]; omega); rw [← Ny172.out] at hr43; rw [← hy43] at hcut43; have HR175 := Aside0.mk hr43; have HC175 := Aside0.mk (show y172.length ≤ co44 from by omega); clear hr43 hC43 hroom43 hi043 hsz43; have KY43 := Aside0.mk hy43; clear hy43; have KL43 := Aside0.mk (show ((l1.length : Int) : Int).toNat ≤ x6_1.length from by first | exact Int.toNat_le.mpr q43 | omega); replace q43 := eq_true q43) | ((with_reducible refine gate_builtin (b := .append) (xs := #[.tmp 37, .tmp 41]) rfl ?_); (try (refine gate_guard (by rfl) ?_; dsimp only)); at_builtin; refine Kd.R_append_rows Kd.string (w0 := w) w.heap.size rfl (.tmp 37) (.tmp 41) 23 9 (.string ⟨#[]⟩) 16 rfl Try.underlying23 info9 rfl (by decide) (by omega) v170 y169 y172 _ _ _ (fun k_ => some k_ ≠ (.slice Ao44 x6_1.length co44 : Value).ownBlock) (fun _ => False) rfl rfl ?aO ?aR (fun _ _ h => h) (fun _ h => h.elim) ?aF ?aB ?aS ?aL ?_; (case aR => repeat (first | exact (by repeat (first | (with_reducible exact HR175.out) | (with_reducible refine Kd.C_alloc ?_ _) | (with_reducible refine Kd.C_drewN ?_ _) | (with_reducible refine Kd.C_drew ?_) | exact HR175.out)) | (with_reducible refine Kd.C_alloc ?_ _) | (with_reducible refine Kd.C_drewN ?_ _) | (with_reducible refine Kd.C_drew ?_))); (case aB => exact (by repeat (first | (with_reducible first | exact HB.out | apply below_alloc | apply pw_below_drewN | apply below_drew1) | exact HB.out))); (case aF => exact (fun k_ hk => Kd.fresh' (Kd.R_lt (by (with_reducible repeat (first | apply Kd.R_alloc | apply Kd.R_drewN | apply Kd.R_drew)); exact HO_6.out)) k_ hk)); (case aO => exact (by (with_reducible repeat (first | apply Kd.R_alloc | apply Kd.R_drewN | apply Kd.R_drew)); exact Kd.R_mono HO171.out (fun _ hk => hk.2))); (case aS => exact (below_size (by repeat (first | (with_reducible first | exact HB.out | apply below_alloc | apply pw_below_drewN | apply below_drew1) | exact HB.out)))); (case aL => have := LMc27.out; omega); intro v177 w45 ho hb hg hat; rw [← Ny176.out] at ho; have n0_ := Aside0.mk (Kd.R_over' (by (with_reducible repeat (first | apply Kd.R_alloc | apply Kd.R_drewN | apply Kd.R_drew)); exact HO_5.out) (Kd.R_typed (by (with_reducible repeat (first | apply Kd.R_alloc | apply Kd.R_drewN | apply Kd.R_drew)); exact HO171.out)) (by decide) hg); have n1_ := Aside0.mk (Kd.R_after (ok := (fun _ => True)) (by (with_reducible repeat (first | apply Kd.R_alloc | apply Kd.R_drewN | apply Kd.R_drew)); exact HO_6.out) hg hat); have n2_ := Aside0.mk (Kd.R_over' (by (with_reducible repeat (first | apply Kd.R_alloc | apply Kd.R_drewN | apply Kd.R_drew)); exact HO168.out) (Kd.R_typed (by (with_reducible repeat (first | apply Kd.R_alloc | apply Kd.R_drewN | apply Kd.R_drew)); exact HO171.out)) (by decide) hg); have n3_ := Aside0.mk (hb); have n4_ := Aside0.mk ((show Kd.C (Kd.int .i64) w45 Ao39 y162.length y162 from by rw [Ny162.out]; exact Kd.C_take (m := ((l0.length : Int) : Int).toNat) ((Kd.R_reads' (Kd.R_over' (by (with_reducible repeat (first | apply Kd.R_alloc | apply Kd.R_drewN | apply Kd.R_drew)); exact HO_5.out) (Kd.R_typed (by (with_reducible repeat (first | apply Kd.R_alloc | apply Kd.R_drewN | apply Kd.R_drew)); exact HO171.out)) (by decide) hg)).2.2) KL38.out)); have n5_ := Aside0.mk ((show Kd.C Kd.string w45 Ao44 y172.length y172 from by rw [Ny172.out]; exact Kd.C_take (m := ((l1.length : Int) : Int).toNat) ((Kd.R_reads' (Kd.R_after (ok := (fun _ => True)) (by (with_reducible repeat (first | apply Kd.R_alloc | apply Kd.R_drewN | apply Kd.R_drew)); exact HO_6.out) hg hat)).2.2) KL43.out)); have n6_ := Aside0.mk (ho); clear HO_5; clear HO_6; clear HO168; clear HB; clear HR165; clear HR175; clear HO171; have HO_5 := n0_; have HO_6 := n1_; have HO168 := n2_; have HB := n3_; have HR165 := n4_; have HR175 := n5_; have HO178 := n6_; clear n0_ n1_ n2_ n3_ n4_ n5_ n6_; clear ho hb hg hat; obtain ⟨Ao46, co46, eo46⟩ := Kd.R_slice HO178.out; subst eo46) | ((with_reducible refine gate_callee (f := 12) rfl ?_); refine goesL_ (some 45) rfl rfl Try.func12 (by kernel_rfl) rfl #[.slice Ao46 y176.length co46] rfl (by (try simp only [List.map_toArray, List.map_cons, List.map_nil]); first | done | rfl | (simp only [List.length_drop, List.length_take]; rfl)) ?_; (with_reducible refine (colonnaderef08_PutTexts.calls k1 _ _ y176 t179 t180 _ ?side1 ?side2 A28.out).mono ?_); (case side1 => repeat (first | exact (Kd.R_reads' HO178.out).2.2 | (with_reducible refine Kd.C_alloc ?_ _) | (with_reducible refine Kd.C_drewN ?_ _) | (with_reducible refine Kd.C_drew ?_))); (case side2 => exact (Kd.R_reads' HO178.out).2.1); rintro e w47 ⟨v181, rfl, ho0, hb⟩; refine ⟨_, rfl, ?_⟩; have n0_ := Aside0.mk (Kd.R_below (by (with_reducible repeat (first | apply Kd.R_alloc | apply Kd.R_drewN | apply Kd.R_drew)); exact HO_5.out) hb); have n1_ := Aside0.mk (Kd.R_below (by (with_reducible repeat (first | apply Kd.R_alloc | apply Kd.R_drewN | apply Kd.R_drew)); exact HO_6.out) hb); have n2_ := Aside0.mk (Kd.R_below (by (with_reducible repeat (first | apply Kd.R_alloc | apply Kd.R_drewN | apply Kd.R_drew)); exact HO168.out) hb); have n3_ := Aside0.mk (Kd.R_below (by (with_reducible repeat (first | apply Kd.R_alloc | apply Kd.R_drewN | apply Kd.R_drew)); exact HO178.out) hb); have n4_ := Aside0.mk (Kd.R_lower ho0 (below_size (by repeat (first | (with_reducible first | exact HB.out | apply below_alloc | apply pw_below_drewN | apply below_drew1) | exact HB.out)))); have n5_ := Aside0.mk (Kd.C_below (by repeat (first | (with_reducible exact HR165.out) | (with_reducible refine Kd.C_alloc ?_ _) | (with_reducible refine Kd.C_drewN ?_ _) | (with_reducible refine Kd.C_drew ?_) | exact HR165.out)) hb); have n6_ := Aside0.mk (Kd.C_below (by repeat (first | (with_reducible exact HR175.out) | (with_reducible refine Kd.C_alloc ?_ _) | (with_reducible refine Kd.C_drewN ?_ _) | (with_reducible refine Kd.C_drew ?_) | exact HR175.out)) hb); have n7_ := Aside0.mk (below_step (by repeat (first | (with_reducible first | exact HB.out | apply below_alloc | apply pw_below_drewN | apply below_drew1) | exact HB.out)) hb); clear HO_5; clear HO_6; clear HO168; clear HO178; clear HR165; clear HR175; clear HB; have HO_5 := n0_; have HO_6 := n1_; have HO168 := n2_; have HO178 := n3_; have HO182 := n4_; have HR165 := n5_; have HR175 := n6_; have HB := n7_; clear n0_ n1_ n2_ n3_ n4_ n5_ n6_ n7_; (try clear hb); (try clear hb2); (try clear hk); (try clear hi); (try clear ho0); have q48 : ((l0.length : Int) : Int) ≤ ((x5_1.length : Int) : Int) := of_decide_eq_true (by first | (with_reducible assumption) | assumption); obtain ⟨i048, hi048, _, hsz48, _⟩ := info_parts info2; have hroom48 : x5_1.length ≤ co39 := (Kd.R_reads' HO_5.out).2.1; have hC48 : Kd.C (Kd.int .i64) _ Ao39 x5_1.length x5_1 := (Kd.R_reads' HO_5.out).2.2; (try clear hcut38); have hcut48 := cut_to (P := Try.prog) 22 2 .i64 Try.underlying22 hi048 Ao39 x5_1.length co39 (l0.length : Int) (of_decide_eq_true (by first | (with_reducible assumption) | assumption)) q48 hroom48; have hr48 := Kd.C_take (m := ((l0.length : Int) : Int).toNat) hC48 (by first | exact Int.toNat_le.mpr q48 | omega); have hy48 : y183.length = ((l0.length : Int) : Int).toNat := (by rw [Ny183.out, List.length_take]; omega); rw [← Ny183.out] at hr48; rw [← hy48] at hcut48; have HR186 := Aside0.mk hr48; have HC186 := Aside0.mk (show y183.length ≤ co39 from by omega); clear hr48 hC48 hroom48 hi048 hsz48; have KY48 := Aside0.mk hy48; clear hy48; have KL48 := Aside0.mk (show ((l0.length : Int) : Int).toNat ≤ x5_1.length from by first | exact Int.toNat_le.mpr q48 | omega); replace q48 := eq_true q48) | ((with_reducible refine gate_callee (f := 13) rfl ?_); refine goesL_ (some 52) rfl rfl Try.func13 (by kernel_rfl) rfl #[.slice Ao39 y183.length co39] rfl (by (try simp only [List.map_toArray, List.map_cons, List.map_nil]); first | done | rfl | (simp only [List.length_drop, List.length_take]; rfl)) ?_; (with_reducible refine (plain_PutInts.calls _ _ y183 t187 _ ?side1 ?side2 A31.out).mono ?_); (case side1 => repeat (first | exact (by repeat (first | (with_reducible exact HR186.out) | (with_reducible refine Kd.C_alloc ?_ _) | (with_reducible refine Kd.C_drewN ?_ _) | (with_reducible refine Kd.C_drew ?_) | exact HR186.out)) | (with_reducible refine Kd.C_alloc ?_ _) | (with_reducible refine Kd.C_drewN ?_ _) | (with_reducible refine Kd.C_drew ?_))); (case side2 => exact HC186.out); rintro e w49 ⟨v188, rfl, ho0, hb⟩; refine ⟨_, rfl, ?_⟩; have n0_ := Aside0.mk (Kd.R_below (by (with_reducible repeat (first | apply Kd.R_alloc | apply Kd.R_drewN | apply Kd.R_drew)); exact HO_5.out) hb); have n1_ := Aside0.mk (Kd.R_below (by (with_reducible repeat (first | apply Kd.R_alloc | apply Kd.R_drewN | apply Kd.R_drew)); exact HO_6.out) hb); have n2_ := Aside0.mk (Kd.R_below (by (with_reducible repeat (first | apply Kd.R_alloc | apply Kd.R_drewN | apply Kd.R_drew)); exact HO168.out) hb); have n3_ := Aside0.mk (Kd.R_below (by (with_reducible repeat (first | apply Kd.R_alloc | apply Kd.R_drewN | apply Kd.R_drew)); exact HO178.out) hb); have n4_ := Aside0.mk (Kd.R_elder' (by (with_reducible repeat (first | apply Kd.R_alloc | apply Kd.R_drewN | apply Kd.R_drew)); exact HO182.out) (Kd.R_base ho0) hb); have n5_ := Aside0.mk (Kd.R_lower (Kd.R_new' ho0 (Kd.R_lt (by (with_reducible repeat (first | apply Kd.R_alloc | apply Kd.R_drewN | apply Kd.R_drew)); exact HO182.out))) (below_size (by repeat (first | (with_reducible first | exact HB.out | apply below_alloc | apply pw_below_drewN | apply below_drew1) | exact HB.out)))); have n6_ := Aside0.mk (Kd.C_below (by repeat (first | (with_reducible exact HR165.out) | (with_reducible refine Kd.C_alloc ?_ _) | (with_reducible refine Kd.C_drewN ?_ _) | (with_reducible refine Kd.C_drew ?_) | exact HR165.out)) hb); have n7_ := Aside0.mk (Kd.C_below (by repeat (first | (with_reducible exact HR175.out) | (with_reducible refine Kd.C_alloc ?_ _) | (with_reducible refine Kd.C_drewN ?_ _) | (with_reducible refine Kd.C_drew ?_) | exact HR175.out)) hb); have n8_ := Aside0.mk (Kd.C_below (by repeat (first | (with_reducible exact HR186.out) | (with_reducible refine Kd.C_alloc ?_ _) | (with_reducible refine Kd.C_drewN ?_ _) | (with_reducible refine Kd.C_drew ?_) | exact HR186.out)) hb); have n9_ := Aside0.mk (below_step (by repeat (first | (with_reducible first | exact HB.out | apply below_alloc | apply pw_below_drewN | apply below_drew1) | exact HB.out)) hb); clear HO_5; clear HO_6; clear HO168; clear HO178; clear HO182; clear HR165; clear HR175; clear HR186; clear HB; have HO_5 := n0_; have HO_6 := n1_; have HO168 := n2_; have HO178 := n3_; have HO182 := n4_; have HO189 := n5_; have HR165 := n6_; have HR175 := n7_; have HR186 := n8_; have HB := n9_; clear n0_ n1_ n2_ n3_ n4_ n5_ n6_ n7_ n8_ n9_; (try clear hb); (try clear hb2); (try clear hk); (try clear hi); (try clear ho0); have q50 : ((l1.length : Int) : Int) ≤ ((x6_1.length : Int) : Int) := of_decide_eq_true (by first | (with_reducible assumption) | assumption); obtain ⟨i050, hi050, _, hsz50, _⟩ := info_parts info9; have hroom50 : x6_1.length ≤ co44 := (Kd.R_reads' HO_6.out).2.1; have hC50 : Kd.C Kd.string _ Ao44 x6_1.length x6_1 := (Kd.R_reads' HO_6.out).2.2; (try clear hcut43); have hcut50 := cut_to (P := Try.prog) 23 9 .i64 Try.underlying23 hi050 Ao44 x6_1.length co44 (l1.length : Int) (of_decide_eq_true (by first | (with_reducible assumption) | assumption)) q50 hroom50; have hr50 := Kd.C_take (m := ((l1.length : Int) : Int).toNat) hC50 (by first | exact Int.toNat_le.mpr q50 | omega); have hy50 : y190.length = ((l1.length : Int) : Int).toNat := (by rw [Ny190.out, List.length_take]; omega); rw [← Ny190.out] at hr50; rw [← hy50] at hcut50; have HR193 := Aside0.mk hr50; have HC193 := Aside0.mk (show y190.length ≤ co44 from by omega); clear hr50 hC50 hroom50 hi050 hsz50; have KY50 := Aside0.mk hy50; clear hy50; have KL50 := Aside0.mk (show ((l1.length : Int) : Int).toNat ≤ x6_1.length from by first | exact Int.toNat_le.mpr q50 | omega); replace q50 := eq_true q50) | ((with_reducible refine gate_callee (f := 14) rfl ?_); refine goesL_ (some 58) rfl rfl Try.func14 (by kernel_rfl) rfl #[.slice Ao44 y190.length co44] rfl (by (try simp only [List.map_toArray, List.map_cons, List.map_nil]); first | done | rfl | (simp only [List.length_drop, List.length_take]; rfl)) ?_; (with_reducible refine (plain_PutTexts.calls _ _ y190 t194 t195 _ ?side1 ?side2 A34.out).mono ?_); (case side1 => repeat (first | exact (by repeat (first | (with_reducible exact HR193.out) | (with_reducible refine Kd.C_alloc ?_ _) | (with_reducible refine Kd.C_drewN ?_ _) | (with_reducible refine Kd.C_drew ?_) | exact HR193.out)) | (with_reducible refine Kd.C_alloc ?_ _) | (with_reducible refine Kd.C_drewN ?_ _) | (with_reducible refine Kd.C_drew ?_))); (case side2 => exact HC193.out); rintro e w51 ⟨v196, rfl, ho0, hb⟩; refine ⟨_, rfl, ?_⟩; have n0_ := Aside0.mk (Kd.R_below (by (with_reducible repeat (first | apply Kd.R_alloc | apply Kd.R_drewN | apply Kd.R_drew)); exact HO_5.out) hb); have n1_ := Aside0.mk (Kd.R_below (by (with_reducible repeat (first | apply Kd.R_alloc | apply Kd.R_drewN | apply Kd.R_drew)); exact HO_6.out) hb); have n2_ := Aside0.mk (Kd.R_below (by (with_reducible repeat (first | apply Kd.R_alloc | apply Kd.R_drewN | apply Kd.R_drew)); exact HO168.out) hb); have n3_ := Aside0.mk (Kd.R_below (by (with_reducible repeat (first | apply Kd.R_alloc | apply Kd.R_drewN | apply Kd.R_drew)); exact HO178.out) hb); have n4_ := Aside0.mk (Kd.R_elder' (by (with_reducible repeat (first | apply Kd.R_alloc | apply Kd.R_drewN | apply Kd.R_drew)); exact HO182.out) (Kd.R_base ho0) hb); have n5_ := Aside0.mk (Kd.R_elder' (by (with_reducible repeat (first | apply Kd.R_alloc | apply Kd.R_drewN | apply Kd.R_drew)); exact HO189.out) (Kd.R_base ho0) hb); have n6_ := Aside0.mk (Kd.R_lower (Kd.R_new' (Kd.R_new' ho0 (Kd.R_lt (by (with_reducible repeat (first | apply Kd.R_alloc | apply Kd.R_drewN | apply Kd.R_drew)); exact HO182.out))) (Kd.R_lt (by (with_reducible repeat (first | apply Kd.R_alloc | apply Kd.R_drewN | apply Kd.R_drew)); exact HO189.out))) (below_size (by repeat (first | (with_reducible first | exact HB.out | apply below_alloc | apply pw_below_drewN | apply below_drew1) | exact HB.out)))); have n7_ := Aside0.mk (Kd.C_below (by repeat (first | (with_reducible exact HR165.out) | (with_reducible refine Kd.C_alloc ?_ _) | (with_reducible refine Kd.C_drewN ?_ _) | (with_reducible refine Kd.C_drew ?_) | exact HR165.out)) hb); have n8_ := Aside0.mk (Kd.C_below (by repeat (first | (with_reducible exact HR175.out) | (with_reducible refine Kd.C_alloc ?_ _) | (with_reducible refine Kd.C_drewN ?_ _) | (with_reducible refine Kd.C_drew ?_) | exact HR175.out)) hb); have n9_ := Aside0.mk (Kd.C_below (by repeat (first | (with_reducible exact HR186.out) | (with_reducible refine Kd.C_alloc ?_ _) | (with_reducible refine Kd.C_drewN ?_ _) | (with_reducible refine Kd.C_drew ?_) | exact HR186.out)) hb); have n10_ := Aside0.mk (Kd.C_below (by repeat (first | (with_reducible exact HR193.out) | (with_reducible refine Kd.C_alloc ?_ _) | (with_reducible refine Kd.C_drewN ?_ _) | (with_reducible refine Kd.C_drew ?_) | exact HR193.out)) hb); have n11_ := Aside0.mk (below_step (by repeat (first | (with_reducible first | exact HB.out | apply below_alloc | apply pw_below_drewN | apply below_drew1) | exact HB.out)) hb); clear HO_5; clear HO_6; clear HO168; clear HO178; clear HO182; clear HO189; clear HR165; clear HR175; clear HR186; clear HR193; clear HB; have HO_5 := n0_; have HO_6 := n1_; have HO168 := n2_; have HO178 := n3_; have HO182 := n4_; have HO189 := n5_; have HO197 := n6_; have HR165 := n7_; have HR175 := n8_; have HR186 := n9_; have HR193 := n10_; have HB := n11_; clear n0_ n1_ n2_ n3_ n4_ n5_ n6_ n7_ n8_ n9_ n10_ n11_; (try clear hb); (try clear hb2); (try clear hk); (try clear hi); (try clear ho0)))
                            (try simp only [Act.put, List.setIfInBounds_toArray, List.set_cons_zero, List.set_cons_succ])
                            go_cut [79] (fun v79 wc => ∃ (kq : Nat) (x79_34 : Bool), v79 = .bool x79_34 ∧ Aside0 (colonnadelaw08_PlainPuts.j1 kq l0 l1 x5_1 x6_1 x7_1 y166 y176 x79_34 = some r) ∧ Aside0 (kq ≤ k1) ∧ Aside0 (Kd.R (Kd.int .i64) 2 wc w.heap.size (fun k_ => some k_ ≠ (v167 : Value).ownBlock) (.slice Ao39 x5_1.length co39) x5_1) ∧ Aside0 (Kd.R Kd.string 9 wc w.heap.size (fun k_ => some k_ ≠ ((.slice Ao46 y176.length co46) : Value).ownBlock) (.slice Ao44 x6_1.length co44) x6_1) ∧ Aside0 (Kd.R (Kd.int .i64) 2 wc w.heap.size (fun k_ => some k_ ≠ ((.slice Ao39 x5_1.length co39) : Value).ownBlock) v167 y166) ∧ Aside0 (Kd.R Kd.string 9 wc w.heap.size (fun k_ => some k_ ≠ ((.slice Ao44 x6_1.length co44) : Value).ownBlock) (.slice Ao46 y176.length co46) y176) ∧ Aside0 (Below w.heap.size w wc))
                            case first =>
                              have H := HC35.out
                              clear HC35
                              replace H := Option.bind_eq_some_iff.mp H
                              obtain ⟨t198, A520, H⟩ := H
                              replace H : (if (strOfNums t187).toList = (strOfNums t198).toList then ((colonnadelaw08_num.f t195).bind fun t201 => (if t201 = t180 then (colonnadelaw08_PlainPuts.j1 k1 l0 l1 x5_1 x6_1 x7_1 y166 y176 ((strOfNums t194).toList != (strOfNums t179).toList)) else (colonnadelaw08_PlainPuts.j1 k1 l0 l1 x5_1 x6_1 x7_1 y166 y176 true))) else (colonnadelaw08_PlainPuts.j1 k1 l0 l1 x5_1 x6_1 x7_1 y166 y176 true)) = some r := H
                              have A52 := Aside0.mk A520
                              clear A520
                              by_cases c53 : (strOfNums t187).toList = (strOfNums t198).toList
                              · rw [if_pos c53] at H
                                have c53b0 : ((strOfNums t187).toList == (strOfNums t198).toList) = true := beq_iff_eq.mpr c53
                                have c53b1 : ((strOfNums t187).toList != (strOfNums t198).toList) = false := bne_eq_false_iff_eq.mpr c53
                                clear c53
                                (first | rw [c53b0] | (simp only [i64_w, i32_w]; rw [c53b0]) | skip)
                                replace H := Option.bind_eq_some_iff.mp H
                                obtain ⟨t201, A540, H⟩ := H
                                replace H : (if t201 = t180 then (colonnadelaw08_PlainPuts.j1 k1 l0 l1 x5_1 x6_1 x7_1 y166 y176 ((strOfNums t194).toList != (strOfNums t179).toList)) else (colonnadelaw08_PlainPuts.j1 k1 l0 l1 x5_1 x6_1 x7_1 y166 y176 true)) = some r := H
                                have A54 := Aside0.mk A540
                                clear A540
                                by_cases c55 : t201 = t180
                                · rw [if_pos c55] at H
                                  have c55b0 : (t201 == t180) = true := beq_iff_eq.mpr c55
                                  have c55b1 : (t201 != t180) = false := bne_eq_false_iff_eq.mpr c55
                                  clear c55
                                  have H' := Aside0.mk H
                                  clear H
                                  obtain ⟨Ao56, co56, eo56⟩ := Kd.R_slice HO168.out
                                  subst eo56
                                  try go_wp2
                                  have n0_ := Aside0.mk (Kd.R_drew HO_5.out)
                                  have n1_ := Aside0.mk (Kd.R_drew HO_6.out)
                                  have n2_ := Aside0.mk (Kd.R_drew HO168.out)
                                  have n3_ := Aside0.mk (Kd.R_drew HO178.out)
                                  have n4_ := Aside0.mk (Kd.R_drew HO182.out)
                                  have n5_ := Aside0.mk (Kd.R_drew HO189.out)
                                  have n6_ := Aside0.mk (Kd.R_drew HO197.out)
                                  have n7_ := Aside0.mk (Kd.C_drew HR165.out)
                                  have n8_ := Aside0.mk (Kd.C_drew HR175.out)
                                  have n9_ := Aside0.mk (Kd.C_drew HR186.out)
                                  have n10_ := Aside0.mk (Kd.C_drew HR193.out)
                                  have n11_ := Aside0.mk (below_drew1 HB.out)
                                  clear HO_5
                                  clear HO_6
                                  clear HO168
                                  clear HO178
                                  clear HO182
                                  clear HO189
                                  clear HO197
                                  clear HR165
                                  clear HR175
                                  clear HR186
                                  clear HR193
                                  clear HB
                                  have HO_5 := n0_
                                  have HO_6 := n1_
                                  have HO168 := n2_
                                  have HO178 := n3_
                                  have HO182 := n4_
                                  have HO189 := n5_
                                  have HO197 := n6_
                                  have HR165 := n7_
                                  have HR175 := n8_
                                  have HR186 := n9_
                                  have HR193 := n10_
                                  have HB := n11_
                                  clear n0_ n1_ n2_ n3_ n4_ n5_ n6_ n7_ n8_ n9_ n10_ n11_
                                  refine start_ (n := 19) (S := fun w' => (convert 24 9 (v188)).run Try.prog w' = .ok (.string (strOfNums t187)) w' ∧ (convert 24 9 (v196)).run Try.prog w' = .ok (.string (strOfNums t194)) w' ∧ (convert 24 9 (v181)).run Try.prog w' = .ok (.string (strOfNums t179)) w') (ds := []) #[false, false, false, false, false, false, false, false, false, false, false, false, false, false, false, false, false, false, false] (by kernel_rfl) rfl rfl ⟨(own_string (P := Try.prog) Try.underlying24 Try.underlying5 Try.underlying9 (Kd.own_of_R (by (with_reducible repeat (first | apply Kd.R_alloc | apply Kd.R_drewN | apply Kd.R_drew)); exact HO189.out))), (own_string (P := Try.prog) Try.underlying24 Try.underlying5 Try.underlying9 (Kd.own_of_R (by (with_reducible repeat (first | apply Kd.R_alloc | apply Kd.R_drewN | apply Kd.R_drew)); exact HO197.out))), (own_string (P := Try.prog) Try.underlying24 Try.underlying5 Try.underlying9 (Kd.own_of_R (by (with_reducible repeat (first | apply Kd.R_alloc | apply Kd.R_drewN | apply Kd.R_drew)); exact HO182.out)))⟩ (fun hHeld => ?_); refine with_tabW colonnadelaw08_PlainPuts.tab11 colonnadelaw08_PlainPuts.bits11 (fun HT_ HW_ => ?_)
                                  generalize w51.drew = w57 at HO_5 HO_6 HO168 HO178 HO182 HO189 HO197 HR165 HR175 HR186 HR193 HB hHeld ⊢
                                  refine pure_ (i := 0) (N := some 61) (v := ?_) (a' := ?_) #[true, false, false, false, false, false, false, false, false, false, false, false, false, false, false, false, false, false, false] rfl rfl (any_of HT_.out (by kernel_rfl)) (fun _ _ _ h => h) (Or.inl ⟨by rfl, ?_⟩) ?_ ?_
                                  rotate_left
                                  · intro w'
                                    go_simp
                                    with_reducible rfl
                                  rotate_left
                                  · simp only [Act.put, List.setIfInBounds_toArray, List.set_cons_zero, List.set_cons_succ, i64_w, i32_w]
                                    rfl
                                  refine pure_ (i := 2) (N := some 63) (v := ?_) (a' := ?_) #[true, false, true, false, false, false, false, false, false, false, false, false, false, false, false, false, false, false, false] rfl rfl (any_of HT_.out (by kernel_rfl)) (fun _ _ _ h => h) (Or.inl ⟨by rfl, ?_⟩) ?_ ?_
                                  rotate_left
                                  · intro w'
                                    go_simp
                                    with_reducible rfl
                                  rotate_left
                                  · simp only [Act.put, List.setIfInBounds_toArray, List.set_cons_zero, List.set_cons_succ, i64_w, i32_w]
                                    rfl
                                  refine take_ (i := 1) (N := some 62) (v := ?_) (a' := ?_) #[true, true, true, false, false, false, false, false, false, false, false, false, false, false, false, false, false, false, false] rfl rfl (take_ofW HT_.out HW_.out (by kernel_rfl)) (fun _ _ _ h => h) (Or.inl ⟨by rfl, ?_⟩) hHeld ?_ ?_
                                  rotate_left
                                  · rintro w' ⟨s0, s1, s2⟩
                                    go_simp
                                    with_reducible rfl
                                  rotate_left
                                  · simp only [Act.put, List.setIfInBounds_toArray, List.set_cons_zero, List.set_cons_succ, i64_w, i32_w]
                                    rfl
                                  refine one_ (i := 3) (N := some 64) #[true, true, true, true, false, false, false, false, false, false, false, false, false, false, false, false, false, false, false] rfl rfl (one_of HT_.out (by kernel_rfl)) (by decide) (fun K hK => ?_)
                                  refine goes_ Try.func15 (by kernel_rfl) rfl #[.slice Ao56 y166.length co56] (by rfl) rfl rfl (by (try simp only [List.map_toArray, List.map_cons, List.map_nil]); first | done | rfl | (simp only [List.length_drop, List.length_take]; rfl)) ?_
                                  with_reducible refine (colonnaderef08_PutInts.calls k1 _ _ y166 t198 _ ?side1 ?side2 A52.out).mono ?_
                                  (case side1 => repeat (first | exact (Kd.R_reads' HO168.out).2.2 | (with_reducible refine Kd.C_alloc ?_ _) | (with_reducible refine Kd.C_drewN ?_ _) | (with_reducible refine Kd.C_drew ?_)))
                                  (case side2 => exact (Kd.R_reads' HO168.out).2.1)
                                  rintro e w58 ⟨v199, rfl, ho0, hb⟩
                                  refine ⟨_, rfl, ?_⟩
                                  have n0_ := Aside0.mk (Kd.R_below (by (with_reducible repeat (first | apply Kd.R_alloc | apply Kd.R_drewN | apply Kd.R_drew)); exact HO_5.out) hb)
                                  have n1_ := Aside0.mk (Kd.R_below (by (with_reducible repeat (first | apply Kd.R_alloc | apply Kd.R_drewN | apply Kd.R_drew)); exact HO_6.out) hb)
                                  have n2_ := Aside0.mk (Kd.R_below (by (with_reducible repeat (first | apply Kd.R_alloc | apply Kd.R_drewN | apply Kd.R_drew)); exact HO168.out) hb)
                                  have n3_ := Aside0.mk (Kd.R_below (by (with_reducible repeat (first | apply Kd.R_alloc | apply Kd.R_drewN | apply Kd.R_drew)); exact HO178.out) hb)
                                  have n4_ := Aside0.mk (Kd.R_elder' (by (with_reducible repeat (first | apply Kd.R_alloc | apply Kd.R_drewN | apply Kd.R_drew)); exact HO182.out) (Kd.R_base ho0) hb)
                                  have n5_ := Aside0.mk (Kd.R_elder' (by (with_reducible repeat (first | apply Kd.R_alloc | apply Kd.R_drewN | apply Kd.R_drew)); exact HO189.out) (Kd.R_base ho0) hb)
                                  have n6_ := Aside0.mk (Kd.R_elder' (by (with_reducible repeat (first | apply Kd.R_alloc | apply Kd.R_drewN | apply Kd.R_drew)); exact HO197.out) (Kd.R_base ho0) hb)
                                  have n7_ := Aside0.mk (Kd.R_lower (Kd.R_new' (Kd.R_new' (Kd.R_new' ho0 (Kd.R_lt (by (with_reducible repeat (first | apply Kd.R_alloc | apply Kd.R_drewN | apply Kd.R_drew)); exact HO182.out))) (Kd.R_lt (by (with_reducible repeat (first | apply Kd.R_alloc | apply Kd.R_drewN | apply Kd.R_drew)); exact HO189.out))) (Kd.R_lt (by (with_reducible repeat (first | apply Kd.R_alloc | apply Kd.R_drewN | apply Kd.R_drew)); exact HO197.out))) (below_size (by repeat (first | (with_reducible first | exact HB.out | apply below_alloc | apply pw_below_drewN | apply below_drew1) | exact HB.out))))
                                  have n8_ := Aside0.mk (Kd.C_below (by repeat (first | (with_reducible exact HR165.out) | (with_reducible refine Kd.C_alloc ?_ _) | (with_reducible refine Kd.C_drewN ?_ _) | (with_reducible refine Kd.C_drew ?_) | exact HR165.out)) hb)
                                  have n9_ := Aside0.mk (Kd.C_below (by repeat (first | (with_reducible exact HR175.out) | (with_reducible refine Kd.C_alloc ?_ _) | (with_reducible refine Kd.C_drewN ?_ _) | (with_reducible refine Kd.C_drew ?_) | exact HR175.out)) hb)
                                  have n10_ := Aside0.mk (Kd.C_below (by repeat (first | (with_reducible exact HR186.out) | (with_reducible refine Kd.C_alloc ?_ _) | (with_reducible refine Kd.C_drewN ?_ _) | (with_reducible refine Kd.C_drew ?_) | exact HR186.out)) hb)
                                  have n11_ := Aside0.mk (Kd.C_below (by repeat (first | (with_reducible exact HR193.out) | (with_reducible refine Kd.C_alloc ?_ _) | (with_reducible refine Kd.C_drewN ?_ _) | (with_reducible refine Kd.C_drew ?_) | exact HR193.out)) hb)
                                  have n12_ := Aside0.mk (below_step (by repeat (first | (with_reducible first | exact HB.out | apply below_alloc | apply pw_below_drewN | apply below_drew1) | exact HB.out)) hb)
                                  clear HO_5
                                  clear HO_6
                                  clear HO168
                                  clear HO178
                                  clear HO182
                                  clear HO189
                                  clear HO197
                                  clear HR165
                                  clear HR175
                                  clear HR186
                                  clear HR193
                                  clear HB
                                  have HO_5 := n0_
                                  have HO_6 := n1_
                                  have HO168 := n2_
                                  have HO178 := n3_
                                  have HO182 := n4_
                                  have HO189 := n5_
                                  have HO197 := n6_
                                  have HO200 := n7_
                                  have HR165 := n8_
                                  have HR175 := n9_
                                  have HR186 := n10_
                                  have HR193 := n11_
                                  have HB := n12_
                                  clear n0_ n1_ n2_ n3_ n4_ n5_ n6_ n7_ n8_ n9_ n10_ n11_ n12_
                                  (try clear hb)
                                  (try clear hb2)
                                  (try clear hk)
                                  (try clear hi)
                                  (try clear ho0)
                                  refine hK.out _ _ ⟨(own_string (P := Try.prog) Try.underlying24 Try.underlying5 Try.underlying9 (Kd.own_of_R (by (with_reducible repeat (first | apply Kd.R_alloc | apply Kd.R_drewN | apply Kd.R_drew)); exact HO189.out))), (own_string (P := Try.prog) Try.underlying24 Try.underlying5 Try.underlying9 (Kd.own_of_R (by (with_reducible repeat (first | apply Kd.R_alloc | apply Kd.R_drewN | apply Kd.R_drew)); exact HO197.out))), (own_string (P := Try.prog) Try.underlying24 Try.underlying5 Try.underlying9 (Kd.own_of_R (by (with_reducible repeat (first | apply Kd.R_alloc | apply Kd.R_drewN | apply Kd.R_drew)); exact HO182.out)))⟩ (fun hHeld => ?_)
                                  clear hK K
                                  refine norm_ (a' := ?_) ?_ ?_
                                  rotate_left
                                  · show Act.put _ (some 64) _ = _
                                    simp only [Act.put, List.setIfInBounds_toArray, List.set_cons_zero, List.set_cons_succ, i64_w, i32_w]
                                    rfl
                                  refine one_ (i := 4) (N := some 65) #[true, true, true, true, true, false, false, false, false, false, false, false, false, false, false, false, false, false, false] rfl rfl (one_of HT_.out (by kernel_rfl)) (by decide) (fun K hK => ?_)
                                  have hcv59 := own_string (P := Try.prog) Try.underlying24 Try.underlying5 Try.underlying9 (Kd.own_of_R HO200.out); have hcv59m_ := fun m_ : Nat => own_string (P := Try.prog) Try.underlying24 Try.underlying5 Try.underlying9 (Kd.own_of_R (Kd.R_drewN HO200.out m_))
                                  refine value_ (w1 := ?_) (v := ?_) (by rfl) rfl ?_ ?_
                                  rotate_left 2
                                  · go_simp
                                    constructor
                                    · rfl
                                    · rfl
                                  clear hcv59
                                  refine hK.out _ _ ⟨(own_string (P := Try.prog) Try.underlying24 Try.underlying5 Try.underlying9 (Kd.own_of_R (by (with_reducible repeat (first | apply Kd.R_alloc | apply Kd.R_drewN | apply Kd.R_drew)); exact HO189.out))), (own_string (P := Try.prog) Try.underlying24 Try.underlying5 Try.underlying9 (Kd.own_of_R (by (with_reducible repeat (first | apply Kd.R_alloc | apply Kd.R_drewN | apply Kd.R_drew)); exact HO197.out))), (own_string (P := Try.prog) Try.underlying24 Try.underlying5 Try.underlying9 (Kd.own_of_R (by (with_reducible repeat (first | apply Kd.R_alloc | apply Kd.R_drewN | apply Kd.R_drew)); exact HO182.out)))⟩ (fun hHeld => ?_)
                                  clear hK K
                                  refine norm_ (a' := ?_) ?_ ?_
                                  rotate_left
                                  · show Act.put _ (some 65) _ = _
                                    simp only [Act.put, List.setIfInBounds_toArray, List.set_cons_zero, List.set_cons_succ, i64_w, i32_w]
                                    rfl
                                  refine pure_ (i := 5) (N := some 66) (v := ?_) (a' := ?_) #[true, true, true, true, true, true, false, false, false, false, false, false, false, false, false, false, false, false, false] rfl rfl (any_of HT_.out (by kernel_rfl)) (fun _ _ _ h => h) (Or.inl ⟨by rfl, ?_⟩) ?_ ?_
                                  rotate_left
                                  · intro w'
                                    go_simp
                                    with_reducible rfl
                                  rotate_left
                                  · simp only [Act.put, List.setIfInBounds_toArray, List.set_cons_zero, List.set_cons_succ, i64_w, i32_w]
                                    rfl
                                  refine pure_ (i := 6) (N := some 67) (v := ?_) (a' := ?_) #[true, true, true, true, true, true, true, false, false, false, false, false, false, false, false, false, false, false, false] rfl rfl (any_of HT_.out (by kernel_rfl)) (fun _ _ _ h => h) (Or.inl ⟨by rfl, ?_⟩) ?_ ?_
                                  rotate_left
                                  · intro w'
                                    go_simp
                                    with_reducible rfl
                                  rotate_left
                                  · simp only [Act.put, List.setIfInBounds_toArray, List.set_cons_zero, List.set_cons_succ, i64_w, i32_w]
                                    rfl
                                  refine pure_ (i := 7) (N := some 68) (v := ?_) (a' := ?_) #[true, true, true, true, true, true, true, true, false, false, false, false, false, false, false, false, false, false, false] rfl rfl (any_of HT_.out (by kernel_rfl)) (fun _ _ _ h => h) (Or.inl ⟨by rfl, ?_⟩) ?_ ?_
                                  rotate_left
                                  · intro w'
                                    go_simp
                                    with_reducible rfl
                                  rotate_left
                                  · simp only [Act.put, List.setIfInBounds_toArray, List.set_cons_zero, List.set_cons_succ, i64_w, i32_w]
                                    rfl
                                  refine pure_ (i := 9) (N := some 70) (v := ?_) (a' := ?_) #[true, true, true, true, true, true, true, true, false, true, false, false, false, false, false, false, false, false, false] rfl rfl (any_of HT_.out (by kernel_rfl)) (fun _ _ _ h => h) (Or.inl ⟨by rfl, ?_⟩) ?_ ?_
                                  rotate_left
                                  · intro w'
                                    go_simp
                                    with_reducible rfl
                                  rotate_left
                                  · simp only [Act.put, List.setIfInBounds_toArray, List.set_cons_zero, List.set_cons_succ, i64_w, i32_w]
                                    rfl
                                  refine one_ (i := 8) (N := some 69) #[true, true, true, true, true, true, true, true, true, true, false, false, false, false, false, false, false, false, false] rfl rfl (one_of HT_.out (by kernel_rfl)) (by decide) (fun K hK => ?_)
                                  refine goes_ Try.func16 (by kernel_rfl) rfl #[.int .i64 t195] (by rfl) rfl rfl (by (try simp only [List.map_toArray, List.map_cons, List.map_nil]); first | done | rfl | (simp only [List.length_drop, List.length_take]; rfl)) ?_
                                  with_reducible refine (colonnadelaw08_num.calls t195 t201 _ A54.out).mono ?_
                                  rintro e w' ⟨rfl, ⟨nd, rfl⟩⟩
                                  refine ⟨_, rfl, ?_⟩
                                  refine hK.out _ _ ⟨(own_string (P := Try.prog) Try.underlying24 Try.underlying5 Try.underlying9 (Kd.own_of_R (by (with_reducible repeat (first | apply Kd.R_alloc | apply Kd.R_drewN | apply Kd.R_drew)); exact HO189.out))), (own_string (P := Try.prog) Try.underlying24 Try.underlying5 Try.underlying9 (Kd.own_of_R (by (with_reducible repeat (first | apply Kd.R_alloc | apply Kd.R_drewN | apply Kd.R_drew)); exact HO197.out))), (own_string (P := Try.prog) Try.underlying24 Try.underlying5 Try.underlying9 (Kd.own_of_R (by (with_reducible repeat (first | apply Kd.R_alloc | apply Kd.R_drewN | apply Kd.R_drew)); exact HO182.out)))⟩ (fun hHeld => ?_)
                                  clear hK K
                                  refine norm_ (a' := ?_) ?_ ?_
                                  rotate_left
                                  · show Act.put _ (some 69) _ = _
                                    simp only [Act.put, List.setIfInBounds_toArray, List.set_cons_zero, List.set_cons_succ, i64_w, i32_w]
                                    rfl
                                  refine pure_ (i := 10) (N := some 71) (v := ?_) (a' := ?_) #[true, true, true, true, true, true, true, true, true, true, true, false, false, false, false, false, false, false, false] rfl rfl (any_of HT_.out (by kernel_rfl)) (fun _ _ _ h => h) (Or.inl ⟨by rfl, ?_⟩) ?_ ?_
                                  rotate_left
                                  · intro w'
                                    go_simp
                                    with_reducible rfl
                                  rotate_left
                                  · simp only [Act.put, List.setIfInBounds_toArray, List.set_cons_zero, List.set_cons_succ, i64_w, i32_w]
                                    rfl
                                  refine pure_ (i := 11) (N := some 72) (v := ?_) (a' := ?_) #[true, true, true, true, true, true, true, true, true, true, true, true, false, false, false, false, false, false, false] rfl rfl (any_of HT_.out (by kernel_rfl)) (fun _ _ _ h => h) (Or.inl ⟨by rfl, ?_⟩) ?_ ?_
                                  rotate_left
                                  · intro w'
                                    go_simp
                                    with_reducible rfl
                                  rotate_left
                                  · simp only [Act.put, List.setIfInBounds_toArray, List.set_cons_zero, List.set_cons_succ, i64_w, i32_w]
                                    rfl
                                  refine pure_ (i := 12) (N := some 73) (v := ?_) (a' := ?_) #[true, true, true, true, true, true, true, true, true, true, true, true, true, false, false, false, false, false, false] rfl rfl (any_of HT_.out (by kernel_rfl)) (fun _ _ _ h => h) (Or.inl ⟨by rfl, ?_⟩) ?_ ?_
                                  rotate_left
                                  · intro w'
                                    go_simp
                                    with_reducible rfl
                                  rotate_left
                                  · simp only [Act.put, List.setIfInBounds_toArray, List.set_cons_zero, List.set_cons_succ, i64_w, i32_w]
                                    rfl
                                  refine pure_ (i := 13) (N := some 74) (v := ?_) (a' := ?_) #[true, true, true, true, true, true, true, true, true, true, true, true, true, true, false, false, false, false, false] rfl rfl (any_of HT_.out (by kernel_rfl)) (fun _ _ _ h => h) (Or.inl ⟨by rfl, ?_⟩) ?_ ?_
                                  rotate_left
                                  · intro w'
                                    go_simp
                                    with_reducible rfl
                                  rotate_left
                                  · simp only [Act.put, List.setIfInBounds_toArray, List.set_cons_zero, List.set_cons_succ, i64_w, i32_w]
                                    rfl
                                  refine pure_ (i := 15) (N := some 76) (v := ?_) (a' := ?_) #[true, true, true, true, true, true, true, true, true, true, true, true, true, true, false, true, false, false, false] rfl rfl (any_of HT_.out (by kernel_rfl)) (fun _ _ _ h => h) (Or.inl ⟨by rfl, ?_⟩) ?_ ?_
                                  rotate_left
                                  · intro w'
                                    go_simp
                                    with_reducible rfl
                                  rotate_left
                                  · simp only [Act.put, List.setIfInBounds_toArray, List.set_cons_zero, List.set_cons_succ, i64_w, i32_w]
                                    rfl
                                  refine take_ (i := 14) (N := some 75) (v := ?_) (a' := ?_) #[true, true, true, true, true, true, true, true, true, true, true, true, true, true, true, true, false, false, false] rfl rfl (take_ofW HT_.out HW_.out (by kernel_rfl)) (fun _ _ _ h => h) (Or.inl ⟨by rfl, ?_⟩) hHeld ?_ ?_
                                  rotate_left
                                  · rintro w' ⟨s0, s1, s2⟩
                                    go_simp
                                    with_reducible rfl
                                  rotate_left
                                  · simp only [Act.put, List.setIfInBounds_toArray, List.set_cons_zero, List.set_cons_succ, i64_w, i32_w]
                                    rfl
                                  refine take_ (i := 16) (N := some 77) (v := ?_) (a' := ?_) #[true, true, true, true, true, true, true, true, true, true, true, true, true, true, true, true, true, false, false] rfl rfl (take_ofW HT_.out HW_.out (by kernel_rfl)) (fun _ _ _ h => h) (Or.inl ⟨by rfl, ?_⟩) hHeld ?_ ?_
                                  rotate_left
                                  · rintro w' ⟨s0, s1, s2⟩
                                    go_simp
                                    with_reducible rfl
                                  rotate_left
                                  · simp only [Act.put, List.setIfInBounds_toArray, List.set_cons_zero, List.set_cons_succ, i64_w, i32_w]
                                    rfl
                                  refine pure_ (i := 17) (N := some 78) (v := ?_) (a' := ?_) #[true, true, true, true, true, true, true, true, true, true, true, true, true, true, true, true, true, true, false] rfl rfl (any_of HT_.out (by kernel_rfl)) (fun _ _ _ h => h) (Or.inl ⟨by rfl, ?_⟩) ?_ ?_
                                  rotate_left
                                  · intro w'
                                    go_simp
                                    with_reducible rfl
                                  rotate_left
                                  · simp only [Act.put, List.setIfInBounds_toArray, List.set_cons_zero, List.set_cons_succ, i64_w, i32_w]
                                    rfl
                                  refine pure_ (i := 18) (N := some 79) (v := ?_) (a' := ?_) #[true, true, true, true, true, true, true, true, true, true, true, true, true, true, true, true, true, true, true] rfl rfl (any_of HT_.out (by kernel_rfl)) (fun _ _ _ h => h) (Or.inl ⟨by rfl, ?_⟩) ?_ ?_
                                  rotate_left
                                  · intro w'
                                    go_simp
                                    with_reducible rfl
                                  rotate_left
                                  · simp only [Act.put, List.setIfInBounds_toArray, List.set_cons_zero, List.set_cons_succ, i64_w, i32_w]
                                    rfl
                                  refine done_ (done_of HT_.out (by kernel_rfl)) ?_
                                  try go_wp2
                                  go_meet
                                  case rel => exact ⟨_, (((strOfNums t194).toList != (strOfNums t179).toList)), (by first | rfl | (simp; done) | (simp [*]; done)), H', ⟨by have := HK1.out; first | omega | exact Nat.le_refl _⟩, ⟨by (with_reducible repeat (first | apply Kd.R_alloc | apply Kd.R_drewN | apply Kd.R_drew)); first | exact HO_5.out | exact Kd.R_mono HO_5.out (fun _ hk => hk.2)⟩, ⟨by (with_reducible repeat (first | apply Kd.R_alloc | apply Kd.R_drewN | apply Kd.R_drew)); first | exact HO_6.out | exact Kd.R_mono HO_6.out (fun _ hk => hk.2)⟩, ⟨by (with_reducible repeat (first | apply Kd.R_alloc | apply Kd.R_drewN | apply Kd.R_drew)); first | exact HO168.out | exact Kd.R_mono HO168.out (fun _ hk => hk.2)⟩, ⟨by (with_reducible repeat (first | apply Kd.R_alloc | apply Kd.R_drewN | apply Kd.R_drew)); first | exact HO178.out | exact Kd.R_mono HO178.out (fun _ hk => hk.2)⟩, ⟨by repeat (first | (with_reducible first | exact HB.out | apply below_alloc | apply pw_below_drewN | apply below_drew1) | exact HB.out)⟩⟩
                                · rw [if_neg c55] at H
                                  have c55b0 : (t201 == t180) = false := beq_eq_false_iff_ne.mpr c55
                                  have c55b1 : (t201 != t180) = true := bne_iff_ne.mpr c55
                                  have H' := Aside0.mk H
                                  clear H
                                  obtain ⟨Ao61, co61, eo61⟩ := Kd.R_slice HO168.out
                                  subst eo61
                                  try go_wp2
                                  have n0_ := Aside0.mk (Kd.R_drew HO_5.out)
                                  have n1_ := Aside0.mk (Kd.R_drew HO_6.out)
                                  have n2_ := Aside0.mk (Kd.R_drew HO168.out)
                                  have n3_ := Aside0.mk (Kd.R_drew HO178.out)
                                  have n4_ := Aside0.mk (Kd.R_drew HO182.out)
                                  have n5_ := Aside0.mk (Kd.R_drew HO189.out)
                                  have n6_ := Aside0.mk (Kd.R_drew HO197.out)
                                  have n7_ := Aside0.mk (Kd.C_drew HR165.out)
                                  have n8_ := Aside0.mk (Kd.C_drew HR175.out)
                                  have n9_ := Aside0.mk (Kd.C_drew HR186.out)
                                  have n10_ := Aside0.mk (Kd.C_drew HR193.out)
                                  have n11_ := Aside0.mk (below_drew1 HB.out)
                                  clear HO_5
                                  clear HO_6
                                  clear HO168
                                  clear HO178
                                  clear HO182
                                  clear HO189
                                  clear HO197
                                  clear HR165
                                  clear HR175
                                  clear HR186
                                  clear HR193
                                  clear HB
                                  have HO_5 := n0_
                                  have HO_6 := n1_
                                  have HO168 := n2_
                                  have HO178 := n3_
                                  have HO182 := n4_
                                  have HO189 := n5_
                                  have HO197 := n6_
                                  have HR165 := n7_
                                  have HR175 := n8_
                                  have HR186 := n9_
                                  have HR193 := n10_
                                  have HB := n11_
                                  clear n0_ n1_ n2_ n3_ n4_ n5_ n6_ n7_ n8_ n9_ n10_ n11_
                                  refine start_ (n := 19) (S := fun w' => (convert 24 9 (v188)).run Try.prog w' = .ok (.string (strOfNums t187)) w') (ds := []) #[false, false, false, false, false, false, false, false, false, false, false, false, false, false, false, false, false, false, false] (by kernel_rfl) rfl rfl ((own_string (P := Try.prog) Try.underlying24 Try.underlying5 Try.underlying9 (Kd.own_of_R (by (with_reducible repeat (first | apply Kd.R_alloc | apply Kd.R_drewN | apply Kd.R_drew)); exact HO189.out)))) (fun hHeld => ?_); refine with_tabW colonnadelaw08_PlainPuts.tab11 colonnadelaw08_PlainPuts.bits11 (fun HT_ HW_ => ?_)
                                  generalize w51.drew = w62 at HO_5 HO_6 HO168 HO178 HO182 HO189 HO197 HR165 HR175 HR186 HR193 HB hHeld ⊢
                                  refine pure_ (i := 0) (N := some 61) (v := ?_) (a' := ?_) #[true, false, false, false, false, false, false, false, false, false, false, false, false, false, false, false, false, false, false] rfl rfl (any_of HT_.out (by kernel_rfl)) (fun _ _ _ h => h) (Or.inl ⟨by rfl, ?_⟩) ?_ ?_
                                  rotate_left
                                  · intro w'
                                    go_simp
                                    with_reducible rfl
                                  rotate_left
                                  · simp only [Act.put, List.setIfInBounds_toArray, List.set_cons_zero, List.set_cons_succ, i64_w, i32_w]
                                    rfl
                                  refine pure_ (i := 2) (N := some 63) (v := ?_) (a' := ?_) #[true, false, true, false, false, false, false, false, false, false, false, false, false, false, false, false, false, false, false] rfl rfl (any_of HT_.out (by kernel_rfl)) (fun _ _ _ h => h) (Or.inl ⟨by rfl, ?_⟩) ?_ ?_
                                  rotate_left
                                  · intro w'
                                    go_simp
                                    with_reducible rfl
                                  rotate_left
                                  · simp only [Act.put, List.setIfInBounds_toArray, List.set_cons_zero, List.set_cons_succ, i64_w, i32_w]
                                    rfl
                                  refine take_ (i := 1) (N := some 62) (v := ?_) (a' := ?_) #[true, true, true, false, false, false, false, false, false, false, false, false, false, false, false, false, false, false, false] rfl rfl (take_ofW HT_.out HW_.out (by kernel_rfl)) (fun _ _ _ h => h) (Or.inl ⟨by rfl, ?_⟩) hHeld ?_ ?_
                                  rotate_left
                                  · intro w' s0
                                    go_simp
                                    with_reducible rfl
                                  rotate_left
                                  · simp only [Act.put, List.setIfInBounds_toArray, List.set_cons_zero, List.set_cons_succ, i64_w, i32_w]
                                    rfl
                                  refine one_ (i := 3) (N := some 64) #[true, true, true, true, false, false, false, false, false, false, false, false, false, false, false, false, false, false, false] rfl rfl (one_of HT_.out (by kernel_rfl)) (by decide) (fun K hK => ?_)
                                  refine goes_ Try.func15 (by kernel_rfl) rfl #[.slice Ao61 y166.length co61] (by rfl) rfl rfl (by (try simp only [List.map_toArray, List.map_cons, List.map_nil]); first | done | rfl | (simp only [List.length_drop, List.length_take]; rfl)) ?_
                                  with_reducible refine (colonnaderef08_PutInts.calls k1 _ _ y166 t198 _ ?side1 ?side2 A52.out).mono ?_
                                  (case side1 => repeat (first | exact (Kd.R_reads' HO168.out).2.2 | (with_reducible refine Kd.C_alloc ?_ _) | (with_reducible refine Kd.C_drewN ?_ _) | (with_reducible refine Kd.C_drew ?_)))
                                  (case side2 => exact (Kd.R_reads' HO168.out).2.1)
                                  rintro e w63 ⟨v199, rfl, ho0, hb⟩
                                  refine ⟨_, rfl, ?_⟩
                                  have n0_ := Aside0.mk (Kd.R_below (by (with_reducible repeat (first | apply Kd.R_alloc | apply Kd.R_drewN | apply Kd.R_drew)); exact HO_5.out) hb)
                                  have n1_ := Aside0.mk (Kd.R_below (by (with_reducible repeat (first | apply Kd.R_alloc | apply Kd.R_drewN | apply Kd.R_drew)); exact HO_6.out) hb)
                                  have n2_ := Aside0.mk (Kd.R_below (by (with_reducible repeat (first | apply Kd.R_alloc | apply Kd.R_drewN | apply Kd.R_drew)); exact HO168.out) hb)
                                  have n3_ := Aside0.mk (Kd.R_below (by (with_reducible repeat (first | apply Kd.R_alloc | apply Kd.R_drewN | apply Kd.R_drew)); exact HO178.out) hb)
                                  have n4_ := Aside0.mk (Kd.R_elder' (by (with_reducible repeat (first | apply Kd.R_alloc | apply Kd.R_drewN | apply Kd.R_drew)); exact HO182.out) (Kd.R_base ho0) hb)
                                  have n5_ := Aside0.mk (Kd.R_elder' (by (with_reducible repeat (first | apply Kd.R_alloc | apply Kd.R_drewN | apply Kd.R_drew)); exact HO189.out) (Kd.R_base ho0) hb)
                                  have n6_ := Aside0.mk (Kd.R_elder' (by (with_reducible repeat (first | apply Kd.R_alloc | apply Kd.R_drewN | apply Kd.R_drew)); exact HO197.out) (Kd.R_base ho0) hb)
                                  have n7_ := Aside0.mk (Kd.R_lower (Kd.R_new' (Kd.R_new' (Kd.R_new' ho0 (Kd.R_lt (by (with_reducible repeat (first | apply Kd.R_alloc | apply Kd.R_drewN | apply Kd.R_drew)); exact HO182.out))) (Kd.R_lt (by (with_reducible repeat (first | apply Kd.R_alloc | apply Kd.R_drewN | apply Kd.R_drew)); exact HO189.out))) (Kd.R_lt (by (with_reducible repeat (first | apply Kd.R_alloc | apply Kd.R_drewN | apply Kd.R_drew)); exact HO197.out))) (below_size (by repeat (first | (with_reducible first | exact HB.out | apply below_alloc | apply pw_below_drewN | apply below_drew1) | exact HB.out))))
                                  have n8_ := Aside0.mk (Kd.C_below (by repeat (first | (with_reducible exact HR165.out) | (with_reducible refine Kd.C_alloc ?_ _) | (with_reducible refine Kd.C_drewN ?_ _) | (with_reducible refine Kd.C_drew ?_) | exact HR165.out)) hb)
                                  have n9_ := Aside0.mk (Kd.C_below (by repeat (first | (with_reducible exact HR175.out) | (with_reducible refine Kd.C_alloc ?_ _) | (with_reducible refine Kd.C_drewN ?_ _) | (with_reducible refine Kd.C_drew ?_) | exact HR175.out)) hb)
                                  have n10_ := Aside0.mk (Kd.C_below (by repeat (first | (with_reducible exact HR186.out) | (with_reducible refine Kd.C_alloc ?_ _) | (with_reducible refine Kd.C_drewN ?_ _) | (with_reducible refine Kd.C_drew ?_) | exact HR186.out)) hb)
                                  have n11_ := Aside0.mk (Kd.C_below (by repeat (first | (with_reducible exact HR193.out) | (with_reducible refine Kd.C_alloc ?_ _) | (with_reducible refine Kd.C_drewN ?_ _) | (with_reducible refine Kd.C_drew ?_) | exact HR193.out)) hb)
                                  have n12_ := Aside0.mk (below_step (by repeat (first | (with_reducible first | exact HB.out | apply below_alloc | apply pw_below_drewN | apply below_drew1) | exact HB.out)) hb)
                                  clear HO_5
                                  clear HO_6
                                  clear HO168
                                  clear HO178
                                  clear HO182
                                  clear HO189
                                  clear HO197
                                  clear HR165
                                  clear HR175
                                  clear HR186
                                  clear HR193
                                  clear HB
                                  have HO_5 := n0_
                                  have HO_6 := n1_
                                  have HO168 := n2_
                                  have HO178 := n3_
                                  have HO182 := n4_
                                  have HO189 := n5_
                                  have HO197 := n6_
                                  have HO200 := n7_
                                  have HR165 := n8_
                                  have HR175 := n9_
                                  have HR186 := n10_
                                  have HR193 := n11_
                                  have HB := n12_
                                  clear n0_ n1_ n2_ n3_ n4_ n5_ n6_ n7_ n8_ n9_ n10_ n11_ n12_
                                  (try clear hb)
                                  (try clear hb2)
                                  (try clear hk)
                                  (try clear hi)
                                  (try clear ho0)
                                  refine hK.out _ _ ((own_string (P := Try.prog) Try.underlying24 Try.underlying5 Try.underlying9 (Kd.own_of_R (by (with_reducible repeat (first | apply Kd.R_alloc | apply Kd.R_drewN | apply Kd.R_drew)); exact HO189.out)))) (fun hHeld => ?_)
                                  clear hK K
                                  refine norm_ (a' := ?_) ?_ ?_
                                  rotate_left
                                  · show Act.put _ (some 64) _ = _
                                    simp only [Act.put, List.setIfInBounds_toArray, List.set_cons_zero, List.set_cons_succ, i64_w, i32_w]
                                    rfl
                                  refine one_ (i := 4) (N := some 65) #[true, true, true, true, true, false, false, false, false, false, false, false, false, false, false, false, false, false, false] rfl rfl (one_of HT_.out (by kernel_rfl)) (by decide) (fun K hK => ?_)
                                  have hcv64 := own_string (P := Try.prog) Try.underlying24 Try.underlying5 Try.underlying9 (Kd.own_of_R HO200.out); have hcv64m_ := fun m_ : Nat => own_string (P := Try.prog) Try.underlying24 Try.underlying5 Try.underlying9 (Kd.own_of_R (Kd.R_drewN HO200.out m_))
                                  refine value_ (w1 := ?_) (v := ?_) (by rfl) rfl ?_ ?_
                                  rotate_left 2
                                  · go_simp
                                    constructor
                                    · rfl
                                    · rfl
                                  clear hcv64
                                  refine hK.out _ _ ((own_string (P := Try.prog) Try.underlying24 Try.underlying5 Try.underlying9 (Kd.own_of_R (by (with_reducible repeat (first | apply Kd.R_alloc | apply Kd.R_drewN | apply Kd.R_drew)); exact HO189.out)))) (fun hHeld => ?_)
                                  clear hK K
                                  refine norm_ (a' := ?_) ?_ ?_
                                  rotate_left
                                  · show Act.put _ (some 65) _ = _
                                    simp only [Act.put, List.setIfInBounds_toArray, List.set_cons_zero, List.set_cons_succ, i64_w, i32_w]
                                    rfl
                                  refine pure_ (i := 5) (N := some 66) (v := ?_) (a' := ?_) #[true, true, true, true, true, true, false, false, false, false, false, false, false, false, false, false, false, false, false] rfl rfl (any_of HT_.out (by kernel_rfl)) (fun _ _ _ h => h) (Or.inl ⟨by rfl, ?_⟩) ?_ ?_
                                  rotate_left
                                  · intro w'
                                    go_simp
                                    with_reducible rfl
                                  rotate_left
                                  · simp only [Act.put, List.setIfInBounds_toArray, List.set_cons_zero, List.set_cons_succ, i64_w, i32_w]
                                    rfl
                                  refine pure_ (i := 6) (N := some 67) (v := ?_) (a' := ?_) #[true, true, true, true, true, true, true, false, false, false, false, false, false, false, false, false, false, false, false] rfl rfl (any_of HT_.out (by kernel_rfl)) (fun _ _ _ h => h) (Or.inl ⟨by rfl, ?_⟩) ?_ ?_
                                  rotate_left
                                  · intro w'
                                    go_simp
                                    with_reducible rfl
                                  rotate_left
                                  · simp only [Act.put, List.setIfInBounds_toArray, List.set_cons_zero, List.set_cons_succ, i64_w, i32_w]
                                    rfl
                                  refine pure_ (i := 7) (N := some 68) (v := ?_) (a' := ?_) #[true, true, true, true, true, true, true, true, false, false, false, false, false, false, false, false, false, false, false] rfl rfl (any_of HT_.out (by kernel_rfl)) (fun _ _ _ h => h) (Or.inl ⟨by rfl, ?_⟩) ?_ ?_
                                  rotate_left
                                  · intro w'
                                    go_simp
                                    with_reducible rfl
                                  rotate_left
                                  · simp only [Act.put, List.setIfInBounds_toArray, List.set_cons_zero, List.set_cons_succ, i64_w, i32_w]
                                    rfl
                                  refine pure_ (i := 9) (N := some 70) (v := ?_) (a' := ?_) #[true, true, true, true, true, true, true, true, false, true, false, false, false, false, false, false, false, false, false] rfl rfl (any_of HT_.out (by kernel_rfl)) (fun _ _ _ h => h) (Or.inl ⟨by rfl, ?_⟩) ?_ ?_
                                  rotate_left
                                  · intro w'
                                    go_simp
                                    with_reducible rfl
                                  rotate_left
                                  · simp only [Act.put, List.setIfInBounds_toArray, List.set_cons_zero, List.set_cons_succ, i64_w, i32_w]
                                    rfl
                                  refine one_ (i := 8) (N := some 69) #[true, true, true, true, true, true, true, true, true, true, false, false, false, false, false, false, false, false, false] rfl rfl (one_of HT_.out (by kernel_rfl)) (by decide) (fun K hK => ?_)
                                  refine goes_ Try.func16 (by kernel_rfl) rfl #[.int .i64 t195] (by rfl) rfl rfl (by (try simp only [List.map_toArray, List.map_cons, List.map_nil]); first | done | rfl | (simp only [List.length_drop, List.length_take]; rfl)) ?_
                                  with_reducible refine (colonnadelaw08_num.calls t195 t201 _ A54.out).mono ?_
                                  rintro e w' ⟨rfl, ⟨nd, rfl⟩⟩
                                  refine ⟨_, rfl, ?_⟩
                                  refine hK.out _ _ ((own_string (P := Try.prog) Try.underlying24 Try.underlying5 Try.underlying9 (Kd.own_of_R (by (with_reducible repeat (first | apply Kd.R_alloc | apply Kd.R_drewN | apply Kd.R_drew)); exact HO189.out)))) (fun hHeld => ?_)
                                  clear hK K
                                  refine norm_ (a' := ?_) ?_ ?_
                                  rotate_left
                                  · show Act.put _ (some 69) _ = _
                                    simp only [Act.put, List.setIfInBounds_toArray, List.set_cons_zero, List.set_cons_succ, i64_w, i32_w]
                                    rfl
                                  refine pure_ (i := 10) (N := some 71) (v := ?_) (a' := ?_) #[true, true, true, true, true, true, true, true, true, true, true, false, false, false, false, false, false, false, false] rfl rfl (any_of HT_.out (by kernel_rfl)) (fun _ _ _ h => h) (Or.inl ⟨by rfl, ?_⟩) ?_ ?_
                                  rotate_left
                                  · intro w'
                                    go_simp
                                    with_reducible rfl
                                  rotate_left
                                  · simp only [Act.put, List.setIfInBounds_toArray, List.set_cons_zero, List.set_cons_succ, i64_w, i32_w]
                                    rfl
                                  refine pure_ (i := 11) (N := some 72) (v := ?_) (a' := ?_) #[true, true, true, true, true, true, true, true, true, true, true, true, false, false, false, false, false, false, false] rfl rfl (any_of HT_.out (by kernel_rfl)) (fun _ _ _ h => h) (Or.inl ⟨by rfl, ?_⟩) ?_ ?_
                                  rotate_left
                                  · intro w'
                                    go_simp
                                    with_reducible rfl
                                  rotate_left
                                  · simp only [Act.put, List.setIfInBounds_toArray, List.set_cons_zero, List.set_cons_succ, i64_w, i32_w]
                                    rfl
                                  refine pure_ (i := 12) (N := some 73) (v := ?_) (a' := ?_) #[true, true, true, true, true, true, true, true, true, true, true, true, true, false, false, false, false, false, false] rfl rfl (any_of HT_.out (by kernel_rfl)) (fun _ _ _ h => h) (Or.inl ⟨by rfl, ?_⟩) ?_ ?_
                                  rotate_left
                                  · intro w'
                                    go_simp
                                    with_reducible rfl
                                  rotate_left
                                  · simp only [Act.put, List.setIfInBounds_toArray, List.set_cons_zero, List.set_cons_succ, i64_w, i32_w]
                                    rfl
                                  refine pure_ (i := 13) (N := some 74) (v := undef) (a' := ?_) #[true, true, true, true, true, true, true, true, true, true, true, true, true, true, false, false, false, false, false] rfl rfl (any_of HT_.out (by kernel_rfl)) (fun _ _ _ h => h) (Or.inr ⟨by rfl, rfl⟩) ?_ ?_
                                  rotate_left
                                  · simp only [Act.put, List.setIfInBounds_toArray, List.set_cons_zero, List.set_cons_succ, i64_w, i32_w]
                                    rfl
                                  refine pure_ (i := 14) (N := some 75) (v := undef) (a' := ?_) #[true, true, true, true, true, true, true, true, true, true, true, true, true, true, true, false, false, false, false] rfl rfl (any_of HT_.out (by kernel_rfl)) (fun _ _ _ h => h) (Or.inr ⟨by rfl, rfl⟩) ?_ ?_
                                  rotate_left
                                  · simp only [Act.put, List.setIfInBounds_toArray, List.set_cons_zero, List.set_cons_succ, i64_w, i32_w]
                                    rfl
                                  refine pure_ (i := 15) (N := some 76) (v := undef) (a' := ?_) #[true, true, true, true, true, true, true, true, true, true, true, true, true, true, true, true, false, false, false] rfl rfl (any_of HT_.out (by kernel_rfl)) (fun _ _ _ h => h) (Or.inr ⟨by rfl, rfl⟩) ?_ ?_
                                  rotate_left
                                  · simp only [Act.put, List.setIfInBounds_toArray, List.set_cons_zero, List.set_cons_succ, i64_w, i32_w]
                                    rfl
                                  refine pure_ (i := 16) (N := some 77) (v := undef) (a' := ?_) #[true, true, true, true, true, true, true, true, true, true, true, true, true, true, true, true, true, false, false] rfl rfl (any_of HT_.out (by kernel_rfl)) (fun _ _ _ h => h) (Or.inr ⟨by rfl, rfl⟩) ?_ ?_
                                  rotate_left
                                  · simp only [Act.put, List.setIfInBounds_toArray, List.set_cons_zero, List.set_cons_succ, i64_w, i32_w]
                                    rfl
                                  refine pure_ (i := 17) (N := some 78) (v := undef) (a' := ?_) #[true, true, true, true, true, true, true, true, true, true, true, true, true, true, true, true, true, true, false] rfl rfl (any_of HT_.out (by kernel_rfl)) (fun _ _ _ h => h) (Or.inr ⟨by rfl, rfl⟩) ?_ ?_
                                  rotate_left
                                  · simp only [Act.put, List.setIfInBounds_toArray, List.set_cons_zero, List.set_cons_succ, i64_w, i32_w]
                                    rfl
                                  refine pure_ (i := 18) (N := some 79) (v := ?_) (a' := ?_) #[true, true, true, true, true, true, true, true, true, true, true, true, true, true, true, true, true, true, true] rfl rfl (any_of HT_.out (by kernel_rfl)) (fun _ _ _ h => h) (Or.inl ⟨by rfl, ?_⟩) ?_ ?_
                                  rotate_left
                                  · intro w'
                                    go_simp
                                    with_reducible rfl
                                  rotate_left
                                  · simp only [Act.put, List.setIfInBounds_toArray, List.set_cons_zero, List.set_cons_succ, i64_w, i32_w]
                                    rfl
                                  refine done_ (done_of HT_.out (by kernel_rfl)) ?_
                                  try go_wp2
                                  go_meet
                                  case rel => exact ⟨_, (true), (by first | rfl | (simp; done) | (simp [*]; done)), H', ⟨by have := HK1.out; first | omega | exact Nat.le_refl _⟩, ⟨by (with_reducible repeat (first | apply Kd.R_alloc | apply Kd.R_drewN | apply Kd.R_drew)); first | exact HO_5.out | exact Kd.R_mono HO_5.out (fun _ hk => hk.2)⟩, ⟨by (with_reducible repeat (first | apply Kd.R_alloc | apply Kd.R_drewN | apply Kd.R_drew)); first | exact HO_6.out | exact Kd.R_mono HO_6.out (fun _ hk => hk.2)⟩, ⟨by (with_reducible repeat (first | apply Kd.R_alloc | apply Kd.R_drewN | apply Kd.R_drew)); first | exact HO168.out | exact Kd.R_mono HO168.out (fun _ hk => hk.2)⟩, ⟨by (with_reducible repeat (first | apply Kd.R_alloc | apply Kd.R_drewN | apply Kd.R_drew)); first | exact HO178.out | exact Kd.R_mono HO178.out (fun _ hk => hk.2)⟩, ⟨by repeat (first | (with_reducible first | exact HB.out | apply below_alloc | apply pw_below_drewN | apply below_drew1) | exact HB.out)⟩⟩
                              · rw [if_neg c53] at H
                                have c53b0 : ((strOfNums t187).toList == (strOfNums t198).toList) = false := beq_eq_false_iff_ne.mpr c53
                                have c53b1 : ((strOfNums t187).toList != (strOfNums t198).toList) = true := bne_iff_ne.mpr c53
                                (first | rw [c53b0] | (simp only [i64_w, i32_w]; rw [c53b0]) | skip)
                                have H' := Aside0.mk H
                                clear H
                                obtain ⟨Ao66, co66, eo66⟩ := Kd.R_slice HO168.out
                                subst eo66
                                try go_wp2
                                have n0_ := Aside0.mk (Kd.R_drew HO_5.out)
                                have n1_ := Aside0.mk (Kd.R_drew HO_6.out)
                                have n2_ := Aside0.mk (Kd.R_drew HO168.out)
                                have n3_ := Aside0.mk (Kd.R_drew HO178.out)
                                have n4_ := Aside0.mk (Kd.R_drew HO182.out)
                                have n5_ := Aside0.mk (Kd.R_drew HO189.out)
                                have n6_ := Aside0.mk (Kd.R_drew HO197.out)
                                have n7_ := Aside0.mk (Kd.C_drew HR165.out)
                                have n8_ := Aside0.mk (Kd.C_drew HR175.out)
                                have n9_ := Aside0.mk (Kd.C_drew HR186.out)
                                have n10_ := Aside0.mk (Kd.C_drew HR193.out)
                                have n11_ := Aside0.mk (below_drew1 HB.out)
                                clear HO_5
                                clear HO_6
                                clear HO168
                                clear HO178
                                clear HO182
                                clear HO189
                                clear HO197
                                clear HR165
                                clear HR175
                                clear HR186
                                clear HR193
                                clear HB
                                have HO_5 := n0_
                                have HO_6 := n1_
                                have HO168 := n2_
                                have HO178 := n3_
                                have HO182 := n4_
                                have HO189 := n5_
                                have HO197 := n6_
                                have HR165 := n7_
                                have HR175 := n8_
                                have HR186 := n9_
                                have HR193 := n10_
                                have HB := n11_
                                clear n0_ n1_ n2_ n3_ n4_ n5_ n6_ n7_ n8_ n9_ n10_ n11_
                                refine start_ (n := 19) (S := fun w' => (convert 24 9 (v188)).run Try.prog w' = .ok (.string (strOfNums t187)) w') (ds := []) #[false, false, false, false, false, false, false, false, false, false, false, false, false, false, false, false, false, false, false] (by kernel_rfl) rfl rfl ((own_string (P := Try.prog) Try.underlying24 Try.underlying5 Try.underlying9 (Kd.own_of_R (by (with_reducible repeat (first | apply Kd.R_alloc | apply Kd.R_drewN | apply Kd.R_drew)); exact HO189.out)))) (fun hHeld => ?_); refine with_tabW colonnadelaw08_PlainPuts.tab11 colonnadelaw08_PlainPuts.bits11 (fun HT_ HW_ => ?_)
                                generalize w51.drew = w67 at HO_5 HO_6 HO168 HO178 HO182 HO189 HO197 HR165 HR175 HR186 HR193 HB hHeld ⊢
                                refine pure_ (i := 0) (N := some 61) (v := ?_) (a' := ?_) #[true, false, false, false, false, false, false, false, false, false, false, false, false, false, false, false, false, false, false] rfl rfl (any_of HT_.out (by kernel_rfl)) (fun _ _ _ h => h) (Or.inl ⟨by rfl, ?_⟩) ?_ ?_
                                rotate_left
                                · intro w'
                                  go_simp
                                  with_reducible rfl
                                rotate_left
                                · simp only [Act.put, List.setIfInBounds_toArray, List.set_cons_zero, List.set_cons_succ, i64_w, i32_w]
                                  rfl
                                refine pure_ (i := 2) (N := some 63) (v := ?_) (a' := ?_) #[true, false, true, false, false, false, false, false, false, false, false, false, false, false, false, false, false, false, false] rfl rfl (any_of HT_.out (by kernel_rfl)) (fun _ _ _ h => h) (Or.inl ⟨by rfl, ?_⟩) ?_ ?_
                                rotate_left
                                · intro w'
                                  go_simp
                                  with_reducible rfl
                                rotate_left
                                · simp only [Act.put, List.setIfInBounds_toArray, List.set_cons_zero, List.set_cons_succ, i64_w, i32_w]
                                  rfl
                                refine take_ (i := 1) (N := some 62) (v := ?_) (a' := ?_) #[true, true, true, false, false, false, false, false, false, false, false, false, false, false, false, false, false, false, false] rfl rfl (take_ofW HT_.out HW_.out (by kernel_rfl)) (fun _ _ _ h => h) (Or.inl ⟨by rfl, ?_⟩) hHeld ?_ ?_
                                rotate_left
                                · intro w' s0
                                  go_simp
                                  with_reducible rfl
                                rotate_left
                                · simp only [Act.put, List.setIfInBounds_toArray, List.set_cons_zero, List.set_cons_succ, i64_w, i32_w]
                                  rfl
                                refine one_ (i := 3) (N := some 64) #[true, true, true, true, false, false, false, false, false, false, false, false, false, false, false, false, false, false, false] rfl rfl (one_of HT_.out (by kernel_rfl)) (by decide) (fun K hK => ?_)
                                refine goes_ Try.func15 (by kernel_rfl) rfl #[.slice Ao66 y166.length co66] (by rfl) rfl rfl (by (try simp only [List.map_toArray, List.map_cons, List.map_nil]); first | done | rfl | (simp only [List.length_drop, List.length_take]; rfl)) ?_
                                with_reducible refine (colonnaderef08_PutInts.calls k1 _ _ y166 t198 _ ?side1 ?side2 A52.out).mono ?_
                                (case side1 => repeat (first | exact (Kd.R_reads' HO168.out).2.2 | (with_reducible refine Kd.C_alloc ?_ _) | (with_reducible refine Kd.C_drewN ?_ _) | (with_reducible refine Kd.C_drew ?_)))
                                (case side2 => exact (Kd.R_reads' HO168.out).2.1)
                                rintro e w68 ⟨v199, rfl, ho0, hb⟩
                                refine ⟨_, rfl, ?_⟩
                                have n0_ := Aside0.mk (Kd.R_below (by (with_reducible repeat (first | apply Kd.R_alloc | apply Kd.R_drewN | apply Kd.R_drew)); exact HO_5.out) hb)
                                have n1_ := Aside0.mk (Kd.R_below (by (with_reducible repeat (first | apply Kd.R_alloc | apply Kd.R_drewN | apply Kd.R_drew)); exact HO_6.out) hb)
                                have n2_ := Aside0.mk (Kd.R_below (by (with_reducible repeat (first | apply Kd.R_alloc | apply Kd.R_drewN | apply Kd.R_drew)); exact HO168.out) hb)
                                have n3_ := Aside0.mk (Kd.R_below (by (with_reducible repeat (first | apply Kd.R_alloc | apply Kd.R_drewN | apply Kd.R_drew)); exact HO178.out) hb)
                                have n4_ := Aside0.mk (Kd.R_elder' (by (with_reducible repeat (first | apply Kd.R_alloc | apply Kd.R_drewN | apply Kd.R_drew)); exact HO182.out) (Kd.R_base ho0) hb)
                                have n5_ := Aside0.mk (Kd.R_elder' (by (with_reducible repeat (first | apply Kd.R_alloc | apply Kd.R_drewN | apply Kd.R_drew)); exact HO189.out) (Kd.R_base ho0) hb)
                                have n6_ := Aside0.mk (Kd.R_elder' (by (with_reducible repeat (first | apply Kd.R_alloc | apply Kd.R_drewN | apply Kd.R_drew)); exact HO197.out) (Kd.R_base ho0) hb)
                                have n7_ := Aside0.mk (Kd.R_lower (Kd.R_new' (Kd.R_new' (Kd.R_new' ho0 (Kd.R_lt (by (with_reducible repeat (first | apply Kd.R_alloc | apply Kd.R_drewN | apply Kd.R_drew)); exact HO182.out))) (Kd.R_lt (by (with_reducible repeat (first | apply Kd.R_alloc | apply Kd.R_drewN | apply Kd.R_drew)); exact HO189.out))) (Kd.R_lt (by (with_reducible repeat (first | apply Kd.R_alloc | apply Kd.R_drewN | apply Kd.R_drew)); exact HO197.out))) (below_size (by repeat (first | (with_reducible first | exact HB.out | apply below_alloc | apply pw_below_drewN | apply below_drew1) | exact HB.out))))
                                have n8_ := Aside0.mk (Kd.C_below (by repeat (first | (with_reducible exact HR165.out) | (with_reducible refine Kd.C_alloc ?_ _) | (with_reducible refine Kd.C_drewN ?_ _) | (with_reducible refine Kd.C_drew ?_) | exact HR165.out)) hb)
                                have n9_ := Aside0.mk (Kd.C_below (by repeat (first | (with_reducible exact HR175.out) | (with_reducible refine Kd.C_alloc ?_ _) | (with_reducible refine Kd.C_drewN ?_ _) | (with_reducible refine Kd.C_drew ?_) | exact HR175.out)) hb)
                                have n10_ := Aside0.mk (Kd.C_below (by repeat (first | (with_reducible exact HR186.out) | (with_reducible refine Kd.C_alloc ?_ _) | (with_reducible refine Kd.C_drewN ?_ _) | (with_reducible refine Kd.C_drew ?_) | exact HR186.out)) hb)
                                have n11_ := Aside0.mk (Kd.C_below (by repeat (first | (with_reducible exact HR193.out) | (with_reducible refine Kd.C_alloc ?_ _) | (with_reducible refine Kd.C_drewN ?_ _) | (with_reducible refine Kd.C_drew ?_) | exact HR193.out)) hb)
                                have n12_ := Aside0.mk (below_step (by repeat (first | (with_reducible first | exact HB.out | apply below_alloc | apply pw_below_drewN | apply below_drew1) | exact HB.out)) hb)
                                clear HO_5
                                clear HO_6
                                clear HO168
                                clear HO178
                                clear HO182
                                clear HO189
                                clear HO197
                                clear HR165
                                clear HR175
                                clear HR186
                                clear HR193
                                clear HB
                                have HO_5 := n0_
                                have HO_6 := n1_
                                have HO168 := n2_
                                have HO178 := n3_
                                have HO182 := n4_
                                have HO189 := n5_
                                have HO197 := n6_
                                have HO200 := n7_
                                have HR165 := n8_
                                have HR175 := n9_
                                have HR186 := n10_
                                have HR193 := n11_
                                have HB := n12_
                                clear n0_ n1_ n2_ n3_ n4_ n5_ n6_ n7_ n8_ n9_ n10_ n11_ n12_
                                (try clear hb)
                                (try clear hb2)
                                (try clear hk)
                                (try clear hi)
                                (try clear ho0)
                                refine hK.out _ _ ((own_string (P := Try.prog) Try.underlying24 Try.underlying5 Try.underlying9 (Kd.own_of_R (by (with_reducible repeat (first | apply Kd.R_alloc | apply Kd.R_drewN | apply Kd.R_drew)); exact HO189.out)))) (fun hHeld => ?_)
                                clear hK K
                                refine norm_ (a' := ?_) ?_ ?_
                                rotate_left
                                · show Act.put _ (some 64) _ = _
                                  simp only [Act.put, List.setIfInBounds_toArray, List.set_cons_zero, List.set_cons_succ, i64_w, i32_w]
                                  rfl
                                refine one_ (i := 4) (N := some 65) #[true, true, true, true, true, false, false, false, false, false, false, false, false, false, false, false, false, false, false] rfl rfl (one_of HT_.out (by kernel_rfl)) (by decide) (fun K hK => ?_)
                                have hcv69 := own_string (P := Try.prog) Try.underlying24 Try.underlying5 Try.underlying9 (Kd.own_of_R HO200.out); have hcv69m_ := fun m_ : Nat => own_string (P := Try.prog) Try.underlying24 Try.underlying5 Try.underlying9 (Kd.own_of_R (Kd.R_drewN HO200.out m_))
                                refine value_ (w1 := ?_) (v := ?_) (by rfl) rfl ?_ ?_
                                rotate_left 2
                                · go_simp
                                  constructor
                                  · rfl
                                  · rfl
                                clear hcv69
                                refine hK.out _ _ ((own_string (P := Try.prog) Try.underlying24 Try.underlying5 Try.underlying9 (Kd.own_of_R (by (with_reducible repeat (first | apply Kd.R_alloc | apply Kd.R_drewN | apply Kd.R_drew)); exact HO189.out)))) (fun hHeld => ?_)
                                clear hK K
                                refine norm_ (a' := ?_) ?_ ?_
                                rotate_left
                                · show Act.put _ (some 65) _ = _
                                  simp only [Act.put, List.setIfInBounds_toArray, List.set_cons_zero, List.set_cons_succ, i64_w, i32_w]
                                  rfl
                                refine pure_ (i := 5) (N := some 66) (v := ?_) (a' := ?_) #[true, true, true, true, true, true, false, false, false, false, false, false, false, false, false, false, false, false, false] rfl rfl (any_of HT_.out (by kernel_rfl)) (fun _ _ _ h => h) (Or.inl ⟨by rfl, ?_⟩) ?_ ?_
                                rotate_left
                                · intro w'
                                  go_simp
                                  with_reducible rfl
                                rotate_left
                                · simp only [Act.put, List.setIfInBounds_toArray, List.set_cons_zero, List.set_cons_succ, i64_w, i32_w]
                                  rfl
                                refine pure_ (i := 6) (N := some 67) (v := ?_) (a' := ?_) #[true, true, true, true, true, true, true, false, false, false, false, false, false, false, false, false, false, false, false] rfl rfl (any_of HT_.out (by kernel_rfl)) (fun _ _ _ h => h) (Or.inl ⟨by rfl, ?_⟩) ?_ ?_
                                rotate_left
                                · intro w'
                                  go_simp
                                  with_reducible rfl
                                rotate_left
                                · simp only [Act.put, List.setIfInBounds_toArray, List.set_cons_zero, List.set_cons_succ, i64_w, i32_w]
                                  rfl
                                refine pure_ (i := 7) (N := some 68) (v := undef) (a' := ?_) #[true, true, true, true, true, true, true, true, false, false, false, false, false, false, false, false, false, false, false] rfl rfl (any_of HT_.out (by kernel_rfl)) (fun _ _ _ h => h) (Or.inr ⟨by rfl, rfl⟩) ?_ ?_
                                rotate_left
                                · simp only [Act.put, List.setIfInBounds_toArray, List.set_cons_zero, List.set_cons_succ, i64_w, i32_w]
                                  rfl
                                refine pure_ (i := 8) (N := some 69) (v := undef) (a' := ?_) #[true, true, true, true, true, true, true, true, true, false, false, false, false, false, false, false, false, false, false] rfl rfl (any_of HT_.out (by kernel_rfl)) (fun _ _ _ h => h) (Or.inr ⟨by rfl, rfl⟩) ?_ ?_
                                rotate_left
                                · simp only [Act.put, List.setIfInBounds_toArray, List.set_cons_zero, List.set_cons_succ, i64_w, i32_w]
                                  rfl
                                refine pure_ (i := 9) (N := some 70) (v := undef) (a' := ?_) #[true, true, true, true, true, true, true, true, true, true, false, false, false, false, false, false, false, false, false] rfl rfl (any_of HT_.out (by kernel_rfl)) (fun _ _ _ h => h) (Or.inr ⟨by rfl, rfl⟩) ?_ ?_
                                rotate_left
                                · simp only [Act.put, List.setIfInBounds_toArray, List.set_cons_zero, List.set_cons_succ, i64_w, i32_w]
                                  rfl
                                refine pure_ (i := 10) (N := some 71) (v := undef) (a' := ?_) #[true, true, true, true, true, true, true, true, true, true, true, false, false, false, false, false, false, false, false] rfl rfl (any_of HT_.out (by kernel_rfl)) (fun _ _ _ h => h) (Or.inr ⟨by rfl, rfl⟩) ?_ ?_
                                rotate_left
                                · simp only [Act.put, List.setIfInBounds_toArray, List.set_cons_zero, List.set_cons_succ, i64_w, i32_w]
                                  rfl
                                refine pure_ (i := 11) (N := some 72) (v := ?_) (a' := ?_) #[true, true, true, true, true, true, true, true, true, true, true, true, false, false, false, false, false, false, false] rfl rfl (any_of HT_.out (by kernel_rfl)) (fun _ _ _ h => h) (Or.inl ⟨by rfl, ?_⟩) ?_ ?_
                                rotate_left
                                · intro w'
                                  go_simp
                                  with_reducible rfl
                                rotate_left
                                · simp only [Act.put, List.setIfInBounds_toArray, List.set_cons_zero, List.set_cons_succ, i64_w, i32_w]
                                  rfl
                                refine pure_ (i := 12) (N := some 73) (v := ?_) (a' := ?_) #[true, true, true, true, true, true, true, true, true, true, true, true, true, false, false, false, false, false, false] rfl rfl (any_of HT_.out (by kernel_rfl)) (fun _ _ _ h => h) (Or.inl ⟨by rfl, ?_⟩) ?_ ?_
                                rotate_left
                                · intro w'
                                  go_simp
                                  with_reducible rfl
                                rotate_left
                                · simp only [Act.put, List.setIfInBounds_toArray, List.set_cons_zero, List.set_cons_succ, i64_w, i32_w]
                                  rfl
                                refine pure_ (i := 13) (N := some 74) (v := undef) (a' := ?_) #[true, true, true, true, true, true, true, true, true, true, true, true, true, true, false, false, false, false, false] rfl rfl (any_of HT_.out (by kernel_rfl)) (fun _ _ _ h => h) (Or.inr ⟨by rfl, rfl⟩) ?_ ?_
                                rotate_left
                                · simp only [Act.put, List.setIfInBounds_toArray, List.set_cons_zero, List.set_cons_succ, i64_w, i32_w]
                                  rfl
                                refine pure_ (i := 14) (N := some 75) (v := undef) (a' := ?_) #[true, true, true, true, true, true, true, true, true, true, true, true, true, true, true, false, false, false, false] rfl rfl (any_of HT_.out (by kernel_rfl)) (fun _ _ _ h => h) (Or.inr ⟨by rfl, rfl⟩) ?_ ?_
                                rotate_left
                                · simp only [Act.put, List.setIfInBounds_toArray, List.set_cons_zero, List.set_cons_succ, i64_w, i32_w]
                                  rfl
                                refine pure_ (i := 15) (N := some 76) (v := undef) (a' := ?_) #[true, true, true, true, true, true, true, true, true, true, true, true, true, true, true, true, false, false, false] rfl rfl (any_of HT_.out (by kernel_rfl)) (fun _ _ _ h => h) (Or.inr ⟨by rfl, rfl⟩) ?_ ?_
                                rotate_left
                                · simp only [Act.put, List.setIfInBounds_toArray, List.set_cons_zero, List.set_cons_succ, i64_w, i32_w]
                                  rfl
                                refine pure_ (i := 16) (N := some 77) (v := undef) (a' := ?_) #[true, true, true, true, true, true, true, true, true, true, true, true, true, true, true, true, true, false, false] rfl rfl (any_of HT_.out (by kernel_rfl)) (fun _ _ _ h => h) (Or.inr ⟨by rfl, rfl⟩) ?_ ?_
                                rotate_left
                                · simp only [Act.put, List.setIfInBounds_toArray, List.set_cons_zero, List.set_cons_succ, i64_w, i32_w]
                                  rfl
                                refine pure_ (i := 17) (N := some 78) (v := undef) (a' := ?_) #[true, true, true, true, true, true, true, true, true, true, true, true, true, true, true, true, true, true, false] rfl rfl (any_of HT_.out (by kernel_rfl)) (fun _ _ _ h => h) (Or.inr ⟨by rfl, rfl⟩) ?_ ?_
                                rotate_left
                                · simp only [Act.put, List.setIfInBounds_toArray, List.set_cons_zero, List.set_cons_succ, i64_w, i32_w]
                                  rfl
                                refine pure_ (i := 18) (N := some 79) (v := ?_) (a' := ?_) #[true, true, true, true, true, true, true, true, true, true, true, true, true, true, true, true, true, true, true] rfl rfl (any_of HT_.out (by kernel_rfl)) (fun _ _ _ h => h) (Or.inl ⟨by rfl, ?_⟩) ?_ ?_
                                rotate_left
                                · intro w'
                                  go_simp
                                  with_reducible rfl
                                rotate_left
                                · simp only [Act.put, List.setIfInBounds_toArray, List.set_cons_zero, List.set_cons_succ, i64_w, i32_w]
                                  rfl
                                refine done_ (done_of HT_.out (by kernel_rfl)) ?_
                                try go_wp2
                                go_meet
                                case rel => exact ⟨_, (true), (by first | rfl | (simp; done) | (simp [*]; done)), H', ⟨by have := HK1.out; first | omega | exact Nat.le_refl _⟩, ⟨by (with_reducible repeat (first | apply Kd.R_alloc | apply Kd.R_drewN | apply Kd.R_drew)); first | exact HO_5.out | exact Kd.R_mono HO_5.out (fun _ hk => hk.2)⟩, ⟨by (with_reducible repeat (first | apply Kd.R_alloc | apply Kd.R_drewN | apply Kd.R_drew)); first | exact HO_6.out | exact Kd.R_mono HO_6.out (fun _ hk => hk.2)⟩, ⟨by (with_reducible repeat (first | apply Kd.R_alloc | apply Kd.R_drewN | apply Kd.R_drew)); first | exact HO168.out | exact Kd.R_mono HO168.out (fun _ hk => hk.2)⟩, ⟨by (with_reducible repeat (first | apply Kd.R_alloc | apply Kd.R_drewN | apply Kd.R_drew)); first | exact HO178.out | exact Kd.R_mono HO178.out (fun _ hk => hk.2)⟩, ⟨by repeat (first | (with_reducible first | exact HB.out | apply below_alloc | apply pw_below_drewN | apply below_drew1) | exact HB.out)⟩⟩
                            case rest =>
                              clear HC35
                              try clear c1
                              try clear p2
                              try clear c5
                              try clear hcv6
                              try clear c15
                              try clear c16
                              try clear c53
                              try clear c53b0
                              try clear c53b1
                              try clear c55
                              try clear c55b0
                              try clear c55b1
                              try clear hcv64
                              try clear hcv69
                              obtain ⟨kq, x79_34, rfl, HA, HJ34, HO_5, HO_6, HO_8, HO_9, HB⟩ := hcut
                              cases kq with
                              | zero => exact absurd HA.out (by simp [colonnadelaw08_PlainPuts.j1])
                              | succ kj34 =>
                                have H := HA.out
                                clear HA
                                simp only [colonnadelaw08_PlainPuts.j1] at H
                                by_cases c71 : x79_34 = true
                                · subst c71
                                  have H1 : (some false) = some r := by rw [if_pos rfl] at H; exact H
                                  clear H
                                  have H := H1
                                  clear H1
                                  obtain rfl := Option.some.inj H
                                  go_wp2
                                  go_ret
                                  exact ⟨by first | rfl | (simp [errW_none, errW_some] <;> rfl) | (simp [*, errW_none, errW_some] <;> rfl), by repeat (first | (with_reducible first | exact HB.out | apply below_alloc | apply pw_below_drewN | apply below_drew1) | exact HB.out)⟩
                                · replace c71 := Bool.eq_false_iff.mpr c71
                                  subst c71
                                  have H1 : (if 0 ≤ (l0.length : Int) then (if (l0.length : Int) ≤ (x5_1.length : Int) then ((colonnaderef08_SameInts.f kj34 (x5_1.take ((l0.length : Int) : Int).toNat) y166).bind fun t206 => (if t206 = true then (if 0 ≤ (l1.length : Int) then (if (l1.length : Int) ≤ (x6_1.length : Int) then ((colonnaderef08_SameTexts.f kj34 (x6_1.take ((l1.length : Int) : Int).toNat) y176).bind fun t211 => (if t211 = true then (if (l0.length : Int) < (x5_1.length : Int) then (if (rd x5_1 (l0.length : Int)) = 71 then (if 0 ≤ (wrap64 ((l0.length : Int) + 1)) then (if (wrap64 ((l0.length : Int) + 1)) < (x5_1.length : Int) then (if (rd x5_1 (wrap64 ((l0.length : Int) + 1))) = 72 then (if (l1.length : Int) < (x6_1.length : Int) then (if (rdOf ByteArray.empty x6_1 (l1.length : Int)).toList = ([109, 97, 114, 107] : List UInt8) then (if 0 ≤ (wrap64 ((l1.length : Int) + 1)) then (if (wrap64 ((l1.length : Int) + 1)) < (x6_1.length : Int) then (colonnadelaw08_PlainPuts.j2 kj34 l0 l1 x5_1 x6_1 x7_1 ((rdOf ByteArray.empty x6_1 (wrap64 ((l1.length : Int) + 1))).toList != ([109, 97, 114, 107, 115] : List UInt8))) else (none)) else (none)) else (colonnadelaw08_PlainPuts.j2 kj34 l0 l1 x5_1 x6_1 x7_1 true)) else (none)) else (colonnadelaw08_PlainPuts.j2 kj34 l0 l1 x5_1 x6_1 x7_1 true)) else (none)) else (none)) else (colonnadelaw08_PlainPuts.j2 kj34 l0 l1 x5_1 x6_1 x7_1 true)) else (none)) else (colonnadelaw08_PlainPuts.j2 kj34 l0 l1 x5_1 x6_1 x7_1 true))) else (none)) else (none)) else (colonnadelaw08_PlainPuts.j2 kj34 l0 l1 x5_1 x6_1 x7_1 true))) else (none)) else (none)) = some r := by rw [if_neg (show ¬ (false = true) by decide)] at H; exact H
                                  clear H
                                  have H := H1
                                  clear H1
                                  have HC72 := Aside0.mk H
                                  clear H
                                  go_upto_region 13 with (fail)
                                  go_cut [129] (fun v129 wc => ∃ (kq : Nat) (x129_71 : Bool), v129 = .bool x129_71 ∧ Aside0 (colonnadelaw08_PlainPuts.j2 kq l0 l1 x5_1 x6_1 x7_1 x129_71 = some r) ∧ Aside0 (kq ≤ kj34) ∧ Aside0 (Kd.R (Kd.int .i64) 2 wc w.heap.size (fun _ => True) (.slice Ao39 x5_1.length co39) x5_1) ∧ Aside0 (Kd.R Kd.string 9 wc w.heap.size (fun _ => True) (.slice Ao44 x6_1.length co44) x6_1) ∧ Aside0 (Below w.heap.size w wc))
                                  case first =>
                                    have H := HC72.out
                                    clear HC72
                                    by_cases c73 : 0 ≤ (l0.length : Int)
                                    · rw [if_pos c73] at H
                                      have c73b0 := eq_true c73
                                      have c73b1 : decide (0 ≤ (l0.length : Int)) = true := decide_eq_true c73
                                      clear c73
                                      by_cases c74 : (l0.length : Int) ≤ (x5_1.length : Int)
                                      · rw [if_pos c74] at H
                                        have c74b0 := eq_true c74
                                        have c74b1 : decide ((l0.length : Int) ≤ (x5_1.length : Int)) = true := decide_eq_true c74
                                        clear c74
                                        obtain ⟨y202, hy202⟩ : ∃ y_ : List Int, y_ = (x5_1.take ((l0.length : Int) : Int).toNat) := ⟨_, rfl⟩
                                        replace H : ((colonnaderef08_SameInts.f kj34 y202 y166).bind fun t206 => (if t206 = true then (if 0 ≤ (l1.length : Int) then (if (l1.length : Int) ≤ (x6_1.length : Int) then ((colonnaderef08_SameTexts.f kj34 (x6_1.take ((l1.length : Int) : Int).toNat) y176).bind fun t211 => (if t211 = true then (if (l0.length : Int) < (x5_1.length : Int) then (if (rd x5_1 (l0.length : Int)) = 71 then (if 0 ≤ (wrap64 ((l0.length : Int) + 1)) then (if (wrap64 ((l0.length : Int) + 1)) < (x5_1.length : Int) then (if (rd x5_1 (wrap64 ((l0.length : Int) + 1))) = 72 then (if (l1.length : Int) < (x6_1.length : Int) then (if (rdOf ByteArray.empty x6_1 (l1.length : Int)).toList = ([109, 97, 114, 107] : List UInt8) then (if 0 ≤ (wrap64 ((l1.length : Int) + 1)) then (if (wrap64 ((l1.length : Int) + 1)) < (x6_1.length : Int) then (colonnadelaw08_PlainPuts.j2 kj34 l0 l1 x5_1 x6_1 x7_1 ((rdOf ByteArray.empty x6_1 (wrap64 ((l1.length : Int) + 1))).toList != ([109, 97, 114, 107, 115] : List UInt8))) else (none)) else (none)) else (colonnadelaw08_PlainPuts.j2 kj34 l0 l1 x5_1 x6_1 x7_1 true)) else (none)) else (colonnadelaw08_PlainPuts.j2 kj34 l0 l1 x5_1 x6_1 x7_1 true)) else (none)) else (none)) else (colonnadelaw08_PlainPuts.j2 kj34 l0 l1 x5_1 x6_1 x7_1 true)) else (none)) else (colonnadelaw08_PlainPuts.j2 kj34 l0 l1 x5_1 x6_1 x7_1 true))) else (none)) else (none)) else (colonnadelaw08_PlainPuts.j2 kj34 l0 l1 x5_1 x6_1 x7_1 true))) = some r := by first | (rw [hy202]; with_reducible exact H) | (have H2_ := (Option.bind_some _ _).symm.trans H; rw [hy202]; with_reducible exact H2_) | (have H2_ := (Option.bind_some _ _).symm.trans H; with_reducible exact H2_) | with_reducible exact H | (rw [hy202]; exact H) | exact H
                                        have Ny202 := Aside0.mk hy202
                                        clear hy202
                                        replace H := Option.bind_eq_some_iff.mp H
                                        obtain ⟨t206, A750, H⟩ := H
                                        replace H : (if t206 = true then (if 0 ≤ (l1.length : Int) then (if (l1.length : Int) ≤ (x6_1.length : Int) then ((colonnaderef08_SameTexts.f kj34 (x6_1.take ((l1.length : Int) : Int).toNat) y176).bind fun t211 => (if t211 = true then (if (l0.length : Int) < (x5_1.length : Int) then (if (rd x5_1 (l0.length : Int)) = 71 then (if 0 ≤ (wrap64 ((l0.length : Int) + 1)) then (if (wrap64 ((l0.length : Int) + 1)) < (x5_1.length : Int) then (if (rd x5_1 (wrap64 ((l0.length : Int) + 1))) = 72 then (if (l1.length : Int) < (x6_1.length : Int) then (if (rdOf ByteArray.empty x6_1 (l1.length : Int)).toList = ([109, 97, 114, 107] : List UInt8) then (if 0 ≤ (wrap64 ((l1.length : Int) + 1)) then (if (wrap64 ((l1.length : Int) + 1)) < (x6_1.length : Int) then (colonnadelaw08_PlainPuts.j2 kj34 l0 l1 x5_1 x6_1 x7_1 ((rdOf ByteArray.empty x6_1 (wrap64 ((l1.length : Int) + 1))).toList != ([109, 97, 114, 107, 115] : List UInt8))) else (none)) else (none)) else (colonnadelaw08_PlainPuts.j2 kj34 l0 l1 x5_1 x6_1 x7_1 true)) else (none)) else (colonnadelaw08_PlainPuts.j2 kj34 l0 l1 x5_1 x6_1 x7_1 true)) else (none)) else (none)) else (colonnadelaw08_PlainPuts.j2 kj34 l0 l1 x5_1 x6_1 x7_1 true)) else (none)) else (colonnadelaw08_PlainPuts.j2 kj34 l0 l1 x5_1 x6_1 x7_1 true))) else (none)) else (none)) else (colonnadelaw08_PlainPuts.j2 kj34 l0 l1 x5_1 x6_1 x7_1 true)) = some r := H
                                        have A75 := Aside0.mk A750
                                        clear A750
                                        by_cases c76 : t206 = true
                                        · subst c76
                                          have H1 : (if 0 ≤ (l1.length : Int) then (if (l1.length : Int) ≤ (x6_1.length : Int) then ((colonnaderef08_SameTexts.f kj34 (x6_1.take ((l1.length : Int) : Int).toNat) y176).bind fun t211 => (if t211 = true then (if (l0.length : Int) < (x5_1.length : Int) then (if (rd x5_1 (l0.length : Int)) = 71 then (if 0 ≤ (wrap64 ((l0.length : Int) + 1)) then (if (wrap64 ((l0.length : Int) + 1)) < (x5_1.length : Int) then (if (rd x5_1 (wrap64 ((l0.length : Int) + 1))) = 72 then (if (l1.length : Int) < (x6_1.length : Int) then (if (rdOf ByteArray.empty x6_1 (l1.length : Int)).toList = ([109, 97, 114, 107] : List UInt8) then (if 0 ≤ (wrap64 ((l1.length : Int) + 1)) then (if (wrap64 ((l1.length : Int) + 1)) < (x6_1.length : Int) then (colonnadelaw08_PlainPuts.j2 kj34 l0 l1 x5_1 x6_1 x7_1 ((rdOf ByteArray.empty x6_1 (wrap64 ((l1.length : Int) + 1))).toList != ([109, 97, 114, 107, 115] : List UInt8))) else (none)) else (none)) else (colonnadelaw08_PlainPuts.j2 kj34 l0 l1 x5_1 x6_1 x7_1 true)) else (none)) else (colonnadelaw08_PlainPuts.j2 kj34 l0 l1 x5_1 x6_1 x7_1 true)) else (none)) else (none)) else (colonnadelaw08_PlainPuts.j2 kj34 l0 l1 x5_1 x6_1 x7_1 true)) else (none)) else (colonnadelaw08_PlainPuts.j2 kj34 l0 l1 x5_1 x6_1 x7_1 true))) else (none)) else (none)) = some r := by rw [if_pos rfl] at H; exact H
                                          clear H
                                          have H := H1
                                          clear H1
                                          by_cases c77 : 0 ≤ (l1.length : Int)
                                          · rw [if_pos c77] at H
                                            have c77b0 := eq_true c77
                                            have c77b1 : decide (0 ≤ (l1.length : Int)) = true := decide_eq_true c77
                                            clear c77
                                            by_cases c78 : (l1.length : Int) ≤ (x6_1.length : Int)
                                            · rw [if_pos c78] at H
                                              have c78b0 := eq_true c78
                                              have c78b1 : decide ((l1.length : Int) ≤ (x6_1.length : Int)) = true := decide_eq_true c78
                                              clear c78
                                              obtain ⟨y207, hy207⟩ : ∃ y_ : List ByteArray, y_ = (x6_1.take ((l1.length : Int) : Int).toNat) := ⟨_, rfl⟩
                                              replace H : ((colonnaderef08_SameTexts.f kj34 y207 y176).bind fun t211 => (if t211 = true then (if (l0.length : Int) < (x5_1.length : Int) then (if (rd x5_1 (l0.length : Int)) = 71 then (if 0 ≤ (wrap64 ((l0.length : Int) + 1)) then (if (wrap64 ((l0.length : Int) + 1)) < (x5_1.length : Int) then (if (rd x5_1 (wrap64 ((l0.length : Int) + 1))) = 72 then (if (l1.length : Int) < (x6_1.length : Int) then (if (rdOf ByteArray.empty x6_1 (l1.length : Int)).toList = ([109, 97, 114, 107] : List UInt8) then (if 0 ≤ (wrap64 ((l1.length : Int) + 1)) then (if (wrap64 ((l1.length : Int) + 1)) < (x6_1.length : Int) then (colonnadelaw08_PlainPuts.j2 kj34 l0 l1 x5_1 x6_1 x7_1 ((rdOf ByteArray.empty x6_1 (wrap64 ((l1.length : Int) + 1))).toList != ([109, 97, 114, 107, 115] : List UInt8))) else (none)) else (none)) else (colonnadelaw08_PlainPuts.j2 kj34 l0 l1 x5_1 x6_1 x7_1 true)) else (none)) else (colonnadelaw08_PlainPuts.j2 kj34 l0 l1 x5_1 x6_1 x7_1 true)) else (none)) else (none)) else (colonnadelaw08_PlainPuts.j2 kj34 l0 l1 x5_1 x6_1 x7_1 true)) else (none)) else (colonnadelaw08_PlainPuts.j2 kj34 l0 l1 x5_1 x6_1 x7_1 true))) = some r := by first | (rw [hy207]; with_reducible exact H) | (have H2_ := (Option.bind_some _ _).symm.trans H; rw [hy207]; with_reducible exact H2_) | (have H2_ := (Option.bind_some _ _).symm.trans H; with_reducible exact H2_) | with_reducible exact H | (rw [hy207]; exact H) | exact H
                                              have Ny207 := Aside0.mk hy207
                                              clear hy207
                                              replace H := Option.bind_eq_some_iff.mp H
                                              obtain ⟨t211, A790, H⟩ := H
                                              replace H : (if t211 = true then (if (l0.length : Int) < (x5_1.length : Int) then (if (rd x5_1 (l0.length : Int)) = 71 then (if 0 ≤ (wrap64 ((l0.length : Int) + 1)) then (if (wrap64 ((l0.length : Int) + 1)) < (x5_1.length : Int) then (if (rd x5_1 (wrap64 ((l0.length : Int) + 1))) = 72 then (if (l1.length : Int) < (x6_1.length : Int) then (if (rdOf ByteArray.empty x6_1 (l1.length : Int)).toList = ([109, 97, 114, 107] : List UInt8) then (if 0 ≤ (wrap64 ((l1.length : Int) + 1)) then (if (wrap64 ((l1.length : Int) + 1)) < (x6_1.length : Int) then (colonnadelaw08_PlainPuts.j2 kj34 l0 l1 x5_1 x6_1 x7_1 ((rdOf ByteArray.empty x6_1 (wrap64 ((l1.length : Int) + 1))).toList != ([109, 97, 114, 107, 115] : List UInt8))) else (none)) else (none)) else (colonnadelaw08_PlainPuts.j2 kj34 l0 l1 x5_1 x6_1 x7_1 true)) else (none)) else (colonnadelaw08_PlainPuts.j2 kj34 l0 l1 x5_1 x6_1 x7_1 true)) else (none)) else (none)) else (colonnadelaw08_PlainPuts.j2 kj34 l0 l1 x5_1 x6_1 x7_1 true)) else (none)) else (colonnadelaw08_PlainPuts.j2 kj34 l0 l1 x5_1 x6_1 x7_1 true)) = some r := H
                                              have A79 := Aside0.mk A790
                                              clear A790
                                              by_cases c80 : t211 = true
                                              · subst c80
                                                have H1 : (if (l0.length : Int) < (x5_1.length : Int) then (if (rd x5_1 (l0.length : Int)) = 71 then (if 0 ≤ (wrap64 ((l0.length : Int) + 1)) then (if (wrap64 ((l0.length : Int) + 1)) < (x5_1.length : Int) then (if (rd x5_1 (wrap64 ((l0.length : Int) + 1))) = 72 then (if (l1.length : Int) < (x6_1.length : Int) then (if (rdOf ByteArray.empty x6_1 (l1.length : Int)).toList = ([109, 97, 114, 107] : List UInt8) then (if 0 ≤ (wrap64 ((l1.length : Int) + 1)) then (if (wrap64 ((l1.length : Int) + 1)) < (x6_1.length : Int) then (colonnadelaw08_PlainPuts.j2 kj34 l0 l1 x5_1 x6_1 x7_1 ((rdOf ByteArray.empty x6_1 (wrap64 ((l1.length : Int) + 1))).toList != ([109, 97, 114, 107, 115] : List UInt8))) else (none)) else (none)) else (colonnadelaw08_PlainPuts.j2 kj34 l0 l1 x5_1 x6_1 x7_1 true)) else (none)) else (colonnadelaw08_PlainPuts.j2 kj34 l0 l1 x5_1 x6_1 x7_1 true)) else (none)) else (none)) else (colonnadelaw08_PlainPuts.j2 kj34 l0 l1 x5_1 x6_1 x7_1 true)) else (none)) = some r := by rw [if_pos rfl] at H; exact H
                                                clear H
                                                have H := H1
                                                clear H1
                                                by_cases c81 : (l0.length : Int) < (x5_1.length : Int)
                                                · rw [if_pos c81] at H
                                                  have c81b0 : decide ((l0.length : Int) < (x5_1.length : Int)) = true := decide_eq_true c81
                                                  have c81b1 : decide (l0.length < x5_1.length) = true := decide_eq_true (Int.ofNat_lt.mp c81)
                                                  clear c81
                                                  (first | rw [c81b0] | (simp only [i64_w, i32_w]; rw [c81b0]) | skip)
                                                  by_cases c82 : (rd x5_1 (l0.length : Int)) = 71
                                                  · rw [if_pos c82] at H
                                                    have c82b0 : ((rd x5_1 (l0.length : Int)) == 71) = true := beq_iff_eq.mpr c82
                                                    have c82b1 : ((rd x5_1 (l0.length : Int)) != 71) = false := bne_eq_false_iff_eq.mpr c82
                                                    clear c82
                                                    obtain ⟨ji83, hji83⟩ : ∃ j_ : Int, (wrap64 ((l0.length : Int) + 1)) = j_ := ⟨_, rfl⟩
                                                    replace H : (if 0 ≤ (ji83) then (if (ji83) < (x5_1.length : Int) then (if (rd x5_1 (ji83)) = 72 then (if (l1.length : Int) < (x6_1.length : Int) then (if (rdOf ByteArray.empty x6_1 (l1.length : Int)).toList = ([109, 97, 114, 107] : List UInt8) then (if 0 ≤ (wrap64 ((l1.length : Int) + 1)) then (if (wrap64 ((l1.length : Int) + 1)) < (x6_1.length : Int) then (colonnadelaw08_PlainPuts.j2 kj34 l0 l1 x5_1 x6_1 x7_1 ((rdOf ByteArray.empty x6_1 (wrap64 ((l1.length : Int) + 1))).toList != ([109, 97, 114, 107, 115] : List UInt8))) else (none)) else (none)) else (colonnadelaw08_PlainPuts.j2 kj34 l0 l1 x5_1 x6_1 x7_1 true)) else (none)) else (colonnadelaw08_PlainPuts.j2 kj34 l0 l1 x5_1 x6_1 x7_1 true)) else (none)) else (none)) = some r := by first | (rw [hji83] at H; exact H) | (simp only [hji83] at H ⊢; exact H)
                                                    (try rw [hji83] at A75)
                                                    (try rw [hji83] at A79)
                                                    have hji83w : (IntKind.i64.wrap ((l0.length : Int) + 1)) = ji83 := (i64_w _).trans hji83
                                                    by_cases c84 : 0 ≤ (ji83)
                                                    · rw [if_pos c84] at H
                                                      have c84b0 : decide (0 ≤ (ji83)) = true := decide_eq_true c84
                                                      clear c84
                                                      by_cases c85 : (ji83) < (x5_1.length : Int)
                                                      · rw [if_pos c85] at H
                                                        have c85b0 : decide ((ji83) < (x5_1.length : Int)) = true := decide_eq_true c85
                                                        clear c85
                                                        by_cases c86 : (rd x5_1 (ji83)) = 72
                                                        · rw [if_pos c86] at H
                                                          have c86b0 : ((rd x5_1 (ji83)) == 72) = true := beq_iff_eq.mpr c86
                                                          have c86b1 : ((rd x5_1 (ji83)) != 72) = false := bne_eq_false_iff_eq.mpr c86
                                                          clear c86
                                                          by_cases c87 : (l1.length : Int) < (x6_1.length : Int)
                                                          · rw [if_pos c87] at H
                                                            have c87b0 : decide ((l1.length : Int) < (x6_1.length : Int)) = true := decide_eq_true c87
                                                            have c87b1 : decide (l1.length < x6_1.length) = true := decide_eq_true (Int.ofNat_lt.mp c87)
                                                            clear c87
                                                            by_cases c88 : (rdOf ByteArray.empty x6_1 (l1.length : Int)).toList = ([109, 97, 114, 107] : List UInt8)
                                                            · rw [if_pos c88] at H
                                                              have c88b0 : ((rdOf ByteArray.empty x6_1 (l1.length : Int)).toList == ([109, 97, 114, 107] : List UInt8)) = true := beq_iff_eq.mpr c88
                                                              have c88b1 : ((rdOf ByteArray.empty x6_1 (l1.length : Int)).toList != ([109, 97, 114, 107] : List UInt8)) = false := bne_eq_false_iff_eq.mpr c88
                                                              clear c88
                                                              obtain ⟨ji89, hji89⟩ : ∃ j_ : Int, (wrap64 ((l1.length : Int) + 1)) = j_ := ⟨_, rfl⟩
                                                              replace H : (if 0 ≤ (ji89) then (if (ji89) < (x6_1.length : Int) then (colonnadelaw08_PlainPuts.j2 kj34 l0 l1 x5_1 x6_1 x7_1 ((rdOf ByteArray.empty x6_1 (ji89)).toList != ([109, 97, 114, 107, 115] : List UInt8))) else (none)) else (none)) = some r := by first | (rw [hji89] at H; exact H) | (simp only [hji89] at H ⊢; exact H)
                                                              (try rw [hji89] at A75)
                                                              (try rw [hji89] at A79)
                                                              have hji89w : (IntKind.i64.wrap ((l1.length : Int) + 1)) = ji89 := (i64_w _).trans hji89
                                                              by_cases c90 : 0 ≤ (ji89)
                                                              · rw [if_pos c90] at H
                                                                have c90b0 : decide (0 ≤ (ji89)) = true := decide_eq_true c90
                                                                clear c90
                                                                by_cases c91 : (ji89) < (x6_1.length : Int)
                                                                · rw [if_pos c91] at H
                                                                  have c91b0 : decide ((ji89) < (x6_1.length : Int)) = true := decide_eq_true c91
                                                                  clear c91
                                                                  have H' := Aside0.mk H
                                                                  clear H
                                                                  have q92 : ((l0.length : Int) : Int) ≤ ((x5_1.length : Int) : Int) := of_decide_eq_true (by first | (with_reducible assumption) | assumption)
                                                                  obtain ⟨i092, hi092, _, hsz92, _⟩ := info_parts info2
                                                                  have hroom92 : x5_1.length ≤ co39 := (Kd.R_reads' HO_5.out).2.1
                                                                  have hC92 : Kd.C (Kd.int .i64) _ Ao39 x5_1.length x5_1 := (Kd.R_reads' HO_5.out).2.2
                                                                  (try clear hcut38); (try clear hcut48); have hcut92 := cut_to (P := Try.prog) 22 2 .i64 Try.underlying22 hi092 Ao39 x5_1.length co39 (l0.length : Int) (of_decide_eq_true (by first | (with_reducible assumption) | assumption)) q92 hroom92
                                                                  have hr92 := Kd.C_take (m := ((l0.length : Int) : Int).toNat) hC92 (by first | exact Int.toNat_le.mpr q92 | omega)
                                                                  have hy92 : y202.length = ((l0.length : Int) : Int).toNat := (by rw [Ny202.out, List.length_take]; omega)
                                                                  rw [← Ny202.out] at hr92
                                                                  rw [← hy92] at hcut92
                                                                  have HR205 := Aside0.mk hr92
                                                                  have HC205 := Aside0.mk (show y202.length ≤ co39 from by omega)
                                                                  clear hr92 hC92 hroom92 hi092 hsz92
                                                                  have KY92 := Aside0.mk hy92
                                                                  clear hy92
                                                                  have KL92 := Aside0.mk (show ((l0.length : Int) : Int).toNat ≤ x5_1.length from by first | exact Int.toNat_le.mpr q92 | omega)
                                                                  replace q92 := eq_true q92
                                                                  obtain ⟨Ao93, co93, eo93⟩ := Kd.R_slice HO_8.out
                                                                  subst eo93
                                                                  go_wp2_with (first | ((with_reducible refine gate_callee (f := 17) rfl ?_); refine goesL_ (some 85) rfl rfl Try.func17 (by kernel_rfl) rfl #[.slice Ao39 y202.length co39, .slice Ao93 y166.length co93] rfl (by (try simp only [List.map_toArray, List.map_cons, List.map_nil]); first | done | rfl | (simp only [List.length_drop, List.length_take]; rfl)) ?_; (with_reducible refine (colonnaderef08_SameInts.calls kj34 _ _ y202 _ _ y166 true _ ?side1 ?side2 ?side3 ?side4 A75.out).mono ?_); (case side1 => repeat (first | exact (by repeat (first | (with_reducible exact HR205.out) | (with_reducible refine Kd.C_alloc ?_ _) | (with_reducible refine Kd.C_drewN ?_ _) | (with_reducible refine Kd.C_drew ?_) | exact HR205.out)) | (with_reducible refine Kd.C_alloc ?_ _) | (with_reducible refine Kd.C_drewN ?_ _) | (with_reducible refine Kd.C_drew ?_))); (case side2 => exact HC205.out); (case side3 => repeat (first | exact (Kd.R_reads' HO_8.out).2.2 | (with_reducible refine Kd.C_alloc ?_ _) | (with_reducible refine Kd.C_drewN ?_ _) | (with_reducible refine Kd.C_drew ?_))); (case side4 => exact (Kd.R_reads' HO_8.out).2.1); rintro e w' ⟨rfl, ⟨nd, rfl⟩⟩; refine ⟨_, rfl, ?_⟩; have q94 : ((l1.length : Int) : Int) ≤ ((x6_1.length : Int) : Int) := of_decide_eq_true (by first | (with_reducible assumption) | assumption); obtain ⟨i094, hi094, _, hsz94, _⟩ := info_parts info9; have hroom94 : x6_1.length ≤ co44 := (Kd.R_reads' HO_6.out).2.1; have hC94 : Kd.C Kd.string _ Ao44 x6_1.length x6_1 := (Kd.R_reads' HO_6.out).2.2; (try clear hcut43); (try clear hcut50); have hcut94 := cut_to (P := Try.prog) 23 9 .i64 Try.underlying23 hi094 Ao44 x6_1.length co44 (l1.length : Int) (of_decide_eq_true (by first | (with_reducible assumption) | assumption)) q94 hroom94; have hr94 := Kd.C_take (m := ((l1.length : Int) : Int).toNat) hC94 (by first | exact Int.toNat_le.mpr q94 | omega); have hy94 : y207.length = ((l1.length : Int) : Int).toNat := (by rw [Ny207.out, List.length_take]; omega); rw [← Ny207.out] at hr94; rw [← hy94] at hcut94; have HR210 := Aside0.mk hr94; have HC210 := Aside0.mk (show y207.length ≤ co44 from by omega); clear hr94 hC94 hroom94 hi094 hsz94; have KY94 := Aside0.mk hy94; clear hy94; have KL94 := Aside0.mk (show ((l1.length : Int) : Int).toNat ≤ x6_1.length from by first | exact Int.toNat_le.mpr q94 | omega); replace q94 := eq_true q94) | (go_at_call 18; (with_reducible refine (colonnaderef08_SameTexts.calls kj34 _ _ y207 _ _ y176 true _ ?side1 ?side2 ?side3 ?side4 A79.out).mono ?_); (case side1 => repeat (first | exact (by repeat (first | (with_reducible exact HR210.out) | (with_reducible refine Kd.C_alloc ?_ _) | (with_reducible refine Kd.C_drewN ?_ _) | (with_reducible refine Kd.C_drew ?_) | exact HR210.out)) | (with_reducible refine Kd.C_alloc ?_ _) | (with_reducible refine Kd.C_drewN ?_ _) | (with_reducible refine Kd.C_drew ?_))); (case side2 => exact HC210.out); (case side3 => repeat (first | exact (Kd.R_reads' HO_9.out).2.2 | (with_reducible refine Kd.C_alloc ?_ _) | (with_reducible refine Kd.C_drewN ?_ _) | (with_reducible refine Kd.C_drew ?_))); (case side4 => exact (Kd.R_reads' HO_9.out).2.1); rintro e w' ⟨rfl, ⟨nd, rfl⟩⟩; have p212 : 0 ≤ ((l0.length : Int) : Int) := of_decide_eq_true (by first | (with_reducible assumption) | assumption); have q212 : (l0.length : Int) < (x5_1.length : Int) := of_decide_eq_true (by first | (with_reducible assumption) | assumption); obtain ⟨ad212, e212, hx212_0⟩ := Kd.at_int (Kd.R_reads' HO_5.out).2.2 (l0.length : Int) p212 q212; cases e212; (try simp only [Go.IntWalk.toNatUp] at hx212_0); replace p212 := eq_true p212; replace q212 := eq_true q212; have p213 : 0 ≤ ((ji83) : Int) := of_decide_eq_true (by first | (with_reducible assumption) | assumption); have q213 : (ji83) < (x5_1.length : Int) := of_decide_eq_true (by first | (with_reducible assumption) | assumption); obtain ⟨ad213, e213, hx213_0⟩ := Kd.at_int (Kd.R_reads' HO_5.out).2.2 (ji83) p213 q213; obtain rfl : ad212 = ad213 := (by injection e213); replace p213 := eq_true p213; replace q213 := eq_true q213; have p214 : 0 ≤ ((l1.length : Int) : Int) := of_decide_eq_true (by first | (with_reducible assumption) | assumption); have q214 : (l1.length : Int) < (x6_1.length : Int) := of_decide_eq_true (by first | (with_reducible assumption) | assumption); obtain ⟨ad214, e214, hx214_0⟩ := Kd.at_string (Kd.R_reads' HO_6.out).2.2 (l1.length : Int) p214 q214; cases e214; (try simp only [Go.IntWalk.toNatUp] at hx214_0); replace p214 := eq_true p214; replace q214 := eq_true q214; have p215 : 0 ≤ ((ji89) : Int) := of_decide_eq_true (by first | (with_reducible assumption) | assumption); have q215 : (ji89) < (x6_1.length : Int) := of_decide_eq_true (by first | (with_reducible assumption) | assumption); obtain ⟨ad215, e215, hx215_0⟩ := Kd.at_string (Kd.R_reads' HO_6.out).2.2 (ji89) p215 q215; obtain rfl : ad214 = ad215 := (by injection e215); replace p215 := eq_true p215; replace q215 := eq_true q215))
                                                                  go_meet
                                                                  case rel => exact ⟨_, (((rdOf ByteArray.empty x6_1 (ji89)).toList != ([109, 97, 114, 107, 115] : List UInt8))), (by first | rfl | (simp; done) | (simp only [← hji89] <;> (first | rfl | simp)) | (simp [*]; done)), H', ⟨by have := HK1.out; have := HJ34.out; first | omega | exact Nat.le_refl _⟩, ⟨by (with_reducible repeat (first | apply Kd.R_alloc | apply Kd.R_drewN | apply Kd.R_drew)); exact Kd.R_mono HO_5.out (fun _ hk => trivial)⟩, ⟨by (with_reducible repeat (first | apply Kd.R_alloc | apply Kd.R_drewN | apply Kd.R_drew)); exact Kd.R_mono HO_6.out (fun _ hk => trivial)⟩, ⟨by repeat (first | (with_reducible first | exact HB.out | apply below_alloc | apply pw_below_drewN | apply below_drew1) | exact HB.out)⟩⟩
                                                                · rw [if_neg c91] at H
                                                                  exact absurd H (by simp)
                                                              · rw [if_neg c90] at H
                                                                exact absurd H (by simp)
                                                            · rw [if_neg c88] at H
                                                              have c88b0 : ((rdOf ByteArray.empty x6_1 (l1.length : Int)).toList == ([109, 97, 114, 107] : List UInt8)) = false := beq_eq_false_iff_ne.mpr c88
                                                              have c88b1 : ((rdOf ByteArray.empty x6_1 (l1.length : Int)).toList != ([109, 97, 114, 107] : List UInt8)) = true := bne_iff_ne.mpr c88
                                                              have H' := Aside0.mk H
                                                              clear H
                                                              have q95 : ((l0.length : Int) : Int) ≤ ((x5_1.length : Int) : Int) := of_decide_eq_true (by first | (with_reducible assumption) | assumption)
                                                              obtain ⟨i095, hi095, _, hsz95, _⟩ := info_parts info2
                                                              have hroom95 : x5_1.length ≤ co39 := (Kd.R_reads' HO_5.out).2.1
                                                              have hC95 : Kd.C (Kd.int .i64) _ Ao39 x5_1.length x5_1 := (Kd.R_reads' HO_5.out).2.2
                                                              (try clear hcut38); (try clear hcut48); (try clear hcut92); have hcut95 := cut_to (P := Try.prog) 22 2 .i64 Try.underlying22 hi095 Ao39 x5_1.length co39 (l0.length : Int) (of_decide_eq_true (by first | (with_reducible assumption) | assumption)) q95 hroom95
                                                              have hr95 := Kd.C_take (m := ((l0.length : Int) : Int).toNat) hC95 (by first | exact Int.toNat_le.mpr q95 | omega)
                                                              have hy95 : y202.length = ((l0.length : Int) : Int).toNat := (by rw [Ny202.out, List.length_take]; omega)
                                                              rw [← Ny202.out] at hr95
                                                              rw [← hy95] at hcut95
                                                              have HR205 := Aside0.mk hr95
                                                              have HC205 := Aside0.mk (show y202.length ≤ co39 from by omega)
                                                              clear hr95 hC95 hroom95 hi095 hsz95
                                                              have KY95 := Aside0.mk hy95
                                                              clear hy95
                                                              have KL95 := Aside0.mk (show ((l0.length : Int) : Int).toNat ≤ x5_1.length from by first | exact Int.toNat_le.mpr q95 | omega)
                                                              replace q95 := eq_true q95
                                                              obtain ⟨Ao96, co96, eo96⟩ := Kd.R_slice HO_8.out
                                                              subst eo96
                                                              go_wp2_with (first | ((with_reducible refine gate_callee (f := 17) rfl ?_); refine goesL_ (some 85) rfl rfl Try.func17 (by kernel_rfl) rfl #[.slice Ao39 y202.length co39, .slice Ao96 y166.length co96] rfl (by (try simp only [List.map_toArray, List.map_cons, List.map_nil]); first | done | rfl | (simp only [List.length_drop, List.length_take]; rfl)) ?_; (with_reducible refine (colonnaderef08_SameInts.calls kj34 _ _ y202 _ _ y166 true _ ?side1 ?side2 ?side3 ?side4 A75.out).mono ?_); (case side1 => repeat (first | exact (by repeat (first | (with_reducible exact HR205.out) | (with_reducible refine Kd.C_alloc ?_ _) | (with_reducible refine Kd.C_drewN ?_ _) | (with_reducible refine Kd.C_drew ?_) | exact HR205.out)) | (with_reducible refine Kd.C_alloc ?_ _) | (with_reducible refine Kd.C_drewN ?_ _) | (with_reducible refine Kd.C_drew ?_))); (case side2 => exact HC205.out); (case side3 => repeat (first | exact (Kd.R_reads' HO_8.out).2.2 | (with_reducible refine Kd.C_alloc ?_ _) | (with_reducible refine Kd.C_drewN ?_ _) | (with_reducible refine Kd.C_drew ?_))); (case side4 => exact (Kd.R_reads' HO_8.out).2.1); rintro e w' ⟨rfl, ⟨nd, rfl⟩⟩; refine ⟨_, rfl, ?_⟩; have q97 : ((l1.length : Int) : Int) ≤ ((x6_1.length : Int) : Int) := of_decide_eq_true (by first | (with_reducible assumption) | assumption); obtain ⟨i097, hi097, _, hsz97, _⟩ := info_parts info9; have hroom97 : x6_1.length ≤ co44 := (Kd.R_reads' HO_6.out).2.1; have hC97 : Kd.C Kd.string _ Ao44 x6_1.length x6_1 := (Kd.R_reads' HO_6.out).2.2; (try clear hcut43); (try clear hcut50); (try clear hcut94); have hcut97 := cut_to (P := Try.prog) 23 9 .i64 Try.underlying23 hi097 Ao44 x6_1.length co44 (l1.length : Int) (of_decide_eq_true (by first | (with_reducible assumption) | assumption)) q97 hroom97; have hr97 := Kd.C_take (m := ((l1.length : Int) : Int).toNat) hC97 (by first | exact Int.toNat_le.mpr q97 | omega); have hy97 : y207.length = ((l1.length : Int) : Int).toNat := (by rw [Ny207.out, List.length_take]; omega); rw [← Ny207.out] at hr97; rw [← hy97] at hcut97; have HR210 := Aside0.mk hr97; have HC210 := Aside0.mk (show y207.length ≤ co44 from by omega); clear hr97 hC97 hroom97 hi097 hsz97; have KY97 := Aside0.mk hy97; clear hy97; have KL97 := Aside0.mk (show ((l1.length : Int) : Int).toNat ≤ x6_1.length from by first | exact Int.toNat_le.mpr q97 | omega); replace q97 := eq_true q97) | (go_at_call 18; (with_reducible refine (colonnaderef08_SameTexts.calls kj34 _ _ y207 _ _ y176 true _ ?side1 ?side2 ?side3 ?side4 A79.out).mono ?_); (case side1 => repeat (first | exact (by repeat (first | (with_reducible exact HR210.out) | (with_reducible refine Kd.C_alloc ?_ _) | (with_reducible refine Kd.C_drewN ?_ _) | (with_reducible refine Kd.C_drew ?_) | exact HR210.out)) | (with_reducible refine Kd.C_alloc ?_ _) | (with_reducible refine Kd.C_drewN ?_ _) | (with_reducible refine Kd.C_drew ?_))); (case side2 => exact HC210.out); (case side3 => repeat (first | exact (Kd.R_reads' HO_9.out).2.2 | (with_reducible refine Kd.C_alloc ?_ _) | (with_reducible refine Kd.C_drewN ?_ _) | (with_reducible refine Kd.C_drew ?_))); (case side4 => exact (Kd.R_reads' HO_9.out).2.1); rintro e w' ⟨rfl, ⟨nd, rfl⟩⟩; have p212 : 0 ≤ ((l0.length : Int) : Int) := of_decide_eq_true (by first | (with_reducible assumption) | assumption); have q212 : (l0.length : Int) < (x5_1.length : Int) := of_decide_eq_true (by first | (with_reducible assumption) | assumption); obtain ⟨ad212, e212, hx212_0⟩ := Kd.at_int (Kd.R_reads' HO_5.out).2.2 (l0.length : Int) p212 q212; cases e212; (try simp only [Go.IntWalk.toNatUp] at hx212_0); replace p212 := eq_true p212; replace q212 := eq_true q212; have p213 : 0 ≤ ((ji83) : Int) := of_decide_eq_true (by first | (with_reducible assumption) | assumption); have q213 : (ji83) < (x5_1.length : Int) := of_decide_eq_true (by first | (with_reducible assumption) | assumption); obtain ⟨ad213, e213, hx213_0⟩ := Kd.at_int (Kd.R_reads' HO_5.out).2.2 (ji83) p213 q213; obtain rfl : ad212 = ad213 := (by injection e213); replace p213 := eq_true p213; replace q213 := eq_true q213; have p214 : 0 ≤ ((l1.length : Int) : Int) := of_decide_eq_true (by first | (with_reducible assumption) | assumption); have q214 : (l1.length : Int) < (x6_1.length : Int) := of_decide_eq_true (by first | (with_reducible assumption) | assumption); obtain ⟨ad214, e214, hx214_0⟩ := Kd.at_string (Kd.R_reads' HO_6.out).2.2 (l1.length : Int) p214 q214; cases e214; (try simp only [Go.IntWalk.toNatUp] at hx214_0); replace p214 := eq_true p214; replace q214 := eq_true q214))
                                                              go_meet
                                                              case rel => exact ⟨_, (true), (by first | rfl | (simp; done) | (simp [*]; done)), H', ⟨by have := HK1.out; have := HJ34.out; first | omega | exact Nat.le_refl _⟩, ⟨by (with_reducible repeat (first | apply Kd.R_alloc | apply Kd.R_drewN | apply Kd.R_drew)); exact Kd.R_mono HO_5.out (fun _ hk => trivial)⟩, ⟨by (with_reducible repeat (first | apply Kd.R_alloc | apply Kd.R_drewN | apply Kd.R_drew)); exact Kd.R_mono HO_6.out (fun _ hk => trivial)⟩, ⟨by repeat (first | (with_reducible first | exact HB.out | apply below_alloc | apply pw_below_drewN | apply below_drew1) | exact HB.out)⟩⟩
                                                          · rw [if_neg c87] at H
                                                            exact absurd H (by simp)
                                                        · rw [if_neg c86] at H
                                                          have c86b0 : ((rd x5_1 (ji83)) == 72) = false := beq_eq_false_iff_ne.mpr c86
                                                          have c86b1 : ((rd x5_1 (ji83)) != 72) = true := bne_iff_ne.mpr c86
                                                          have H' := Aside0.mk H
                                                          clear H
                                                          have q98 : ((l0.length : Int) : Int) ≤ ((x5_1.length : Int) : Int) := of_decide_eq_true (by first | (with_reducible assumption) | assumption)
                                                          obtain ⟨i098, hi098, _, hsz98, _⟩ := info_parts info2
                                                          have hroom98 : x5_1.length ≤ co39 := (Kd.R_reads' HO_5.out).2.1
                                                          have hC98 : Kd.C (Kd.int .i64) _ Ao39 x5_1.length x5_1 := (Kd.R_reads' HO_5.out).2.2
                                                          (try clear hcut38); (try clear hcut48); (try clear hcut92); (try clear hcut95); have hcut98 := cut_to (P := Try.prog) 22 2 .i64 Try.underlying22 hi098 Ao39 x5_1.length co39 (l0.length : Int) (of_decide_eq_true (by first | (with_reducible assumption) | assumption)) q98 hroom98
                                                          have hr98 := Kd.C_take (m := ((l0.length : Int) : Int).toNat) hC98 (by first | exact Int.toNat_le.mpr q98 | omega)
                                                          have hy98 : y202.length = ((l0.length : Int) : Int).toNat := (by rw [Ny202.out, List.length_take]; omega)
                                                          rw [← Ny202.out] at hr98
                                                          rw [← hy98] at hcut98
                                                          have HR205 := Aside0.mk hr98
                                                          have HC205 := Aside0.mk (show y202.length ≤ co39 from by omega)
                                                          clear hr98 hC98 hroom98 hi098 hsz98
                                                          have KY98 := Aside0.mk hy98
                                                          clear hy98
                                                          have KL98 := Aside0.mk (show ((l0.length : Int) : Int).toNat ≤ x5_1.length from by first | exact Int.toNat_le.mpr q98 | omega)
                                                          replace q98 := eq_true q98
                                                          obtain ⟨Ao99, co99, eo99⟩ := Kd.R_slice HO_8.out
                                                          subst eo99
                                                          go_wp2_with (first | ((with_reducible refine gate_callee (f := 17) rfl ?_); refine goesL_ (some 85) rfl rfl Try.func17 (by kernel_rfl) rfl #[.slice Ao39 y202.length co39, .slice Ao99 y166.length co99] rfl (by (try simp only [List.map_toArray, List.map_cons, List.map_nil]); first | done | rfl | (simp only [List.length_drop, List.length_take]; rfl)) ?_; (with_reducible refine (colonnaderef08_SameInts.calls kj34 _ _ y202 _ _ y166 true _ ?side1 ?side2 ?side3 ?side4 A75.out).mono ?_); (case side1 => repeat (first | exact (by repeat (first | (with_reducible exact HR205.out) | (with_reducible refine Kd.C_alloc ?_ _) | (with_reducible refine Kd.C_drewN ?_ _) | (with_reducible refine Kd.C_drew ?_) | exact HR205.out)) | (with_reducible refine Kd.C_alloc ?_ _) | (with_reducible refine Kd.C_drewN ?_ _) | (with_reducible refine Kd.C_drew ?_))); (case side2 => exact HC205.out); (case side3 => repeat (first | exact (Kd.R_reads' HO_8.out).2.2 | (with_reducible refine Kd.C_alloc ?_ _) | (with_reducible refine Kd.C_drewN ?_ _) | (with_reducible refine Kd.C_drew ?_))); (case side4 => exact (Kd.R_reads' HO_8.out).2.1); rintro e w' ⟨rfl, ⟨nd, rfl⟩⟩; refine ⟨_, rfl, ?_⟩; have q100 : ((l1.length : Int) : Int) ≤ ((x6_1.length : Int) : Int) := of_decide_eq_true (by first | (with_reducible assumption) | assumption); obtain ⟨i0100, hi0100, _, hsz100, _⟩ := info_parts info9; have hroom100 : x6_1.length ≤ co44 := (Kd.R_reads' HO_6.out).2.1; have hC100 : Kd.C Kd.string _ Ao44 x6_1.length x6_1 := (Kd.R_reads' HO_6.out).2.2; (try clear hcut43); (try clear hcut50); (try clear hcut94); (try clear hcut97); have hcut100 := cut_to (P := Try.prog) 23 9 .i64 Try.underlying23 hi0100 Ao44 x6_1.length co44 (l1.length : Int) (of_decide_eq_true (by first | (with_reducible assumption) | assumption)) q100 hroom100; have hr100 := Kd.C_take (m := ((l1.length : Int) : Int).toNat) hC100 (by first | exact Int.toNat_le.mpr q100 | omega); have hy100 : y207.length = ((l1.length : Int) : Int).toNat := (by rw [Ny207.out, List.length_take]; omega); rw [← Ny207.out] at hr100; rw [← hy100] at hcut100; have HR210 := Aside0.mk hr100; have HC210 := Aside0.mk (show y207.length ≤ co44 from by omega); clear hr100 hC100 hroom100 hi0100 hsz100; have KY100 := Aside0.mk hy100; clear hy100; have KL100 := Aside0.mk (show ((l1.length : Int) : Int).toNat ≤ x6_1.length from by first | exact Int.toNat_le.mpr q100 | omega); replace q100 := eq_true q100) | (go_at_call 18; (with_reducible refine (colonnaderef08_SameTexts.calls kj34 _ _ y207 _ _ y176 true _ ?side1 ?side2 ?side3 ?side4 A79.out).mono ?_); (case side1 => repeat (first | exact (by repeat (first | (with_reducible exact HR210.out) | (with_reducible refine Kd.C_alloc ?_ _) | (with_reducible refine Kd.C_drewN ?_ _) | (with_reducible refine Kd.C_drew ?_) | exact HR210.out)) | (with_reducible refine Kd.C_alloc ?_ _) | (with_reducible refine Kd.C_drewN ?_ _) | (with_reducible refine Kd.C_drew ?_))); (case side2 => exact HC210.out); (case side3 => repeat (first | exact (Kd.R_reads' HO_9.out).2.2 | (with_reducible refine Kd.C_alloc ?_ _) | (with_reducible refine Kd.C_drewN ?_ _) | (with_reducible refine Kd.C_drew ?_))); (case side4 => exact (Kd.R_reads' HO_9.out).2.1); rintro e w' ⟨rfl, ⟨nd, rfl⟩⟩; have p212 : 0 ≤ ((l0.length : Int) : Int) := of_decide_eq_true (by first | (with_reducible assumption) | assumption); have q212 : (l0.length : Int) < (x5_1.length : Int) := of_decide_eq_true (by first | (with_reducible assumption) | assumption); obtain ⟨ad212, e212, hx212_0⟩ := Kd.at_int (Kd.R_reads' HO_5.out).2.2 (l0.length : Int) p212 q212; cases e212; (try simp only [Go.IntWalk.toNatUp] at hx212_0); replace p212 := eq_true p212; replace q212 := eq_true q212; have p213 : 0 ≤ ((ji83) : Int) := of_decide_eq_true (by first | (with_reducible assumption) | assumption); have q213 : (ji83) < (x5_1.length : Int) := of_decide_eq_true (by first | (with_reducible assumption) | assumption); obtain ⟨ad213, e213, hx213_0⟩ := Kd.at_int (Kd.R_reads' HO_5.out).2.2 (ji83) p213 q213; obtain rfl : ad212 = ad213 := (by injection e213); replace p213 := eq_true p213; replace q213 := eq_true q213))
                                                          go_meet
                                                          case rel => exact ⟨_, (true), (by first | rfl | (simp; done) | (simp [*]; done)), H', ⟨by have := HK1.out; have := HJ34.out; first | omega | exact Nat.le_refl _⟩, ⟨by (with_reducible repeat (first | apply Kd.R_alloc | apply Kd.R_drewN | apply Kd.R_drew)); exact Kd.R_mono HO_5.out (fun _ hk => trivial)⟩, ⟨by (with_reducible repeat (first | apply Kd.R_alloc | apply Kd.R_drewN | apply Kd.R_drew)); exact Kd.R_mono HO_6.out (fun _ hk => trivial)⟩, ⟨by repeat (first | (with_reducible first | exact HB.out | apply below_alloc | apply pw_below_drewN | apply below_drew1) | exact HB.out)⟩⟩
                                                      · rw [if_neg c85] at H
                                                        exact absurd H (by simp)
                                                    · rw [if_neg c84] at H
                                                      exact absurd H (by simp)
                                                  · rw [if_neg c82] at H
                                                    have c82b0 : ((rd x5_1 (l0.length : Int)) == 71) = false := beq_eq_false_iff_ne.mpr c82
                                                    have c82b1 : ((rd x5_1 (l0.length : Int)) != 71) = true := bne_iff_ne.mpr c82
                                                    have H' := Aside0.mk H
                                                    clear H
                                                    have q101 : ((l0.length : Int) : Int) ≤ ((x5_1.length : Int) : Int) := of_decide_eq_true (by first | (with_reducible assumption) | assumption)
                                                    obtain ⟨i0101, hi0101, _, hsz101, _⟩ := info_parts info2
                                                    have hroom101 : x5_1.length ≤ co39 := (Kd.R_reads' HO_5.out).2.1
                                                    have hC101 : Kd.C (Kd.int .i64) _ Ao39 x5_1.length x5_1 := (Kd.R_reads' HO_5.out).2.2
                                                    (try clear hcut38); (try clear hcut48); (try clear hcut92); (try clear hcut95); (try clear hcut98); have hcut101 := cut_to (P := Try.prog) 22 2 .i64 Try.underlying22 hi0101 Ao39 x5_1.length co39 (l0.length : Int) (of_decide_eq_true (by first | (with_reducible assumption) | assumption)) q101 hroom101
                                                    have hr101 := Kd.C_take (m := ((l0.length : Int) : Int).toNat) hC101 (by first | exact Int.toNat_le.mpr q101 | omega)
                                                    have hy101 : y202.length = ((l0.length : Int) : Int).toNat := (by rw [Ny202.out, List.length_take]; omega)
                                                    rw [← Ny202.out] at hr101
                                                    rw [← hy101] at hcut101
                                                    have HR205 := Aside0.mk hr101
                                                    have HC205 := Aside0.mk (show y202.length ≤ co39 from by omega)
                                                    clear hr101 hC101 hroom101 hi0101 hsz101
                                                    have KY101 := Aside0.mk hy101
                                                    clear hy101
                                                    have KL101 := Aside0.mk (show ((l0.length : Int) : Int).toNat ≤ x5_1.length from by first | exact Int.toNat_le.mpr q101 | omega)
                                                    replace q101 := eq_true q101
                                                    obtain ⟨Ao102, co102, eo102⟩ := Kd.R_slice HO_8.out
                                                    subst eo102
                                                    go_wp2_with (first | ((with_reducible refine gate_callee (f := 17) rfl ?_); refine goesL_ (some 85) rfl rfl Try.func17 (by kernel_rfl) rfl #[.slice Ao39 y202.length co39, .slice Ao102 y166.length co102] rfl (by (try simp only [List.map_toArray, List.map_cons, List.map_nil]); first | done | rfl | (simp only [List.length_drop, List.length_take]; rfl)) ?_; (with_reducible refine (colonnaderef08_SameInts.calls kj34 _ _ y202 _ _ y166 true _ ?side1 ?side2 ?side3 ?side4 A75.out).mono ?_); (case side1 => repeat (first | exact (by repeat (first | (with_reducible exact HR205.out) | (with_reducible refine Kd.C_alloc ?_ _) | (with_reducible refine Kd.C_drewN ?_ _) | (with_reducible refine Kd.C_drew ?_) | exact HR205.out)) | (with_reducible refine Kd.C_alloc ?_ _) | (with_reducible refine Kd.C_drewN ?_ _) | (with_reducible refine Kd.C_drew ?_))); (case side2 => exact HC205.out); (case side3 => repeat (first | exact (Kd.R_reads' HO_8.out).2.2 | (with_reducible refine Kd.C_alloc ?_ _) | (with_reducible refine Kd.C_drewN ?_ _) | (with_reducible refine Kd.C_drew ?_))); (case side4 => exact (Kd.R_reads' HO_8.out).2.1); rintro e w' ⟨rfl, ⟨nd, rfl⟩⟩; refine ⟨_, rfl, ?_⟩; have q103 : ((l1.length : Int) : Int) ≤ ((x6_1.length : Int) : Int) := of_decide_eq_true (by first | (with_reducible assumption) | assumption); obtain ⟨i0103, hi0103, _, hsz103, _⟩ := info_parts info9; have hroom103 : x6_1.length ≤ co44 := (Kd.R_reads' HO_6.out).2.1; have hC103 : Kd.C Kd.string _ Ao44 x6_1.length x6_1 := (Kd.R_reads' HO_6.out).2.2; (try clear hcut43); (try clear hcut50); (try clear hcut94); (try clear hcut97); (try clear hcut100); have hcut103 := cut_to (P := Try.prog) 23 9 .i64 Try.underlying23 hi0103 Ao44 x6_1.length co44 (l1.length : Int) (of_decide_eq_true (by first | (with_reducible assumption) | assumption)) q103 hroom103; have hr103 := Kd.C_take (m := ((l1.length : Int) : Int).toNat) hC103 (by first | exact Int.toNat_le.mpr q103 | omega); have hy103 : y207.length = ((l1.length : Int) : Int).toNat := (by rw [Ny207.out, List.length_take]; omega); rw [← Ny207.out] at hr103; rw [← hy103] at hcut103; have HR210 := Aside0.mk hr103; have HC210 := Aside0.mk (show y207.length ≤ co44 from by omega); clear hr103 hC103 hroom103 hi0103 hsz103; have KY103 := Aside0.mk hy103; clear hy103; have KL103 := Aside0.mk (show ((l1.length : Int) : Int).toNat ≤ x6_1.length from by first | exact Int.toNat_le.mpr q103 | omega); replace q103 := eq_true q103) | (go_at_call 18; (with_reducible refine (colonnaderef08_SameTexts.calls kj34 _ _ y207 _ _ y176 true _ ?side1 ?side2 ?side3 ?side4 A79.out).mono ?_); (case side1 => repeat (first | exact (by repeat (first | (with_reducible exact HR210.out) | (with_reducible refine Kd.C_alloc ?_ _) | (with_reducible refine Kd.C_drewN ?_ _) | (with_reducible refine Kd.C_drew ?_) | exact HR210.out)) | (with_reducible refine Kd.C_alloc ?_ _) | (with_reducible refine Kd.C_drewN ?_ _) | (with_reducible refine Kd.C_drew ?_))); (case side2 => exact HC210.out); (case side3 => repeat (first | exact (Kd.R_reads' HO_9.out).2.2 | (with_reducible refine Kd.C_alloc ?_ _) | (with_reducible refine Kd.C_drewN ?_ _) | (with_reducible refine Kd.C_drew ?_))); (case side4 => exact (Kd.R_reads' HO_9.out).2.1); rintro e w' ⟨rfl, ⟨nd, rfl⟩⟩; have p212 : 0 ≤ ((l0.length : Int) : Int) := of_decide_eq_true (by first | (with_reducible assumption) | assumption); have q212 : (l0.length : Int) < (x5_1.length : Int) := of_decide_eq_true (by first | (with_reducible assumption) | assumption); obtain ⟨ad212, e212, hx212_0⟩ := Kd.at_int (Kd.R_reads' HO_5.out).2.2 (l0.length : Int) p212 q212; cases e212; (try simp only [Go.IntWalk.toNatUp] at hx212_0); replace p212 := eq_true p212; replace q212 := eq_true q212))
                                                    go_meet
                                                    case rel => exact ⟨_, (true), (by first | rfl | (simp; done) | (simp [*]; done)), H', ⟨by have := HK1.out; have := HJ34.out; first | omega | exact Nat.le_refl _⟩, ⟨by (with_reducible repeat (first | apply Kd.R_alloc | apply Kd.R_drewN | apply Kd.R_drew)); exact Kd.R_mono HO_5.out (fun _ hk => trivial)⟩, ⟨by (with_reducible repeat (first | apply Kd.R_alloc | apply Kd.R_drewN | apply Kd.R_drew)); exact Kd.R_mono HO_6.out (fun _ hk => trivial)⟩, ⟨by repeat (first | (with_reducible first | exact HB.out | apply below_alloc | apply pw_below_drewN | apply below_drew1) | exact HB.out)⟩⟩
                                                · rw [if_neg c81] at H
                                                  exact absurd H (by simp)
                                              · replace c80 := Bool.eq_false_iff.mpr c80
                                                subst c80
                                                have H1 : (colonnadelaw08_PlainPuts.j2 kj34 l0 l1 x5_1 x6_1 x7_1 true) = some r := by rw [if_neg (show ¬ (false = true) by decide)] at H; exact H
                                                clear H
                                                have H := H1
                                                clear H1
                                                have H' := Aside0.mk H
                                                clear H
                                                have q104 : ((l0.length : Int) : Int) ≤ ((x5_1.length : Int) : Int) := of_decide_eq_true (by first | (with_reducible assumption) | assumption)
                                                obtain ⟨i0104, hi0104, _, hsz104, _⟩ := info_parts info2
                                                have hroom104 : x5_1.length ≤ co39 := (Kd.R_reads' HO_5.out).2.1
                                                have hC104 : Kd.C (Kd.int .i64) _ Ao39 x5_1.length x5_1 := (Kd.R_reads' HO_5.out).2.2
                                                (try clear hcut38); (try clear hcut48); (try clear hcut92); (try clear hcut95); (try clear hcut98); (try clear hcut101); have hcut104 := cut_to (P := Try.prog) 22 2 .i64 Try.underlying22 hi0104 Ao39 x5_1.length co39 (l0.length : Int) (of_decide_eq_true (by first | (with_reducible assumption) | assumption)) q104 hroom104
                                                have hr104 := Kd.C_take (m := ((l0.length : Int) : Int).toNat) hC104 (by first | exact Int.toNat_le.mpr q104 | omega)
                                                have hy104 : y202.length = ((l0.length : Int) : Int).toNat := (by rw [Ny202.out, List.length_take]; omega)
                                                rw [← Ny202.out] at hr104
                                                rw [← hy104] at hcut104
                                                have HR205 := Aside0.mk hr104
                                                have HC205 := Aside0.mk (show y202.length ≤ co39 from by omega)
                                                clear hr104 hC104 hroom104 hi0104 hsz104
                                                have KY104 := Aside0.mk hy104
                                                clear hy104
                                                have KL104 := Aside0.mk (show ((l0.length : Int) : Int).toNat ≤ x5_1.length from by first | exact Int.toNat_le.mpr q104 | omega)
                                                replace q104 := eq_true q104
                                                obtain ⟨Ao105, co105, eo105⟩ := Kd.R_slice HO_8.out
                                                subst eo105
                                                go_wp2_with (first | ((with_reducible refine gate_callee (f := 17) rfl ?_); refine goesL_ (some 85) rfl rfl Try.func17 (by kernel_rfl) rfl #[.slice Ao39 y202.length co39, .slice Ao105 y166.length co105] rfl (by (try simp only [List.map_toArray, List.map_cons, List.map_nil]); first | done | rfl | (simp only [List.length_drop, List.length_take]; rfl)) ?_; (with_reducible refine (colonnaderef08_SameInts.calls kj34 _ _ y202 _ _ y166 true _ ?side1 ?side2 ?side3 ?side4 A75.out).mono ?_); (case side1 => repeat (first | exact (by repeat (first | (with_reducible exact HR205.out) | (with_reducible refine Kd.C_alloc ?_ _) | (with_reducible refine Kd.C_drewN ?_ _) | (with_reducible refine Kd.C_drew ?_) | exact HR205.out)) | (with_reducible refine Kd.C_alloc ?_ _) | (with_reducible refine Kd.C_drewN ?_ _) | (with_reducible refine Kd.C_drew ?_))); (case side2 => exact HC205.out); (case side3 => repeat (first | exact (Kd.R_reads' HO_8.out).2.2 | (with_reducible refine Kd.C_alloc ?_ _) | (with_reducible refine Kd.C_drewN ?_ _) | (with_reducible refine Kd.C_drew ?_))); (case side4 => exact (Kd.R_reads' HO_8.out).2.1); rintro e w' ⟨rfl, ⟨nd, rfl⟩⟩; refine ⟨_, rfl, ?_⟩; have q106 : ((l1.length : Int) : Int) ≤ ((x6_1.length : Int) : Int) := of_decide_eq_true (by first | (with_reducible assumption) | assumption); obtain ⟨i0106, hi0106, _, hsz106, _⟩ := info_parts info9; have hroom106 : x6_1.length ≤ co44 := (Kd.R_reads' HO_6.out).2.1; have hC106 : Kd.C Kd.string _ Ao44 x6_1.length x6_1 := (Kd.R_reads' HO_6.out).2.2; (try clear hcut43); (try clear hcut50); (try clear hcut94); (try clear hcut97); (try clear hcut100); (try clear hcut103); have hcut106 := cut_to (P := Try.prog) 23 9 .i64 Try.underlying23 hi0106 Ao44 x6_1.length co44 (l1.length : Int) (of_decide_eq_true (by first | (with_reducible assumption) | assumption)) q106 hroom106; have hr106 := Kd.C_take (m := ((l1.length : Int) : Int).toNat) hC106 (by first | exact Int.toNat_le.mpr q106 | omega); have hy106 : y207.length = ((l1.length : Int) : Int).toNat := (by rw [Ny207.out, List.length_take]; omega); rw [← Ny207.out] at hr106; rw [← hy106] at hcut106; have HR210 := Aside0.mk hr106; have HC210 := Aside0.mk (show y207.length ≤ co44 from by omega); clear hr106 hC106 hroom106 hi0106 hsz106; have KY106 := Aside0.mk hy106; clear hy106; have KL106 := Aside0.mk (show ((l1.length : Int) : Int).toNat ≤ x6_1.length from by first | exact Int.toNat_le.mpr q106 | omega); replace q106 := eq_true q106) | (go_at_call 18; (with_reducible refine (colonnaderef08_SameTexts.calls kj34 _ _ y207 _ _ y176 false _ ?side1 ?side2 ?side3 ?side4 A79.out).mono ?_); (case side1 => repeat (first | exact (by repeat (first | (with_reducible exact HR210.out) | (with_reducible refine Kd.C_alloc ?_ _) | (with_reducible refine Kd.C_drewN ?_ _) | (with_reducible refine Kd.C_drew ?_) | exact HR210.out)) | (with_reducible refine Kd.C_alloc ?_ _) | (with_reducible refine Kd.C_drewN ?_ _) | (with_reducible refine Kd.C_drew ?_))); (case side2 => exact HC210.out); (case side3 => repeat (first | exact (Kd.R_reads' HO_9.out).2.2 | (with_reducible refine Kd.C_alloc ?_ _) | (with_reducible refine Kd.C_drewN ?_ _) | (with_reducible refine Kd.C_drew ?_))); (case side4 => exact (Kd.R_reads' HO_9.out).2.1); rintro e w' ⟨rfl, ⟨nd, rfl⟩⟩))
                                                go_meet
                                                case rel => exact ⟨_, (true), (by first | rfl | (simp; done) | (simp [*]; done)), H', ⟨by have := HK1.out; have := HJ34.out; first | omega | exact Nat.le_refl _⟩, ⟨by (with_reducible repeat (first | apply Kd.R_alloc | apply Kd.R_drewN | apply Kd.R_drew)); exact Kd.R_mono HO_5.out (fun _ hk => trivial)⟩, ⟨by (with_reducible repeat (first | apply Kd.R_alloc | apply Kd.R_drewN | apply Kd.R_drew)); exact Kd.R_mono HO_6.out (fun _ hk => trivial)⟩, ⟨by repeat (first | (with_reducible first | exact HB.out | apply below_alloc | apply pw_below_drewN | apply below_drew1) | exact HB.out)⟩⟩
                                            · rw [if_neg c78] at H
                                              exact absurd H (by simp)
                                          · rw [if_neg c77] at H
                                            exact absurd H (by simp)
                                        · replace c76 := Bool.eq_false_iff.mpr c76
                                          subst c76
                                          have H1 : (colonnadelaw08_PlainPuts.j2 kj34 l0 l1 x5_1 x6_1 x7_1 true) = some r := by rw [if_neg (show ¬ (false = true) by decide)] at H; exact H
                                          clear H
                                          have H := H1
                                          clear H1
                                          have H' := Aside0.mk H
                                          clear H
                                          have q107 : ((l0.length : Int) : Int) ≤ ((x5_1.length : Int) : Int) := of_decide_eq_true (by first | (with_reducible assumption) | assumption)
                                          obtain ⟨i0107, hi0107, _, hsz107, _⟩ := info_parts info2
                                          have hroom107 : x5_1.length ≤ co39 := (Kd.R_reads' HO_5.out).2.1
                                          have hC107 : Kd.C (Kd.int .i64) _ Ao39 x5_1.length x5_1 := (Kd.R_reads' HO_5.out).2.2
                                          (try clear hcut38); (try clear hcut48); (try clear hcut92); (try clear hcut95); (try clear hcut98); (try clear hcut101); (try clear hcut104); have hcut107 := cut_to (P := Try.prog) 22 2 .i64 Try.underlying22 hi0107 Ao39 x5_1.length co39 (l0.length : Int) (of_decide_eq_true (by first | (with_reducible assumption) | assumption)) q107 hroom107
                                          have hr107 := Kd.C_take (m := ((l0.length : Int) : Int).toNat) hC107 (by first | exact Int.toNat_le.mpr q107 | omega)
                                          have hy107 : y202.length = ((l0.length : Int) : Int).toNat := (by rw [Ny202.out, List.length_take]; omega)
                                          rw [← Ny202.out] at hr107
                                          rw [← hy107] at hcut107
                                          have HR205 := Aside0.mk hr107
                                          have HC205 := Aside0.mk (show y202.length ≤ co39 from by omega)
                                          clear hr107 hC107 hroom107 hi0107 hsz107
                                          have KY107 := Aside0.mk hy107
                                          clear hy107
                                          have KL107 := Aside0.mk (show ((l0.length : Int) : Int).toNat ≤ x5_1.length from by first | exact Int.toNat_le.mpr q107 | omega)
                                          replace q107 := eq_true q107
                                          obtain ⟨Ao108, co108, eo108⟩ := Kd.R_slice HO_8.out
                                          subst eo108
                                          go_wp2_with (first | ((with_reducible refine gate_callee (f := 17) rfl ?_); refine goesL_ (some 85) rfl rfl Try.func17 (by kernel_rfl) rfl #[.slice Ao39 y202.length co39, .slice Ao108 y166.length co108] rfl (by (try simp only [List.map_toArray, List.map_cons, List.map_nil]); first | done | rfl | (simp only [List.length_drop, List.length_take]; rfl)) ?_; (with_reducible refine (colonnaderef08_SameInts.calls kj34 _ _ y202 _ _ y166 false _ ?side1 ?side2 ?side3 ?side4 A75.out).mono ?_); (case side1 => repeat (first | exact (by repeat (first | (with_reducible exact HR205.out) | (with_reducible refine Kd.C_alloc ?_ _) | (with_reducible refine Kd.C_drewN ?_ _) | (with_reducible refine Kd.C_drew ?_) | exact HR205.out)) | (with_reducible refine Kd.C_alloc ?_ _) | (with_reducible refine Kd.C_drewN ?_ _) | (with_reducible refine Kd.C_drew ?_))); (case side2 => exact HC205.out); (case side3 => repeat (first | exact (Kd.R_reads' HO_8.out).2.2 | (with_reducible refine Kd.C_alloc ?_ _) | (with_reducible refine Kd.C_drewN ?_ _) | (with_reducible refine Kd.C_drew ?_))); (case side4 => exact (Kd.R_reads' HO_8.out).2.1); rintro e w' ⟨rfl, ⟨nd, rfl⟩⟩; refine ⟨_, rfl, ?_⟩))
                                          go_meet
                                          case rel => exact ⟨_, (true), (by first | rfl | (simp; done) | (simp [*]; done)), H', ⟨by have := HK1.out; have := HJ34.out; first | omega | exact Nat.le_refl _⟩, ⟨by (with_reducible repeat (first | apply Kd.R_alloc | apply Kd.R_drewN | apply Kd.R_drew)); exact Kd.R_mono HO_5.out (fun _ hk => trivial)⟩, ⟨by (with_reducible repeat (first | apply Kd.R_alloc | apply Kd.R_drewN | apply Kd.R_drew)); exact Kd.R_mono HO_6.out (fun _ hk => trivial)⟩, ⟨by repeat (first | (with_reducible first | exact HB.out | apply below_alloc | apply pw_below_drewN | apply below_drew1) | exact HB.out)⟩⟩
                                      · rw [if_neg c74] at H
                                        exact absurd H (by simp)
                                    · rw [if_neg c73] at H
                                      exact absurd H (by simp)
                                  case rest =>
                                    clear HC72
                                    try clear c1
                                    try clear q1
                                    try clear p2
                                    try clear q2
                                    try clear hx2
                                    try clear c5
                                    try clear p6
                                    try clear hcv6
                                    try clear c7
                                    try clear c8
                                    try clear c9
                                    try clear q9
                                    try clear q10
                                    try clear c15
                                    try clear c16
                                    try clear c17
                                    try clear p21
                                    try clear q21
                                    try clear hx21
                                    try clear c53
                                    try clear c53b0
                                    try clear c53b1
                                    try clear c55
                                    try clear c55b0
                                    try clear c55b1
                                    try clear p64
                                    try clear hcv64
                                    try clear hcv69
                                    try clear c71
                                    try clear c73
                                    try clear c73b0
                                    try clear c73b1
                                    try clear c74
                                    try clear c74b0
                                    try clear c74b1
                                    try clear c76
                                    try clear c77
                                    try clear c77b0
                                    try clear c77b1
                                    try clear c78
                                    try clear c78b0
                                    try clear c78b1
                                    try clear c80
                                    try clear c81
                                    try clear c81b0
                                    try clear c81b1
                                    try clear c82
                                    try clear c82b0
                                    try clear c82b1
                                    try clear c84
                                    try clear c84b0
                                    try clear c85
                                    try clear c85b0
                                    try clear c86
                                    try clear c86b0
                                    try clear c86b1
                                    try clear c87
                                    try clear c87b0
                                    try clear c87b1
                                    try clear c88
                                    try clear c88b0
                                    try clear c88b1
                                    try clear c90
                                    try clear c90b0
                                    try clear c91
                                    try clear c91b0
                                    try clear q92
                                    try clear q94
                                    try clear q95
                                    try clear q97
                                    try clear q98
                                    try clear q100
                                    try clear q101
                                    try clear q103
                                    try clear q104
                                    try clear q106
                                    try clear q107
                                    try clear hx212_0
                                    try clear hx213_0
                                    try clear hx214_0
                                    try clear hx215_0
                                    try clear p2
                                    try clear p212
                                    try clear p213
                                    try clear p214
                                    try clear p215
                                    try clear q100
                                    try clear q101
                                    try clear q103
                                    try clear q104
                                    try clear q106
                                    try clear q107
                                    try clear q212
                                    try clear q213
                                    try clear q214
                                    try clear q215
                                    try clear q92
                                    try clear q94
                                    try clear q95
                                    try clear q97
                                    try clear q98
                                    obtain ⟨kq, x129_71, rfl, HA, HJ71, HO_5, HO_6, HB⟩ := hcut
                                    cases kq with
                                    | zero => exact absurd HA.out (by simp [colonnadelaw08_PlainPuts.j2])
                                    | succ kj71 =>
                                      have H := HA.out
                                      clear HA
                                      simp only [colonnadelaw08_PlainPuts.j2] at H
                                      by_cases c109 : x129_71 = true
                                      · subst c109
                                        have H1 : (some false) = some r := by rw [if_pos rfl] at H; exact H
                                        clear H
                                        have H := H1
                                        clear H1
                                        obtain rfl := Option.some.inj H
                                        go_wp2
                                        go_ret
                                        exact ⟨by first | rfl | (simp [errW_none, errW_some] <;> rfl) | (simp [*, errW_none, errW_some] <;> rfl), by repeat (first | (with_reducible first | exact HB.out | apply below_alloc | apply pw_below_drewN | apply below_drew1) | exact HB.out)⟩
                                      · replace c109 := Bool.eq_false_iff.mpr c109
                                        subst c109
                                        have H1 : (colonnadelaw08_PlainPuts.l1 kj71 l0 l1 x5_1 x6_1 x7_1 0) = some r := by rw [if_neg (show ¬ (false = true) by decide)] at H; exact H
                                        clear H
                                        have H := H1
                                        clear H1
                                        have H' := Aside0.mk H
                                        clear H
                                        go_wp2
                                        (try simp only [add_plain])
                                        (try simp only [add_plain])
                                        (try simp only [add_plain])
                                        go_loopg [15] kj71 (fun kq v15 w' => ∃ (x5_4 : List Int) (x15_4 : Int), v15 = .int .i64 x15_4 ∧ Aside0 (colonnadelaw08_PlainPuts.l1 kq l0 l1 x5_4 x6_1 x7_1 x15_4 = some r) ∧ Aside0 (kq ≤ kj71) ∧ Aside0 (Kd.R (Kd.int .i64) 2 w' w.heap.size (fun _ => True) (.slice Ao39 x5_1.length co39) x5_4) ∧ Aside0 (Kd.R Kd.string 9 w' w.heap.size (fun _ => True) (.slice Ao44 x6_1.length co44) x6_1) ∧ Aside0 (Below w.heap.size w w'))
                                        case atStart => exact ⟨(x5_1), (0), (by first | rfl | (simp; done) | (simp [*]; done)), H', ⟨Nat.le_refl _⟩, ⟨by (with_reducible repeat (first | apply Kd.R_alloc | apply Kd.R_drewN | apply Kd.R_drew)); exact HO_5.out⟩, ⟨by (with_reducible repeat (first | apply Kd.R_alloc | apply Kd.R_drewN | apply Kd.R_drew)); exact HO_6.out⟩, ⟨by repeat (first | (with_reducible first | exact HB.out | apply below_alloc | apply pw_below_drewN | apply below_drew1) | exact HB.out)⟩⟩
                                        case round =>
                                          clear H'
                                          try clear c1
                                          try clear q1
                                          try clear p2
                                          try clear q2
                                          try clear hx2
                                          try clear c5
                                          try clear p6
                                          try clear hcv6
                                          try clear c7
                                          try clear c8
                                          try clear c9
                                          try clear q9
                                          try clear c10
                                          try clear q10
                                          try clear c15
                                          try clear c16
                                          try clear c17
                                          try clear p21
                                          try clear q21
                                          try clear hx21
                                          try clear c53
                                          try clear c53b0
                                          try clear c53b1
                                          try clear c55
                                          try clear c55b0
                                          try clear c55b1
                                          try clear p64
                                          try clear hcv64
                                          try clear hcv69
                                          try clear c71
                                          try clear c73
                                          try clear c73b0
                                          try clear c73b1
                                          try clear c74
                                          try clear c74b0
                                          try clear c74b1
                                          try clear c76
                                          try clear c77
                                          try clear c77b0
                                          try clear c77b1
                                          try clear c78
                                          try clear c78b0
                                          try clear c78b1
                                          try clear c80
                                          try clear c81
                                          try clear c81b0
                                          try clear c81b1
                                          try clear c82
                                          try clear c82b0
                                          try clear c82b1
                                          try clear c84
                                          try clear c84b0
                                          try clear c85
                                          try clear c85b0
                                          try clear c86
                                          try clear c86b0
                                          try clear c86b1
                                          try clear c87
                                          try clear c87b0
                                          try clear c87b1
                                          try clear c88
                                          try clear c88b0
                                          try clear c88b1
                                          try clear c90
                                          try clear c90b0
                                          try clear c91
                                          try clear c91b0
                                          try clear q92
                                          try clear q94
                                          try clear q95
                                          try clear q97
                                          try clear q98
                                          try clear q100
                                          try clear q101
                                          try clear q103
                                          try clear q104
                                          try clear q106
                                          try clear q107
                                          try clear c109
                                          try clear hx212_0
                                          try clear hx213_0
                                          try clear hx214_0
                                          try clear hx215_0
                                          try clear p2
                                          try clear p21
                                          try clear p212
                                          try clear p213
                                          try clear p214
                                          try clear p215
                                          try clear p6
                                          try clear p64
                                          try clear q1
                                          try clear q10
                                          try clear q100
                                          try clear q101
                                          try clear q103
                                          try clear q104
                                          try clear q106
                                          try clear q107
                                          try clear q2
                                          try clear q21
                                          try clear q212
                                          try clear q213
                                          try clear q214
                                          try clear q215
                                          try clear q9
                                          try clear q92
                                          try clear q94
                                          try clear q95
                                          try clear q97
                                          try clear q98
                                          obtain ⟨x5_4, x15_4, rfl, HA, HK4, HO_5, HO_6, HB⟩ := hrel
                                          have hl5_4 := (Kd.R_reads' HO_5.out).1
                                          rw [hl5_4] at HO_5
                                          (try simp only [hl5_4])
                                          (try simp only [hl5_4] at HO_6)
                                          cases gk with
                                          | zero => exact absurd HA.out (by simp [colonnadelaw08_PlainPuts.l1])
                                          | succ k4 =>
                                            have H := HA.out
                                            clear HA
                                            simp only [colonnadelaw08_PlainPuts.l1] at H
                                            by_cases c110 : x15_4 < (l0.length : Int)
                                            · rw [if_pos c110] at H
                                              have c110b0 : decide (x15_4 < (l0.length : Int)) = true := decide_eq_true c110
                                              (try (have c110b0z_ := c110b0; simp only [hl5_4] at c110b0z_))
                                              clear c110
                                              by_cases c111 : 0 ≤ x15_4
                                              · rw [if_pos c111] at H
                                                have c111b0 : decide (0 ≤ x15_4) = true := decide_eq_true c111
                                                clear c111
                                                by_cases c112 : x15_4 < (x5_4.length : Int)
                                                · rw [if_pos c112] at H
                                                  have c112b0 : decide (x15_4 < (x5_4.length : Int)) = true := decide_eq_true c112
                                                  (try (have c112b0z_ := c112b0; simp only [hl5_4] at c112b0z_))
                                                  clear c112
                                                  obtain ⟨y217, hy217⟩ : ∃ y_ : List Int, y_ = (x5_4.set (x15_4 : Int).toNat (Go.bits .xor .i64 (rd x5_4 x15_4) 5)) := ⟨_, rfl⟩
                                                  replace H : (colonnadelaw08_PlainPuts.l1 k4 l0 l1 y217 x6_1 x7_1 (wrap64 (x15_4 + 1))) = some r := by first | (rw [hy217]; with_reducible exact H) | (have H2_ := (Option.bind_some _ _).symm.trans H; rw [hy217]; with_reducible exact H2_) | (have H2_ := (Option.bind_some _ _).symm.trans H; with_reducible exact H2_) | with_reducible exact H | (rw [hy217]; exact H) | exact H
                                                  have Ny217 := Aside0.mk hy217
                                                  clear hy217
                                                  have H' := Aside0.mk H
                                                  clear H
                                                  have p216 : 0 ≤ (x15_4 : Int) := of_decide_eq_true (by first | (with_reducible assumption) | assumption)
                                                  have q216 : x15_4 < (x5_4.length : Int) := of_decide_eq_true (by first | (with_reducible assumption) | assumption)
                                                  obtain ⟨ad216, e216, hx216_0⟩ := Kd.at_int (Kd.R_reads' HO_5.out).2.2 x15_4 p216 q216
                                                  cases e216
                                                  replace p216 := eq_true p216
                                                  replace q216 := eq_true q216
                                                  have p113 : 0 ≤ (x15_4 : Int) := of_decide_eq_true (by first | (with_reducible assumption) | assumption)
                                                  have q113 : (x15_4 : Int) < ((x5_4.length : Int) : Int) := of_decide_eq_true (by first | (with_reducible assumption) | assumption)
                                                  obtain ⟨go113, co113, eo113, gb113, gl113, cl113, HG113⟩ := Kd.R_form HO_5.out (by omega)
                                                  (first | cases eo113 | (injection eo113 with ea_ en_ ec_; (first | subst ea_ | (injection ea_ with ea_; subst ea_)); subst ec_; clear en_))
                                                  have GB113 := Aside0.mk gb113
                                                  have GG113 := Aside0.mk HG113
                                                  clear gb113 gl113 HG113
                                                  (first | simp only [add_plain] at hx216_0 | skip)
                                                  obtain ⟨hx113_0, hf113_0⟩ := Kd.R_celln 0 HO_5.out (x15_4 : Int) p113 q113
                                                  replace p113 := eq_true p113
                                                  replace q113 := eq_true q113
                                                  have HP114 := Kd.R_putg HO_5.out (x15_4 : Int) (Go.bits .xor .i64 (rd x5_4 x15_4) 5)
                                                  go_wp2_with (first | ((with_reducible refine gate_store (t := 2) (p := 143) rfl ?_); refine store_event (t := 2) (p := 143) (v := ?vo_w115) (w1 := (wr.setCell ⟨go113, (x15_4 : Int).toNat, none⟩ (.int .i64 (Go.bits .xor .i64 (rd x5_4 x15_4) 5)))) ?hg ?ho ?hn ?hr ?_; (case ho => rfl); (case hg => rfl); (case hn => rfl); (case hr => first | (go_simp; done) | (go_simp; rfl)); intro w115 hw; have hg : wr.grownBy w115 (some go113) := (by rw [hw]; exact HP114.2); have hp_ : Kd.R (Kd.int .i64) 2 w115 w.heap.size (fun _ => True) (.slice (some ⟨go113, 0, none⟩) x5_4.length co39) y217 := (by rw [hw, Ny217.out]; exact HP114.1); clear HP114; have n0_ := Aside0.mk (hp_); have n1_ := Aside0.mk (Kd.R_over' (v := (.slice (some ⟨go113, 0, none⟩) x5_4.length co39)) (by (with_reducible repeat (first | apply Kd.R_alloc | apply Kd.R_drewN | apply Kd.R_drew)); exact HO_6.out) (Kd.R_typed HO_5.out) (by decide) hg); have n2_ := Aside0.mk ((by rw [hw]; exact below_set (HB.out) GB113.out : Below w.heap.size w w115)); clear HO_5; clear HO_6; clear HB; have HO_5 := n0_; have HO_6 := n1_; have HB := n2_; clear n0_ n1_ n2_; clear hg hw hp_))
                                                  (try simp only [← hl5_4])
                                                  go_roundg k4
                                                  case measure => have := HK1.out; have := HJ34.out; have := HJ71.out; have := HK4.out; omega
                                                  case rel => exact ⟨(y217), (wrap64 (x15_4 + 1)), (by first | rfl | (simp; done) | (simp [*]; done)), H', ⟨by have := HK1.out; have := HJ34.out; have := HJ71.out; have := HK4.out; omega⟩, ⟨by (try simp only [hl5_4]); (with_reducible repeat (first | apply Kd.R_alloc | apply Kd.R_drewN | apply Kd.R_drew)); first | exact HO_5.out | exact Kd.R_mono HO_5.out (fun _ hk => hk.2)⟩, ⟨by (try simp only [hl5_4]); (with_reducible repeat (first | apply Kd.R_alloc | apply Kd.R_drewN | apply Kd.R_drew)); first | exact HO_6.out | exact Kd.R_mono HO_6.out (fun _ hk => hk.2)⟩, ⟨by repeat (first | (with_reducible first | exact HB.out | apply below_alloc | apply pw_below_drewN | apply below_drew1) | exact HB.out)⟩⟩
                                                · rw [if_neg c112] at H
                                                  exact absurd H (by simp)
                                              · rw [if_neg c111] at H
                                                exact absurd H (by simp)
                                            · rw [if_neg c110] at H
                                              have c110b0 : decide (x15_4 < (l0.length : Int)) = false := decide_eq_false c110
                                              (try (have c110b0z_ := c110b0; simp only [hl5_4] at c110b0z_))
                                              clear c110
                                              have H' := Aside0.mk H
                                              clear H
                                              go_wp2
                                              (try simp only [add_plain])
                                              (try simp only [add_plain])
                                              (try simp only [add_plain])
                                              go_loopg [16] k4 (fun kq v16 w' => ∃ (x6_5 : List ByteArray) (x16_5 : Int), v16 = .int .i64 x16_5 ∧ Aside0 (colonnadelaw08_PlainPuts.l2 kq l0 l1 x5_4 x6_5 x7_1 x16_5 = some r) ∧ Aside0 (kq ≤ k4) ∧ Aside0 (Kd.R (Kd.int .i64) 2 w' w.heap.size (fun _ => True) (.slice Ao39 x5_4.length co39) x5_4) ∧ Aside0 (Kd.R Kd.string 9 w' w.heap.size (fun _ => True) (.slice Ao44 x6_1.length co44) x6_5) ∧ Aside0 (Below w.heap.size w w'))
                                              case atStart => exact ⟨(x6_1), (0), (by first | rfl | (simp; done) | (simp [*]; done)), H', ⟨Nat.le_refl _⟩, ⟨by (try simp only [hl5_4]); (with_reducible repeat (first | apply Kd.R_alloc | apply Kd.R_drewN | apply Kd.R_drew)); exact HO_5.out⟩, ⟨by (try simp only [hl5_4]); (with_reducible repeat (first | apply Kd.R_alloc | apply Kd.R_drewN | apply Kd.R_drew)); exact HO_6.out⟩, ⟨by repeat (first | (with_reducible first | exact HB.out | apply below_alloc | apply pw_below_drewN | apply below_drew1) | exact HB.out)⟩⟩
                                              case round =>
                                                clear H'
                                                try clear c1
                                                try clear p1
                                                try clear q1
                                                try clear hx1
                                                try clear p2
                                                try clear q2
                                                try clear hx2
                                                try clear c5
                                                try clear p6
                                                try clear hcv6
                                                try clear c7
                                                try clear c8
                                                try clear c9
                                                try clear q9
                                                try clear c10
                                                try clear q10
                                                try clear c11
                                                try clear p11
                                                try clear q11
                                                try clear hx11
                                                try clear hf11
                                                try clear c15
                                                try clear c16
                                                try clear c17
                                                try clear p21
                                                try clear q21
                                                try clear hx21
                                                try clear c53
                                                try clear c53b0
                                                try clear c53b1
                                                try clear c55
                                                try clear c55b0
                                                try clear c55b1
                                                try clear p64
                                                try clear hcv64
                                                try clear hcv69
                                                try clear c71
                                                try clear c73
                                                try clear c73b0
                                                try clear c73b1
                                                try clear c74
                                                try clear c74b0
                                                try clear c74b1
                                                try clear c76
                                                try clear c77
                                                try clear c77b0
                                                try clear c77b1
                                                try clear c78
                                                try clear c78b0
                                                try clear c78b1
                                                try clear c80
                                                try clear c81
                                                try clear c81b0
                                                try clear c81b1
                                                try clear c82
                                                try clear c82b0
                                                try clear c82b1
                                                try clear c84
                                                try clear c84b0
                                                try clear c85
                                                try clear c85b0
                                                try clear c86
                                                try clear c86b0
                                                try clear c86b1
                                                try clear c87
                                                try clear c87b0
                                                try clear c87b1
                                                try clear c88
                                                try clear c88b0
                                                try clear c88b1
                                                try clear c90
                                                try clear c90b0
                                                try clear c91
                                                try clear c91b0
                                                try clear q92
                                                try clear q94
                                                try clear q95
                                                try clear q97
                                                try clear q98
                                                try clear q100
                                                try clear q101
                                                try clear q103
                                                try clear q104
                                                try clear q106
                                                try clear q107
                                                try clear c109
                                                try clear c110
                                                try clear c110b0
                                                try clear c111
                                                try clear c111b0
                                                try clear c112
                                                try clear c112b0
                                                try clear p113
                                                try clear q113
                                                try clear hx113
                                                try clear hf113
                                                try clear hx113_0
                                                try clear hx212_0
                                                try clear hx213_0
                                                try clear hx214_0
                                                try clear hx215_0
                                                try clear hx216_0
                                                try clear p113
                                                try clear p2
                                                try clear p21
                                                try clear p212
                                                try clear p213
                                                try clear p214
                                                try clear p215
                                                try clear p216
                                                try clear p6
                                                try clear p64
                                                try clear q1
                                                try clear q10
                                                try clear q100
                                                try clear q101
                                                try clear q103
                                                try clear q104
                                                try clear q106
                                                try clear q107
                                                try clear q113
                                                try clear q2
                                                try clear q21
                                                try clear q212
                                                try clear q213
                                                try clear q214
                                                try clear q215
                                                try clear q216
                                                try clear q9
                                                try clear q92
                                                try clear q94
                                                try clear q95
                                                try clear q97
                                                try clear q98
                                                obtain ⟨x6_5, x16_5, rfl, HA, HK5, HO_5, HO_6, HB⟩ := hrel
                                                have hl6_5 := (Kd.R_reads' HO_6.out).1
                                                rw [hl6_5] at HO_6
                                                (try simp only [hl6_5])
                                                (try simp only [hl6_5] at HO_5)
                                                cases gk with
                                                | zero => exact absurd HA.out (by simp [colonnadelaw08_PlainPuts.l2])
                                                | succ k5 =>
                                                  have H := HA.out
                                                  clear HA
                                                  simp only [colonnadelaw08_PlainPuts.l2] at H
                                                  by_cases c116 : x16_5 < (l1.length : Int)
                                                  · rw [if_pos c116] at H
                                                    have c116b0 : decide (x16_5 < (l1.length : Int)) = true := decide_eq_true c116
                                                    (try (have c116b0z_ := c116b0; simp only [hl5_4, hl6_5] at c116b0z_))
                                                    clear c116
                                                    by_cases c117 : 0 ≤ x16_5
                                                    · rw [if_pos c117] at H
                                                      have c117b0 : decide (0 ≤ x16_5) = true := decide_eq_true c117
                                                      clear c117
                                                      by_cases c118 : x16_5 < (x6_5.length : Int)
                                                      · rw [if_pos c118] at H
                                                        have c118b0 : decide (x16_5 < (x6_5.length : Int)) = true := decide_eq_true c118
                                                        (try (have c118b0z_ := c118b0; simp only [hl5_4, hl6_5] at c118b0z_))
                                                        clear c118
                                                        obtain ⟨y218, hy218⟩ : ∃ y_ : List ByteArray, y_ = (x6_5.set (x16_5 : Int).toNat (⟨#[120]⟩ : ByteArray)) := ⟨_, rfl⟩
                                                        replace H : (colonnadelaw08_PlainPuts.l2 k5 l0 l1 x5_4 y218 x7_1 (wrap64 (x16_5 + 1))) = some r := by first | (rw [hy218]; with_reducible exact H) | (have H2_ := (Option.bind_some _ _).symm.trans H; rw [hy218]; with_reducible exact H2_) | (have H2_ := (Option.bind_some _ _).symm.trans H; with_reducible exact H2_) | with_reducible exact H | (rw [hy218]; exact H) | exact H
                                                        have Ny218 := Aside0.mk hy218
                                                        clear hy218
                                                        have H' := Aside0.mk H
                                                        clear H
                                                        have p119 : 0 ≤ (x16_5 : Int) := of_decide_eq_true (by first | (with_reducible assumption) | assumption)
                                                        have q119 : (x16_5 : Int) < ((x6_5.length : Int) : Int) := of_decide_eq_true (by first | (with_reducible assumption) | assumption)
                                                        obtain ⟨go119, co119, eo119, gb119, gl119, cl119, HG119⟩ := Kd.R_form HO_6.out (by omega)
                                                        (first | cases eo119 | (injection eo119 with ea_ en_ ec_; (first | subst ea_ | (injection ea_ with ea_; subst ea_)); subst ec_; clear en_))
                                                        have GB119 := Aside0.mk gb119
                                                        have GG119 := Aside0.mk HG119
                                                        clear gb119 gl119 HG119
                                                        obtain ⟨hx119_0, hf119_0⟩ := Kd.R_celln (⟨#[]⟩ : ByteArray) HO_6.out (x16_5 : Int) p119 q119
                                                        replace p119 := eq_true p119
                                                        replace q119 := eq_true q119
                                                        have HP120 := Kd.R_putg HO_6.out (x16_5 : Int) (⟨#[120]⟩ : ByteArray)
                                                        go_wp2_with (first | ((with_reducible refine gate_store (t := 9) (p := 152) rfl ?_); refine store_event (t := 9) (p := 152) (v := ?vo_w121) (w1 := (wr.setCell ⟨go119, (x16_5 : Int).toNat, none⟩ (.string (⟨#[120]⟩ : ByteArray)))) ?hg ?ho ?hn ?hr ?_; (case ho => rfl); (case hg => rfl); (case hn => rfl); (case hr => first | (go_simp; done) | (go_simp; rfl)); intro w121 hw; have hg : wr.grownBy w121 (some go119) := (by rw [hw]; exact HP120.2); have hp_ : Kd.R Kd.string 9 w121 w.heap.size (fun _ => True) (.slice (some ⟨go119, 0, none⟩) x6_5.length co44) y218 := (by rw [hw, Ny218.out]; exact HP120.1); clear HP120; have n0_ := Aside0.mk (Kd.R_over' (v := (.slice (some ⟨go119, 0, none⟩) x6_5.length co44)) (by (with_reducible repeat (first | apply Kd.R_alloc | apply Kd.R_drewN | apply Kd.R_drew)); exact HO_5.out) (Kd.R_typed HO_6.out) (by decide) hg); have n1_ := Aside0.mk (hp_); have n2_ := Aside0.mk ((by rw [hw]; exact below_set (HB.out) GB119.out : Below w.heap.size w w121)); clear HO_5; clear HO_6; clear HB; have HO_5 := n0_; have HO_6 := n1_; have HB := n2_; clear n0_ n1_ n2_; clear hg hw hp_))
                                                        (try simp only [← hl6_5])
                                                        go_roundg k5
                                                        case measure => have := HK1.out; have := HJ34.out; have := HJ71.out; have := HK4.out; have := HK5.out; omega
                                                        case rel => exact ⟨(y218), (wrap64 (x16_5 + 1)), (by first | rfl | (simp; done) | (simp [*]; done)), H', ⟨by have := HK1.out; have := HJ34.out; have := HJ71.out; have := HK4.out; have := HK5.out; omega⟩, ⟨by (try simp only [hl5_4]); (try simp only [hl6_5]); (with_reducible repeat (first | apply Kd.R_alloc | apply Kd.R_drewN | apply Kd.R_drew)); first | exact HO_5.out | exact Kd.R_mono HO_5.out (fun _ hk => hk.2)⟩, ⟨by (try simp only [hl5_4]); (try simp only [hl6_5]); (with_reducible repeat (first | apply Kd.R_alloc | apply Kd.R_drewN | apply Kd.R_drew)); first | exact HO_6.out | exact Kd.R_mono HO_6.out (fun _ hk => hk.2)⟩, ⟨by repeat (first | (with_reducible first | exact HB.out | apply below_alloc | apply pw_below_drewN | apply below_drew1) | exact HB.out)⟩⟩
                                                      · rw [if_neg c118] at H
                                                        exact absurd H (by simp)
                                                    · rw [if_neg c117] at H
                                                      exact absurd H (by simp)
                                                  · rw [if_neg c116] at H
                                                    have c116b0 : decide (x16_5 < (l1.length : Int)) = false := decide_eq_false c116
                                                    (try (have c116b0z_ := c116b0; simp only [hl5_4, hl6_5] at c116b0z_))
                                                    clear c116
                                                    have H' := Aside0.mk H
                                                    clear H
                                                    go_wp2
                                                    (try simp only [← hl5_4, ← hl6_5])
                                                    go_roundg k5
                                                    case measure => have := HK1.out; have := HJ34.out; have := HJ71.out; have := HK4.out; have := HK5.out; omega
                                                    case rel => exact ⟨(x5_4), (x6_5), (wrap64 (x7_1 + 1)), (by first | rfl | (simp; done) | (simp [*]; done)), H', ⟨by have := HK1.out; have := HJ34.out; have := HJ71.out; have := HK4.out; have := HK5.out; omega⟩, ⟨by (try simp only [hl5_4]); (try simp only [hl6_5]); (with_reducible repeat (first | apply Kd.R_alloc | apply Kd.R_drewN | apply Kd.R_drew)); first | exact HO_5.out | exact Kd.R_mono HO_5.out (fun _ hk => hk.2)⟩, ⟨by (try simp only [hl5_4]); (try simp only [hl6_5]); (with_reducible repeat (first | apply Kd.R_alloc | apply Kd.R_drewN | apply Kd.R_drew)); first | exact HO_6.out | exact Kd.R_mono HO_6.out (fun _ hk => hk.2)⟩, ⟨by repeat (first | (with_reducible first | exact HB.out | apply below_alloc | apply pw_below_drewN | apply below_drew1) | exact HB.out)⟩⟩
                          · rw [if_neg c27] at H
                            exact absurd H (by simp)
                        · rw [if_neg c26] at H
                          exact absurd H (by simp)
                      · rw [if_neg c25] at H
                        exact absurd H (by simp)
                    · rw [if_neg c24] at H
                      exact absurd H (by simp)
                  · rw [if_neg c23] at H
                    exact absurd H (by simp)
                · rw [if_neg c22] at H
                  exact absurd H (by simp)
              · rw [if_neg c21] at H
                have c21b0 : decide (x7_1 < 2) = false := decide_eq_false c21
                clear c21
                obtain rfl := Option.some.inj H
                go_wp2
                go_ret
                exact ⟨by first | rfl | (simp [errW_none, errW_some] <;> rfl) | (simp [*, errW_none, errW_some] <;> rfl), by repeat (first | (with_reducible first | exact HB.out | apply below_alloc | apply pw_below_drewN | apply below_drew1) | exact HB.out)⟩
        · rw [if_neg c6] at H
          exact absurd H (by simp)
      · rw [if_neg c5] at H
        exact absurd H (by simp)
    · rw [if_neg c4] at H
      exact absurd H (by simp)
  · rw [if_neg c3] at H
    exact absurd H (by simp)

end Go.Proofs.Ytkepimkabfoapab.PPlainPuts
-- SAMECUT
