-- Written by xprint.py, this session's own program over the kit's print; Lean checks it.
import Derived.Test.YtlpllhpnnhablaaPDictTextOrderx0
import Derived.Test.YtlpllhpnnhablaaPDictTextOrderx1
import Derived.Test.YtlpllhpnnhablaaPDictTextOrderx2
import Derived.Test.YtlpllhpnnhablaaPDictTextOrderx3
import Derived.Test.YtlpllhpnnhablaaPDictTextOrderx6
namespace Go.Proofs.Ytlpllhpnnhablaa.PDictTextOrder
open Go.RowKit Go.Proofs.YtlpllhpnnhablaaW.PrintWords Go.Proofs.YtlpllhpnnhablaaW.PrintLast Go.Proofs.YtlpllhpnnhablaaW.PrintMore
attribute [local go_sem] max2_int min2_int max_two min_two max_three min_three max_four min_four   -- for this text's walks alone
set_option linter.unusedVariables false
set_option linter.unusedSimpArgs false
theorem string_leqX (t : TypeId) (a b : ByteArray) : binOp .leq t (.string a) (.string b) = pure (.bool (!(Op.bytesLess b.toList a.toList))) := by rw [← Go.Proofs.Ytlpllhpnnhablaa.XMapS.leq_form]; simp [binOp, Op.stringOp]
theorem string_gtrX (t : TypeId) (a b : ByteArray) : binOp .gtr t (.string a) (.string b) = pure (.bool (Op.bytesLess b.toList a.toList)) := by rw [← Bool.not_not (Op.bytesLess b.toList a.toList), ← Go.Proofs.Ytlpllhpnnhablaa.XMapS.leq_form]; simp [binOp, Op.stringOp]
theorem string_geqX (t : TypeId) (a b : ByteArray) : binOp .geq t (.string a) (.string b) = pure (.bool !(Op.bytesLess a.toList b.toList)) := by simp [binOp, Op.stringOp]
attribute [local go_sem] string_leqX string_gtrX string_geqX

/-! ### colonnadelaw09_twin: function 37 -/
def colonnadelaw09_twin.f (l0 : List Int) : Option (List Int) := if ([] : List Int).length + l0.length < 140737488355328 then (some (([] : List Int) ++ l0)) else (none)
set_option maxHeartbeats 8000000 in
set_option maxRecDepth 100000 in
theorem colonnadelaw09_twin.calls (A0 : Option Addr) (c0 : Nat) (l0 : List Int) (r : List Int) (w : World) (hr0 : Kd.C (Kd.int .u8) w A0 l0.length l0) (hc0 : l0.length ≤ c0) (h : colonnadelaw09_twin.f l0 = some r) :
    Calls Try.prog 37 #[.slice A0 l0.length c0] w fun e w' => ∃ v0_ : Value, e = .returned (v0_) ∧ Kd.R (Kd.int .u8) 5 w' w.heap.size (fun _ => True) v0_ r ∧ Below w.heap.size w w' := by
  have HR0 := Aside0.mk hr0
  have HC0 := Aside0.mk hc0
  clear hr0 hc0
  have HB := Aside0.mk (Below.refl w.heap.size w)
  have H : (if ([] : List Int).length + l0.length < 140737488355328 then (some (([] : List Int) ++ l0)) else (none)) = some r := h
  clear h
  by_cases c2 : ([] : List Int).length + l0.length < 140737488355328
  · rw [if_pos c2] at H
    have LMc2 := Aside0.mk c2
    clear c2
    obtain ⟨y205, hy205⟩ : ∃ y_ : List Int, y_ = (([] : List Int) ++ l0) := ⟨_, rfl⟩
    replace H : (some y205) = some r := by first | (rw [hy205]; with_reducible exact H) | (have H2_ := (Option.bind_some _ _).symm.trans H; rw [hy205]; with_reducible exact H2_) | (have H2_ := (Option.bind_some _ _).symm.trans H; with_reducible exact H2_) | with_reducible exact H | (rw [hy205]; exact H) | exact H
    have Ny205 := Aside0.mk hy205
    clear hy205
    obtain rfl := Option.some.inj H
    go_enter Try.func37, Try.ntmps37
    go_wp2_with (first | ((with_reducible refine gate_builtin (b := .append) (xs := #[.tmp 4, .tmp 5]) rfl ?_); at_builtin; refine Kd.R_append_rows (Kd.int .u8) (w0 := w) w.heap.size rfl (.tmp 4) (.tmp 5) 46 5 (.int .u8 0) 1 rfl Try.underlying46 info5 rfl (by decide) (by omega) (.slice none 0 0) ([] : List Int) l0 _ _ _ (fun _ => True) (fun _ => False) rfl rfl ?aO ?aR (fun _ _ h => h) (fun _ h => h.elim) ?aF ?aB ?aS ?aL ?_; (case aR => repeat (first | exact HR0.out | (with_reducible refine Kd.C_alloc ?_ _) | (with_reducible refine Kd.C_drewN ?_ _) | (with_reducible refine Kd.C_drew ?_))); (case aB => exact (by repeat (first | (with_reducible first | exact HB.out | apply below_alloc | apply pw_below_drewN | apply below_drew1) | exact HB.out))); (case aF => exact (fun _ _ => trivial)); (case aO => exact ((Kd.R_nil _ _ _ _ (fun _ => True)))); (case aS => exact (below_size (by repeat (first | (with_reducible first | exact HB.out | apply below_alloc | apply pw_below_drewN | apply below_drew1) | exact HB.out)))); (case aL => have := LMc2.out; omega); intro v206 w3 ho hb hg hat; rw [← Ny205.out] at ho; have n0_ := Aside0.mk (hb); have n1_ := Aside0.mk (ho); clear HB; have HB := n0_; have HO207 := n1_; clear n0_ n1_; clear ho hb hg hat))
    go_ret
    exact ⟨_, by first | rfl | (simp [errW_none, errW_some] <;> rfl) | (simp [*, errW_none, errW_some] <;> rfl), by (with_reducible repeat (first | apply Kd.R_alloc | apply Kd.R_drewN | apply Kd.R_drew)); exact HO207.out, by repeat (first | (with_reducible first | exact HB.out | apply below_alloc | apply pw_below_drewN | apply below_drew1) | exact HB.out)⟩
  · rw [if_neg c2] at H
    exact absurd H (by simp)

/-! ### colonnadelaw09_known: function 22 -/
theorem XKn.litC (k : IntKind) (W : World) (e : TypeId) (xs : List Int) (h : xs.length ≤ 9223372036854775807) : (Kd.int k).C (W.alloc (.cells (nums k xs).toArray e)) (some ⟨W.heap.size, 0, none⟩) xs.length xs :=
  (Kd.R_reads' (Kd.R_of_own (h1 := fun _ => rfl) (own_lit W 0 e k xs (Nat.zero_le _) h) (ok := fun _ => True) (fun _ _ => trivial))).2.2
theorem XKn.lit1 : XMap.keysOf [7, 3, 7, 5] = [3, 5, 7] := by decide
theorem XKn.lit2 : [7, 3, 7, 5].map (XBuild.code [3, 5, 7]) = [2, 0, 2, 1] := by decide
theorem XKn.put1 : XPut.putM 40 [7, 3, 7] = some ([2, 3, 0, 0, 0, 0, 0, 0, 0, 7, 0, 0, 0, 0, 0, 0, 0, 5], 0) := by kernel_rfl
theorem XKn.ints1 : XCur.intsM 40 [2, 3, 0, 0, 0, 0, 0, 0, 0, 7, 0, 0, 0, 0, 0, 0, 0, 5] 3 = some ([3, 7], 1, [5], 0) := by kernel_rfl
theorem XKn.find1 : dict_Find_int64.f 40 [3, 5, 7] 5 = some (1, true) := by kernel_rfl
theorem XKn.floor1 : dict_Floor_int64.f 40 [3, 5, 7] 6 = some 2 := by kernel_rfl
theorem XKn.same1 : colonnadelaw09_sameInts.f 40 [3, 5, 7] [3, 5, 7] = some true := by kernel_rfl
theorem XKn.same2 : colonnadelaw09_sameInts.f 40 [3, 7] [3, 7] = some true := by kernel_rfl
theorem XKn.codes1 : colonnadelaw09_sameCodes.f 40 [2, 0, 2, 1] [2, 0, 2, 1] = some true := by kernel_rfl
theorem XKn.twin1 : colonnadelaw09_twin.f [2, 3, 0, 0, 0, 0, 0, 0, 0, 7, 0, 0, 0, 0, 0, 0, 0, 5] = some [2, 3, 0, 0, 0, 0, 0, 0, 0, 7, 0, 0, 0, 0, 0, 0, 0, 5] := by kernel_rfl
theorem XKn.strs1 : strOfNums [5] = ⟨#[5]⟩ := rfl
set_option maxHeartbeats 4000000 in
set_option maxRecDepth 100000 in
/-- known() answers true -/
theorem XKn.known (w : World) : Calls Try.prog 22 #[] w fun e w' => e = .returned (.bool true) ∧ Below w.heap.size w w' := by
  go_enter Try.func22, Try.ntmps22
  go_wp2_with fail
  refine (XBuild.build (some ⟨w.heap.size, 0, none⟩) 4 [7, 3, 7, 5] _ (XKn.litC .i64 w 2 [7, 3, 7, 5] (by decide)) (by decide) (by decide) (by decide) XBuild.sortC).mono ?_
  rintro e w1 ⟨Ak, b, SK, hSK, rfl, hCk, hRc, hap, hB⟩
  obtain rfl : SK = [3, 5, 7] := hSK.trans XKn.lit1
  rw [XKn.lit2] at hRc
  have HC1 := Aside0.mk hCk
  have HD1 := Aside0.mk (Kd.R_reads' hRc).2.2
  have HB1 := Aside0.mk (below_then (below_alloc (Below.refl w.heap.size w) _) (below_alloc (Below.refl w.heap.size w) (.cells #[.int .i64 7, .int .i64 3, .int .i64 7, .int .i64 5] 2)).size hB)
  clear hSK hCk hRc hap hB
  go_wp2_with fail
  refine (XPut.putInts 40 (some ⟨w1.heap.size, 0, none⟩) 3 [7, 3, 7] _ _ (XKn.litC .i64 w1 2 [7, 3, 7] (by decide)) (by decide) (by decide) XKn.put1).mono ?_
  rintro e w2 ⟨vb, rfl, hvb, hb2⟩
  have h12 := below_alloc (Below.refl w1.heap.size w1) (.cells #[.int .i64 7, .int .i64 3, .int .i64 7] 2)
  have hb12 := below_then h12 h12.size hb2
  have HC2 := Aside0.mk (Kd.C_below HC1.out hb12)
  have HD2 := Aside0.mk (Kd.C_below HD1.out hb12)
  have HB2 := Aside0.mk (below_then HB1.out HB1.out.size hb12)
  obtain ⟨A2, n2, rfl⟩ := Kd.R_slice hvb
  obtain ⟨_, hn2, hCb⟩ := Kd.R_reads' hvb
  have HE2 := Aside0.mk hCb
  have HN2 := Aside0.mk hn2
  clear hvb hb2 h12 hb12 hn2 hCb HC1 HD1 HB1
  go_wp2_with fail
  refine (colonnadelaw09_twin.calls A2 n2 _ _ w2 HE2.out HN2.out XKn.twin1).mono ?_
  rintro e w3 ⟨v3, rfl, hv3, hb3⟩
  obtain ⟨A3, n3, rfl⟩ := Kd.R_slice hv3
  obtain ⟨_, hn3, hC3⟩ := Kd.R_reads' hv3
  have HE3 := Aside0.mk (Kd.C_below HE2.out hb3)
  have HC3 := Aside0.mk (Kd.C_below HC2.out hb3)
  have HD3 := Aside0.mk (Kd.C_below HD2.out hb3)
  have HF3 := Aside0.mk hC3
  have HB3 := Aside0.mk (below_then HB2.out HB2.out.size hb3)
  clear hv3 hn3 hC3 hb3 HE2 HC2 HD2 HB2 HN2
  go_wp2_with fail
  refine (XCur.ints 40 A3 n3 _ 3 _ w3 HF3.out (by decide) XKn.ints1).mono ?_
  rintro e w4 ⟨vk, vl, rfl, hvk, hvl, hb4⟩
  simp only at hvk hvl
  obtain ⟨A4, n4, rfl⟩ := Kd.R_slice hvk
  obtain ⟨A5, n5, rfl⟩ := Kd.R_slice hvl
  have HE4 := Aside0.mk (Kd.C_below HE3.out hb4)
  have HC4 := Aside0.mk (Kd.C_below HC3.out hb4)
  have HD4 := Aside0.mk (Kd.C_below HD3.out hb4)
  have HK4 := Aside0.mk (Kd.R_reads' hvk).2.2
  have HL4 := Aside0.mk (Kd.own_of_R hvl)
  have HKn := Aside0.mk (Kd.R_reads' hvk).2.1
  have HB4 := Aside0.mk (below_then HB3.out HB3.out.size hb4)
  clear hvk hvl hb4 HE3 HC3 HD3 HF3 HB3
  go_wp2_with fail
  refine (dict_Find_int64.calls 40 Ak 3 [3, 5, 7] 5 1 true w4 HC4.out (by decide) XKn.find1).mono ?_
  rintro e w5 ⟨rfl, ⟨nd5, rfl⟩⟩
  have h45 := pw_below_drewN (Below.refl w4.heap.size w4) nd5
  generalize w4.drewN nd5 = w5 at h45 ⊢
  have HE5 := Aside0.mk (Kd.C_below HE4.out h45)
  have HC5 := Aside0.mk (Kd.C_below HC4.out h45)
  have HD5 := Aside0.mk (Kd.C_below HD4.out h45)
  have HK5 := Aside0.mk (Kd.C_below HK4.out h45)
  have HL5 := Aside0.mk (pw_own_below HL4.out h45)
  have HB5 := Aside0.mk (below_then HB4.out HB4.out.size h45)
  clear h45 HE4 HC4 HD4 HK4 HL4 HB4
  go_wp2_with fail
  refine (colonnadelaw09_sameInts.calls 40 Ak 3 [3, 5, 7] (some ⟨w5.heap.size, 0, none⟩) 3 [3, 5, 7] true (w5.alloc (.cells #[.int .i64 3, .int .i64 5, .int .i64 7] 2)) (Kd.C_alloc HC5.out _) (by decide) (XKn.litC .i64 w5 2 [3, 5, 7] (by decide)) (by decide) XKn.same1).mono ?_
  rintro e w6 ⟨rfl, ⟨nd6, rfl⟩⟩
  have h56 := pw_below_drewN (below_alloc (Below.refl w5.heap.size w5) (.cells #[.int .i64 3, .int .i64 5, .int .i64 7] 2)) nd6
  generalize (w5.alloc (.cells #[.int .i64 3, .int .i64 5, .int .i64 7] 2)).drewN nd6 = w6 at h56 ⊢
  have HE6 := Aside0.mk (Kd.C_below HE5.out h56)
  have HC6 := Aside0.mk (Kd.C_below HC5.out h56)
  have HD6 := Aside0.mk (Kd.C_below HD5.out h56)
  have HK6 := Aside0.mk (Kd.C_below HK5.out h56)
  have HL6 := Aside0.mk (pw_own_below HL5.out h56)
  have HB6 := Aside0.mk (below_then HB5.out HB5.out.size h56)
  clear h56 HE5 HC5 HD5 HK5 HL5 HB5
  go_wp2_with fail
  refine (colonnadelaw09_sameCodes.calls 40 (some ⟨b, 0, none⟩) 4 [2, 0, 2, 1] (some ⟨w6.heap.size, 0, none⟩) 4 [2, 0, 2, 1] true (w6.alloc (.cells #[.int .u64 2, .int .u64 0, .int .u64 2, .int .u64 1] 80)) (Kd.C_alloc HD6.out _) (by decide) (XKn.litC .u64 w6 80 [2, 0, 2, 1] (by decide)) (by decide) XKn.codes1).mono ?_
  rintro e w7 ⟨rfl, ⟨nd7, rfl⟩⟩
  have h67 := pw_below_drewN (below_alloc (Below.refl w6.heap.size w6) (.cells #[.int .u64 2, .int .u64 0, .int .u64 2, .int .u64 1] 80)) nd7
  generalize (w6.alloc (.cells #[.int .u64 2, .int .u64 0, .int .u64 2, .int .u64 1] 80)).drewN nd7 = w7 at h67 ⊢
  have HC7 := Aside0.mk (Kd.C_below HC6.out h67)
  have HK7 := Aside0.mk (Kd.C_below HK6.out h67)
  have HL7 := Aside0.mk (pw_own_below HL6.out h67)
  have HB7 := Aside0.mk (below_then HB6.out HB6.out.size h67)
  obtain ⟨ad, rfl, hx0⟩ := Kd.at_int (Kd.C_below HE6.out h67) 0 (by decide) (by decide)
  obtain ⟨ad', e', hx1⟩ := Kd.at_int (Kd.C_below HE6.out h67) 17 (by decide) (by decide)
  cases e'
  rw [show rd [2, 3, 0, 0, 0, 0, 0, 0, 0, 7, 0, 0, 0, 0, 0, 0, 0, 5] 0 = 2 from rfl, show ad.add (0 : Int).toNat = ad from by simp [Addr.add]] at hx0
  rw [show rd [2, 3, 0, 0, 0, 0, 0, 0, 0, 7, 0, 0, 0, 0, 0, 0, 0, 5] 17 = 5 from rfl, show ad.add (17 : Int).toNat = ⟨ad.block, ad.off + 17, none⟩ from Addr.add_succ' ad 16] at hx1
  clear h67 HE6 HC6 HD6 HK6 HL6 HB6
  go_wp2_with fail
  refine (colonnadelaw09_sameInts.calls 40 A4 n4 [3, 7] (some ⟨w7.heap.size, 0, none⟩) 2 [3, 7] true (w7.alloc (.cells #[.int .i64 3, .int .i64 7] 2)) (Kd.C_alloc HK7.out _) HKn.out (XKn.litC .i64 w7 2 [3, 7] (by decide)) (by decide) XKn.same2).mono ?_
  rintro e w8 ⟨rfl, ⟨nd8, rfl⟩⟩
  have h78 := pw_below_drewN (below_alloc (Below.refl w7.heap.size w7) (.cells #[.int .i64 3, .int .i64 7] 2)) nd8
  generalize (w7.alloc (.cells #[.int .i64 3, .int .i64 7] 2)).drewN nd8 = w8 at h78 ⊢
  have HC8 := Aside0.mk (Kd.C_below HC7.out h78)
  have HB8 := Aside0.mk (below_then HB7.out HB7.out.size h78)
  have hcv : (convert 46 9 (.slice A5 1 n5)).run Try.prog w8 = .ok (.string (strOfNums [5])) w8 := own_string (P := Try.prog) (src := 46) (dst := 9) Try.underlying46 Try.underlying5 Try.underlying9 (pw_own_below HL7.out h78)
  rw [XKn.strs1] at hcv
  clear h78 HC7 HK7 HL7 HB7 hx0 hx1
  go_wp2_with fail
  refine (dict_Floor_int64.calls 40 Ak 3 [3, 5, 7] 6 2 w8 HC8.out (by decide) XKn.floor1).mono ?_
  rintro e w9 ⟨rfl, ⟨nd9, rfl⟩⟩
  go_wp2_with fail
  go_ret
  exact ⟨rfl, pw_below_drewN HB8.out nd9⟩

def colonnadelaw09_known.f : Option Bool := some true
theorem colonnadelaw09_known.calls (r : Bool) (w : World) (h : colonnadelaw09_known.f = some r) : Calls Try.prog 22 #[] w fun e w' => e = .returned (.bool r) ∧ Below w.heap.size w w' := by
  obtain rfl := Option.some.inj h
  exact XKn.known w

-- NOT PRINTED: function 136 (slices_insertionSortCmpFunc_string)

-- NOT PRINTED: function 165 (slices_siftDownCmpFunc_string)

-- NOT PRINTED: function 137 (slices_heapSortCmpFunc_string)

-- NOT PRINTED: function 138 (slices_breakPatternsCmpFunc_string)

-- NOT PRINTED: function 172 (slices_order2CmpFunc_string)

-- NOT PRINTED: function 167 (slices_medianCmpFunc_string)

-- NOT PRINTED: function 166 (slices_medianAdjacentCmpFunc_string)

-- NOT PRINTED: function 139 (slices_choosePivotCmpFunc_string)

-- NOT PRINTED: function 140 (slices_reverseRangeCmpFunc_string)

-- NOT PRINTED: function 141 (slices_partialInsertionSortCmpFunc_string)

-- NOT PRINTED: function 142 (slices_partitionEqualCmpFunc_string)

-- NOT PRINTED: function 143 (slices_partitionCmpFunc_string)

-- NOT PRINTED: function 94 (slices_pdqsortCmpFunc_string)

-- NOT PRINTED: function 55 (slices_SortFunc_string_string)

/-! ### cmp_isNaN_string: function 95 -/
def cmp_isNaN_string.f (a0 : ByteArray) : Option (Bool) := some (a0.toList != a0.toList)
set_option maxHeartbeats 8000000 in
set_option maxRecDepth 100000 in
theorem cmp_isNaN_string.calls (a0 : ByteArray) (r : Bool) (w : World) (h : cmp_isNaN_string.f a0 = some r) :
    Calls Try.prog 95 #[.string a0] w fun e w' => e = .returned (.bool r) ∧ Drawn0 w w' := by
  have H : (some (a0.toList != a0.toList)) = some r := h
  clear h
  obtain rfl := Option.some.inj H
  go_enter Try.func95, Try.ntmps95
  go_wp2
  go_ret
  exact ⟨by first | rfl | (simp; done) | (simp [*]; done), by repeat (first | exact Drawn0.refl _ | apply Drawn0.step)⟩

/-! ### cmp_Compare_string: function 56 -/
def cmp_Compare_string.f (a0 : ByteArray) (a1 : ByteArray) : Option (Int) := (cmp_isNaN_string.f a0).bind fun t208 => ((cmp_isNaN_string.f a1).bind fun t209 => (if t208 = true then (if t209 = true then (some 0) else (some (-1))) else (if t209 = true then (some 1) else (if (Op.bytesLess a0.toList a1.toList) = true then (some (-1)) else (if (Op.bytesLess a1.toList a0.toList) = true then (some 1) else (some 0))))))
set_option maxHeartbeats 8000000 in
set_option maxRecDepth 100000 in
theorem cmp_Compare_string.calls (a0 : ByteArray) (a1 : ByteArray) (r : Int) (w : World) (h : cmp_Compare_string.f a0 a1 = some r) :
    Calls Try.prog 56 #[.string a0, .string a1] w fun e w' => e = .returned (.int .i64 r) ∧ Drawn0 w w' := by
  have H : ((cmp_isNaN_string.f a0).bind fun t208 => ((cmp_isNaN_string.f a1).bind fun t209 => (if t208 = true then (if t209 = true then (some 0) else (some (-1))) else (if t209 = true then (some 1) else (if (Op.bytesLess a0.toList a1.toList) = true then (some (-1)) else (if (Op.bytesLess a1.toList a0.toList) = true then (some 1) else (some 0))))))) = some r := h
  clear h
  replace H := Option.bind_eq_some_iff.mp H
  obtain ⟨t208, A30, H⟩ := H
  replace H : ((cmp_isNaN_string.f a1).bind fun t209 => (if t208 = true then (if t209 = true then (some 0) else (some (-1))) else (if t209 = true then (some 1) else (if (Op.bytesLess a0.toList a1.toList) = true then (some (-1)) else (if (Op.bytesLess a1.toList a0.toList) = true then (some 1) else (some 0)))))) = some r := H
  have A3 := Aside0.mk A30
  clear A30
  replace H := Option.bind_eq_some_iff.mp H
  obtain ⟨t209, A40, H⟩ := H
  replace H : (if t208 = true then (if t209 = true then (some 0) else (some (-1))) else (if t209 = true then (some 1) else (if (Op.bytesLess a0.toList a1.toList) = true then (some (-1)) else (if (Op.bytesLess a1.toList a0.toList) = true then (some 1) else (some 0))))) = some r := H
  have A4 := Aside0.mk A40
  clear A40
  by_cases c5 : t208 = true
  · subst c5
    have H1 : (if t209 = true then (some 0) else (some (-1))) = some r := by rw [if_pos rfl] at H; exact H
    clear H
    have H := H1
    clear H1
    by_cases c6 : t209 = true
    · subst c6
      have H1 : (some 0) = some r := by rw [if_pos rfl] at H; exact H
      clear H
      have H := H1
      clear H1
      obtain rfl := Option.some.inj H
      go_enter Try.func56, Try.ntmps56
      go_wp2_with (first | ((with_reducible refine gate_callee (f := 95) rfl ?_); refine goesL_ (some 8) rfl rfl Try.func95 (by kernel_rfl) rfl #[.string a0] rfl (by (try simp only [List.map_toArray, List.map_cons, List.map_nil]); first | done | rfl | (simp only [List.length_drop, List.length_take]; rfl)) ?_; (with_reducible refine (cmp_isNaN_string.calls a0 true _ A3.out).mono ?_); rintro e w' ⟨rfl, ⟨nd, rfl⟩⟩; refine ⟨_, rfl, ?_⟩) | ((with_reducible refine gate_callee (f := 95) rfl ?_); refine goesL_ (some 10) rfl rfl Try.func95 (by kernel_rfl) rfl #[.string a1] rfl (by (try simp only [List.map_toArray, List.map_cons, List.map_nil]); first | done | rfl | (simp only [List.length_drop, List.length_take]; rfl)) ?_; (with_reducible refine (cmp_isNaN_string.calls a1 true _ A4.out).mono ?_); rintro e w' ⟨rfl, ⟨nd, rfl⟩⟩; refine ⟨_, rfl, ?_⟩))
      go_ret
      exact ⟨by first | rfl | (simp; done) | (simp [*]; done), by repeat (first | exact Drawn0.refl _ | apply Drawn0.step)⟩
    · replace c6 := Bool.eq_false_iff.mpr c6
      subst c6
      have H1 : (some (-1)) = some r := by rw [if_neg (show ¬ (false = true) by decide)] at H; exact H
      clear H
      have H := H1
      clear H1
      obtain rfl := Option.some.inj H
      go_enter Try.func56, Try.ntmps56
      go_wp2_with (first | ((with_reducible refine gate_callee (f := 95) rfl ?_); refine goesL_ (some 8) rfl rfl Try.func95 (by kernel_rfl) rfl #[.string a0] rfl (by (try simp only [List.map_toArray, List.map_cons, List.map_nil]); first | done | rfl | (simp only [List.length_drop, List.length_take]; rfl)) ?_; (with_reducible refine (cmp_isNaN_string.calls a0 true _ A3.out).mono ?_); rintro e w' ⟨rfl, ⟨nd, rfl⟩⟩; refine ⟨_, rfl, ?_⟩) | ((with_reducible refine gate_callee (f := 95) rfl ?_); refine goesL_ (some 10) rfl rfl Try.func95 (by kernel_rfl) rfl #[.string a1] rfl (by (try simp only [List.map_toArray, List.map_cons, List.map_nil]); first | done | rfl | (simp only [List.length_drop, List.length_take]; rfl)) ?_; (with_reducible refine (cmp_isNaN_string.calls a1 false _ A4.out).mono ?_); rintro e w' ⟨rfl, ⟨nd, rfl⟩⟩; refine ⟨_, rfl, ?_⟩))
      go_ret
      exact ⟨by first | rfl | (simp; done) | (simp [*]; done), by repeat (first | exact Drawn0.refl _ | apply Drawn0.step)⟩
  · replace c5 := Bool.eq_false_iff.mpr c5
    subst c5
    have H1 : (if t209 = true then (some 1) else (if (Op.bytesLess a0.toList a1.toList) = true then (some (-1)) else (if (Op.bytesLess a1.toList a0.toList) = true then (some 1) else (some 0)))) = some r := by rw [if_neg (show ¬ (false = true) by decide)] at H; exact H
    clear H
    have H := H1
    clear H1
    by_cases c7 : t209 = true
    · subst c7
      have H1 : (some 1) = some r := by rw [if_pos rfl] at H; exact H
      clear H
      have H := H1
      clear H1
      obtain rfl := Option.some.inj H
      go_enter Try.func56, Try.ntmps56
      go_wp2_with (first | ((with_reducible refine gate_callee (f := 95) rfl ?_); refine goesL_ (some 8) rfl rfl Try.func95 (by kernel_rfl) rfl #[.string a0] rfl (by (try simp only [List.map_toArray, List.map_cons, List.map_nil]); first | done | rfl | (simp only [List.length_drop, List.length_take]; rfl)) ?_; (with_reducible refine (cmp_isNaN_string.calls a0 false _ A3.out).mono ?_); rintro e w' ⟨rfl, ⟨nd, rfl⟩⟩; refine ⟨_, rfl, ?_⟩) | ((with_reducible refine gate_callee (f := 95) rfl ?_); refine goesL_ (some 10) rfl rfl Try.func95 (by kernel_rfl) rfl #[.string a1] rfl (by (try simp only [List.map_toArray, List.map_cons, List.map_nil]); first | done | rfl | (simp only [List.length_drop, List.length_take]; rfl)) ?_; (with_reducible refine (cmp_isNaN_string.calls a1 true _ A4.out).mono ?_); rintro e w' ⟨rfl, ⟨nd, rfl⟩⟩; refine ⟨_, rfl, ?_⟩))
      go_ret
      exact ⟨by first | rfl | (simp; done) | (simp [*]; done), by repeat (first | exact Drawn0.refl _ | apply Drawn0.step)⟩
    · replace c7 := Bool.eq_false_iff.mpr c7
      subst c7
      have H1 : (if (Op.bytesLess a0.toList a1.toList) = true then (some (-1)) else (if (Op.bytesLess a1.toList a0.toList) = true then (some 1) else (some 0))) = some r := by rw [if_neg (show ¬ (false = true) by decide)] at H; exact H
      clear H
      have H := H1
      clear H1
      by_cases c8 : (Op.bytesLess a0.toList a1.toList) = true
      · rw [if_pos c8] at H
        have c8b0 : (Op.bytesLess a0.toList a1.toList) = true := c8
        clear c8
        obtain rfl := Option.some.inj H
        go_enter Try.func56, Try.ntmps56
        go_wp2_with (first | ((with_reducible refine gate_callee (f := 95) rfl ?_); refine goesL_ (some 8) rfl rfl Try.func95 (by kernel_rfl) rfl #[.string a0] rfl (by (try simp only [List.map_toArray, List.map_cons, List.map_nil]); first | done | rfl | (simp only [List.length_drop, List.length_take]; rfl)) ?_; (with_reducible refine (cmp_isNaN_string.calls a0 false _ A3.out).mono ?_); rintro e w' ⟨rfl, ⟨nd, rfl⟩⟩; refine ⟨_, rfl, ?_⟩) | ((with_reducible refine gate_callee (f := 95) rfl ?_); refine goesL_ (some 10) rfl rfl Try.func95 (by kernel_rfl) rfl #[.string a1] rfl (by (try simp only [List.map_toArray, List.map_cons, List.map_nil]); first | done | rfl | (simp only [List.length_drop, List.length_take]; rfl)) ?_; (with_reducible refine (cmp_isNaN_string.calls a1 false _ A4.out).mono ?_); rintro e w' ⟨rfl, ⟨nd, rfl⟩⟩; refine ⟨_, rfl, ?_⟩))
        go_ret
        exact ⟨by first | rfl | (simp; done) | (simp [*]; done), by repeat (first | exact Drawn0.refl _ | apply Drawn0.step)⟩
      · rw [if_neg c8] at H
        have c8b0 : (Op.bytesLess a0.toList a1.toList) = false := by simpa using c8
        clear c8
        by_cases c9 : (Op.bytesLess a1.toList a0.toList) = true
        · rw [if_pos c9] at H
          have c9b0 : (Op.bytesLess a1.toList a0.toList) = true := c9
          clear c9
          obtain rfl := Option.some.inj H
          go_enter Try.func56, Try.ntmps56
          go_wp2_with (first | ((with_reducible refine gate_callee (f := 95) rfl ?_); refine goesL_ (some 8) rfl rfl Try.func95 (by kernel_rfl) rfl #[.string a0] rfl (by (try simp only [List.map_toArray, List.map_cons, List.map_nil]); first | done | rfl | (simp only [List.length_drop, List.length_take]; rfl)) ?_; (with_reducible refine (cmp_isNaN_string.calls a0 false _ A3.out).mono ?_); rintro e w' ⟨rfl, ⟨nd, rfl⟩⟩; refine ⟨_, rfl, ?_⟩) | ((with_reducible refine gate_callee (f := 95) rfl ?_); refine goesL_ (some 10) rfl rfl Try.func95 (by kernel_rfl) rfl #[.string a1] rfl (by (try simp only [List.map_toArray, List.map_cons, List.map_nil]); first | done | rfl | (simp only [List.length_drop, List.length_take]; rfl)) ?_; (with_reducible refine (cmp_isNaN_string.calls a1 false _ A4.out).mono ?_); rintro e w' ⟨rfl, ⟨nd, rfl⟩⟩; refine ⟨_, rfl, ?_⟩))
          go_ret
          exact ⟨by first | rfl | (simp; done) | (simp [*]; done), by repeat (first | exact Drawn0.refl _ | apply Drawn0.step)⟩
        · rw [if_neg c9] at H
          have c9b0 : (Op.bytesLess a1.toList a0.toList) = false := by simpa using c9
          clear c9
          obtain rfl := Option.some.inj H
          go_enter Try.func56, Try.ntmps56
          go_wp2_with (first | ((with_reducible refine gate_callee (f := 95) rfl ?_); refine goesL_ (some 8) rfl rfl Try.func95 (by kernel_rfl) rfl #[.string a0] rfl (by (try simp only [List.map_toArray, List.map_cons, List.map_nil]); first | done | rfl | (simp only [List.length_drop, List.length_take]; rfl)) ?_; (with_reducible refine (cmp_isNaN_string.calls a0 false _ A3.out).mono ?_); rintro e w' ⟨rfl, ⟨nd, rfl⟩⟩; refine ⟨_, rfl, ?_⟩) | ((with_reducible refine gate_callee (f := 95) rfl ?_); refine goesL_ (some 10) rfl rfl Try.func95 (by kernel_rfl) rfl #[.string a1] rfl (by (try simp only [List.map_toArray, List.map_cons, List.map_nil]); first | done | rfl | (simp only [List.length_drop, List.length_take]; rfl)) ?_; (with_reducible refine (cmp_isNaN_string.calls a1 false _ A4.out).mono ?_); rintro e w' ⟨rfl, ⟨nd, rfl⟩⟩; refine ⟨_, rfl, ?_⟩))
          go_ret
          exact ⟨by first | rfl | (simp; done) | (simp [*]; done), by repeat (first | exact Drawn0.refl _ | apply Drawn0.step)⟩

-- NOT PRINTED: function 57 (slices_Clip_string_string)

/-! ### dict_Build_string: function 25 -/
section
open Go.Shelf Go.Sort
def XSortS.so_cf (x y : ByteArray) : Int := if XMapS.lt x y = true then -1 else if XMapS.lt y x = true then 1 else 0
theorem XSortS.so_lt (x y : ByteArray) : ltOf XSortS.so_cf x y = XMapS.lt x y := by
  unfold ltOf XSortS.so_cf
  cases h1 : XMapS.lt x y with
  | true => simp
  | false => cases h2 : XMapS.lt y x <;> simp
theorem XSortS.so_swo : SWO (ltOf XSortS.so_cf) where
  irrefl x := by rw [XSortS.so_lt]; exact XMapS.lt_irrefl x
  trans x y z h1 h2 := by rw [XSortS.so_lt] at *; exact XMapS.lt_trans h1 h2
  ntrans x y z h1 h2 := by
    rw [XSortS.so_lt] at *
    cases e : XMapS.lt x z with
    | false => rfl
    | true =>
      cases e2 : XMapS.lt y x with
      | true => have := XMapS.lt_trans e2 e; rw [h2] at this; cases this
      | false => have := XMapS.lt_tri h1 e2; subst this; rw [h2] at e; cases e
theorem XSortS.so_tot (x y : ByteArray) (h1 : ltOf XSortS.so_cf x y = false) (h2 : ltOf XSortS.so_cf y x = false) : x = y := by rw [XSortS.so_lt] at *; exact XMapS.lt_tri h1 h2
theorem XSortS.so_le : (fun x y : ByteArray => !ltOf XSortS.so_cf y x) = fun x y => !XMapS.lt y x := by
  funext x y
  rw [XSortS.so_lt]
theorem XSortS.so_cmp (x y : ByteArray) : cmp_Compare_string.f x y = some (XSortS.so_cf x y) := by
  unfold cmp_Compare_string.f cmp_isNaN_string.f XSortS.so_cf XMapS.lt
  cases h1 : Op.bytesLess x.toList y.toList <;> cases h2 : Op.bytesLess y.toList x.toList <;> simp
set_option maxHeartbeats 1000000 in
theorem XSortS.so_sort (A : Option Addr) (c : Nat) (ks : List ByteArray) (W : World) (base : Nat) (hR : Kd.string.R 9 W base (fun _ => True) (.slice A ks.length c) ks) (hb : base ≤ W.heap.size) (hl : ks.length < 4294967296) :
    Calls Try.prog 55 #[.slice A ks.length c, .func (.func 56) #[] #[]] W fun e w' => e = .returned (.tuple #[]) ∧ Kd.string.R 9 w' base (fun _ => True) (.slice A ks.length c) (ks.mergeSort fun x y => !XMapS.lt y x) ∧ W.grownBy w' (Value.slice A ks.length c).ownBlock ∧ ∀ k, (Value.slice A ks.length c).ownBlock = some k → base ≤ k := by
  have ho := Kd.own_of_R hR
  have eg : ∀ args w, (callFunc 56 args).run Try.prog w = .ok (.enter 56 args) w := enters_of Try.func56 (by kernel_rfl) rfl
  rcases ho.2 with ⟨hnil, _⟩ | ⟨g, cap, cur, he, hbase, hh, h1, h2, h3, h4⟩
  · injection hnil with e1 e2 e3
    obtain rfl : ks = [] := List.eq_nil_of_length_eq_zero e2
    have h := AnyF.slices_SortFunc_none (P := Try.prog) (ρ := Try.sortS_ren) { Try.sortS with } A c (.func (.func 56) #[] #[]) W
    change Calls Try.prog 55 _ _ _ at h
    refine h.mono ?_
    rintro e w' ⟨rfl, rfl⟩
    exact ⟨rfl, by simpa using hR, ⟨rfl, rfl, rfl, Nat.le_refl _, fun k _ _ => rfl⟩, fun k hk => (ho.lt k hk).1⟩
  · injection he with e1 e2 e3
    subst e1 e3
    have hcmp : CmpReads Try.prog 56 #[] (Value.string) XSortS.so_cf g 0 ks.toArray.size W := fun _ _ _ _ x y => by
      exact (cmp_Compare_string.calls x y _ _ (XSortS.so_cmp x y)).mono fun e w' ⟨he, hw⟩ => ⟨he, hw.out⟩
    have h := Any.slices_SortFunc_total Try.sortS (Value.string) (fun _ => rfl) XSortS.so_cf XSortS.so_swo 56 #[] g 0 c ks.toArray W eg hcmp.lays (XSort.so_holds hh (by simpa [encs] using h4)) ((Array.getElem?_eq_some_iff.1 hh).1) (by simp; omega) XSortS.so_tot
    rw [XSortS.so_le] at h
    change Calls Try.prog 55 _ _ _ at h
    refine (show Calls Try.prog 55 #[.slice (some ⟨g, 0, none⟩) ks.length c, .func (.func 56) #[] #[]] W _ from h).mono ?_
    rintro e w' ⟨rfl, n, os, rfl⟩
    exact ⟨rfl, Kd.R_of_own (h1 := fun _ => rfl) (by
      have ho' := XSort.so_owns (enc := Value.string) (n := n) (os := os) (ts := ks.mergeSort fun x y => !XMapS.lt y x) (List.length_mergeSort ks) hbase hh h1 h2 h3
      rw [List.length_mergeSort]; exact ho') (fun _ _ => trivial), XSort.so_grownBy _, fun k hk => (ho.lt k hk).1⟩
end

theorem XBuildS.law : Maps.Keyed Try.prog 9 := Maps.string_keyed Try.underlying9
theorem XBuildS.zeroI (w : World) : (zeroValue 3).run Try.prog w = .ok (.int .i64 0) w := by kernel_rfl
theorem XBuildS.zeroU (w : World) : (zeroValue 61).run Try.prog w = .ok (.int .u32 0) w := by kernel_rfl
theorem XBuildS.infoU : (Try.prog.info? 61).map (fun i => (i.zero, i.size, i.bytes)) = some (some (.int .u32 0), 1, 4) := by kernel_rfl
theorem XBuildS.info64 : (Try.prog.info? 9).map (fun i => (i.zero, i.size, i.bytes)) = some (some (.string ⟨#[]⟩), 1, 16) := by kernel_rfl
/-- what the first map says when i elements were met: of each of them a place at which it stands -/
def XBuildS.Good (l : List ByteArray) (i : Nat) (f : ByteArray → Option Int) : Prop := (∀ x, (f x).isSome = true ↔ x ∈ l.take i) ∧ ∀ x c, f x = some c → ∃ j : Nat, c = (j : Int) ∧ l[j]? = some x
theorem XBuildS.Good.zero (l : List ByteArray) : XBuildS.Good l 0 (fun _ => none) := ⟨fun x => by simp, fun x c h => by cases h⟩
theorem XBuildS.Good.old {l : List ByteArray} {i : Nat} {f : ByteArray → Option Int} (h : XBuildS.Good l i f) (hi : i < l.length) (hf : (f l[i]).isSome = true) : XBuildS.Good l (i + 1) f :=
  ⟨fun x => by
    rw [List.take_succ_eq_append_getElem hi, List.mem_append, List.mem_singleton, ← h.1 x]
    constructor
    · exact .inl
    · rintro (h' | rfl)
      · exact h'
      · exact hf, h.2⟩
theorem XBuildS.Good.new {l : List ByteArray} {i : Nat} {f : ByteArray → Option Int} (h : XBuildS.Good l i f) (hi : i < l.length) : XBuildS.Good l (i + 1) (fun y => if y = l[i] then some (i : Int) else f y) :=
  ⟨fun x => by
    rw [List.take_succ_eq_append_getElem hi, List.mem_append, List.mem_singleton, ← h.1 x]
    by_cases e : x = l[i]
    · simp [e]
    · simp [e], fun x c hc => by
    by_cases e : x = l[i]
    · simp only [e, if_true, Option.some.injEq] at hc
      exact ⟨i, hc.symm, by rw [e]; exact List.getElem?_eq_getElem hi⟩
    · simp only [e, if_false] at hc
      exact h.2 x c hc⟩
/-- a value's code: which of the keys it is -/
def XBuildS.code (SK : List ByteArray) (x : ByteArray) : Int := (SK.idxOf x : Nat)
theorem XBuildS.Good.code {SK : List ByteArray} {g : ByteArray → Option Int} (h : XBuildS.Good SK SK.length g) (hn : SK.Nodup) {x : ByteArray} (hx : x ∈ SK) : g x = some (XBuildS.code SK x) := by
  have h1 := (h.1 x).2 (by rw [List.take_length]; exact hx)
  obtain ⟨c, hc⟩ := Option.isSome_iff_exists.1 h1
  obtain ⟨j, rfl, hj⟩ := h.2 x c hc
  obtain ⟨hjl, hje⟩ := List.getElem?_eq_some_iff.1 hj
  have h2 : SK.idxOf x < SK.length := List.idxOf_lt_length_iff.2 hx
  have h3 : SK[SK.idxOf x] = x := List.getElem_idxOf h2
  have h4 : j = SK.idxOf x := by
    have hp := List.pairwise_iff_getElem.1 hn
    rcases Nat.lt_trichotomy j (SK.idxOf x) with h | h | h
    · exact absurd (hje.trans h3.symm) (hp _ _ hjl h2 h)
    · exact h
    · exact absurd (h3.trans hje.symm) (hp _ _ h2 hjl h)
  rw [hc, XBuildS.code, ← h4]
theorem XBuildS.setCodes (L : List Int) (i : Nat) (hi : i < L.length) : (L.take i ++ List.replicate (L.length - i) (0 : Int)).set i L[i] = L.take (i + 1) ++ List.replicate (L.length - (i + 1)) 0 := by
  rw [List.take_succ_eq_append_getElem hi, show L.length - i = (L.length - (i + 1)) + 1 by omega, List.replicate_succ, List.set_append_right _ _ (by simp; omega)]
  rw [List.length_take, show i - min i L.length = 0 by omega, List.set_cons_zero, List.append_assoc]; rfl
/-- slices.SortFunc by cmp.Compare over one's own row -/
def XBuildS.SortC : Prop := ∀ (A : Option Addr) (c : Nat) (ks : List ByteArray) (W : World) (base : Nat), Kd.string.R 9 W base (fun _ => True) (.slice A ks.length c) ks → base ≤ W.heap.size → ks.length < 4294967296 →
  Calls Try.prog 55 #[.slice A ks.length c, .func (.func 56) #[] #[]] W fun e w' => e = .returned (.tuple #[]) ∧ Kd.string.R 9 w' base (fun _ => True) (.slice A ks.length c) (ks.mergeSort fun x y => !XMapS.lt y x) ∧ W.grownBy w' (Value.slice A ks.length c).ownBlock ∧ ∀ k, (Value.slice A ks.length c).ownBlock = some k → base ≤ k
set_option maxHeartbeats 4000000 in
set_option maxRecDepth 100000 in
theorem XBuildS.clip (A : Option Addr) (n c : Nat) (w : World) (hc : n ≤ c) : Calls Try.prog 57 #[.slice A n c] w fun e w' => e = .returned (.slice A n n) ∧ w' = w := by
  go_enter Try.func57, Try.ntmps57
  go_wp2_with fail
  refine bodyPost_ret (results_tmp rfl _ _ _) rfl ?_
  exact ⟨rfl, rfl⟩
set_option maxHeartbeats 4000000 in
set_option maxRecDepth 100000 in
theorem XBuildS.build (A0 : Option Addr) (c0 : Nat) (l0 : List ByteArray) (w : World) (hr0 : Kd.C Kd.string w A0 l0.length l0) (hc0 : l0.length ≤ c0) (hw : ∀ x ∈ l0, x.size ≤ maxLen) (hl : l0.length < 4294967296) (hsort : XBuildS.SortC) :
    Calls Try.prog 25 #[.slice A0 l0.length c0] w fun e w' => ∃ (Ak : Option Addr) (b : Nat) (SK : List ByteArray), SK = XMapS.keysOf l0 ∧ e = .returned (.tuple #[.slice Ak SK.length SK.length, .slice (some ⟨b, 0, none⟩) l0.length l0.length]) ∧ Kd.C Kd.string w' Ak SK.length SK ∧ (Kd.int .u32).R 61 w' w.heap.size (fun _ => True) (.slice (some ⟨b, 0, none⟩) l0.length l0.length) (l0.map (XBuildS.code SK)) ∧ (∀ g, (Value.slice Ak SK.length SK.length).ownBlock = some g → w.heap.size ≤ g ∧ g ≠ b) ∧ Below w.heap.size w w' := by
  have HR0 := Aside0.mk hr0
  have HW := Aside0.mk hw
  clear hr0 hw
  have hmm := @run_makeMap Try.prog
  go_enter Try.func25, Try.ntmps25
  go_wp2_with fail
  (try simp only [add_plain])
  go_loopg [5, 21] (l0.length + 1) (fun kq v5 v21 w' => ∃ (i : Nat) (D : DataW Nat) (f : ByteArray → Option Int), i ≤ l0.length ∧ v5 = .slice none 0 0 ∧ Aside0 (kq + i = l0.length + 1) ∧ v21 = .int .i64 (i : Int) ∧ Aside0 (w'.ownsMap Try.prog 9 (plainElem Try.prog 3) w.heap.size i D) ∧ Aside0 (XMapS.Rep .i64 D f) ∧ Aside0 (XBuildS.Good l0 i f) ∧ Aside0 (Below w.heap.size w w'))
  case atStart => exact ⟨0, .map [], fun _ => none, Nat.zero_le _, rfl, ⟨by omega⟩, rfl, ⟨World.ownsMap_made _ _ _ _⟩, ⟨XMapS.Rep.empty _⟩, ⟨XBuildS.Good.zero _⟩, ⟨below_alloc (Below.refl _ _) _⟩⟩
  case round =>
    clear hmm
    obtain ⟨i, D, f, hi, rfl, HK, rfl, HM, HF, HG, HB⟩ := hrel
    by_cases hlt : i < l0.length
    · have hd : decide ((i : Int) < (l0.length : Int)) = true := decide_eq_true (by omega)
      obtain ⟨k1, rfl⟩ : ∃ k1, gk = k1 + 1 := ⟨gk - 1, by have := HK.out; omega⟩
      obtain ⟨ad, e0, hx⟩ := Kd.at_string (Kd.C_below HR0.out HB.out) (i : Int) (by omega) (by omega)
      cases e0
      rw [Int.toNat_natCast, show rdOf ByteArray.empty l0 (i : Int) = l0[i] from by simp [rdOf, hlt]] at hx
      have hwx := HW.out l0[i] (List.getElem_mem hlt)
      have hk := WideMaps.keyOf_string_mk (P := Try.prog) (k := 9) Try.underlying9 hwx
      have hnew := Aside0.mk (HG.out.new hlt)
      have hold := Aside0.mk (HG.out.old hlt)
      have hh := HF.out.has_ l0[i]
      have hlen := hlt
      generalize l0[i] = x at hx hwx hk hnew hold hh
      by_cases hs : (f x).isSome = true
      · rw [hs] at hh
        have HG' := Aside0.mk (hold.out hs)
        clear hnew hold hs HG
        go_wp2_with (at_lookup; refine wpList_lookup_own_ok_int _ rfl _ _ 85 rfl 9 3 .i64 XBuildS.law Try.underlying85 Try.underlying3 (XBuildS.zeroI _) w.heap.size i D rfl HM.out _ _ rfl hk ?_; intro c hat hwc; rw [hh])
        go_roundg k1
        case measure => have := HK.out; omega
        case rel => exact ⟨i + 1, D, f, by omega, rfl, ⟨by have := HK.out; omega⟩, congrArg (Value.int .i64) (by omega), ⟨HM.out.mono (Nat.le_succ _)⟩, HF, HG', HB⟩
      · have hsf : (f x).isSome = false := by simpa using hs
        rw [hsf] at hh
        clear hold hs HG
        go_wp2_with (first | (at_lookup; refine wpList_lookup_own_ok_int _ rfl _ _ 85 rfl 9 3 .i64 XBuildS.law Try.underlying85 Try.underlying3 (XBuildS.zeroI _) w.heap.size i D rfl HM.out _ _ rfl hk ?_; intro c hat hwc; rw [hh]) | (at_mapUpdate; refine wpList_mapUpdate_own _ rfl _ _ _ 85 rfl 9 3 XBuildS.law Try.underlying85 _ w.heap.size i D rfl HM.out (by unfold maxLen; omega) _ _ _ rfl rfl hk _ [] (plainElem_int Try.underlying3 (WalkArith.wf_i64 (by omega))) ?_; intro w1 hown1 hgrow1))
        have HM' := Aside0.mk hown1
        have HF' := Aside0.mk (HF.out.put x (i : Int))
        have HB' := Aside0.mk (HB.out.grown hgrow1 HB.out.size (fun j hj => by cases hj; exact Nat.le_refl _))
        clear hown1 hgrow1
        go_roundg k1
        case measure => have := HK.out; omega
        case rel => exact ⟨i + 1, _, _, by omega, rfl, ⟨by have := HK.out; omega⟩, congrArg (Value.int .i64) (by omega), HM', HF', hnew, HB'⟩
    · obtain rfl : i = l0.length := by omega
      have hd : decide ((l0.length : Int) < (l0.length : Int)) = false := decide_eq_false (by omega)
      have hsz := HM.out.size_le
      go_wp2_with (at_range; refine wpList_range_own _ rfl _ 85 rfl 9 3 XBuildS.law Try.underlying85 _ w.heap.size l0.length D rfl HM.out ?_; intro w2 hrg hg2 hs2)
      go_frame
      have HRG := Aside0.mk hrg
      have HB2 := Aside0.mk (HB.out.grown hg2 HB.out.size (fun j hj => by cases hj))
      have HS2 := Aside0.mk hs2
      have HSZ := Aside0.mk hsz
      have hrb := HB.out.size
      generalize wr.heap.size = r at HRG HS2 hrb ⊢
      clear hrg hg2 hs2 hsz HM HB HK
      (try simp only [add_plain])
      go_loopg [5] (Maps.size D + 1) (fun kq v5 w' => ∃ (left : Lit → Bool) (cnt : Nat) (ks : List ByteArray), Aside0 (cnt < kq) ∧ Aside0 (ks.length + cnt ≤ l0.length) ∧ Aside0 (w'.ranges Try.prog 9 (plainElem Try.prog 3) w.heap.size r l0.length D left cnt) ∧ Aside0 (XMapS.Coll f left ks) ∧ Aside0 (Kd.string.R 9 w' (r + 1) (fun _ => True) v5 ks) ∧ Aside0 (Below w.heap.size w w') ∧ Aside0 (r + 1 ≤ w'.heap.size))
      case atStart => exact ⟨_, _, [], ⟨by omega⟩, ⟨by have := HSZ.out; simp; omega⟩, HRG, ⟨XMapS.Coll.start HF.out⟩, ⟨Kd.R_nil _ _ _ _ _⟩, HB2, ⟨by have := HS2.out; omega⟩⟩
      case round =>
        clear HRG HB2 HSZ HS2
        obtain ⟨left, cnt, ks, HK2, HL2, HRG, HC, HR, HBw, HSz⟩ := hrel
        obtain ⟨Ak, ck, rfl⟩ := Kd.R_slice HR.out
        obtain ⟨k2, rfl⟩ : ∃ k2, gk = k2 + 1 := ⟨gk - 1, by have := HK2.out; omega⟩
        go_wp2_with (at_next; refine XMapS.wpList_next_ranges_si _ rfl _ rfl 9 3 .i64 XBuildS.law Try.underlying9 Try.underlying3 w.heap.size r l0.length _ _ _ rfl HRG.out ?_ ?_)
        · intro hc0 hl0
          have hm : ∀ x, x ∈ ks ↔ x ∈ l0 := fun x => by rw [HC.out.2 x, hl0, HG.out.1 x, List.take_length]; simp
          have HKS := Aside0.mk (XMapS.sorted_keys HC.out.1 hm)
          have HKL : Aside0 (ks.length ≤ l0.length) := ⟨by have := HL2.out; omega⟩
          clear hm hl0 hc0 HC HL2 HK2 HRG HG HF
          go_wp2_with fail
          refine (hsort Ak ck ks wr (r + 1) HR.out HSz.out (by have := HKL.out; omega)).mono ?_
          rintro e w3 ⟨rfl, hR3, hb3, hz3⟩
          have HR3 := Aside0.mk hR3
          have HB3 := Aside0.mk (HBw.out.grown hb3 HBw.out.size (fun k hk => by have := hz3 k hk; omega))
          have HSz3 := Aside0.mk (Nat.le_trans HSz.out hb3.size)
          rw [HKS.out] at HR3
          have hKL := (HKS.out ▸ List.length_mergeSort ks : (XMapS.keysOf l0).length = ks.length)
          clear hR3 hb3 hz3 HR HBw HSz
          have hmk := @run_makeMap_hint_ Try.prog 88 9 61 Try.underlying88
          generalize hSK : XMapS.keysOf l0 = SK at HR3 hKL
          have HSK := Aside0.mk hSK
          have hkl := HKL.out
          clear hSK HKS HKL
          go_wp2_with fail
          clear hmk
          have HB4 := Aside0.mk (below_alloc HB3.out (.map #[] 0))
          have HR4 := Aside0.mk (Kd.R_below HR3.out (below_alloc (Below.refl w3.heap.size w3) (.map #[] 0)))
          have HM4 : Aside0 ((w3.alloc (.map #[] 0)).ownsMap Try.prog 9 (plainElem (H := Nat) Try.prog 61) w3.heap.size 0 (.map [])) := ⟨World.ownsMap_made _ _ _ _⟩
          have hb3 : w.heap.size ≤ w3.heap.size := HB3.out.size
          have HNB : Aside0 (∀ g, (Value.slice Ak ks.length ck).ownBlock = some g → g < w3.heap.size) := ⟨fun g hg => own_lt (Kd.own_of_R HR3.out) g hg⟩
          generalize w3.alloc (.map #[] 0) = w4 at HB4 HR4 HM4 ⊢
          generalize w3.heap.size = B2 at HM4 hb3 HSz3 HNB ⊢
          clear HR3 HB3
          (try simp only [add_plain])
          go_loopg [68] (ks.length + 1) (fun kq v68 w' => ∃ (i : Nat) (D : DataW Nat) (g : ByteArray → Option Int), i ≤ ks.length ∧ Aside0 (kq + i = ks.length + 1) ∧ v68 = .int .i64 (i : Int) ∧ Aside0 (w'.ownsMap Try.prog 9 (plainElem Try.prog 61) B2 i D) ∧ Aside0 (XMapS.Rep .u32 D g) ∧ Aside0 (XBuildS.Good SK i g) ∧ Aside0 (Kd.string.R 9 w' (r + 1) (fun _ => True) (.slice Ak ks.length ck) SK) ∧ Aside0 (Below w.heap.size w w'))
          case atStart => exact ⟨0, .map [], fun _ => none, Nat.zero_le _, ⟨by omega⟩, rfl, HM4, ⟨XMapS.Rep.empty _⟩, ⟨XBuildS.Good.zero _⟩, HR4, HB4⟩
          case round =>
            clear HM4 HR4 HB4
            obtain ⟨i, D, g, hi, HK, rfl, HM, HF, HG, HR, HB⟩ := hrel
            by_cases hlt : i < ks.length
            · have hd : decide ((i : Int) < (ks.length : Int)) = true := decide_eq_true (by omega)
              obtain ⟨k3, rfl⟩ : ∃ k3, gk = k3 + 1 := ⟨gk - 1, by have := HK.out; omega⟩
              have hC := (Kd.R_reads' HR.out).2.2
              obtain ⟨ad, e0, hx⟩ := Kd.at_string hC (i : Int) (by omega) (by omega)
              rw [Int.toNat_natCast, show rdOf ByteArray.empty SK (i : Int) = SK[i]'(by omega) from by simp [rdOf, show i < SK.length by omega]] at hx
              have hwx := HW.out (SK[i]'(by omega)) ((XMapS.keysOf_spec l0).2 _ |>.1 (by rw [HSK.out]; exact List.getElem_mem _))
              have hk := WideMaps.keyOf_string_mk (P := Try.prog) (k := 9) Try.underlying9 hwx
              have hnew := Aside0.mk (HG.out.new (show i < SK.length by omega))
              have hwr : IntKind.u32.wrap (i : Int) = (i : Int) := by simp [IntKind.wrap, IntKind.bits, IntKind.signed]; omega
              generalize SK[i]'(by omega) = x at hx hwx hk hnew
              cases Ak with
              | none => cases e0
              | some ak =>
                cases e0
                clear hC HG
                go_wp2_with (at_mapUpdate; refine wpList_mapUpdate_own _ rfl _ _ _ 88 rfl 9 61 XBuildS.law Try.underlying88 _ B2 i D rfl HM.out (by unfold maxLen; omega) _ _ _ rfl rfl hk _ [] (plainElem_int Try.underlying61 (WalkArith.wf_u32 (by omega))) ?_; intro w5 hown5 hg5)
                have HR' := Aside0.mk (Kd.R_of_own (h1 := fun _ => rfl) (ok := fun _ => True) ((Kd.own_of_R HR.out).kept hg5 (by
                  cases hb : (Value.slice (some ad) ks.length ck).ownBlock with
                  | none => exact .inl rfl
                  | some g => exact .inr (fun e => by have := HNB.out g hb; cases e; omega))) (fun _ _ => trivial))
                have HB' := Aside0.mk (HB.out.grown hg5 HB.out.size (fun k hk => by cases hk; exact hb3))
                have HM' := Aside0.mk hown5
                have HF' := Aside0.mk (HF.out.put x (i : Int))
                clear hown5 hg5 HR HB HM HF
                go_roundg k3
                case measure => have := HK.out; omega
                case rel => exact ⟨i + 1, _, _, by omega, ⟨by have := HK.out; omega⟩, congrArg (Value.int .i64) (by omega), HM', HF', hnew, HR', HB'⟩
            · obtain rfl : i = ks.length := by omega
              have hd : decide ((ks.length : Int) < (ks.length : Int)) = false := decide_eq_false (by omega)
              have hmk := print_make_of (P := Try.prog) 26 61 (.int .u32 0) 4 Try.underlying26 XBuildS.infoU rfl (by decide) l0.length (by omega)
              go_wp2_with fail
              clear hmk
              have HB5 := Aside0.mk (below_alloc HB.out (.cells (madeCells #[.int .u32 0] l0.length) 61))
              have HR5 := Aside0.mk (Kd.R_below HR.out (below_alloc (Below.refl wr.heap.size wr) (.cells (madeCells #[.int .u32 0] l0.length) 61)))
              have HM5 := Aside0.mk (HM.out.alloc (.cells (madeCells #[.int .u32 0] l0.length) 61))
              have hmb : B2 < wr.heap.size := HM.out.lt
              have HC5 : Aside0 ((Kd.int .u32).R 61 (wr.alloc (.cells (madeCells #[.int .u32 0] l0.length) 61)) wr.heap.size (fun _ => True) (.slice (some ⟨wr.heap.size, 0, none⟩) l0.length l0.length) (List.replicate l0.length 0)) :=
                ⟨Kd.R_of_own (h1 := fun _ => rfl) (own_made_of' (enc := Value.int .u32) (d := 0) wr wr.heap.size 61 l0.length (Nat.le_refl _) (by omega)) (fun _ _ => trivial)⟩
              generalize wr.alloc (.cells (madeCells #[.int .u32 0] l0.length) 61) = w5 at HB5 HR5 HM5 HC5 ⊢
              have hb5 := HB.out.size
              have HNB5 : Aside0 (∀ g, (Value.slice Ak ks.length ck).ownBlock = some g → g < wr.heap.size) := ⟨fun g hg => own_lt (Kd.own_of_R HR.out) g hg⟩
              generalize wr.heap.size = B3 at HC5 hb5 hmb HNB5 ⊢
              clear HB HR HM HNB HK
              have hnd : SK.Nodup := by rw [← HSK.out]; exact (XMapS.keysOf_spec l0).1.imp XMapS.lt_ne
              have hcd : ∀ x ∈ l0, g x = some (XBuildS.code SK x) := fun x hx => (hKL ▸ HG.out).code hnd (by rw [← HSK.out]; exact ((XMapS.keysOf_spec l0).2 x).2 hx)
              clear HG hnd
              (try simp only [add_plain])
              go_loopg [83] (l0.length + 1) (fun kq v83 w' => ∃ (i : Nat) (Z : List Int), i ≤ l0.length ∧ Aside0 (kq + i = l0.length + 1) ∧ v83 = .int .i64 (i : Int) ∧ Aside0 (Z = (l0.map (XBuildS.code SK)).take i ++ List.replicate ((l0.map (XBuildS.code SK)).length - i) (0 : Int)) ∧ Aside0 (w'.ownsMap Try.prog 9 (plainElem Try.prog 61) B2 ks.length D) ∧ Aside0 (Kd.string.R 9 w' (r + 1) (fun _ => True) (.slice Ak ks.length ck) SK) ∧ Aside0 ((Kd.int .u32).R 61 w' B3 (fun _ => True) (.slice (some ⟨B3, 0, none⟩) l0.length l0.length) Z) ∧ Aside0 (Below w.heap.size w w'))
              case atStart => exact ⟨0, _, Nat.zero_le _, ⟨by omega⟩, rfl, ⟨by simp⟩, HM5, HR5, HC5, HB5⟩
              case round =>
                clear HM5 HR5 HB5 HC5
                obtain ⟨i, Z, hi, HK, rfl, HZ, HM, HR, HC, HB⟩ := hrel
                by_cases hlt : i < l0.length
                · have hd : decide ((i : Int) < (l0.length : Int)) = true := decide_eq_true (by omega)
                  obtain ⟨k4, rfl⟩ : ∃ k4, gk = k4 + 1 := ⟨gk - 1, by have := HK.out; omega⟩
                  obtain ⟨ad, e0, hx⟩ := Kd.at_string (Kd.C_below HR0.out HB.out) (i : Int) (by omega) (by omega)
                  cases e0
                  rw [Int.toNat_natCast, show rdOf ByteArray.empty l0 (i : Int) = l0[i] from by simp [rdOf, hlt]] at hx
                  have hwx := HW.out l0[i] (List.getElem_mem hlt)
                  have hk := WideMaps.keyOf_string_mk (P := Try.prog) (k := 9) Try.underlying9 hwx
                  have hat0 := HF.out.at_ l0[i] (.lit (.int .u32 0))
                  rw [hcd _ (List.getElem_mem hlt)] at hat0
                  have hZ := Aside0.mk (XBuildS.setCodes (l0.map (XBuildS.code SK)) i (by simpa using hlt))
                  rw [List.getElem_map] at hZ
                  rw [← HZ.out] at hZ
                  have hlen := hlt
                  generalize l0[i] = x at hx hwx hk hat0 hZ
                  generalize XBuildS.code SK x = y at hat0 hZ
                  obtain ⟨hx10, hf10⟩ := Kd.R_celln 0 HC.out (i : Int) (by omega) (by omega)
                  have HP := Kd.R_putg HC.out (i : Int) y
                  rw [Int.toNat_natCast] at hx10 hf10 HP
                  have hwr : IntKind.u32.wrap (i : Int) = (i : Int) := by simp [IntKind.wrap, IntKind.bits, IntKind.signed]; omega
                  go_wp2_with (first
                    | (at_lookup; refine wpList_lookup_own_int _ rfl _ _ 88 rfl 9 61 .u32 XBuildS.law Try.underlying88 Try.underlying61 (XBuildS.zeroU _) B2 ks.length D rfl HM.out _ _ rfl hk ?_; intro c hat hwc; (obtain rfl : y = c := by (rw [hat0] at hat; injection hat with hat; injection hat with _ hat)); clear hat hat0)
                    | ((with_reducible refine gate_store (t := 61) (p := 93) rfl ?_); refine store_event (t := 61) (p := 93) (v := ?vo_w12) (w1 := (wr.setCell ⟨B3, i, none⟩ (.int .u32 y))) ?hg ?ho ?hn ?hr ?_; (case ho => rfl); (case hg => rfl); (case hn => rfl); (case hr => first | (go_simp; done) | (go_simp; rfl)); intro w12 hw; have hg12 : wr.grownBy w12 (some B3) := (by rw [hw]; exact HP.2); have HC' := Aside0.mk (show (Kd.int .u32).R 61 w12 B3 (fun _ => True) (.slice (some ⟨B3, 0, none⟩) l0.length l0.length) (Z.set i y) from (by rw [hw]; exact HP.1)); clear hw HP HC; have HG12 := Aside0.mk hg12; clear hg12))
                  have hg12 := HG12.out
                  have HR' := Aside0.mk (Kd.R_of_own (h1 := fun _ => rfl) (ok := fun _ => True) ((Kd.own_of_R HR.out).kept hg12 (by
                    cases hb : (Value.slice Ak ks.length ck).ownBlock with
                    | none => exact .inl rfl
                    | some g => exact .inr (fun e => by have := HNB5.out g hb; cases e; omega))) (fun _ _ => trivial))
                  have HB' := Aside0.mk (HB.out.grown hg12 HB.out.size (fun k hk => by cases hk; exact hb5))
                  have HM' := Aside0.mk (HM.out.kept hg12 (fun e => by cases e; omega))
                  clear hg12 HG12 HR HB HM
                  go_roundg k4
                  case measure => have := HK.out; omega
                  case rel => exact ⟨i + 1, _, by omega, ⟨by have := HK.out; omega⟩, congrArg (Value.int .i64) (by omega), hZ, HM', HR', HC', HB'⟩
                · obtain rfl : i = l0.length := by omega
                  have hd : decide ((l0.length : Int) < (l0.length : Int)) = false := decide_eq_false (by omega)
                  go_wp2_with fail
                  have hck := (Kd.R_reads' HR.out).2.1
                  refine (XBuildS.clip Ak ks.length ck wr hck).mono ?_
                  rintro e w6 ⟨rfl, rfl⟩
                  go_wp2_with fail
                  refine bodyPost_ret (results_tmp2 rfl _ _ _) rfl ?_
                  have hZ0 := HZ.out
                  rw [List.take_of_length_le (by simp), show (l0.map (XBuildS.code SK)).length - l0.length = 0 by simp, List.replicate_zero, List.append_nil] at hZ0
                  have hCk := (Kd.R_reads' HR.out).2.2
                  have hbk : ∀ g, (Value.slice Ak SK.length SK.length).ownBlock = some g → w.heap.size ≤ g ∧ g ≠ B3 := fun g hg => by
                    have hg' : (Value.slice Ak ks.length ck).ownBlock = some g := by
                      cases Ak with
                      | none => simp [Value.ownBlock] at hg
                      | some a => exact hg
                    have h1 := HNB5.out g hg'
                    have h2 := ((Kd.own_of_R HR.out).lt g hg').1
                    omega
                  exact ⟨Ak, B3, SK, HSK.out.symm, by rw [hKL]; rfl, hCk, hZ0 ▸ Kd.R_lower HC.out hb5, hbk, HB.out⟩
        · intro x c w3 cnt3 hwx hwc hlx hat hrg3 hlt3 hg3 hs3 hen
          have hfx : f x = some c := by
            have h1 := HF.out.at_ x .nil
            rw [hat] at h1
            cases e : f x with
            | none => rw [e] at h1; cases h1
            | some c' => rw [e] at h1; simp at h1; rw [h1]
          obtain ⟨j, rfl, hj⟩ := HG.out.2 x c hfx
          obtain ⟨hjl, hje⟩ := List.getElem?_eq_some_iff.mp hj
          have HBw3 := Aside0.mk (HBw.out.grown hg3 HBw.out.size (fun k hk => by cases hk; exact hrb))
          have hown := Kd.own_of_R HR.out
          have hne : ∀ g, (Value.slice Ak ks.length ck).ownBlock = some g → r + 1 ≤ g := fun g hg => (hown.lt g hg).1
          have HR3 := Aside0.mk (Kd.R_of_own (h1 := fun _ => rfl) (ok := fun _ => True) (hown.kept hg3 (by
            cases hb : (Value.slice Ak ks.length ck).ownBlock with
            | none => exact .inl rfl
            | some g => exact .inr (fun e => by have := hne g hb; cases e; omega))) (fun _ _ => trivial))
          have HNE := Aside0.mk hne
          have HC3 := Aside0.mk (HC.out.step (by rw [hfx]; rfl) hlx)
          have HRG3 := Aside0.mk hrg3
          have HSz3 := Aside0.mk (Nat.le_trans HSz.out (Nat.le_of_eq hs3.symm))
          obtain ⟨ad, e0, hx⟩ := Kd.at_string (Kd.C_below HR0.out HBw3.out) (j : Int) (by omega) (by omega)
          cases e0
          rw [Int.toNat_natCast, show rdOf ByteArray.empty l0 (j : Int) = x from by simp [rdOf, hjl, hje]] at hx
          have hj0 : (0 : Int) ≤ (j : Int) := by omega
          have hj1 : (j : Int) < (l0.length : Int) := by omega
          clear hat hrg3 hg3 hs3 hfx hj hje hown hne HC HRG HBw HSz HR hlx
          go_wp2_with ((with_reducible refine gate_builtin (b := .append) (xs := #[.tmp 54, .tmp 59]) rfl ?_); at_builtin; refine Kd.R_append Kd.string (w0 := w3) (r + 1) rfl (.tmp 54) (.tmp 59) 33 9 (.string ⟨#[]⟩) 16 rfl Try.underlying33 XBuildS.info64 rfl (by decide) (by decide) (.slice Ak ks.length ck) ks x [.string x] (fun _ => True) (fun _ => False) rfl rfl rfl (fun _ h => h.elim) (fun _ _ => trivial) HR3.out (Below.refl _ _) HSz3.out (by have := HL2.out; omega) ?_; intro v4 w4 ho hb hg hat)
          have HRG4 := Aside0.mk (HRG3.out.kept hg (fun e => by have := HNE.out _ e.symm; omega) (fun e => by have := HNE.out _ e.symm; omega))
          have HBw4 := Aside0.mk (HBw3.out.grown hg HBw3.out.size (fun k hk => by have := HNE.out k hk; omega))
          have HSz4 := Aside0.mk (Nat.le_trans HSz3.out hg.size)
          clear hb hg hat HRG3 HBw3 HSz3 HNE
          go_roundg k2
          case measure => have := HK2.out; omega
          case rel => exact ⟨_, cnt3, ks ++ [x], ⟨by have := HK2.out; omega⟩, ⟨by have := HL2.out; simp; omega⟩, HRG4, HC3, ⟨ho⟩, HBw4, HSz4⟩
theorem XBuildS.sortC : XBuildS.SortC := fun A c ks W base hR hb hl => XSortS.so_sort A c ks W base hR hb hl

/-! ### colonnadelaw09_texts: function 26 -/
def colonnadelaw09_texts.f (l0 : List ByteArray) : Option (List ByteArray) := if ([] : List ByteArray).length + l0.length < 8796093022208 then (some (([] : List ByteArray) ++ l0)) else (none)
set_option maxHeartbeats 8000000 in
set_option maxRecDepth 100000 in
theorem colonnadelaw09_texts.calls (A0 : Option Addr) (c0 : Nat) (l0 : List ByteArray) (r : List ByteArray) (w : World) (hr0 : Kd.C Kd.string w A0 l0.length l0) (hc0 : l0.length ≤ c0) (h : colonnadelaw09_texts.f l0 = some r) :
    Calls Try.prog 26 #[.slice A0 l0.length c0] w fun e w' => ∃ v0_ : Value, e = .returned (v0_) ∧ Kd.R Kd.string 9 w' w.heap.size (fun _ => True) v0_ r ∧ Below w.heap.size w w' := by
  have HR0 := Aside0.mk hr0
  have HC0 := Aside0.mk hc0
  clear hr0 hc0
  have HB := Aside0.mk (Below.refl w.heap.size w)
  have H : (if ([] : List ByteArray).length + l0.length < 8796093022208 then (some (([] : List ByteArray) ++ l0)) else (none)) = some r := h
  clear h
  by_cases c2 : ([] : List ByteArray).length + l0.length < 8796093022208
  · rw [if_pos c2] at H
    have LMc2 := Aside0.mk c2
    clear c2
    obtain ⟨y210, hy210⟩ : ∃ y_ : List ByteArray, y_ = (([] : List ByteArray) ++ l0) := ⟨_, rfl⟩
    replace H : (some y210) = some r := by first | (rw [hy210]; with_reducible exact H) | (have H2_ := (Option.bind_some _ _).symm.trans H; rw [hy210]; with_reducible exact H2_) | (have H2_ := (Option.bind_some _ _).symm.trans H; with_reducible exact H2_) | with_reducible exact H | (rw [hy210]; exact H) | exact H
    have Ny210 := Aside0.mk hy210
    clear hy210
    obtain rfl := Option.some.inj H
    go_enter Try.func26, Try.ntmps26
    go_wp2_with (first | ((with_reducible refine gate_builtin (b := .append) (xs := #[.tmp 4, .tmp 5]) rfl ?_); at_builtin; refine Kd.R_append_rows Kd.string (w0 := w) w.heap.size rfl (.tmp 4) (.tmp 5) 33 9 (.string ⟨#[]⟩) 16 rfl Try.underlying33 info9 rfl (by decide) (by omega) (.slice none 0 0) ([] : List ByteArray) l0 _ _ _ (fun _ => True) (fun _ => False) rfl rfl ?aO ?aR (fun _ _ h => h) (fun _ h => h.elim) ?aF ?aB ?aS ?aL ?_; (case aR => repeat (first | exact HR0.out | (with_reducible refine Kd.C_alloc ?_ _) | (with_reducible refine Kd.C_drewN ?_ _) | (with_reducible refine Kd.C_drew ?_))); (case aB => exact (by repeat (first | (with_reducible first | exact HB.out | apply below_alloc | apply pw_below_drewN | apply below_drew1) | exact HB.out))); (case aF => exact (fun _ _ => trivial)); (case aO => exact ((Kd.R_nil _ _ _ _ (fun _ => True)))); (case aS => exact (below_size (by repeat (first | (with_reducible first | exact HB.out | apply below_alloc | apply pw_below_drewN | apply below_drew1) | exact HB.out)))); (case aL => have := LMc2.out; omega); intro v211 w3 ho hb hg hat; rw [← Ny210.out] at ho; have n0_ := Aside0.mk (hb); have n1_ := Aside0.mk (ho); clear HB; have HB := n0_; have HO212 := n1_; clear n0_ n1_; clear ho hb hg hat))
    go_ret
    exact ⟨_, by first | rfl | (simp [errW_none, errW_some] <;> rfl) | (simp [*, errW_none, errW_some] <;> rfl), by (with_reducible repeat (first | apply Kd.R_alloc | apply Kd.R_drewN | apply Kd.R_drew)); exact HO212.out, by repeat (first | (with_reducible first | exact HB.out | apply below_alloc | apply pw_below_drewN | apply below_drew1) | exact HB.out)⟩
  · rw [if_neg c2] at H
    exact absurd H (by simp)

/-! ### cmp_Less_string: function 98 -/
def cmp_Less_string.f (a0 : ByteArray) (a1 : ByteArray) : Option (Bool) := (cmp_isNaN_string.f a0).bind fun t213 => (if t213 = true then ((cmp_isNaN_string.f a1).bind fun t214 => (if t214 = true then (some (Op.bytesLess a0.toList a1.toList)) else (some true))) else (some (Op.bytesLess a0.toList a1.toList)))
set_option maxHeartbeats 8000000 in
set_option maxRecDepth 100000 in
theorem cmp_Less_string.calls (a0 : ByteArray) (a1 : ByteArray) (r : Bool) (w : World) (h : cmp_Less_string.f a0 a1 = some r) :
    Calls Try.prog 98 #[.string a0, .string a1] w fun e w' => e = .returned (.bool r) ∧ Drawn0 w w' := by
  have H : ((cmp_isNaN_string.f a0).bind fun t213 => (if t213 = true then ((cmp_isNaN_string.f a1).bind fun t214 => (if t214 = true then (some (Op.bytesLess a0.toList a1.toList)) else (some true))) else (some (Op.bytesLess a0.toList a1.toList)))) = some r := h
  clear h
  replace H := Option.bind_eq_some_iff.mp H
  obtain ⟨t213, A30, H⟩ := H
  replace H : (if t213 = true then ((cmp_isNaN_string.f a1).bind fun t214 => (if t214 = true then (some (Op.bytesLess a0.toList a1.toList)) else (some true))) else (some (Op.bytesLess a0.toList a1.toList))) = some r := H
  have A3 := Aside0.mk A30
  clear A30
  by_cases c4 : t213 = true
  · subst c4
    have H1 : ((cmp_isNaN_string.f a1).bind fun t214 => (if t214 = true then (some (Op.bytesLess a0.toList a1.toList)) else (some true))) = some r := by rw [if_pos rfl] at H; exact H
    clear H
    have H := H1
    clear H1
    replace H := Option.bind_eq_some_iff.mp H
    obtain ⟨t214, A50, H⟩ := H
    replace H : (if t214 = true then (some (Op.bytesLess a0.toList a1.toList)) else (some true)) = some r := H
    have A5 := Aside0.mk A50
    clear A50
    by_cases c6 : t214 = true
    · subst c6
      have H1 : (some (Op.bytesLess a0.toList a1.toList)) = some r := by rw [if_pos rfl] at H; exact H
      clear H
      have H := H1
      clear H1
      obtain rfl := Option.some.inj H
      go_enter Try.func98, Try.ntmps98
      go_wp2_with (first | ((with_reducible refine gate_callee (f := 95) rfl ?_); refine goesL_ (some 6) rfl rfl Try.func95 (by kernel_rfl) rfl #[.string a0] rfl (by (try simp only [List.map_toArray, List.map_cons, List.map_nil]); first | done | rfl | (simp only [List.length_drop, List.length_take]; rfl)) ?_; (with_reducible refine (cmp_isNaN_string.calls a0 true _ A3.out).mono ?_); rintro e w' ⟨rfl, ⟨nd, rfl⟩⟩; refine ⟨_, rfl, ?_⟩) | (go_at_call 95; (with_reducible refine (cmp_isNaN_string.calls a1 true _ A5.out).mono ?_); rintro e w' ⟨rfl, ⟨nd, rfl⟩⟩))
      go_ret
      exact ⟨by first | rfl | (simp; done) | (simp [*]; done), by repeat (first | exact Drawn0.refl _ | apply Drawn0.step)⟩
    · replace c6 := Bool.eq_false_iff.mpr c6
      subst c6
      have H1 : (some true) = some r := by rw [if_neg (show ¬ (false = true) by decide)] at H; exact H
      clear H
      have H := H1
      clear H1
      obtain rfl := Option.some.inj H
      go_enter Try.func98, Try.ntmps98
      go_wp2_with (first | ((with_reducible refine gate_callee (f := 95) rfl ?_); refine goesL_ (some 6) rfl rfl Try.func95 (by kernel_rfl) rfl #[.string a0] rfl (by (try simp only [List.map_toArray, List.map_cons, List.map_nil]); first | done | rfl | (simp only [List.length_drop, List.length_take]; rfl)) ?_; (with_reducible refine (cmp_isNaN_string.calls a0 true _ A3.out).mono ?_); rintro e w' ⟨rfl, ⟨nd, rfl⟩⟩; refine ⟨_, rfl, ?_⟩) | (go_at_call 95; (with_reducible refine (cmp_isNaN_string.calls a1 false _ A5.out).mono ?_); rintro e w' ⟨rfl, ⟨nd, rfl⟩⟩))
      go_ret
      exact ⟨by first | rfl | (simp; done) | (simp [*]; done), by repeat (first | exact Drawn0.refl _ | apply Drawn0.step)⟩
  · replace c4 := Bool.eq_false_iff.mpr c4
    subst c4
    have H1 : (some (Op.bytesLess a0.toList a1.toList)) = some r := by rw [if_neg (show ¬ (false = true) by decide)] at H; exact H
    clear H
    have H := H1
    clear H1
    obtain rfl := Option.some.inj H
    go_enter Try.func98, Try.ntmps98
    go_wp2_with (first | ((with_reducible refine gate_callee (f := 95) rfl ?_); refine goesL_ (some 6) rfl rfl Try.func95 (by kernel_rfl) rfl #[.string a0] rfl (by (try simp only [List.map_toArray, List.map_cons, List.map_nil]); first | done | rfl | (simp only [List.length_drop, List.length_take]; rfl)) ?_; (with_reducible refine (cmp_isNaN_string.calls a0 false _ A3.out).mono ?_); rintro e w' ⟨rfl, ⟨nd, rfl⟩⟩; refine ⟨_, rfl, ?_⟩))
    go_ret
    exact ⟨by first | rfl | (simp; done) | (simp [*]; done), by repeat (first | exact Drawn0.refl _ | apply Drawn0.step)⟩

/-! ### slices_isNaN_string: function 99 -/
def slices_isNaN_string.f (a0 : ByteArray) : Option (Bool) := some (a0.toList != a0.toList)
set_option maxHeartbeats 8000000 in
set_option maxRecDepth 100000 in
theorem slices_isNaN_string.calls (a0 : ByteArray) (r : Bool) (w : World) (h : slices_isNaN_string.f a0 = some r) :
    Calls Try.prog 99 #[.string a0] w fun e w' => e = .returned (.bool r) ∧ Drawn0 w w' := by
  have H : (some (a0.toList != a0.toList)) = some r := h
  clear h
  obtain rfl := Option.some.inj H
  go_enter Try.func99, Try.ntmps99
  go_wp2
  go_ret
  exact ⟨by first | rfl | (simp; done) | (simp [*]; done), by repeat (first | exact Drawn0.refl _ | apply Drawn0.step)⟩

end Go.Proofs.Ytlpllhpnnhablaa.PDictTextOrder
