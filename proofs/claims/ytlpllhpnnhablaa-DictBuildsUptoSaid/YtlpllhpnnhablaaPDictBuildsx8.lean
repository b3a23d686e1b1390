-- Written by xprint.py, this session's own program over the kit's print; Lean checks it.
import Derived.Test.YtlpllhpnnhablaaPDictBuildsx0
import Derived.Test.YtlpllhpnnhablaaPDictBuildsx1
import Derived.Test.YtlpllhpnnhablaaPDictBuildsx2
import Derived.Test.YtlpllhpnnhablaaPDictBuildsx3
import Derived.Test.YtlpllhpnnhablaaPDictBuildsx4
import Derived.Test.YtlpllhpnnhablaaPDictBuildsx7
namespace Go.Proofs.Ytlpllhpnnhablaa.PDictBuilds
open Go.RowKit Go.Proofs.YtlpllhpnnhablaaW.PrintWords Go.Proofs.YtlpllhpnnhablaaW.PrintLast Go.Proofs.YtlpllhpnnhablaaW.PrintMore
attribute [local go_sem] max2_int min2_int max_two min_two max_three min_three max_four min_four   -- for this text's walks alone
set_option linter.unusedVariables false
set_option linter.unusedSimpArgs false

/-! ### colonnadelaw09_twin: function 37 -/
def colonnadelaw09_twin.f (l0 : List Int) : Option (List Int) := if ([] : List Int).length + l0.length < 140737488355328 then (some (([] : List Int) ++ l0)) else (none)
set_option maxHeartbeats 8000000 in
set_option maxRecDepth 100000 in
theorem colonnadelaw09_twin.calls (A0 : Option Addr) (c0 : Nat) (l0 : List Int) (r : List Int) (w : World) (hr0 : Kd.C (Kd.int .u8) w A0 l0.length l0) (hc0 : l0.length ≤ c0) (h : colonnadelaw09_twin.f l0 = some r) :
    Calls Try.prog 37 #[.slice A0 l0.length c0] w fun e w' => ∃ v0_ : Value, e = .returned (v0_) ∧ Kd.R (Kd.int .u8) 5 w' w.heap.size (fun _ => True) v0_ r ∧ Below w.heap.size w w' := by
  have HR0 := Aside0.mk hr0
  have HC0 := Aside0.mk hc0
  clear hr0 hc0
  have HB := Aside0.mk (Below.refl w.heap.size w)
  have H : (if ([] : List Int).length + l0.length < 140737488355328 then (some (([] : List Int) ++ l0)) else (none)) = some r := h
  clear h
  by_cases c2 : ([] : List Int).length + l0.length < 140737488355328
  · rw [if_pos c2] at H
    have LMc2 := Aside0.mk c2
    clear c2
    obtain ⟨y235, hy235⟩ : ∃ y_ : List Int, y_ = (([] : List Int) ++ l0) := ⟨_, rfl⟩
    replace H : (some y235) = some r := by first | (rw [hy235]; with_reducible exact H) | (have H2_ := (Option.bind_some _ _).symm.trans H; rw [hy235]; with_reducible exact H2_) | (have H2_ := (Option.bind_some _ _).symm.trans H; with_reducible exact H2_) | with_reducible exact H | (rw [hy235]; exact H) | exact H
    have Ny235 := Aside0.mk hy235
    clear hy235
    obtain rfl := Option.some.inj H
    go_enter Try.func37, Try.ntmps37
    go_wp2_with (first | ((with_reducible refine gate_builtin (b := .append) (xs := #[.tmp 4, .tmp 5]) rfl ?_); at_builtin; refine Kd.R_append_rows (Kd.int .u8) (w0 := w) w.heap.size rfl (.tmp 4) (.tmp 5) 46 5 (.int .u8 0) 1 rfl Try.underlying46 info5 rfl (by decide) (by omega) (.slice none 0 0) ([] : List Int) l0 _ _ _ (fun _ => True) (fun _ => False) rfl rfl ?aO ?aR (fun _ _ h => h) (fun _ h => h.elim) ?aF ?aB ?aS ?aL ?_; (case aR => repeat (first | exact HR0.out | (with_reducible refine Kd.C_alloc ?_ _) | (with_reducible refine Kd.C_drewN ?_ _) | (with_reducible refine Kd.C_drew ?_))); (case aB => exact (by repeat (first | (with_reducible first | exact HB.out | apply below_alloc | apply pw_below_drewN | apply below_drew1) | exact HB.out))); (case aF => exact (fun _ _ => trivial)); (case aO => exact ((Kd.R_nil _ _ _ _ (fun _ => True)))); (case aS => exact (below_size (by repeat (first | (with_reducible first | exact HB.out | apply below_alloc | apply pw_below_drewN | apply below_drew1) | exact HB.out)))); (case aL => have := LMc2.out; omega); intro v236 w3 ho hb hg hat; rw [← Ny235.out] at ho; have n0_ := Aside0.mk (hb); have n1_ := Aside0.mk (ho); clear HB; have HB := n0_; have HO237 := n1_; clear n0_ n1_; clear ho hb hg hat))
    go_ret
    exact ⟨_, by first | rfl | (simp [errW_none, errW_some] <;> rfl) | (simp [*, errW_none, errW_some] <;> rfl), by (with_reducible repeat (first | apply Kd.R_alloc | apply Kd.R_drewN | apply Kd.R_drew)); exact HO237.out, by repeat (first | (with_reducible first | exact HB.out | apply below_alloc | apply pw_below_drewN | apply below_drew1) | exact HB.out)⟩
  · rw [if_neg c2] at H
    exact absurd H (by simp)

/-! ### colonnadelaw09_known: function 22 -/
theorem XKn.litC (k : IntKind) (W : World) (e : TypeId) (xs : List Int) (h : xs.length ≤ 9223372036854775807) : (Kd.int k).C (W.alloc (.cells (nums k xs).toArray e)) (some ⟨W.heap.size, 0, none⟩) xs.length xs :=
  (Kd.R_reads' (Kd.R_of_own (h1 := fun _ => rfl) (own_lit W 0 e k xs (Nat.zero_le _) h) (ok := fun _ => True) (fun _ _ => trivial))).2.2
theorem XKn.lit1 : XMap.keysOf [7, 3, 7, 5] = [3, 5, 7] := by decide
theorem XKn.lit2 : [7, 3, 7, 5].map (XBuild.code [3, 5, 7]) = [2, 0, 2, 1] := by decide
theorem XKn.put1 : XPut.putM 40 [7, 3, 7] = some ([2, 3, 0, 0, 0, 0, 0, 0, 0, 7, 0, 0, 0, 0, 0, 0, 0, 5], 0) := by kernel_rfl
theorem XKn.ints1 : XCur.intsM 40 [2, 3, 0, 0, 0, 0, 0, 0, 0, 7, 0, 0, 0, 0, 0, 0, 0, 5] 3 = some ([3, 7], 1, [5], 0) := by kernel_rfl
theorem XKn.find1 : dict_Find_int64.f 40 [3, 5, 7] 5 = some (1, true) := by kernel_rfl
theorem XKn.floor1 : dict_Floor_int64.f 40 [3, 5, 7] 6 = some 2 := by kernel_rfl
theorem XKn.same1 : colonnadelaw09_sameInts.f 40 [3, 5, 7] [3, 5, 7] = some true := by kernel_rfl
theorem XKn.same2 : colonnadelaw09_sameInts.f 40 [3, 7] [3, 7] = some true := by kernel_rfl
theorem XKn.codes1 : colonnadelaw09_sameCodes.f 40 [2, 0, 2, 1] [2, 0, 2, 1] = some true := by kernel_rfl
theorem XKn.twin1 : colonnadelaw09_twin.f [2, 3, 0, 0, 0, 0, 0, 0, 0, 7, 0, 0, 0, 0, 0, 0, 0, 5] = some [2, 3, 0, 0, 0, 0, 0, 0, 0, 7, 0, 0, 0, 0, 0, 0, 0, 5] := by kernel_rfl
theorem XKn.strs1 : strOfNums [5] = ⟨#[5]⟩ := rfl
set_option maxHeartbeats 4000000 in
set_option maxRecDepth 100000 in
/-- known() answers true -/
theorem XKn.known (w : World) : Calls Try.prog 22 #[] w fun e w' => e = .returned (.bool true) ∧ Below w.heap.size w w' := by
  go_enter Try.func22, Try.ntmps22
  go_wp2_with fail
  refine (XBuild.build (some ⟨w.heap.size, 0, none⟩) 4 [7, 3, 7, 5] _ (XKn.litC .i64 w 2 [7, 3, 7, 5] (by decide)) (by decide) (by decide) (by decide) XBuild.sortC).mono ?_
  rintro e w1 ⟨Ak, b, SK, hSK, rfl, hCk, hRc, hap, hB⟩
  obtain rfl : SK = [3, 5, 7] := hSK.trans XKn.lit1
  rw [XKn.lit2] at hRc
  have HC1 := Aside0.mk hCk
  have HD1 := Aside0.mk (Kd.R_reads' hRc).2.2
  have HB1 := Aside0.mk (below_then (below_alloc (Below.refl w.heap.size w) _) (below_alloc (Below.refl w.heap.size w) (.cells #[.int .i64 7, .int .i64 3, .int .i64 7, .int .i64 5] 2)).size hB)
  clear hSK hCk hRc hap hB
  go_wp2_with fail
  refine (XPut.putInts 40 (some ⟨w1.heap.size, 0, none⟩) 3 [7, 3, 7] _ _ (XKn.litC .i64 w1 2 [7, 3, 7] (by decide)) (by decide) (by decide) XKn.put1).mono ?_
  rintro e w2 ⟨vb, rfl, hvb, hb2⟩
  have h12 := below_alloc (Below.refl w1.heap.size w1) (.cells #[.int .i64 7, .int .i64 3, .int .i64 7] 2)
  have hb12 := below_then h12 h12.size hb2
  have HC2 := Aside0.mk (Kd.C_below HC1.out hb12)
  have HD2 := Aside0.mk (Kd.C_below HD1.out hb12)
  have HB2 := Aside0.mk (below_then HB1.out HB1.out.size hb12)
  obtain ⟨A2, n2, rfl⟩ := Kd.R_slice hvb
  obtain ⟨_, hn2, hCb⟩ := Kd.R_reads' hvb
  have HE2 := Aside0.mk hCb
  have HN2 := Aside0.mk hn2
  clear hvb hb2 h12 hb12 hn2 hCb HC1 HD1 HB1
  go_wp2_with fail
  refine (colonnadelaw09_twin.calls A2 n2 _ _ w2 HE2.out HN2.out XKn.twin1).mono ?_
  rintro e w3 ⟨v3, rfl, hv3, hb3⟩
  obtain ⟨A3, n3, rfl⟩ := Kd.R_slice hv3
  obtain ⟨_, hn3, hC3⟩ := Kd.R_reads' hv3
  have HE3 := Aside0.mk (Kd.C_below HE2.out hb3)
  have HC3 := Aside0.mk (Kd.C_below HC2.out hb3)
  have HD3 := Aside0.mk (Kd.C_below HD2.out hb3)
  have HF3 := Aside0.mk hC3
  have HB3 := Aside0.mk (below_then HB2.out HB2.out.size hb3)
  clear hv3 hn3 hC3 hb3 HE2 HC2 HD2 HB2 HN2
  go_wp2_with fail
  refine (XCur.ints 40 A3 n3 _ 3 _ w3 HF3.out (by decide) XKn.ints1).mono ?_
  rintro e w4 ⟨vk, vl, rfl, hvk, hvl, hb4⟩
  simp only at hvk hvl
  obtain ⟨A4, n4, rfl⟩ := Kd.R_slice hvk
  obtain ⟨A5, n5, rfl⟩ := Kd.R_slice hvl
  have HE4 := Aside0.mk (Kd.C_below HE3.out hb4)
  have HC4 := Aside0.mk (Kd.C_below HC3.out hb4)
  have HD4 := Aside0.mk (Kd.C_below HD3.out hb4)
  have HK4 := Aside0.mk (Kd.R_reads' hvk).2.2
  have HL4 := Aside0.mk (Kd.own_of_R hvl)
  have HKn := Aside0.mk (Kd.R_reads' hvk).2.1
  have HB4 := Aside0.mk (below_then HB3.out HB3.out.size hb4)
  clear hvk hvl hb4 HE3 HC3 HD3 HF3 HB3
  go_wp2_with fail
  refine (dict_Find_int64.calls 40 Ak 3 [3, 5, 7] 5 1 true w4 HC4.out (by decide) XKn.find1).mono ?_
  rintro e w5 ⟨rfl, ⟨nd5, rfl⟩⟩
  have h45 := pw_below_drewN (Below.refl w4.heap.size w4) nd5
  generalize w4.drewN nd5 = w5 at h45 ⊢
  have HE5 := Aside0.mk (Kd.C_below HE4.out h45)
  have HC5 := Aside0.mk (Kd.C_below HC4.out h45)
  have HD5 := Aside0.mk (Kd.C_below HD4.out h45)
  have HK5 := Aside0.mk (Kd.C_below HK4.out h45)
  have HL5 := Aside0.mk (pw_own_below HL4.out h45)
  have HB5 := Aside0.mk (below_then HB4.out HB4.out.size h45)
  clear h45 HE4 HC4 HD4 HK4 HL4 HB4
  go_wp2_with fail
  refine (colonnadelaw09_sameInts.calls 40 Ak 3 [3, 5, 7] (some ⟨w5.heap.size, 0, none⟩) 3 [3, 5, 7] true (w5.alloc (.cells #[.int .i64 3, .int .i64 5, .int .i64 7] 2)) (Kd.C_alloc HC5.out _) (by decide) (XKn.litC .i64 w5 2 [3, 5, 7] (by decide)) (by decide) XKn.same1).mono ?_
  rintro e w6 ⟨rfl, ⟨nd6, rfl⟩⟩
  have h56 := pw_below_drewN (below_alloc (Below.refl w5.heap.size w5) (.cells #[.int .i64 3, .int .i64 5, .int .i64 7] 2)) nd6
  generalize (w5.alloc (.cells #[.int .i64 3, .int .i64 5, .int .i64 7] 2)).drewN nd6 = w6 at h56 ⊢
  have HE6 := Aside0.mk (Kd.C_below HE5.out h56)
  have HC6 := Aside0.mk (Kd.C_below HC5.out h56)
  have HD6 := Aside0.mk (Kd.C_below HD5.out h56)
  have HK6 := Aside0.mk (Kd.C_below HK5.out h56)
  have HL6 := Aside0.mk (pw_own_below HL5.out h56)
  have HB6 := Aside0.mk (below_then HB5.out HB5.out.size h56)
  clear h56 HE5 HC5 HD5 HK5 HL5 HB5
  go_wp2_with fail
  refine (colonnadelaw09_sameCodes.calls 40 (some ⟨b, 0, none⟩) 4 [2, 0, 2, 1] (some ⟨w6.heap.size, 0, none⟩) 4 [2, 0, 2, 1] true (w6.alloc (.cells #[.int .u64 2, .int .u64 0, .int .u64 2, .int .u64 1] 80)) (Kd.C_alloc HD6.out _) (by decide) (XKn.litC .u64 w6 80 [2, 0, 2, 1] (by decide)) (by decide) XKn.codes1).mono ?_
  rintro e w7 ⟨rfl, ⟨nd7, rfl⟩⟩
  have h67 := pw_below_drewN (below_alloc (Below.refl w6.heap.size w6) (.cells #[.int .u64 2, .int .u64 0, .int .u64 2, .int .u64 1] 80)) nd7
  generalize (w6.alloc (.cells #[.int .u64 2, .int .u64 0, .int .u64 2, .int .u64 1] 80)).drewN nd7 = w7 at h67 ⊢
  have HC7 := Aside0.mk (Kd.C_below HC6.out h67)
  have HK7 := Aside0.mk (Kd.C_below HK6.out h67)
  have HL7 := Aside0.mk (pw_own_below HL6.out h67)
  have HB7 := Aside0.mk (below_then HB6.out HB6.out.size h67)
  obtain ⟨ad, rfl, hx0⟩ := Kd.at_int (Kd.C_below HE6.out h67) 0 (by decide) (by decide)
  obtain ⟨ad', e', hx1⟩ := Kd.at_int (Kd.C_below HE6.out h67) 17 (by decide) (by decide)
  cases e'
  rw [show rd [2, 3, 0, 0, 0, 0, 0, 0, 0, 7, 0, 0, 0, 0, 0, 0, 0, 5] 0 = 2 from rfl, show ad.add (0 : Int).toNat = ad from by simp [Addr.add]] at hx0
  rw [show rd [2, 3, 0, 0, 0, 0, 0, 0, 0, 7, 0, 0, 0, 0, 0, 0, 0, 5] 17 = 5 from rfl, show ad.add (17 : Int).toNat = ⟨ad.block, ad.off + 17, none⟩ from Addr.add_succ' ad 16] at hx1
  clear h67 HE6 HC6 HD6 HK6 HL6 HB6
  go_wp2_with fail
  refine (colonnadelaw09_sameInts.calls 40 A4 n4 [3, 7] (some ⟨w7.heap.size, 0, none⟩) 2 [3, 7] true (w7.alloc (.cells #[.int .i64 3, .int .i64 7] 2)) (Kd.C_alloc HK7.out _) HKn.out (XKn.litC .i64 w7 2 [3, 7] (by decide)) (by decide) XKn.same2).mono ?_
  rintro e w8 ⟨rfl, ⟨nd8, rfl⟩⟩
  have h78 := pw_below_drewN (below_alloc (Below.refl w7.heap.size w7) (.cells #[.int .i64 3, .int .i64 7] 2)) nd8
  generalize (w7.alloc (.cells #[.int .i64 3, .int .i64 7] 2)).drewN nd8 = w8 at h78 ⊢
  have HC8 := Aside0.mk (Kd.C_below HC7.out h78)
  have HB8 := Aside0.mk (below_then HB7.out HB7.out.size h78)
  have hcv : (convert 46 9 (.slice A5 1 n5)).run Try.prog w8 = .ok (.string (strOfNums [5])) w8 := own_string (P := Try.prog) (src := 46) (dst := 9) Try.underlying46 Try.underlying5 Try.underlying9 (pw_own_below HL7.out h78)
  rw [XKn.strs1] at hcv
  clear h78 HC7 HK7 HL7 HB7 hx0 hx1
  go_wp2_with fail
  refine (dict_Floor_int64.calls 40 Ak 3 [3, 5, 7] 6 2 w8 HC8.out (by decide) XKn.floor1).mono ?_
  rintro e w9 ⟨rfl, ⟨nd9, rfl⟩⟩
  go_wp2_with fail
  go_ret
  exact ⟨rfl, pw_below_drewN HB8.out nd9⟩

/-! ### colonnadelaw09_DictBuilds: function 3 -/
set_option maxHeartbeats 4000000 in
set_option maxRecDepth 100000 in
theorem colonnadelaw09_DictBuilds.ck (k : Nat) (A0 : Option Addr) (c0 : Nat) (l0 : List Int) (w : World) (hr0 : Kd.C (Kd.int .i64) w A0 l0.length l0) (hc0 : l0.length ≤ c0) (hl : l0.length ≤ 1048576) (hw : ∀ x ∈ l0, (Lit.int .i64 x).wf = true)
    (SK CS : List Int) (hSK : SK = XMap.keysOf l0) (hCS : CS = l0.map (XBuild.code SK)) (h1 : colonnaderef09_Keys.f k l0 = some SK) (h2 : colonnaderef09_Codes.f k SK l0 = some CS) (h3 : colonnadelaw09_ints.f l0 = some l0) (h4 : colonnadelaw09_sameInts.f k SK SK = some true) (h5 : colonnadelaw09_sameCodes.f k CS CS = some true) :
    Calls Try.prog 3 #[.slice A0 l0.length c0] w fun e w' => e = .returned (.bool true) ∧ Below w.heap.size w w' := by
  have HR0 := Aside0.mk hr0
  have HC0 := Aside0.mk hc0
  have HW := Aside0.mk hw
  have HL := Aside0.mk hl
  have H1 := Aside0.mk h1
  have H2 := Aside0.mk h2
  have H3 := Aside0.mk h3
  have H4 := Aside0.mk h4
  have H5 := Aside0.mk h5
  have HSK := Aside0.mk hSK
  have HCS := Aside0.mk hCS
  clear hr0 hc0 hw hl h1 h2 h3 h4 h5 hSK hCS
  go_enter Try.func3, Try.ntmps3
  go_wp2_with fail
  refine (colonnaderef09_Keys.calls k A0 c0 l0 SK w HR0.out HC0.out H1.out).mono ?_
  rintro e w1 ⟨v1, rfl, hv1, hb1⟩
  obtain ⟨A1, n1, rfl⟩ := Kd.R_slice hv1
  have K1 := Aside0.mk (Kd.R_reads' hv1).2.2
  have N1 := Aside0.mk (Kd.R_reads' hv1).2.1
  have L1 := Aside0.mk (Kd.C_below HR0.out hb1)
  have B1 := Aside0.mk hb1
  clear hv1 hb1
  go_wp2_with fail
  refine (colonnaderef09_Codes.calls k A1 n1 SK A0 c0 l0 CS w1 K1.out N1.out L1.out HC0.out H2.out).mono ?_
  rintro e w2 ⟨v2, rfl, hv2, hb2⟩
  obtain ⟨A2, n2, rfl⟩ := Kd.R_slice hv2
  have K2 := Aside0.mk (Kd.C_below K1.out hb2)
  have C2 := Aside0.mk (Kd.R_reads' hv2).2.2
  have N2 := Aside0.mk (Kd.R_reads' hv2).2.1
  have L2 := Aside0.mk (Kd.C_below L1.out hb2)
  have B2 := Aside0.mk (below_then B1.out B1.out.size hb2)
  clear hv2 hb2 K1 L1 B1
  go_wp2_with fail
  refine (colonnadelaw09_ints.calls A0 c0 l0 l0 w2 L2.out HC0.out H3.out).mono ?_
  rintro e w3 ⟨v3, rfl, hv3, hb3⟩
  obtain ⟨A3, n3, rfl⟩ := Kd.R_slice hv3
  have K3 := Aside0.mk (Kd.C_below K2.out hb3)
  have C3 := Aside0.mk (Kd.C_below C2.out hb3)
  have I3 := Aside0.mk (Kd.R_reads' hv3).2.2
  have N3 := Aside0.mk (Kd.R_reads' hv3).2.1
  have B3 := Aside0.mk (below_then B2.out B2.out.size hb3)
  clear hv3 hb3 K2 C2 L2 B2
  go_wp2_with fail
  refine (XBuild.build A3 n3 l0 w3 I3.out N3.out HW.out (by have := HL.out; omega) XBuild.sortC).mono ?_
  rintro e w4 ⟨A4, b4, SK', hSK', rfl, hk4, hc4, hap, hb4⟩
  obtain rfl : SK' = SK := hSK'.trans HSK.out.symm
  rw [← HCS.out] at hc4
  have K4 := Aside0.mk (Kd.C_below K3.out hb4)
  have C4 := Aside0.mk (Kd.C_below C3.out hb4)
  have P4 := Aside0.mk hk4
  have Q4 := Aside0.mk (Kd.R_reads' hc4).2.2
  have B4 := Aside0.mk (below_then B3.out B3.out.size hb4)
  have hlc : CS.length = l0.length := by rw [HCS.out]; simp
  rw [← hlc]
  have HLC := Aside0.mk hlc
  clear hSK' hk4 hc4 hap hb4 K3 C3 I3 B3 hlc
  go_wp2_with (first
    | (go_at_call 20; (with_reducible refine (colonnadelaw09_sameInts.calls k A4 SK'.length SK' A1 n1 SK' true w4 P4.out (Nat.le_refl _) K4.out N1.out H4.out).mono ?_); rintro e w5 ⟨rfl, ⟨nd5, rfl⟩⟩)
    | (go_at_call 21; (with_reducible refine (colonnadelaw09_sameCodes.calls k _ _ CS A2 n2 CS true _ (Kd.C_drewN Q4.out _) (Nat.le_refl _) (Kd.C_drewN C4.out _) N2.out H5.out).mono ?_); rintro e w6 ⟨rfl, ⟨nd6, rfl⟩⟩)
    | (go_at_call 22; refine (XKn.known _).mono ?_; rintro e w7 ⟨rfl, hb7⟩; have HB7 := Aside0.mk hb7; clear hb7))
  go_ret
  have hb := pw_below_drewN (Below.refl w4.heap.size w4) (nd5 + nd6)
  exact ⟨rfl, below_then B4.out B4.out.size (below_then hb hb.size HB7.out)⟩
open Classical in
noncomputable def colonnadelaw09_DictBuilds.f (k : Nat) (l0 : List Int) : Option Bool :=
  if l0.length ≤ 1048576 ∧ (∀ x ∈ l0, (Lit.int .i64 x).wf = true) ∧ colonnaderef09_Keys.f k l0 = some (XMap.keysOf l0) ∧ colonnaderef09_Codes.f k (XMap.keysOf l0) l0 = some (l0.map (XBuild.code (XMap.keysOf l0))) ∧ colonnadelaw09_ints.f l0 = some l0 ∧
    colonnadelaw09_sameInts.f k (XMap.keysOf l0) (XMap.keysOf l0) = some true ∧ colonnadelaw09_sameCodes.f k (l0.map (XBuild.code (XMap.keysOf l0))) (l0.map (XBuild.code (XMap.keysOf l0))) = some true then some true else none
theorem colonnadelaw09_DictBuilds.calls (k : Nat) (A0 : Option Addr) (c0 : Nat) (l0 : List Int) (r : Bool) (w : World) (hr0 : Kd.C (Kd.int .i64) w A0 l0.length l0) (hc0 : l0.length ≤ c0) (h : colonnadelaw09_DictBuilds.f k l0 = some r) :
    Calls Try.prog 3 #[.slice A0 l0.length c0] w fun e w' => e = .returned (.bool r) ∧ Below w.heap.size w w' := by
  unfold colonnadelaw09_DictBuilds.f at h
  split at h
  · rename_i hc
    obtain rfl := Option.some.inj h
    obtain ⟨a1, a2, a3, a4, a5, a6, a7⟩ := hc
    exact colonnadelaw09_DictBuilds.ck k A0 c0 l0 w hr0 hc0 a1 a2 _ _ rfl rfl a3 a4 a5 a6 a7
  · cases h

end Go.Proofs.Ytlpllhpnnhablaa.PDictBuilds
