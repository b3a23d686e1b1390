-- Written by xprint.py, this session's own program over the kit's print; Lean checks it.
import Derived.Test.YtlpllhpnnhablaaPDictOrderx0
import Derived.Test.YtlpllhpnnhablaaPDictOrderx1
import Derived.Test.YtlpllhpnnhablaaPDictOrderx2
import Derived.Test.YtlpllhpnnhablaaPDictOrderx3
import Derived.Test.YtlpllhpnnhablaaPDictOrderx7
namespace Go.Proofs.Ytlpllhpnnhablaa.PDictOrder
open Go.RowKit Go.Proofs.YtlpllhpnnhablaaW.PrintWords Go.Proofs.YtlpllhpnnhablaaW.PrintLast Go.Proofs.YtlpllhpnnhablaaW.PrintMore
attribute [local go_sem] max2_int min2_int max_two min_two max_three min_three max_four min_four   -- for this text's walks alone
set_option linter.unusedVariables false
set_option linter.unusedSimpArgs false

/-! ### colonnadelaw09_twin: function 37 -/
def colonnadelaw09_twin.f (l0 : List Int) : Option (List Int) := if ([] : List Int).length + l0.length < 140737488355328 then (some (([] : List Int) ++ l0)) else (none)
set_option maxHeartbeats 8000000 in
set_option maxRecDepth 100000 in
theorem colonnadelaw09_twin.calls (A0 : Option Addr) (c0 : Nat) (l0 : List Int) (r : List Int) (w : World) (hr0 : Kd.C (Kd.int .u8) w A0 l0.length l0) (hc0 : l0.length ≤ c0) (h : colonnadelaw09_twin.f l0 = some r) :
    Calls Try.prog 37 #[.slice A0 l0.length c0] w fun e w' => ∃ v0_ : Value, e = .returned (v0_) ∧ Kd.R (Kd.int .u8) 5 w' w.heap.size (fun _ => True) v0_ r ∧ Below w.heap.size w w' := by
  have HR0 := Aside0.mk hr0
  have HC0 := Aside0.mk hc0
  clear hr0 hc0
  have HB := Aside0.mk (Below.refl w.heap.size w)
  have H : (if ([] : List Int).length + l0.length < 140737488355328 then (some (([] : List Int) ++ l0)) else (none)) = some r := h
  clear h
  by_cases c2 : ([] : List Int).length + l0.length < 140737488355328
  · rw [if_pos c2] at H
    have LMc2 := Aside0.mk c2
    clear c2
    obtain ⟨y208, hy208⟩ : ∃ y_ : List Int, y_ = (([] : List Int) ++ l0) := ⟨_, rfl⟩
    replace H : (some y208) = some r := by first | (rw [hy208]; with_reducible exact H) | (have H2_ := (Option.bind_some _ _).symm.trans H; rw [hy208]; with_reducible exact H2_) | (have H2_ := (Option.bind_some _ _).symm.trans H; with_reducible exact H2_) | with_reducible exact H | (rw [hy208]; exact H) | exact H
    have Ny208 := Aside0.mk hy208
    clear hy208
    obtain rfl := Option.some.inj H
    go_enter Try.func37, Try.ntmps37
    go_wp2_with (first | ((with_reducible refine gate_builtin (b := .append) (xs := #[.tmp 4, .tmp 5]) rfl ?_); at_builtin; refine Kd.R_append_rows (Kd.int .u8) (w0 := w) w.heap.size rfl (.tmp 4) (.tmp 5) 46 5 (.int .u8 0) 1 rfl Try.underlying46 info5 rfl (by decide) (by omega) (.slice none 0 0) ([] : List Int) l0 _ _ _ (fun _ => True) (fun _ => False) rfl rfl ?aO ?aR (fun _ _ h => h) (fun _ h => h.elim) ?aF ?aB ?aS ?aL ?_; (case aR => repeat (first | exact HR0.out | (with_reducible refine Kd.C_alloc ?_ _) | (with_reducible refine Kd.C_drewN ?_ _) | (with_reducible refine Kd.C_drew ?_))); (case aB => exact (by repeat (first | (with_reducible first | exact HB.out | apply below_alloc | apply pw_below_drewN | apply below_drew1) | exact HB.out))); (case aF => exact (fun _ _ => trivial)); (case aO => exact ((Kd.R_nil _ _ _ _ (fun _ => True)))); (case aS => exact (below_size (by repeat (first | (with_reducible first | exact HB.out | apply below_alloc | apply pw_below_drewN | apply below_drew1) | exact HB.out)))); (case aL => have := LMc2.out; omega); intro v209 w3 ho hb hg hat; rw [← Ny208.out] at ho; have n0_ := Aside0.mk (hb); have n1_ := Aside0.mk (ho); clear HB; have HB := n0_; have HO210 := n1_; clear n0_ n1_; clear ho hb hg hat))
    go_ret
    exact ⟨_, by first | rfl | (simp [errW_none, errW_some] <;> rfl) | (simp [*, errW_none, errW_some] <;> rfl), by (with_reducible repeat (first | apply Kd.R_alloc | apply Kd.R_drewN | apply Kd.R_drew)); exact HO210.out, by repeat (first | (with_reducible first | exact HB.out | apply below_alloc | apply pw_below_drewN | apply below_drew1) | exact HB.out)⟩
  · rw [if_neg c2] at H
    exact absurd H (by simp)

/-! ### colonnadelaw09_known: function 22 -/
theorem XKn.litC (k : IntKind) (W : World) (e : TypeId) (xs : List Int) (h : xs.length ≤ 9223372036854775807) : (Kd.int k).C (W.alloc (.cells (nums k xs).toArray e)) (some ⟨W.heap.size, 0, none⟩) xs.length xs :=
  (Kd.R_reads' (Kd.R_of_own (h1 := fun _ => rfl) (own_lit W 0 e k xs (Nat.zero_le _) h) (ok := fun _ => True) (fun _ _ => trivial))).2.2
theorem XKn.lit1 : XMap.keysOf [7, 3, 7, 5] = [3, 5, 7] := by decide
theorem XKn.lit2 : [7, 3, 7, 5].map (XBuild.code [3, 5, 7]) = [2, 0, 2, 1] := by decide
theorem XKn.put1 : XPut.putM 40 [7, 3, 7] = some ([2, 3, 0, 0, 0, 0, 0, 0, 0, 7, 0, 0, 0, 0, 0, 0, 0, 5], 0) := by kernel_rfl
theorem XKn.ints1 : XCur.intsM 40 [2, 3, 0, 0, 0, 0, 0, 0, 0, 7, 0, 0, 0, 0, 0, 0, 0, 5] 3 = some ([3, 7], 1, [5], 0) := by kernel_rfl
theorem XKn.find1 : dict_Find_int64.f 40 [3, 5, 7] 5 = some (1, true) := by kernel_rfl
theorem XKn.floor1 : dict_Floor_int64.f 40 [3, 5, 7] 6 = some 2 := by kernel_rfl
theorem XKn.same1 : colonnadelaw09_sameInts.f 40 [3, 5, 7] [3, 5, 7] = some true := by kernel_rfl
theorem XKn.same2 : colonnadelaw09_sameInts.f 40 [3, 7] [3, 7] = some true := by kernel_rfl
theorem XKn.codes1 : colonnadelaw09_sameCodes.f 40 [2, 0, 2, 1] [2, 0, 2, 1] = some true := by kernel_rfl
theorem XKn.twin1 : colonnadelaw09_twin.f [2, 3, 0, 0, 0, 0, 0, 0, 0, 7, 0, 0, 0, 0, 0, 0, 0, 5] = some [2, 3, 0, 0, 0, 0, 0, 0, 0, 7, 0, 0, 0, 0, 0, 0, 0, 5] := by kernel_rfl
theorem XKn.strs1 : strOfNums [5] = ⟨#[5]⟩ := rfl
set_option maxHeartbeats 4000000 in
set_option maxRecDepth 100000 in
/-- known() answers true -/
theorem XKn.known (w : World) : Calls Try.prog 22 #[] w fun e w' => e = .returned (.bool true) ∧ Below w.heap.size w w' := by
  go_enter Try.func22, Try.ntmps22
  go_wp2_with fail
  refine (XBuild.build (some ⟨w.heap.size, 0, none⟩) 4 [7, 3, 7, 5] _ (XKn.litC .i64 w 2 [7, 3, 7, 5] (by decide)) (by decide) (by decide) (by decide) XBuild.sortC).mono ?_
  rintro e w1 ⟨Ak, b, SK, hSK, rfl, hCk, hRc, hap, hB⟩
  obtain rfl : SK = [3, 5, 7] := hSK.trans XKn.lit1
  rw [XKn.lit2] at hRc
  have HC1 := Aside0.mk hCk
  have HD1 := Aside0.mk (Kd.R_reads' hRc).2.2
  have HB1 := Aside0.mk (below_then (below_alloc (Below.refl w.heap.size w) _) (below_alloc (Below.refl w.heap.size w) (.cells #[.int .i64 7, .int .i64 3, .int .i64 7, .int .i64 5] 2)).size hB)
  clear hSK hCk hRc hap hB
  go_wp2_with fail
  refine (XPut.putInts 40 (some ⟨w1.heap.size, 0, none⟩) 3 [7, 3, 7] _ _ (XKn.litC .i64 w1 2 [7, 3, 7] (by decide)) (by decide) (by decide) XKn.put1).mono ?_
  rintro e w2 ⟨vb, rfl, hvb, hb2⟩
  have h12 := below_alloc (Below.refl w1.heap.size w1) (.cells #[.int .i64 7, .int .i64 3, .int .i64 7] 2)
  have hb12 := below_then h12 h12.size hb2
  have HC2 := Aside0.mk (Kd.C_below HC1.out hb12)
  have HD2 := Aside0.mk (Kd.C_below HD1.out hb12)
  have HB2 := Aside0.mk (below_then HB1.out HB1.out.size hb12)
  obtain ⟨A2, n2, rfl⟩ := Kd.R_slice hvb
  obtain ⟨_, hn2, hCb⟩ := Kd.R_reads' hvb
  have HE2 := Aside0.mk hCb
  have HN2 := Aside0.mk hn2
  clear hvb hb2 h12 hb12 hn2 hCb HC1 HD1 HB1
  go_wp2_with fail
  refine (colonnadelaw09_twin.calls A2 n2 _ _ w2 HE2.out HN2.out XKn.twin1).mono ?_
  rintro e w3 ⟨v3, rfl, hv3, hb3⟩
  obtain ⟨A3, n3, rfl⟩ := Kd.R_slice hv3
  obtain ⟨_, hn3, hC3⟩ := Kd.R_reads' hv3
  have HE3 := Aside0.mk (Kd.C_below HE2.out hb3)
  have HC3 := Aside0.mk (Kd.C_below HC2.out hb3)
  have HD3 := Aside0.mk (Kd.C_below HD2.out hb3)
  have HF3 := Aside0.mk hC3
  have HB3 := Aside0.mk (below_then HB2.out HB2.out.size hb3)
  clear hv3 hn3 hC3 hb3 HE2 HC2 HD2 HB2 HN2
  go_wp2_with fail
  refine (XCur.ints 40 A3 n3 _ 3 _ w3 HF3.out (by decide) XKn.ints1).mono ?_
  rintro e w4 ⟨vk, vl, rfl, hvk, hvl, hb4⟩
  simp only at hvk hvl
  obtain ⟨A4, n4, rfl⟩ := Kd.R_slice hvk
  obtain ⟨A5, n5, rfl⟩ := Kd.R_slice hvl
  have HE4 := Aside0.mk (Kd.C_below HE3.out hb4)
  have HC4 := Aside0.mk (Kd.C_below HC3.out hb4)
  have HD4 := Aside0.mk (Kd.C_below HD3.out hb4)
  have HK4 := Aside0.mk (Kd.R_reads' hvk).2.2
  have HL4 := Aside0.mk (Kd.own_of_R hvl)
  have HKn := Aside0.mk (Kd.R_reads' hvk).2.1
  have HB4 := Aside0.mk (below_then HB3.out HB3.out.size hb4)
  clear hvk hvl hb4 HE3 HC3 HD3 HF3 HB3
  go_wp2_with fail
  refine (dict_Find_int64.calls 40 Ak 3 [3, 5, 7] 5 1 true w4 HC4.out (by decide) XKn.find1).mono ?_
  rintro e w5 ⟨rfl, ⟨nd5, rfl⟩⟩
  have h45 := pw_below_drewN (Below.refl w4.heap.size w4) nd5
  generalize w4.drewN nd5 = w5 at h45 ⊢
  have HE5 := Aside0.mk (Kd.C_below HE4.out h45)
  have HC5 := Aside0.mk (Kd.C_below HC4.out h45)
  have HD5 := Aside0.mk (Kd.C_below HD4.out h45)
  have HK5 := Aside0.mk (Kd.C_below HK4.out h45)
  have HL5 := Aside0.mk (pw_own_below HL4.out h45)
  have HB5 := Aside0.mk (below_then HB4.out HB4.out.size h45)
  clear h45 HE4 HC4 HD4 HK4 HL4 HB4
  go_wp2_with fail
  refine (colonnadelaw09_sameInts.calls 40 Ak 3 [3, 5, 7] (some ⟨w5.heap.size, 0, none⟩) 3 [3, 5, 7] true (w5.alloc (.cells #[.int .i64 3, .int .i64 5, .int .i64 7] 2)) (Kd.C_alloc HC5.out _) (by decide) (XKn.litC .i64 w5 2 [3, 5, 7] (by decide)) (by decide) XKn.same1).mono ?_
  rintro e w6 ⟨rfl, ⟨nd6, rfl⟩⟩
  have h56 := pw_below_drewN (below_alloc (Below.refl w5.heap.size w5) (.cells #[.int .i64 3, .int .i64 5, .int .i64 7] 2)) nd6
  generalize (w5.alloc (.cells #[.int .i64 3, .int .i64 5, .int .i64 7] 2)).drewN nd6 = w6 at h56 ⊢
  have HE6 := Aside0.mk (Kd.C_below HE5.out h56)
  have HC6 := Aside0.mk (Kd.C_below HC5.out h56)
  have HD6 := Aside0.mk (Kd.C_below HD5.out h56)
  have HK6 := Aside0.mk (Kd.C_below HK5.out h56)
  have HL6 := Aside0.mk (pw_own_below HL5.out h56)
  have HB6 := Aside0.mk (below_then HB5.out HB5.out.size h56)
  clear h56 HE5 HC5 HD5 HK5 HL5 HB5
  go_wp2_with fail
  refine (colonnadelaw09_sameCodes.calls 40 (some ⟨b, 0, none⟩) 4 [2, 0, 2, 1] (some ⟨w6.heap.size, 0, none⟩) 4 [2, 0, 2, 1] true (w6.alloc (.cells #[.int .u64 2, .int .u64 0, .int .u64 2, .int .u64 1] 80)) (Kd.C_alloc HD6.out _) (by decide) (XKn.litC .u64 w6 80 [2, 0, 2, 1] (by decide)) (by decide) XKn.codes1).mono ?_
  rintro e w7 ⟨rfl, ⟨nd7, rfl⟩⟩
  have h67 := pw_below_drewN (below_alloc (Below.refl w6.heap.size w6) (.cells #[.int .u64 2, .int .u64 0, .int .u64 2, .int .u64 1] 80)) nd7
  generalize (w6.alloc (.cells #[.int .u64 2, .int .u64 0, .int .u64 2, .int .u64 1] 80)).drewN nd7 = w7 at h67 ⊢
  have HC7 := Aside0.mk (Kd.C_below HC6.out h67)
  have HK7 := Aside0.mk (Kd.C_below HK6.out h67)
  have HL7 := Aside0.mk (pw_own_below HL6.out h67)
  have HB7 := Aside0.mk (below_then HB6.out HB6.out.size h67)
  obtain ⟨ad, rfl, hx0⟩ := Kd.at_int (Kd.C_below HE6.out h67) 0 (by decide) (by decide)
  obtain ⟨ad', e', hx1⟩ := Kd.at_int (Kd.C_below HE6.out h67) 17 (by decide) (by decide)
  cases e'
  rw [show rd [2, 3, 0, 0, 0, 0, 0, 0, 0, 7, 0, 0, 0, 0, 0, 0, 0, 5] 0 = 2 from rfl, show ad.add (0 : Int).toNat = ad from by simp [Addr.add]] at hx0
  rw [show rd [2, 3, 0, 0, 0, 0, 0, 0, 0, 7, 0, 0, 0, 0, 0, 0, 0, 5] 17 = 5 from rfl, show ad.add (17 : Int).toNat = ⟨ad.block, ad.off + 17, none⟩ from Addr.add_succ' ad 16] at hx1
  clear h67 HE6 HC6 HD6 HK6 HL6 HB6
  go_wp2_with fail
  refine (colonnadelaw09_sameInts.calls 40 A4 n4 [3, 7] (some ⟨w7.heap.size, 0, none⟩) 2 [3, 7] true (w7.alloc (.cells #[.int .i64 3, .int .i64 7] 2)) (Kd.C_alloc HK7.out _) HKn.out (XKn.litC .i64 w7 2 [3, 7] (by decide)) (by decide) XKn.same2).mono ?_
  rintro e w8 ⟨rfl, ⟨nd8, rfl⟩⟩
  have h78 := pw_below_drewN (below_alloc (Below.refl w7.heap.size w7) (.cells #[.int .i64 3, .int .i64 7] 2)) nd8
  generalize (w7.alloc (.cells #[.int .i64 3, .int .i64 7] 2)).drewN nd8 = w8 at h78 ⊢
  have HC8 := Aside0.mk (Kd.C_below HC7.out h78)
  have HB8 := Aside0.mk (below_then HB7.out HB7.out.size h78)
  have hcv : (convert 46 9 (.slice A5 1 n5)).run Try.prog w8 = .ok (.string (strOfNums [5])) w8 := own_string (P := Try.prog) (src := 46) (dst := 9) Try.underlying46 Try.underlying5 Try.underlying9 (pw_own_below HL7.out h78)
  rw [XKn.strs1] at hcv
  clear h78 HC7 HK7 HL7 HB7 hx0 hx1
  go_wp2_with fail
  refine (dict_Floor_int64.calls 40 Ak 3 [3, 5, 7] 6 2 w8 HC8.out (by decide) XKn.floor1).mono ?_
  rintro e w9 ⟨rfl, ⟨nd9, rfl⟩⟩
  go_wp2_with fail
  go_ret
  exact ⟨rfl, pw_below_drewN HB8.out nd9⟩

def colonnadelaw09_known.f : Option Bool := some true
theorem colonnadelaw09_known.calls (r : Bool) (w : World) (h : colonnadelaw09_known.f = some r) : Calls Try.prog 22 #[] w fun e w' => e = .returned (.bool r) ∧ Below w.heap.size w w' := by
  obtain rfl := Option.some.inj h
  exact XKn.known w

/-! ### colonnadelaw09_DictOrder: function 9 -/
/-- what is known of a list's keys and codes, and of a value held against them -/
structure colonnadelaw09_DictOrder.Facts (l SK : List Int) (v : Int) (cd : Int → Nat) (F AT : Nat) (IS : Bool) : Prop where
  rise : ∀ j, (h : j + 1 < SK.length) → SK[j] < SK[j + 1]
  lt : ∀ x ∈ l, cd x < SK.length
  key : ∀ x ∈ l, ∀ h : cd x < SK.length, SK[cd x] = x
  less : ∀ x ∈ l, (x < v ↔ cd x < F)
  alike : ∀ x ∈ l, (x = v ↔ IS = true ∧ cd x = AT)
  mono : ∀ x ∈ l, ∀ y ∈ l, (x < y ↔ cd x < cd y)
  used : ∀ j, j < SK.length → ∃ x ∈ l, cd x = j
def colonnadelaw09_DictOrder.U (cd : Int → Nat) (n : Nat) (l : List Int) : List Bool := (List.range n).map fun j => l.any fun x => cd x == j
theorem colonnadelaw09_DictOrder.U_len (cd : Int → Nat) (n : Nat) (l : List Int) : (colonnadelaw09_DictOrder.U cd n l).length = n := by simp [colonnadelaw09_DictOrder.U]
theorem colonnadelaw09_DictOrder.U_zero (cd : Int → Nat) (n : Nat) : colonnadelaw09_DictOrder.U cd n [] = List.replicate n false := by
  apply List.ext_getElem
  · simp [colonnadelaw09_DictOrder.U]
  · intro i h1 h2; simp [colonnadelaw09_DictOrder.U]
theorem colonnadelaw09_DictOrder.U_snoc (cd : Int → Nat) (n : Nat) (l : List Int) (x : Int) : (colonnadelaw09_DictOrder.U cd n l).set (cd x) true = colonnadelaw09_DictOrder.U cd n (l ++ [x]) := by
  apply List.ext_getElem
  · simp [colonnadelaw09_DictOrder.U]
  · intro i h1 h2
    rw [List.getElem_set]
    by_cases h : cd x = i
    · simp [colonnadelaw09_DictOrder.U, h]
    · simp [colonnadelaw09_DictOrder.U, h]
set_option maxHeartbeats 8000000 in
set_option maxRecDepth 100000 in
theorem colonnadelaw09_DictOrder.ck (k : Nat) (A0 : Option Addr) (c0 : Nat) (l0 : List Int) (v : Int) (w : World) (hr0 : Kd.C (Kd.int .i64) w A0 l0.length l0) (hc0 : l0.length ≤ c0) (hl : l0.length ≤ 1048576) (hw : ∀ x ∈ l0, (Lit.int .i64 x).wf = true)
    (SK : List Int) (cd : Int → Nat) (F AT : Nat) (IS : Bool) (hSK : SK = XMap.keysOf l0) (hcd : ∀ x ∈ l0, XBuild.code SK x = (cd x : Int)) (h3 : colonnadelaw09_ints.f l0 = some l0) (h4 : dict_Floor_int64.f k SK v = some (F : Int)) (h5 : dict_Find_int64.f k SK v = some ((AT : Int), IS)) (hf : colonnadelaw09_DictOrder.Facts l0 SK v cd F AT IS) :
    Calls Try.prog 9 #[.slice A0 l0.length c0, .int .i64 v] w fun e w' => e = .returned (.bool true) ∧ Below w.heap.size w w' := by
  have HR0 := Aside0.mk hr0
  have HC0 := Aside0.mk hc0
  have HW := Aside0.mk hw
  have HL := Aside0.mk hl
  have H3 := Aside0.mk h3
  have H4 := Aside0.mk h4
  have H5 := Aside0.mk h5
  have HSK := Aside0.mk hSK
  have HCD := Aside0.mk hcd
  have HF := Aside0.mk hf
  have hskl : SK.length ≤ 1048576 := by rw [hSK]; exact Nat.le_trans (XMap.keysOf_length l0) hl
  have HSL := Aside0.mk hskl
  clear hr0 hc0 hw hl h3 h4 h5 hSK hcd hf hskl
  go_enter Try.func9, Try.ntmps9
  go_wp2_with fail
  refine (XKn.known _).mono ?_
  rintro e w1 ⟨rfl, hb1⟩
  have L1 := Aside0.mk (Kd.C_below HR0.out hb1)
  have B1 := Aside0.mk hb1
  clear hb1
  go_wp2_with fail
  refine (colonnadelaw09_ints.calls A0 c0 l0 l0 w1 L1.out HC0.out H3.out).mono ?_
  rintro e w3 ⟨v3, rfl, hv3, hb3⟩
  obtain ⟨A3, n3, rfl⟩ := Kd.R_slice hv3
  have I3 := Aside0.mk (Kd.R_reads' hv3).2.2
  have N3 := Aside0.mk (Kd.R_reads' hv3).2.1
  have L3 := Aside0.mk (Kd.C_below L1.out hb3)
  have B3 := Aside0.mk (below_then B1.out B1.out.size hb3)
  clear hv3 hb3 L1 B1
  go_wp2_with fail
  refine (XBuild.build A3 n3 l0 w3 I3.out N3.out HW.out (by have := HL.out; omega) XBuild.sortC).mono ?_
  rintro e w4 ⟨A4, b4, SK', hSK', rfl, hk4, hc4, hap, hb4⟩
  obtain rfl : SK' = SK := hSK'.trans HSK.out.symm
  have P4 := Aside0.mk hk4
  have Q4 := Aside0.mk (Kd.R_reads' hc4).2.2
  have L4 := Aside0.mk (Kd.C_below L3.out hb4)
  have B4 := Aside0.mk (below_then B3.out B3.out.size hb4)
  clear hSK' hk4 hc4 hap hb4 L3 I3 B3
  go_wp2_with fail
  refine (dict_Floor_int64.calls k A4 SK'.length SK' v _ w4 P4.out (Nat.le_refl _) H4.out).mono ?_
  rintro e w5 ⟨rfl, ⟨nd5, rfl⟩⟩
  go_wp2_with fail
  refine (dict_Find_int64.calls k A4 SK'.length SK' v _ IS (w4.drewN nd5) (Kd.C_drewN P4.out nd5) (Nat.le_refl _) H5.out).mono ?_
  rintro e w6 ⟨rfl, ⟨nd6, rfl⟩⟩
  rw [World.drewN_drewN]
  have h46 := pw_below_drewN (Below.refl w4.heap.size w4) (nd5 + nd6)
  generalize w4.drewN (nd5 + nd6) = w6 at h46 ⊢
  have P6 := Aside0.mk (Kd.C_below P4.out h46)
  have Q6 := Aside0.mk (Kd.C_below Q4.out h46)
  have L6 := Aside0.mk (Kd.C_below L4.out h46)
  have B6 := Aside0.mk (below_then B4.out B4.out.size h46)
  clear h46 P4 Q4 L4 B4
  have hmk := print_make_of (P := Try.prog) 60 4 (.bool false) 1 Try.underlying60 info4 rfl (by decide) SK'.length (by have := HSL.out; omega)
  go_wp2_with fail
  clear hmk
  have hBm := below_alloc (Below.refl w6.heap.size w6) (.cells (madeCells #[.bool false] SK'.length) 4)
  have hU : Kd.bool.R 4 (w6.alloc (.cells (madeCells #[.bool false] SK'.length) 4)) w6.heap.size (fun _ => True) (.slice (some ⟨w6.heap.size, 0, none⟩) SK'.length SK'.length) (colonnadelaw09_DictOrder.U cd SK'.length []) := by
    rw [colonnadelaw09_DictOrder.U_zero]
    exact Kd.R_of_own (h1 := fun _ => rfl) (own_made_of' (enc := Value.bool) (d := false) w6 w6.heap.size 4 SK'.length (Nat.le_refl _) (by have := HSL.out; omega)) (fun _ _ => trivial)
  have HBm := Aside0.mk hBm
  have HU := Aside0.mk hU
  clear hBm hU
  generalize w6.alloc (.cells (madeCells #[.bool false] SK'.length) 4) = w7 at HBm HU ⊢
  (try simp only [add_plain])
  go_loopg [11] (SK'.length + 1) (fun kq v11 w' => ∃ (j : Nat) (nd : Nat), j ≤ SK'.length ∧ Aside0 (kq + j = SK'.length + 1) ∧ v11 = .int .i64 (j : Int) ∧ w' = w7.drewN nd)
  case atStart => exact ⟨0, 0, Nat.zero_le _, ⟨by omega⟩, rfl, rfl⟩
  case round =>
    obtain ⟨j, nd, hj, HK, rfl, rfl⟩ := hrel
    by_cases hlt : j < SK'.length
    · have hd : decide ((j : Int) < (SK'.length : Int)) = true := decide_eq_true (by omega)
      obtain ⟨k1, rfl⟩ : ∃ k1, gk = k1 + 1 := ⟨gk - 1, by have := HK.out; omega⟩
      by_cases hz : j = 0
      · subst hz
        have hd0 : decide (0 < SK'.length) = true := decide_eq_true hlt
        have HLT := Aside0.mk hlt
        clear hj hlt hd
        go_wp2_with fail
        go_quiet (fail)
        go_wp2_with fail
        go_roundg k1
        case measure => have := HK.out; omega
        case rel => exact ⟨1, nd + nq, HLT.out, ⟨by have := HK.out; omega⟩, rfl, by simp⟩
      · obtain ⟨p, rfl⟩ : ∃ p, j = p + 1 := ⟨j - 1, by omega⟩
        have hPr := Kd.C_below P6.out HBm.out
        obtain ⟨ad, e0, hx0⟩ := Kd.at_int hPr (p : Int) (by omega) (by omega)
        obtain ⟨ad', e1, hx1⟩ := Kd.at_int hPr ((p + 1 : Nat) : Int) (by omega) (by omega)
        rw [e0] at e1
        cases e1
        have hr := HF.out.rise p hlt
        rw [Int.toNat_natCast, show rd SK' (p : Int) = SK'[p] from by simp [rd, show p < SK'.length by omega]] at hx0
        rw [Int.toNat_natCast, show rd SK' ((p + 1 : Nat) : Int) = SK'[p + 1] from by simp only [rd, Int.toNat_natCast]; rw [List.getD_eq_getElem?_getD, List.getElem?_eq_getElem hlt]; rfl] at hx1
        generalize SK'[p] = s0 at hx0 hr
        generalize SK'[p + 1] = s1 at hx1 hr
        have hge : decide (s1 ≤ s0) = false := decide_eq_false (by omega)
        have hwp : IntKind.i64.wrap (((p + 1 : Nat) : Int) - 1) = (p : Int) := by have := HSL.out; rw [IntKind.wrap_i64]; omega
        have hgtN : decide (0 < p + 1) = true := decide_eq_true (by omega)
        have hgt : decide ((0 : Int) < ((p + 1 : Nat) : Int)) = true := decide_eq_true (by omega)
        have hp0 : (0 : Int) ≤ (p : Int) := by omega
        have hp1 : (p : Int) < (SK'.length : Int) := by omega
        obtain ⟨q, hq⟩ : ∃ q, q = p + 1 := ⟨_, rfl⟩
        rw [← hq] at hx1 hwp hgt hgtN hd hlt HK hj ⊢
        have hq1 : (q : Int) < (SK'.length : Int) := by omega
        have HQ := Aside0.mk hq
        subst e0
        clear hr hz hj hlt hPr hq
        go_wp2_with fail
        go_quiet (fail)
        go_wp2_with fail
        go_roundg k1
        case measure => have := HK.out; omega
        case rel => exact ⟨q + 1, nd + nq, by omega, ⟨by have := HK.out; omega⟩, congrArg (Value.int .i64) (by have := HSL.out; unfold wrap64; omega), by simp⟩
    · obtain rfl : j = SK'.length := by omega
      have hd : decide ((SK'.length : Int) < (SK'.length : Int)) = false := decide_eq_false (by omega)
      go_wp2_with fail
      have HB7 := Aside0.mk (pw_below_drewN HBm.out nd)
      have HU7 := Aside0.mk (Kd.R_drewN HU.out nd)
      generalize w7.drewN nd = w8 at HB7 HU7 ⊢
      clear HU HBm hj HK hd
      (try simp only [add_plain])
      go_loopg [12] (l0.length + 1) (fun kq v12 w' => ∃ i : Nat, i ≤ l0.length ∧ Aside0 (kq + i = l0.length + 1) ∧ v12 = .int .i64 (i : Int) ∧ Aside0 (Below w6.heap.size w6 w') ∧ Aside0 (Kd.bool.R 4 w' w6.heap.size (fun _ => True) (.slice (some ⟨w6.heap.size, 0, none⟩) SK'.length SK'.length) (colonnadelaw09_DictOrder.U cd SK'.length (l0.take i))))
      case atStart => exact ⟨0, Nat.zero_le _, ⟨by omega⟩, rfl, HB7, HU7⟩
      case round =>
        clear HB7 HU7
        obtain ⟨i, hi, HK, rfl, HB, HU⟩ := hrel
        by_cases hlt : i < l0.length
        · have hd : decide ((i : Int) < (l0.length : Int)) = true := decide_eq_true (by omega)
          obtain ⟨k1, rfl⟩ : ∃ k1, gk = k1 + 1 := ⟨gk - 1, by have := HK.out; omega⟩
          obtain ⟨x, hxe⟩ : ∃ x, l0[i] = x := ⟨_, rfl⟩
          have hxm : x ∈ l0 := hxe ▸ List.getElem_mem hlt
          obtain ⟨y, hye⟩ : ∃ y, cd x = y := ⟨_, rfl⟩
          have hy : y < SK'.length := hye ▸ HF.out.lt x hxm
          have hky : SK'[y] = x := by
            have := HF.out.key x hxm (hye ▸ hy)
            simpa only [hye] using this
          obtain ⟨p, hpe⟩ : ∃ p, p = i - 1 := ⟨_, rfl⟩
          have hpl : p < l0.length := by omega
          obtain ⟨x', hxe'⟩ : ∃ x', l0[p] = x' := ⟨_, rfl⟩
          have hxm' : x' ∈ l0 := hxe' ▸ List.getElem_mem hpl
          obtain ⟨y', hye'⟩ : ∃ y', cd x' = y' := ⟨_, rfl⟩
          obtain ⟨ad0, e0, hx6⟩ := Kd.at_int L6.out (i : Int) (by omega) (by omega)
          obtain ⟨ad1, e1, hx6'⟩ := Kd.at_int L6.out (p : Int) (by omega) (by omega)
          rw [e0] at e1
          cases e1
          subst e0
          obtain ⟨adk, ek, hk6⟩ := Kd.at_int P6.out (y : Int) (by omega) (by omega)
          subst ek
          obtain ⟨adc, e2, hc6⟩ := Kd.at_int Q6.out (i : Int) (by omega) (by simp; omega)
          cases e2
          obtain ⟨adc', e2', hc6'⟩ := Kd.at_int Q6.out (p : Int) (by omega) (by simp; omega)
          cases e2'
          rw [Int.toNat_natCast, show rd l0 (i : Int) = x from by rw [← hxe]; simp [rd, hlt]] at hx6
          rw [Int.toNat_natCast, show rd l0 (p : Int) = x' from by rw [← hxe']; simp [rd, hpl]] at hx6'
          rw [Int.toNat_natCast, show rd SK' (y : Int) = x from by rw [← hky]; simp [rd, hy]] at hk6
          rw [Int.toNat_natCast, show rd (l0.map (XBuild.code SK')) (i : Int) = (y : Int) from by
            rw [← hye, ← HCD.out x hxm, ← hxe]; simp [rd, hlt], add_plain] at hc6
          rw [Int.toNat_natCast, show rd (l0.map (XBuild.code SK')) (p : Int) = (y' : Int) from by
            rw [← hye', ← HCD.out x' hxm', ← hxe']; simp [rd, hpl], add_plain] at hc6'
          have lx := World.block_lt_of_cell? w6 _ hx6
          have lx' := World.block_lt_of_cell? w6 _ hx6'
          have lk := World.block_lt_of_cell? w6 _ hk6
          have lc := World.block_lt_of_cell? w6 _ hc6
          have lc' := World.block_lt_of_cell? w6 _ hc6'
          have hx := (HB.out.cell lx).trans hx6
          have hk := (HB.out.cell lk).trans hk6
          have hc := (HB.out.cell lc).trans hc6
          have GX : Aside0 (∀ w', Below w6.heap.size w6 w' → w'.cell? (ad0.add i) = some (.int .i64 x) ∧ w'.cell? (ad0.add p) = some (.int .i64 x') ∧ w'.cell? ⟨b4, i, none⟩ = some (.int .u32 (y : Int)) ∧ w'.cell? ⟨b4, p, none⟩ = some (.int .u32 (y' : Int))) :=
            ⟨fun w' hb => ⟨(hb.cell lx).trans hx6, (hb.cell lx').trans hx6', (hb.cell lc).trans hc6, (hb.cell lc').trans hc6'⟩⟩
          have hUl := colonnadelaw09_DictOrder.U_len cd SK'.length (l0.take i)
          obtain ⟨hu, huf⟩ := Kd.R_celln false HU.out (y : Int) (by omega) (by omega)
          rw [Int.toNat_natCast] at hu huf
          have hsn := colonnadelaw09_DictOrder.U_snoc cd SK'.length (l0.take i) x
          rw [hye, show l0.take i ++ [x] = l0.take (i + 1) from by rw [List.take_succ_eq_append_getElem hlt, hxe]] at hsn
          have HSN := Aside0.mk hsn
          have hwy : IntKind.i64.wrap (y : Int) = (y : Int) := by have := HSL.out; rw [IntKind.wrap_i64]; omega
          have hy0 : decide ((y : Int) < 0) = false := decide_eq_false (by omega)
          have hyn : decide (SK'.length ≤ y) = false := decide_eq_false (by omega)
          have hyb : (0 : Int) ≤ (y : Int) := by omega
          have hyc : (y : Int) < (SK'.length : Int) := by omega
          have hib : (0 : Int) ≤ (i : Int) := by omega
          have hic : (i : Int) < (l0.length : Int) := by omega
          have hpb : (0 : Int) ≤ (p : Int) := by omega
          have hpc : (p : Int) < (l0.length : Int) := by omega
          have hless := HF.out.less x hxm
          have halk := HF.out.alike x hxm
          have hmono := HF.out.mono x' hxm' x hxm
          rw [hye] at hless halk hmono
          rw [hye'] at hmono
          have hcase : ∃ b1 b2 b3 b4 b5 b6 : Bool, decide (x < v) = b1 ∧ decide (y < F) = b1 ∧ (x == v) = b2 ∧ decide (x ≤ v) = b3 ∧ ((y : Int) == (AT : Int)) = b4 ∧ decide (x' < x) = b5 ∧ decide (y' < y) = b5 ∧ decide (0 < i) = b6 ∧ ((b1 = true ∧ b2 = false ∧ b3 = true ∧ (IS = false ∨ IS = true ∧ b4 = false)) ∨ (b1 = false ∧ b2 = true ∧ b3 = true ∧ IS = true ∧ b4 = true) ∨ (b1 = false ∧ b2 = false ∧ b3 = false ∧ (IS = false ∨ IS = true ∧ b4 = false))) ∧ (b6 = false ∨ b6 = true ∧ IntKind.i64.wrap ((i : Int) - 1) = (p : Int)) := by
            have hna : ¬ x = v → (IS = false ∨ IS = true ∧ ((y : Int) == (AT : Int)) = false) := fun hne => by
              cases hI : IS with
              | false => exact .inl rfl
              | true => exact .inr ⟨rfl, by simpa using fun e => hne (halk.2 ⟨hI, by omega⟩)⟩
            refine ⟨_, _, _, _, _, _, rfl, decide_eq_decide.2 hless.symm, rfl, rfl, rfl, rfl, decide_eq_decide.2 hmono.symm, rfl, ?_, ?_⟩
            · rcases Int.lt_trichotomy x v with h | h | h
              · exact .inl ⟨decide_eq_true h, by simpa using (show ¬ x = v by omega), decide_eq_true (by omega), hna (by omega)⟩
              · exact .inr (.inl ⟨decide_eq_false (by omega), by simpa using h, decide_eq_true (by omega), (halk.1 h).1, by have := (halk.1 h).2; simp [this]⟩)
              · exact .inr (.inr ⟨decide_eq_false (by omega), by simpa using (show ¬ x = v by omega), decide_eq_false (by omega), hna (by omega)⟩)
            · by_cases h : 0 < i
              · exact .inr ⟨decide_eq_true h, by have := HL.out; rw [IntKind.wrap_i64]; omega⟩
              · exact .inl (decide_eq_false h)
          obtain ⟨b1, b2, b3, b4', b5, b6, t1, t2, t3, t4, t5, t6, t7, t8, hall, hzero⟩ := hcase
          have HLT := Aside0.mk hlt
          clear hless halk hmono hx6 hx6' hk6 hc6 hc6' lx lx' lk lc lc' hsn hye hye' hxe hxe' hxm hxm' hpe hpl hky hy hlt hi hUl
          rcases hall with ⟨rfl, rfl, rfl, rfl | ⟨rfl, rfl⟩⟩ | ⟨rfl, rfl, rfl, rfl, rfl⟩ | ⟨rfl, rfl, rfl, rfl | ⟨rfl, rfl⟩⟩ <;> rcases hzero with rfl | ⟨rfl, hwi⟩ <;> cases b5
          all_goals
            go_wp2_with fail
            go_quiet (fail)
            have HP := Kd.R_putg (Kd.R_drewN HU.out nq) (y : Int) true
            rw [Int.toNat_natCast] at HP
            go_wp2_with ((with_reducible refine gate_store (t := 4) (p := 93) rfl ?_); refine store_event (t := 4) (p := 93) (v := ?vo_w12) (w1 := ((wr.drewN nq).setCell ⟨w6.heap.size, y, none⟩ (.bool true))) ?hg ?ho ?hn ?hr ?_; (case ho => rfl); (case hg => rfl); (case hn => rfl); (case hr => first | (go_simp; done) | (go_simp; rfl)); intro w12 hw; have hg12 : (wr.drewN nq).grownBy w12 (some w6.heap.size) := (by rw [hw]; exact HP.2); have HU' := Aside0.mk (show Kd.bool.R 4 w12 w6.heap.size (fun _ => True) (.slice (some ⟨w6.heap.size, 0, none⟩) SK'.length SK'.length) (colonnadelaw09_DictOrder.U cd SK'.length (l0.take (i + 1))) from (by rw [hw, ← HSN.out]; exact HP.1)); have HB' := Aside0.mk ((pw_below_drewN HB.out nq).grown hg12 (by simpa using HB.out.size) (fun k hk => by cases hk; exact Nat.le_refl _)); clear hw HP hg12 hx hk hc hu huf; have gx := (GX.out w12 HB'.out).1; have gx' := (GX.out w12 HB'.out).2.1; have gc := (GX.out w12 HB'.out).2.2.1; have gc' := (GX.out w12 HB'.out).2.2.2)
            go_quiet (fail)
            go_wp2_with fail
            go_roundg k1
            case measure => have := HK.out; omega
            case rel => exact ⟨i + 1, HLT.out, ⟨by have := HK.out; omega⟩, congrArg (Value.int .i64) (by have := HL.out; have := HLT.out; first | omega | (unfold wrap64; omega)), ⟨pw_below_drewN HB'.out _⟩, ⟨Kd.R_drewN HU'.out _⟩⟩
        · obtain rfl : i = l0.length := by omega
          have hd : decide ((l0.length : Int) < (l0.length : Int)) = false := decide_eq_false (by omega)
          rw [List.take_of_length_le (Nat.le_refl _)] at HU
          have hall : ∀ j : Nat, j < SK'.length → rdOf false (colonnadelaw09_DictOrder.U cd SK'.length l0) (j : Int) = true := fun j hj => by
            obtain ⟨x, hx, he⟩ := HF.out.used j hj
            have hl : j < (colonnadelaw09_DictOrder.U cd SK'.length l0).length := by rw [colonnadelaw09_DictOrder.U_len]; exact hj
            have : (colonnadelaw09_DictOrder.U cd SK'.length l0)[j] = true := by
              simp only [colonnadelaw09_DictOrder.U, List.getElem_map, List.getElem_range, List.any_eq_true]
              exact ⟨x, hx, by simpa using he⟩
            unfold rdOf
            rw [Int.toNat_natCast, List.getD_eq_getElem?_getD, List.getElem?_eq_getElem hl, this]; rfl
          have HALL := Aside0.mk hall
          clear hall hi
          go_wp2_with fail
          clear hd
          (try simp only [add_plain])
          go_loopg [15] (SK'.length + 1) (fun kq v15 w' => ∃ j : Nat, j ≤ SK'.length ∧ Aside0 (kq + j = SK'.length + 1) ∧ v15 = .int .i64 (j : Int) ∧ w' = wr)
          case atStart => exact ⟨0, Nat.zero_le _, ⟨by omega⟩, rfl, rfl⟩
          case round =>
            clear HK
            obtain ⟨j, hj, HK, rfl, hwr⟩ := hrel
            subst hwr
            by_cases hlt : j < SK'.length
            · have hd : decide ((j : Int) < (SK'.length : Int)) = true := decide_eq_true (by omega)
              obtain ⟨k1, rfl⟩ : ∃ k1, gk = k1 + 1 := ⟨gk - 1, by have := HK.out; omega⟩
              have hUl := colonnadelaw09_DictOrder.U_len cd SK'.length l0
              obtain ⟨hu, huf⟩ := Kd.R_celln false HU.out (j : Int) (by omega) (by omega)
              rw [Int.toNat_natCast, HALL.out j hlt] at hu
              have hjb : (0 : Int) ≤ (j : Int) := by omega
              have hjc : (j : Int) < (SK'.length : Int) := by omega
              have HLT := Aside0.mk hlt
              clear huf hUl hlt hj
              go_wp2_with fail
              go_roundg k1
              case measure => have := HK.out; omega
              case rel => exact ⟨j + 1, HLT.out, ⟨by have := HK.out; omega⟩, congrArg (Value.int .i64) (by have := HSL.out; have := HLT.out; first | omega | (unfold wrap64; omega)), rfl⟩
            · obtain rfl : j = SK'.length := by omega
              have hd : decide ((SK'.length : Int) < (SK'.length : Int)) = false := decide_eq_false (by omega)
              go_wp2_with fail
              go_ret
              exact ⟨rfl, below_then B6.out B6.out.size HB.out⟩
open Classical in
noncomputable def colonnadelaw09_DictOrder.f (k : Nat) (l0 : List Int) (a1 : Int) : Option Bool :=
  if ∃ (cd : Int → Nat) (F AT : Nat) (IS : Bool), l0.length ≤ 1048576 ∧ (∀ x ∈ l0, (Lit.int .i64 x).wf = true) ∧ (∀ x ∈ l0, XBuild.code (XMap.keysOf l0) x = (cd x : Int)) ∧ colonnadelaw09_ints.f l0 = some l0 ∧ dict_Floor_int64.f k (XMap.keysOf l0) a1 = some (F : Int) ∧ dict_Find_int64.f k (XMap.keysOf l0) a1 = some ((AT : Int), IS) ∧ colonnadelaw09_DictOrder.Facts l0 (XMap.keysOf l0) a1 cd F AT IS then some true else none
theorem colonnadelaw09_DictOrder.calls (k : Nat) (A0 : Option Addr) (c0 : Nat) (l0 : List Int) (a1 : Int) (r : Bool) (w : World) (hr0 : Kd.C (Kd.int .i64) w A0 l0.length l0) (hc0 : l0.length ≤ c0) (h : colonnadelaw09_DictOrder.f k l0 a1 = some r) :
    Calls Try.prog 9 #[.slice A0 l0.length c0, .int .i64 a1] w fun e w' => e = .returned (.bool r) ∧ Below w.heap.size w w' := by
  unfold colonnadelaw09_DictOrder.f at h
  split at h
  · rename_i hc
    obtain rfl := Option.some.inj h
    obtain ⟨cd, F, AT, IS, a1, a2, a3, a4, a5, a6, a7⟩ := hc
    exact colonnadelaw09_DictOrder.ck k A0 c0 l0 _ w hr0 hc0 a1 a2 _ cd F AT IS rfl a3 a4 a5 a6 a7
  · cases h

end Go.Proofs.Ytlpllhpnnhablaa.PDictOrder
