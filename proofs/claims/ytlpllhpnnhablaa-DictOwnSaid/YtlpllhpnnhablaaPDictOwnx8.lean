-- Written by xprint.py, this session's own program over the kit's print; Lean checks it.
import Derived.Test.YtlpllhpnnhablaaPDictOwnx0
import Derived.Test.YtlpllhpnnhablaaPDictOwnx1
import Derived.Test.YtlpllhpnnhablaaPDictOwnx2
import Derived.Test.YtlpllhpnnhablaaPDictOwnx3
import Derived.Test.YtlpllhpnnhablaaPDictOwnx7
namespace Go.Proofs.Ytlpllhpnnhablaa.PDictOwn
open Go.RowKit Go.Proofs.YtlpllhpnnhablaaW.PrintWords Go.Proofs.YtlpllhpnnhablaaW.PrintLast Go.Proofs.YtlpllhpnnhablaaW.PrintMore
attribute [local go_sem] max2_int min2_int max_two min_two max_three min_three max_four min_four   -- for this text's walks alone
set_option linter.unusedVariables false
set_option linter.unusedSimpArgs false

/-! ### colonnadelaw09_twin: function 37 -/
def colonnadelaw09_twin.f (l0 : List Int) : Option (List Int) := if ([] : List Int).length + l0.length < 140737488355328 then (some (([] : List Int) ++ l0)) else (none)
set_option maxHeartbeats 8000000 in
set_option maxRecDepth 100000 in
theorem colonnadelaw09_twin.calls (A0 : Option Addr) (c0 : Nat) (l0 : List Int) (r : List Int) (w : World) (hr0 : Kd.C (Kd.int .u8) w A0 l0.length l0) (hc0 : l0.length ≤ c0) (h : colonnadelaw09_twin.f l0 = some r) :
    Calls Try.prog 37 #[.slice A0 l0.length c0] w fun e w' => ∃ v0_ : Value, e = .returned (v0_) ∧ Kd.R (Kd.int .u8) 5 w' w.heap.size (fun _ => True) v0_ r ∧ Below w.heap.size w w' := by
  have HR0 := Aside0.mk hr0
  have HC0 := Aside0.mk hc0
  clear hr0 hc0
  have HB := Aside0.mk (Below.refl w.heap.size w)
  have H : (if ([] : List Int).length + l0.length < 140737488355328 then (some (([] : List Int) ++ l0)) else (none)) = some r := h
  clear h
  by_cases c2 : ([] : List Int).length + l0.length < 140737488355328
  · rw [if_pos c2] at H
    have LMc2 := Aside0.mk c2
    clear c2
    obtain ⟨y208, hy208⟩ : ∃ y_ : List Int, y_ = (([] : List Int) ++ l0) := ⟨_, rfl⟩
    replace H : (some y208) = some r := by first | (rw [hy208]; with_reducible exact H) | (have H2_ := (Option.bind_some _ _).symm.trans H; rw [hy208]; with_reducible exact H2_) | (have H2_ := (Option.bind_some _ _).symm.trans H; with_reducible exact H2_) | with_reducible exact H | (rw [hy208]; exact H) | exact H
    have Ny208 := Aside0.mk hy208
    clear hy208
    obtain rfl := Option.some.inj H
    go_enter Try.func37, Try.ntmps37
    go_wp2_with (first | ((with_reducible refine gate_builtin (b := .append) (xs := #[.tmp 4, .tmp 5]) rfl ?_); at_builtin; refine Kd.R_append_rows (Kd.int .u8) (w0 := w) w.heap.size rfl (.tmp 4) (.tmp 5) 46 5 (.int .u8 0) 1 rfl Try.underlying46 info5 rfl (by decide) (by omega) (.slice none 0 0) ([] : List Int) l0 _ _ _ (fun _ => True) (fun _ => False) rfl rfl ?aO ?aR (fun _ _ h => h) (fun _ h => h.elim) ?aF ?aB ?aS ?aL ?_; (case aR => repeat (first | exact HR0.out | (with_reducible refine Kd.C_alloc ?_ _) | (with_reducible refine Kd.C_drewN ?_ _) | (with_reducible refine Kd.C_drew ?_))); (case aB => exact (by repeat (first | (with_reducible first | exact HB.out | apply below_alloc | apply pw_below_drewN | apply below_drew1) | exact HB.out))); (case aF => exact (fun _ _ => trivial)); (case aO => exact ((Kd.R_nil _ _ _ _ (fun _ => True)))); (case aS => exact (below_size (by repeat (first | (with_reducible first | exact HB.out | apply below_alloc | apply pw_below_drewN | apply below_drew1) | exact HB.out)))); (case aL => have := LMc2.out; omega); intro v209 w3 ho hb hg hat; rw [← Ny208.out] at ho; have n0_ := Aside0.mk (hb); have n1_ := Aside0.mk (ho); clear HB; have HB := n0_; have HO210 := n1_; clear n0_ n1_; clear ho hb hg hat))
    go_ret
    exact ⟨_, by first | rfl | (simp [errW_none, errW_some] <;> rfl) | (simp [*, errW_none, errW_some] <;> rfl), by (with_reducible repeat (first | apply Kd.R_alloc | apply Kd.R_drewN | apply Kd.R_drew)); exact HO210.out, by repeat (first | (with_reducible first | exact HB.out | apply below_alloc | apply pw_below_drewN | apply below_drew1) | exact HB.out)⟩
  · rw [if_neg c2] at H
    exact absurd H (by simp)

/-! ### colonnadelaw09_known: function 22 -/
theorem XKn.litC (k : IntKind) (W : World) (e : TypeId) (xs : List Int) (h : xs.length ≤ 9223372036854775807) : (Kd.int k).C (W.alloc (.cells (nums k xs).toArray e)) (some ⟨W.heap.size, 0, none⟩) xs.length xs :=
  (Kd.R_reads' (Kd.R_of_own (h1 := fun _ => rfl) (own_lit W 0 e k xs (Nat.zero_le _) h) (ok := fun _ => True) (fun _ _ => trivial))).2.2
theorem XKn.lit1 : XMap.keysOf [7, 3, 7, 5] = [3, 5, 7] := by decide
theorem XKn.lit2 : [7, 3, 7, 5].map (XBuild.code [3, 5, 7]) = [2, 0, 2, 1] := by decide
theorem XKn.put1 : XPut.putM 40 [7, 3, 7] = some ([2, 3, 0, 0, 0, 0, 0, 0, 0, 7, 0, 0, 0, 0, 0, 0, 0, 5], 0) := by kernel_rfl
theorem XKn.ints1 : XCur.intsM 40 [2, 3, 0, 0, 0, 0, 0, 0, 0, 7, 0, 0, 0, 0, 0, 0, 0, 5] 3 = some ([3, 7], 1, [5], 0) := by kernel_rfl
theorem XKn.find1 : dict_Find_int64.f 40 [3, 5, 7] 5 = some (1, true) := by kernel_rfl
theorem XKn.floor1 : dict_Floor_int64.f 40 [3, 5, 7] 6 = some 2 := by kernel_rfl
theorem XKn.same1 : colonnadelaw09_sameInts.f 40 [3, 5, 7] [3, 5, 7] = some true := by kernel_rfl
theorem XKn.same2 : colonnadelaw09_sameInts.f 40 [3, 7] [3, 7] = some true := by kernel_rfl
theorem XKn.codes1 : colonnadelaw09_sameCodes.f 40 [2, 0, 2, 1] [2, 0, 2, 1] = some true := by kernel_rfl
theorem XKn.twin1 : colonnadelaw09_twin.f [2, 3, 0, 0, 0, 0, 0, 0, 0, 7, 0, 0, 0, 0, 0, 0, 0, 5] = some [2, 3, 0, 0, 0, 0, 0, 0, 0, 7, 0, 0, 0, 0, 0, 0, 0, 5] := by kernel_rfl
theorem XKn.strs1 : strOfNums [5] = ⟨#[5]⟩ := rfl
set_option maxHeartbeats 4000000 in
set_option maxRecDepth 100000 in
/-- known() answers true -/
theorem XKn.known (w : World) : Calls Try.prog 22 #[] w fun e w' => e = .returned (.bool true) ∧ Below w.heap.size w w' := by
  go_enter Try.func22, Try.ntmps22
  go_wp2_with fail
  refine (XBuild.build (some ⟨w.heap.size, 0, none⟩) 4 [7, 3, 7, 5] _ (XKn.litC .i64 w 2 [7, 3, 7, 5] (by decide)) (by decide) (by decide) (by decide) XBuild.sortC).mono ?_
  rintro e w1 ⟨Ak, b, SK, hSK, rfl, hCk, hRc, hap, hB⟩
  obtain rfl : SK = [3, 5, 7] := hSK.trans XKn.lit1
  rw [XKn.lit2] at hRc
  have HC1 := Aside0.mk hCk
  have HD1 := Aside0.mk (Kd.R_reads' hRc).2.2
  have HB1 := Aside0.mk (below_then (below_alloc (Below.refl w.heap.size w) _) (below_alloc (Below.refl w.heap.size w) (.cells #[.int .i64 7, .int .i64 3, .int .i64 7, .int .i64 5] 2)).size hB)
  clear hSK hCk hRc hap hB
  go_wp2_with fail
  refine (XPut.putInts 40 (some ⟨w1.heap.size, 0, none⟩) 3 [7, 3, 7] _ _ (XKn.litC .i64 w1 2 [7, 3, 7] (by decide)) (by decide) (by decide) XKn.put1).mono ?_
  rintro e w2 ⟨vb, rfl, hvb, hb2⟩
  have h12 := below_alloc (Below.refl w1.heap.size w1) (.cells #[.int .i64 7, .int .i64 3, .int .i64 7] 2)
  have hb12 := below_then h12 h12.size hb2
  have HC2 := Aside0.mk (Kd.C_below HC1.out hb12)
  have HD2 := Aside0.mk (Kd.C_below HD1.out hb12)
  have HB2 := Aside0.mk (below_then HB1.out HB1.out.size hb12)
  obtain ⟨A2, n2, rfl⟩ := Kd.R_slice hvb
  obtain ⟨_, hn2, hCb⟩ := Kd.R_reads' hvb
  have HE2 := Aside0.mk hCb
  have HN2 := Aside0.mk hn2
  clear hvb hb2 h12 hb12 hn2 hCb HC1 HD1 HB1
  go_wp2_with fail
  refine (colonnadelaw09_twin.calls A2 n2 _ _ w2 HE2.out HN2.out XKn.twin1).mono ?_
  rintro e w3 ⟨v3, rfl, hv3, hb3⟩
  obtain ⟨A3, n3, rfl⟩ := Kd.R_slice hv3
  obtain ⟨_, hn3, hC3⟩ := Kd.R_reads' hv3
  have HE3 := Aside0.mk (Kd.C_below HE2.out hb3)
  have HC3 := Aside0.mk (Kd.C_below HC2.out hb3)
  have HD3 := Aside0.mk (Kd.C_below HD2.out hb3)
  have HF3 := Aside0.mk hC3
  have HB3 := Aside0.mk (below_then HB2.out HB2.out.size hb3)
  clear hv3 hn3 hC3 hb3 HE2 HC2 HD2 HB2 HN2
  go_wp2_with fail
  refine (XCur.ints 40 A3 n3 _ 3 _ w3 HF3.out (by decide) XKn.ints1).mono ?_
  rintro e w4 ⟨vk, vl, rfl, hvk, hvl, hb4⟩
  simp only at hvk hvl
  obtain ⟨A4, n4, rfl⟩ := Kd.R_slice hvk
  obtain ⟨A5, n5, rfl⟩ := Kd.R_slice hvl
  have HE4 := Aside0.mk (Kd.C_below HE3.out hb4)
  have HC4 := Aside0.mk (Kd.C_below HC3.out hb4)
  have HD4 := Aside0.mk (Kd.C_below HD3.out hb4)
  have HK4 := Aside0.mk (Kd.R_reads' hvk).2.2
  have HL4 := Aside0.mk (Kd.own_of_R hvl)
  have HKn := Aside0.mk (Kd.R_reads' hvk).2.1
  have HB4 := Aside0.mk (below_then HB3.out HB3.out.size hb4)
  clear hvk hvl hb4 HE3 HC3 HD3 HF3 HB3
  go_wp2_with fail
  refine (dict_Find_int64.calls 40 Ak 3 [3, 5, 7] 5 1 true w4 HC4.out (by decide) XKn.find1).mono ?_
  rintro e w5 ⟨rfl, ⟨nd5, rfl⟩⟩
  have h45 := pw_below_drewN (Below.refl w4.heap.size w4) nd5
  generalize w4.drewN nd5 = w5 at h45 ⊢
  have HE5 := Aside0.mk (Kd.C_below HE4.out h45)
  have HC5 := Aside0.mk (Kd.C_below HC4.out h45)
  have HD5 := Aside0.mk (Kd.C_below HD4.out h45)
  have HK5 := Aside0.mk (Kd.C_below HK4.out h45)
  have HL5 := Aside0.mk (pw_own_below HL4.out h45)
  have HB5 := Aside0.mk (below_then HB4.out HB4.out.size h45)
  clear h45 HE4 HC4 HD4 HK4 HL4 HB4
  go_wp2_with fail
  refine (colonnadelaw09_sameInts.calls 40 Ak 3 [3, 5, 7] (some ⟨w5.heap.size, 0, none⟩) 3 [3, 5, 7] true (w5.alloc (.cells #[.int .i64 3, .int .i64 5, .int .i64 7] 2)) (Kd.C_alloc HC5.out _) (by decide) (XKn.litC .i64 w5 2 [3, 5, 7] (by decide)) (by decide) XKn.same1).mono ?_
  rintro e w6 ⟨rfl, ⟨nd6, rfl⟩⟩
  have h56 := pw_below_drewN (below_alloc (Below.refl w5.heap.size w5) (.cells #[.int .i64 3, .int .i64 5, .int .i64 7] 2)) nd6
  generalize (w5.alloc (.cells #[.int .i64 3, .int .i64 5, .int .i64 7] 2)).drewN nd6 = w6 at h56 ⊢
  have HE6 := Aside0.mk (Kd.C_below HE5.out h56)
  have HC6 := Aside0.mk (Kd.C_below HC5.out h56)
  have HD6 := Aside0.mk (Kd.C_below HD5.out h56)
  have HK6 := Aside0.mk (Kd.C_below HK5.out h56)
  have HL6 := Aside0.mk (pw_own_below HL5.out h56)
  have HB6 := Aside0.mk (below_then HB5.out HB5.out.size h56)
  clear h56 HE5 HC5 HD5 HK5 HL5 HB5
  go_wp2_with fail
  refine (colonnadelaw09_sameCodes.calls 40 (some ⟨b, 0, none⟩) 4 [2, 0, 2, 1] (some ⟨w6.heap.size, 0, none⟩) 4 [2, 0, 2, 1] true (w6.alloc (.cells #[.int .u64 2, .int .u64 0, .int .u64 2, .int .u64 1] 80)) (Kd.C_alloc HD6.out _) (by decide) (XKn.litC .u64 w6 80 [2, 0, 2, 1] (by decide)) (by decide) XKn.codes1).mono ?_
  rintro e w7 ⟨rfl, ⟨nd7, rfl⟩⟩
  have h67 := pw_below_drewN (below_alloc (Below.refl w6.heap.size w6) (.cells #[.int .u64 2, .int .u64 0, .int .u64 2, .int .u64 1] 80)) nd7
  generalize (w6.alloc (.cells #[.int .u64 2, .int .u64 0, .int .u64 2, .int .u64 1] 80)).drewN nd7 = w7 at h67 ⊢
  have HC7 := Aside0.mk (Kd.C_below HC6.out h67)
  have HK7 := Aside0.mk (Kd.C_below HK6.out h67)
  have HL7 := Aside0.mk (pw_own_below HL6.out h67)
  have HB7 := Aside0.mk (below_then HB6.out HB6.out.size h67)
  obtain ⟨ad, rfl, hx0⟩ := Kd.at_int (Kd.C_below HE6.out h67) 0 (by decide) (by decide)
  obtain ⟨ad', e', hx1⟩ := Kd.at_int (Kd.C_below HE6.out h67) 17 (by decide) (by decide)
  cases e'
  rw [show rd [2, 3, 0, 0, 0, 0, 0, 0, 0, 7, 0, 0, 0, 0, 0, 0, 0, 5] 0 = 2 from rfl, show ad.add (0 : Int).toNat = ad from by simp [Addr.add]] at hx0
  rw [show rd [2, 3, 0, 0, 0, 0, 0, 0, 0, 7, 0, 0, 0, 0, 0, 0, 0, 5] 17 = 5 from rfl, show ad.add (17 : Int).toNat = ⟨ad.block, ad.off + 17, none⟩ from Addr.add_succ' ad 16] at hx1
  clear h67 HE6 HC6 HD6 HK6 HL6 HB6
  go_wp2_with fail
  refine (colonnadelaw09_sameInts.calls 40 A4 n4 [3, 7] (some ⟨w7.heap.size, 0, none⟩) 2 [3, 7] true (w7.alloc (.cells #[.int .i64 3, .int .i64 7] 2)) (Kd.C_alloc HK7.out _) HKn.out (XKn.litC .i64 w7 2 [3, 7] (by decide)) (by decide) XKn.same2).mono ?_
  rintro e w8 ⟨rfl, ⟨nd8, rfl⟩⟩
  have h78 := pw_below_drewN (below_alloc (Below.refl w7.heap.size w7) (.cells #[.int .i64 3, .int .i64 7] 2)) nd8
  generalize (w7.alloc (.cells #[.int .i64 3, .int .i64 7] 2)).drewN nd8 = w8 at h78 ⊢
  have HC8 := Aside0.mk (Kd.C_below HC7.out h78)
  have HB8 := Aside0.mk (below_then HB7.out HB7.out.size h78)
  have hcv : (convert 46 9 (.slice A5 1 n5)).run Try.prog w8 = .ok (.string (strOfNums [5])) w8 := own_string (P := Try.prog) (src := 46) (dst := 9) Try.underlying46 Try.underlying5 Try.underlying9 (pw_own_below HL7.out h78)
  rw [XKn.strs1] at hcv
  clear h78 HC7 HK7 HL7 HB7 hx0 hx1
  go_wp2_with fail
  refine (dict_Floor_int64.calls 40 Ak 3 [3, 5, 7] 6 2 w8 HC8.out (by decide) XKn.floor1).mono ?_
  rintro e w9 ⟨rfl, ⟨nd9, rfl⟩⟩
  go_wp2_with fail
  go_ret
  exact ⟨rfl, pw_below_drewN HB8.out nd9⟩

def colonnadelaw09_known.f : Option Bool := some true
theorem colonnadelaw09_known.calls (r : Bool) (w : World) (h : colonnadelaw09_known.f = some r) : Calls Try.prog 22 #[] w fun e w' => e = .returned (.bool r) ∧ Below w.heap.size w w' := by
  obtain rfl := Option.some.inj h
  exact XKn.known w

/-! ### colonnadelaw09_grownInts: function 45 -/
def colonnadelaw09_grownInts.f (l0 : List (List Int)) : Option (Bool) := none
set_option maxHeartbeats 8000000 in
set_option maxRecDepth 100000 in
theorem colonnadelaw09_grownInts.calls (A0 : Option Addr) (c0 : Nat) (l0 : List (List Int)) (r : Bool) (w : World) (hr0 : Kd.C (Kd.slice 2 (Kd.int .i64)) w A0 l0.length l0) (hc0 : l0.length ≤ c0) (h : colonnadelaw09_grownInts.f l0 = some r) :
    Calls Try.prog 45 #[.slice A0 l0.length c0] w fun e w' => e = .returned (.bool r) ∧ Below w.heap.size w w' := by
  have HR0 := Aside0.mk hr0
  have HC0 := Aside0.mk hc0
  clear hr0 hc0
  have HB := Aside0.mk (Below.refl w.heap.size w)
  have H : (none) = some r := h
  clear h
  exact absurd H (by simp)

/-! ### colonnadelaw09_grownBytes: function 46 -/
def colonnadelaw09_grownBytes.f (l0 : List (List Int)) : Option (Bool) := none
set_option maxHeartbeats 8000000 in
set_option maxRecDepth 100000 in
theorem colonnadelaw09_grownBytes.calls (A0 : Option Addr) (c0 : Nat) (l0 : List (List Int)) (r : Bool) (w : World) (hr0 : Kd.C (Kd.slice 5 (Kd.int .u8)) w A0 l0.length l0) (hc0 : l0.length ≤ c0) (h : colonnadelaw09_grownBytes.f l0 = some r) :
    Calls Try.prog 46 #[.slice A0 l0.length c0] w fun e w' => e = .returned (.bool r) ∧ Below w.heap.size w w' := by
  have HR0 := Aside0.mk hr0
  have HC0 := Aside0.mk hc0
  clear hr0 hc0
  have HB := Aside0.mk (Below.refl w.heap.size w)
  have H : (none) = some r := h
  clear h
  exact absurd H (by simp)

/-! ### colonnadelaw09_reads: function 44 -/
def colonnadelaw09_reads.f (l0 : List Int) (l1 : List Int) (a2 : Int) : Option (Bool) := none
set_option maxHeartbeats 8000000 in
set_option maxRecDepth 100000 in
theorem colonnadelaw09_reads.calls (A0 : Option Addr) (c0 : Nat) (l0 : List Int) (A1 : Option Addr) (c1 : Nat) (l1 : List Int) (a2 : Int) (r : Bool) (w : World) (hr0 : Kd.C (Kd.int .u8) w A0 l0.length l0) (hc0 : l0.length ≤ c0) (hr1 : Kd.C (Kd.int .u8) w A1 l1.length l1) (hc1 : l1.length ≤ c1) (h : colonnadelaw09_reads.f l0 l1 a2 = some r) :
    Calls Try.prog 44 #[.slice A0 l0.length c0, .slice A1 l1.length c1, .int .i64 a2] w fun e w' => e = .returned (.bool r) ∧ Below w.heap.size w w' := by
  have HR0 := Aside0.mk hr0
  have HC0 := Aside0.mk hc0
  clear hr0 hc0
  have HR1 := Aside0.mk hr1
  have HC1 := Aside0.mk hc1
  clear hr1 hc1
  have HB := Aside0.mk (Below.refl w.heap.size w)
  have H : (none) = some r := h
  clear h
  exact absurd H (by simp)

/-! ### colonnadelaw09_grownCodes: function 47 -/
def colonnadelaw09_grownCodes.f (l0 : List (List Int)) : Option (Bool) := none
set_option maxHeartbeats 8000000 in
set_option maxRecDepth 100000 in
theorem colonnadelaw09_grownCodes.calls (A0 : Option Addr) (c0 : Nat) (l0 : List (List Int)) (r : Bool) (w : World) (hr0 : Kd.C (Kd.slice 61 (Kd.int .u32)) w A0 l0.length l0) (hc0 : l0.length ≤ c0) (h : colonnadelaw09_grownCodes.f l0 = some r) :
    Calls Try.prog 47 #[.slice A0 l0.length c0] w fun e w' => e = .returned (.bool r) ∧ Below w.heap.size w w' := by
  have HR0 := Aside0.mk hr0
  have HC0 := Aside0.mk hc0
  clear hr0 hc0
  have HB := Aside0.mk (Below.refl w.heap.size w)
  have H : (none) = some r := h
  clear h
  exact absurd H (by simp)

/-! ### colonnadelaw09_DictOwn: function 12 -/
theorem XRd.info64 : (Try.prog.info? 2).map (fun i => (i.zero, i.size, i.bytes)) = some (some (.int .i64 0), 1, 8) := by kernel_rfl
theorem XRd.info8 : (Try.prog.info? 5).map (fun i => (i.zero, i.size, i.bytes)) = some (some (.int .u8 0), 1, 1) := by kernel_rfl
theorem XRd.litR {α : Type} (enc : α → Value) (h1 : ∀ x, (enc x).oneCell' = true) (W : World) (e : TypeId) (xs : List α) (hl : xs.length ≤ maxLen) : (Kd.scalar enc h1).R e (W.alloc (.cells (encs enc xs).toArray e)) W.heap.size (fun _ => True) (.slice (some ⟨W.heap.size, 0, none⟩) xs.length xs.length) xs :=
  Kd.R_of_own (own_lit_of (enc := enc) W W.heap.size e xs (Nat.le_refl _) hl) (fun _ _ => trivial)
theorem XRd.ints {W : World} {base : Nat} {l : List XRowsW.RowD} (h : XRowsW.Rows W base l) (hbase : base ≤ W.heap.size) {A : Option Addr} {n c : Nat} {X : List Int} (hC : Kd.C (Kd.int .i64) W A n X ∧ n ≤ c) (hn : X.length = n) (hf : colonnadelaw09_ints.f X = some X) :
    Calls Try.prog 19 #[.slice A n c] W fun e W' => ∃ A' c', e = .returned (.slice A' X.length c') ∧ Below W.heap.size W W' ∧ XRowsW.Rows W' base (⟨2, .slice A' X.length c', encs (Value.int .i64) X⟩ :: l) := by
  subst hn
  refine (colonnadelaw09_ints.calls A c X X W hC.1 hC.2 hf).mono ?_
  rintro e W' ⟨v, rfl, hR, hb⟩
  obtain ⟨A', c', rfl⟩ := Kd.R_slice hR
  exact ⟨A', c', rfl, hb, h.add hb hbase (r := ⟨_, _, _⟩) (XRowsW.ofR hR)⟩
theorem XRd.twin {W : World} {base : Nat} {l : List XRowsW.RowD} (h : XRowsW.Rows W base l) (hbase : base ≤ W.heap.size) {A : Option Addr} {n c : Nat} {X : List Int} (hC : Kd.C (Kd.int .u8) W A n X ∧ n ≤ c) (hn : X.length = n) (hf : colonnadelaw09_twin.f X = some X) :
    Calls Try.prog 37 #[.slice A n c] W fun e W' => ∃ A' c', e = .returned (.slice A' X.length c') ∧ Below W.heap.size W W' ∧ XRowsW.Rows W' base (⟨5, .slice A' X.length c', encs (Value.int .u8) X⟩ :: l) := by
  subst hn
  refine (colonnadelaw09_twin.calls A c X X W hC.1 hC.2 hf).mono ?_
  rintro e W' ⟨v, rfl, hR, hb⟩
  obtain ⟨A', c', rfl⟩ := Kd.R_slice hR
  exact ⟨A', c', rfl, hb, h.add hb hbase (r := ⟨_, _, _⟩) (XRowsW.ofR hR)⟩
theorem XRd.dictInts {W : World} {base : Nat} {l : List XRowsW.RowD} (h : XRowsW.Rows W base l) (hbase : base ≤ W.heap.size) (K : Nat) {A : Option Addr} {n c : Nat} {X r1 r3 : List Int} {m r2 r4 : Int} (hC : Kd.C (Kd.int .u8) W A n X ∧ n ≤ c) (hn : X.length = n) (hf : dict_Ints.f K X m = some (r1, r2, r3, r4)) :
    Calls Try.prog 36 #[.slice A n c, .int .i64 m] W fun e W' => ∃ A1 c1 A2 c2, e = .returned (.tuple #[.slice A1 r1.length c1, .int .i64 r2, .slice A2 r3.length c2, .int .i64 r4]) ∧ Below W.heap.size W W' ∧
      XRowsW.Rows W' base (⟨2, .slice A1 r1.length c1, encs (Value.int .i64) r1⟩ :: ⟨5, .slice A2 r3.length c2, encs (Value.int .u8) r3⟩ :: l) := by
  subst hn
  refine (dict_Ints.calls K A c X m r1 r2 r3 r4 W hC.1 hC.2 hf).mono ?_
  rintro e W' ⟨v, v', rfl, hR, hR', hb⟩
  obtain ⟨A1, c1, rfl⟩ := Kd.R_slice hR
  obtain ⟨A2, c2, rfl⟩ := Kd.R_slice hR'
  exact ⟨A1, c1, A2, c2, rfl, hb, h.add2 hb hbase (r := ⟨_, _, _⟩) (s := ⟨_, _, _⟩) (XRowsW.ofR hR) (XRowsW.ofR hR') (XRowsW.apart_ty (XRowsW.ofR hR) (XRowsW.ofR hR') (by decide))⟩
theorem XRd.putInts {W : World} {base : Nat} {l : List XRowsW.RowD} (h : XRowsW.Rows W base l) (hbase : base ≤ W.heap.size) (K : Nat) {A : Option Addr} {n c : Nat} {X r : List Int} {m : Int} (hC : Kd.C (Kd.int .i64) W A n X ∧ n ≤ c) (hn : X.length = n) (hf : dict_PutInts.f K X = some (r, m)) :
    Calls Try.prog 33 #[.slice A n c] W fun e W' => ∃ A' c', e = .returned (.tuple #[.slice A' r.length c', .int .i64 m]) ∧ Below W.heap.size W W' ∧ XRowsW.Rows W' base (⟨5, .slice A' r.length c', encs (Value.int .u8) r⟩ :: l) := by
  subst hn
  refine (dict_PutInts.calls K A c X r m W hC.1 hC.2 hf).mono ?_
  rintro e W' ⟨v, rfl, hR, hb⟩
  obtain ⟨A', c', rfl⟩ := Kd.R_slice hR
  exact ⟨A', c', rfl, hb, h.add hb hbase (r := ⟨_, _, _⟩) (XRowsW.ofR hR)⟩
theorem XRd.build {W : World} {base : Nat} {l : List XRowsW.RowD} (h : XRowsW.Rows W base l) (hbase : base ≤ W.heap.size) {A : Option Addr} {n c : Nat} {X SK CS : List Int} (hC : Kd.C (Kd.int .i64) W A n X ∧ n ≤ c) (hn : X.length = n) (hw : ∀ x ∈ X, (Lit.int .i64 x).wf = true) (hl : n < 4294967296) (hSK : XMap.keysOf X = SK) (hCS : X.map (XBuild.code SK) = CS) :
    Calls Try.prog 18 #[.slice A n c] W fun e W' => ∃ Ak Ac, e = .returned (.tuple #[.slice Ak SK.length SK.length, .slice Ac n n]) ∧ Below W.heap.size W W' ∧
      XRowsW.Rows W' base (⟨2, .slice Ak SK.length SK.length, encs (Value.int .i64) SK⟩ :: ⟨61, .slice Ac n n, encs (Value.int .u32) CS⟩ :: l) := by
  subst hn
  refine (XBuild.build A c X W hC.1 hC.2 hw hl XBuild.sortC).mono ?_
  rintro e W' ⟨Ak, b, SK', hSK', rfl, hCk, hRc, hap, hb⟩
  obtain rfl : SK' = SK := hSK'.trans hSK
  rw [hCS] at hRc
  have hK : XApartW.ownsW W' W.heap.size 2 (.slice Ak SK'.length SK'.length) (encs (Value.int .i64) SK').length (encs (Value.int .i64) SK') := by rw [encs_length]; exact hap.2
  exact ⟨Ak, some ⟨b, 0, none⟩, rfl, hb, h.add2 hb hbase (r := ⟨_, _, _⟩) (s := ⟨_, _, _⟩) hK (XRowsW.ofR hRc) (XRowsW.apart_ty hK (XRowsW.ofR hRc) (by decide))⟩
theorem XRd.sameI (K : Nat) {W : World} {A0 A1 : Option Addr} {n m c0 c1 : Nat} {l0 l1 : List Int} {r : Bool} (h0 : Kd.C (Kd.int .i64) W A0 n l0 ∧ n ≤ c0) (hn0 : l0.length = n) (h1 : Kd.C (Kd.int .i64) W A1 m l1 ∧ m ≤ c1) (hn1 : l1.length = m) (hf : colonnadelaw09_sameInts.f K l0 l1 = some r) :
    Calls Try.prog 20 #[.slice A0 n c0, .slice A1 m c1] W fun e W' => e = .returned (.bool r) ∧ Drawn0 W W' := by
  subst hn0 hn1
  exact colonnadelaw09_sameInts.calls K A0 c0 l0 A1 c1 l1 r W h0.1 h0.2 h1.1 h1.2 hf
theorem XRd.str_app (a b : List Int) : strOfNums (a ++ b) = strOfNums a ++ strOfNums b := by
  simp [strOfNums, ByteArray.ext_iff]
theorem XRd.quietI (K : Nat) {W : World} {A0 A1 : Option Addr} {n m' m c0 c1 : Nat} {l0 l1 : List Int} {r : Bool} (h0 : Kd.C (Kd.int .i64) W A0 n l0 ∧ n ≤ c0) (hn0 : l0.length = n) (h1 : Kd.C (Kd.int .i64) W A1 m' l1 ∧ m' ≤ c1) (hn1 : l1.length = m') (hf : colonnadelaw09_sameInts.f K l0 l1 = some r) :
    Calls Try.prog 20 #[.slice A0 n c0, .slice A1 m' c1] (W.drewN m) fun e W' => e = .returned (.bool r) ∧ ∃ k, W' = W.drewN k :=
  Calls.quiet_of ((XRd.sameI K ⟨Kd.C_drewN h0.1 m, h0.2⟩ hn0 ⟨Kd.C_drewN h1.1 m, h1.2⟩ hn1 hf).mono fun _ _ h => ⟨h.1, h.2.out⟩)
theorem XRd.rd9 (X : List Int) : rdOf 0 (X ++ [-9, -10]) ((X.length : Nat) : Int) = -9 := by simp [rdOf]
theorem XRd.rd10 (X : List Int) : rdOf 0 (X ++ [-9, -10]) ((X.length + 1 : Nat) : Int) = -10 := by
  show (X ++ [-9, -10]).getD (X.length + 1) 0 = -10
  simp [List.getD_eq_getElem?_getD]
theorem XRd.str_size (a : List Int) : (strOfNums a).size = a.length := by
  show (strOfNums a).data.size = _
  simp [strOfNums]
def XRd.ov (q p : List Int) (i : Nat) : List Int := q.take i ++ p.drop i
theorem XRd.ov_len (q p : List Int) (i : Nat) (hi : i ≤ q.length) (hq : q.length ≤ p.length) : (XRd.ov q p i).length = p.length := by
  simp only [XRd.ov, List.length_append, List.length_take, List.length_drop]; omega
theorem XRd.ov_set (q p : List Int) (i : Nat) (hi : i < q.length) (hq : q.length ≤ p.length) : (XRd.ov q p i).set i (rd q (i : Int)) = XRd.ov q p (i + 1) := by
  apply List.ext_getElem?
  intro j
  simp only [XRd.ov, rd, Int.toNat_natCast, List.getElem?_set, List.getElem?_append, List.length_append, List.length_take, List.length_drop, List.getElem?_take, List.getElem?_drop]
  by_cases h1 : i = j
  · subst h1
    simp only [if_true]
    rw [if_pos (by omega), if_pos (by omega), if_pos (by omega), List.getElem?_eq_getElem hi]
    simp [List.getD_eq_getElem?_getD, hi]
  · rw [if_neg h1]
    by_cases h2 : j < i
    · rw [if_pos (by omega), if_pos (by omega), if_pos (by omega), if_pos (by omega)]
    · rw [if_neg (by omega), if_neg (by omega)]
      congr 1
      omega
theorem XRd.ov_zero (q p : List Int) : XRd.ov q p 0 = p := by simp [XRd.ov]
theorem XRd.ov_full (q p r : List Int) (h : q.length = p.length) : XRd.ov q (p ++ r) q.length = q ++ r := by
  simp [XRd.ov, h, List.take_of_length_le (Nat.le_of_eq h)]
set_option maxHeartbeats 8000000 in
set_option maxRecDepth 100000 in
theorem XRd.reads (K : Nat) (A0 : Option Addr) (c0 : Nat) (P : List Int) (A1 : Option Addr) (c1 : Nat) (Q : List Int) (n : Int) (w : World) (KP LP KQ LQ : List Int) (WP WQ : Int)
    (hr0 : Kd.C (Kd.int .u8) w A0 P.length P) (hc0 : P.length ≤ c0) (hr1 : Kd.C (Kd.int .u8) w A1 Q.length Q) (hc1 : Q.length ≤ c1) (hp : dict_Ints.f K P n = some (KP, WP, LP, 0)) (hq : dict_Ints.f K Q n = some (KQ, WQ, LQ, 0)) (htp : colonnadelaw09_twin.f P = some P) (htq : colonnadelaw09_twin.f Q = some Q) (hpl : P.length ≤ 1048576) (hql : Q.length ≤ 1048576) (hkp : KP.length ≤ 1048576) (hkq : KQ.length ≤ 1048576) (hlp : LP.length ≤ 1048576) (hlq : LQ.length ≤ 1048576) (hsp : colonnadelaw09_sameInts.f K KP KP = some true) (hsq : colonnadelaw09_sameInts.f K KQ KQ = some true) (hwq : 0 ≤ WQ) :
    Calls Try.prog 44 #[.slice A0 P.length c0, .slice A1 Q.length c1, .int .i64 n] w fun e w' => e = .returned (.bool true) ∧ Below w.heap.size w w' := by
  have Xhr0 := Aside0.mk hr0
  have Xhc0 := Aside0.mk hc0
  have Xhr1 := Aside0.mk hr1
  have Xhc1 := Aside0.mk hc1
  have Xhp := Aside0.mk hp
  have Xhq := Aside0.mk hq
  have Xhtp := Aside0.mk htp
  have Xhtq := Aside0.mk htq
  have Xhpl := Aside0.mk hpl
  have Xhql := Aside0.mk hql
  have Xhkp := Aside0.mk hkp
  have Xhkq := Aside0.mk hkq
  have Xhlp := Aside0.mk hlp
  have Xhlq := Aside0.mk hlq
  have Xhsp := Aside0.mk hsp
  have Xhsq := Aside0.mk hsq
  have Xhwq := Aside0.mk hwq
  have hz0 : (0 : Int) ≤ (P.length : Int) := by omega
  have hsz3 : (9223372036854775807 < (strOfNums P).size + 3) = False := eq_false (by rw [XRd.str_size]; omega)
  have hwq' : decide ((0 : Int) ≤ WQ) = true := decide_eq_true hwq
  clear hr0 hc0 hr1 hc1 hp hq htp htq hpl hql hkp hkq hlp hlq hsp hsq hwq
  go_enter Try.func44, Try.ntmps44
  go_wp2_with fail
  refine (colonnadelaw09_twin.calls A0 c0 P P w Xhr0.out Xhc0.out Xhtp.out).mono ?_
  rintro e w1 ⟨v1, rfl, hR, hb⟩
  have HR1 := Aside0.mk hR
  have HB1 := Aside0.mk hb
  clear hR hb
  have HL1 := Aside0.mk (XRd.litR (Value.int .u8) (fun _ => rfl) w1 5 [201, 202, 203] (by simp [maxLen]))
  go_wp2_with (first | ((with_reducible refine gate_builtin (b := .append) (xs := #[.tmp 35, .tmp 36]) rfl ?_); at_builtin; refine Kd.R_append_rows (Kd.int .u8) (w0 := w) w.heap.size rfl (.tmp 35) (.tmp 36) 46 5 (.int .u8 0) 1 rfl Try.underlying46 XRd.info8 rfl (by decide) (by omega) v1 P [201, 202, 203] _ _ _ (fun _ => True) (fun _ => False) rfl rfl (Kd.R_alloc HR1.out _) (Kd.R_reads' HL1.out).2.2 (fun _ _ h => h) (fun _ h => h.elim) (fun _ _ => trivial) (below_alloc HB1.out _) (below_size (below_alloc HB1.out _)) (by have := Xhpl.out; first | omega | (simp only [List.length_cons, List.length_nil]; omega)) ?_; intro v2 w2 ho hb hg hat; obtain ⟨Ar, cr, rfl⟩ := Kd.R_slice ho; have hw := (XRowsW.Rows.nil w w.heap.size).add hb (Nat.le_refl _) (r := ⟨_, _, _⟩) (XRowsW.ofR ho); have HB2 := Aside0.mk hb; have HW2 := Aside0.mk hw; have hcr0 := (hw.C (fun _ => rfl) (0 : Int) 0 rfl).2; rw [List.length_append] at hcr0; have hcr : (P.length : Int) ≤ (cr : Int) := (by omega); clear hcr0; clear ho hb hg hat hw HR1 HB1 HL1))
  refine (XRd.dictInts HW2.out HB2.out.size K (HW2.out.Ct (fun _ => rfl) (0 : Int) 0 rfl rfl) rfl Xhp.out).mono ?_
  rintro e w3 ⟨Ak1, ck1, Al1, cl1, rfl, hb, hw⟩
  have HB3 := Aside0.mk (below_then HB2.out HB2.out.size hb)
  have HW3 := Aside0.mk hw
  clear hb hw HB2 HW2
  go_wp2_with fail
  refine (XRd.twin HW3.out HB3.out.size ⟨Kd.C_below Xhr1.out HB3.out, Xhc1.out⟩ rfl Xhtq.out).mono ?_
  rintro e w4 ⟨Aq1, cq1, rfl, hb, hw⟩
  have HB4 := Aside0.mk (below_then HB3.out HB3.out.size hb)
  have HW4 := Aside0.mk hw
  clear hb hw HB3 HW3
  go_wp2_with fail
  refine (XRd.dictInts HW4.out HB4.out.size K (HW4.out.Cn (fun _ => rfl) (0 : Int) 0 rfl rfl) rfl Xhq.out).mono ?_
  rintro e w5 ⟨Ak2, ck2, Al2, cl2, rfl, hb, hw⟩
  have HB5 := Aside0.mk (below_then HB4.out HB4.out.size hb)
  have HW5 := Aside0.mk hw
  clear hb hw HB4 HW4
  go_wp2_with fail
  refine (XRd.dictInts HW5.out HB5.out.size K (HW5.out.Ct (fun _ => rfl) (0 : Int) 5 rfl rfl) rfl Xhp.out).mono ?_
  rintro e w6 ⟨Ak3, ck3, Al3, cl3, rfl, hb, hw⟩
  have HB6 := Aside0.mk (below_then HB5.out HB5.out.size hb)
  have HW6 := Aside0.mk hw
  clear hb hw HB5 HW5
  go_wp2_with fail
  refine (XRd.dictInts HW6.out HB6.out.size K (HW6.out.Ct (fun _ => rfl) (0 : Int) 7 rfl rfl) rfl Xhp.out).mono ?_
  rintro e w7 ⟨Ak4, ck4, Al4, cl4, rfl, hb, hw⟩
  have HB7 := Aside0.mk (below_then HB6.out HB6.out.size hb)
  have HW7 := Aside0.mk hw
  clear hb hw HB6 HW6
  have cv1 := fun m_ : Nat => Kd.C_string (P := Try.prog) Try.underlying46 Try.underlying5 Try.underlying9 (c := cl1) (Kd.C_drewN (HW7.out.Cn (fun _ => rfl) (0 : Int) 8 rfl rfl).1 m_)
  have cv2 := fun m_ : Nat => Kd.C_string (P := Try.prog) Try.underlying46 Try.underlying5 Try.underlying9 (c := cl3) (Kd.C_drewN (HW7.out.Cn (fun _ => rfl) (0 : Int) 3 rfl rfl).1 m_)
  have cv3 := fun m_ : Nat => Kd.C_string (P := Try.prog) Try.underlying46 Try.underlying5 Try.underlying9 (c := cl4) (Kd.C_drewN (HW7.out.Cn (fun _ => rfl) (0 : Int) 1 rfl rfl).1 m_)
  have cv4 := fun m_ : Nat => Kd.C_string (P := Try.prog) Try.underlying46 Try.underlying5 Try.underlying9 (c := cr) (Kd.C_drewN (HW7.out.Cn (m := P.length + 3) (xs := P ++ [201, 202, 203]) (fun _ => rfl) (0 : Int) 9 rfl (by simp)).1 m_)
  have cv5 := fun m_ : Nat => Kd.C_string (P := Try.prog) Try.underlying46 Try.underlying5 Try.underlying9 (c := c0) (Kd.C_drewN (Kd.C_below Xhr0.out HB7.out) m_)
  rw [XRd.str_app, show strOfNums [201, 202, 203] = (⟨#[201, 202, 203]⟩ : ByteArray) from rfl] at cv4
  have SC0 := Aside0.mk (fun m_ : Nat => XRd.sameI K (W := w7.drewN m_) ⟨Kd.C_drewN (HW7.out.Cn (fun _ => rfl) (0 : Int) 7 rfl rfl).1 m_, (HW7.out.Cn (fun _ => rfl) (0 : Int) 7 rfl rfl).2⟩ rfl ⟨Kd.C_drewN (HW7.out.Cn (fun _ => rfl) (0 : Int) 2 rfl rfl).1 m_, (HW7.out.Cn (fun _ => rfl) (0 : Int) 2 rfl rfl).2⟩ rfl Xhsp.out)
  have SCz := Aside0.mk (XRd.sameI K (HW7.out.Cn (fun _ => rfl) (0 : Int) 7 rfl rfl) rfl (HW7.out.Cn (fun _ => rfl) (0 : Int) 2 rfl rfl) rfl Xhsp.out)
  have SC1 := Aside0.mk (fun m_ : Nat => XRd.sameI K (W := w7.drewN m_) ⟨Kd.C_drewN (HW7.out.Cn (fun _ => rfl) (0 : Int) 7 rfl rfl).1 m_, (HW7.out.Cn (fun _ => rfl) (0 : Int) 7 rfl rfl).2⟩ rfl ⟨Kd.C_drewN (HW7.out.Cn (fun _ => rfl) (0 : Int) 0 rfl rfl).1 m_, (HW7.out.Cn (fun _ => rfl) (0 : Int) 0 rfl rfl).2⟩ rfl Xhsp.out)
  go_wp2_with (first
      | (go_at_call 20; (with_reducible refine SCz.out.mono ?_); rintro e wz ⟨rfl, ⟨ndz, rfl⟩⟩)
      | (go_at_call 20; (with_reducible refine (SC0.out _).mono ?_); rintro e wz ⟨rfl, ⟨ndz0, rfl⟩⟩)
      | (go_at_call 20; (with_reducible refine (SC1.out _).mono ?_); rintro e wz ⟨rfl, ⟨ndz1, rfl⟩⟩))
  clear SCz SC0 SC1
  clear cv1 cv2 cv3 cv4 cv5
  have HBd := Aside0.mk (pw_below_drewN HB7.out (ndz + ndz1))
  have HWd := Aside0.mk (HW7.out.below (pw_below_drewN (Below.refl _ _) (ndz + ndz1)))
  clear HB7 HW7
  have hsd : w7.heap.size = (w7.drewN (ndz + ndz1)).heap.size := rfl
  rw [hsd]
  generalize w7.drewN (ndz + ndz1) = wd at HBd HWd ⊢
  obtain ⟨w8, rfl⟩ : ∃ x : World, x = wd := ⟨_, rfl⟩
  have HB8 := HBd
  have HW8 := HWd
  clear HBd HWd
  obtain ⟨hP, hgr⟩ := HW8.out.grow HB8.out.size [7, 4, 2, 0] [1, 3, 5, 6, 8, 9] (by decide) (eT := 2) 22 1099511627776 (vs := [.slice Ak1 KP.length ck1, .slice Ak2 KQ.length ck2, .slice Ak3 KP.length ck3, .slice Ak4 KP.length ck4]) rfl (fun k hk => by
    match k, hk with
    | 0, _ => exact ⟨_, rfl, by rw [encs_length]; have h1 := Xhkp.out; have h2 := Xhkq.out; omega⟩
    | 1, _ => exact ⟨_, rfl, by rw [encs_length]; have h1 := Xhkp.out; have h2 := Xhkq.out; omega⟩
    | 2, _ => exact ⟨_, rfl, by rw [encs_length]; have h1 := Xhkp.out; have h2 := Xhkq.out; omega⟩
    | 3, _ => exact ⟨_, rfl, by rw [encs_length]; have h1 := Xhkp.out; have h2 := Xhkq.out; omega⟩
    | k + 4, hk => exact absurd hk (by simp)) (by decide) (by decide)
  refine (XGrown.grownInts.calls _ _ 4 _ hP).mono ?_
  rintro e w9 ⟨rfl, hbf⟩
  obtain ⟨hw, hb⟩ := hgr _ hbf
  have HB9 := Aside0.mk (HB8.out.trans hb)
  have HW9 := Aside0.mk hw
  clear hw hb hbf hgr hP HB8 HW8
  go_wp2_with fail
  obtain ⟨hP, hgr⟩ := HW9.out.grow HB9.out.size [4, 2, 1, 0] [3, 5] (by decide) (eT := 5) 46 1099511627776 (vs := [.slice Al1 LP.length cl1, .slice Al2 LQ.length cl2, .slice Al3 LP.length cl3, .slice Al4 LP.length cl4]) rfl (fun k hk => by
    match k, hk with
    | 0, _ => exact ⟨_, rfl, by rw [encs_length]; have h1 := Xhlp.out; have h2 := Xhlq.out; omega⟩
    | 1, _ => exact ⟨_, rfl, by rw [encs_length]; have h1 := Xhlp.out; have h2 := Xhlq.out; omega⟩
    | 2, _ => exact ⟨_, rfl, by rw [encs_length]; have h1 := Xhlp.out; have h2 := Xhlq.out; omega⟩
    | 3, _ => exact ⟨_, rfl, by rw [encs_length]; have h1 := Xhlp.out; have h2 := Xhlq.out; omega⟩
    | k + 4, hk => exact absurd hk (by simp)) (by decide) (by decide)
  refine (XGrown.grownBytes.calls _ _ 4 _ hP).mono ?_
  rintro e w10 ⟨rfl, hbf⟩
  obtain ⟨hw, hb⟩ := hgr _ hbf
  have HB10 := Aside0.mk (HB9.out.trans hb)
  have HW10 := Aside0.mk hw
  clear hw hb hbf hgr hP HB9 HW9
  have cv4 := Kd.C_string (P := Try.prog) Try.underlying46 Try.underlying5 Try.underlying9 (c := cr) ((HW10.out.Cn (m := P.length + 3) (xs := P ++ [201, 202, 203]) (fun _ => rfl) (0 : Int) 1 rfl (by simp)).1)
  have cv5 := Kd.C_string (P := Try.prog) Try.underlying46 Try.underlying5 Try.underlying9 (c := c0) ((Kd.C_below Xhr0.out HB10.out))
  rw [XRd.str_app, show strOfNums [201, 202, 203] = (⟨#[201, 202, 203]⟩ : ByteArray) from rfl] at cv4
  by_cases hq : Q.length = P.length
  case neg =>
    have hq1 : ((Q.length : Int) != (P.length : Int)) = true := bne_iff_ne.mpr (by omega)
    clear hq
    go_wp2_with fail
    go_ret
    exact ⟨rfl, HB10.out⟩
  have hq1 : ((Q.length : Int) != (P.length : Int)) = false := bne_eq_false_iff_eq.mpr (by omega)
  have Xq := Aside0.mk hq
  clear hq
  go_wp2_with fail
  refine (XRd.dictInts HW10.out HB10.out.size K (HW10.out.Ct (fun _ => rfl) (0 : Int) 1 rfl rfl) rfl Xhp.out).mono ?_
  rintro e w11 ⟨Ak7, ck7, Al7, cl7, rfl, hb, hw⟩
  have HB11 := Aside0.mk (below_then HB10.out HB10.out.size hb)
  have HW11 := Aside0.mk hw
  clear hb hw HB10 HW10
  go_wp2_with fail
  have HW0 : Aside0 (XRowsW.Rows w11 w.heap.size [⟨2, .slice Ak7 KP.length ck7, encs (Value.int .i64) KP⟩, ⟨5, .slice Al7 LP.length cl7, encs (Value.int .u8) LP⟩, ⟨5, .slice Aq1 Q.length cq1, encs (Value.int .u8) Q⟩, ⟨5, .slice Ar (P.length + 3) cr, encs (Value.int .u8) (XRd.ov Q (P ++ [201, 202, 203]) 0)⟩]) := ⟨by rw [XRd.ov_zero]; have h := HW11.out; rw [(by simp : (P ++ ([201, 202, 203] : List Int)).length = P.length + 3)] at h; exact h⟩
  (try simp only [add_plain])
  go_loopg [25] (Q.length + 1) (fun kq v25 w' => ∃ i : Nat, i ≤ Q.length ∧ Aside0 (kq + i = Q.length + 1) ∧ v25 = .int .i64 (i : Int) ∧ Aside0 (Below w.heap.size w w') ∧ Aside0 (XRowsW.Rows w' w.heap.size [⟨2, .slice Ak7 KP.length ck7, encs (Value.int .i64) KP⟩, ⟨5, .slice Al7 LP.length cl7, encs (Value.int .u8) LP⟩, ⟨5, .slice Aq1 Q.length cq1, encs (Value.int .u8) Q⟩, ⟨5, .slice Ar (P.length + 3) cr, encs (Value.int .u8) (XRd.ov Q (P ++ [201, 202, 203]) i)⟩]))
  case atStart => exact ⟨0, Nat.zero_le _, ⟨by omega⟩, rfl, HB11, HW0⟩
  case round =>
    clear HB11 HW11 HW0
    obtain ⟨i, hi, HK, rfl, HB, HW⟩ := hrel
    by_cases hlt : i < Q.length
    · have hdc : decide ((i : Int) < (Q.length : Int)) = true := decide_eq_true (by omega)
      have hql := Xq.out
      obtain ⟨k1, rfl⟩ : ∃ k1, gk = k1 + 1 := ⟨gk - 1, by have := HK.out; omega⟩
      have hol : (XRd.ov Q (P ++ [201, 202, 203]) i).length = (P ++ [201, 202, 203]).length := XRd.ov_len Q _ i (by omega) (by simp; omega)
      obtain ⟨g, rfl, hbg, hcell⟩ := HW.out.cell (0 : Int) 3 rfl (by rw [hol]; simp)
      obtain ⟨hx, hf⟩ := hcell i (by rw [hol]; simp; omega)
      clear hcell hol
      have p1 : (0 : Int) ≤ (i : Int) := by omega
      have q1 : (i : Int) < (Q.length : Int) := by omega
      have q2 : (i : Int) < (P.length : Int) := by omega
      obtain ⟨ad1, e1, hx1⟩ := Kd.at_int (Kd.C_below Xhr1.out HB.out) (i : Int) p1 q1
      cases e1
      change wr.cell? (ad1.add i) = _ at hx1
      clear hql
      have hb1 : (i : Int) < 1048576 := by have := Xhql.out; omega
      go_wp2_with fail
      have HW' := Aside0.mk (HW.out.putE 3 rfl i (rd Q (i : Int)))
      rw [XRd.ov_set Q _ i hlt (by have := Xq.out; simp; omega)] at HW'
      have HB' := Aside0.mk (HB.out.setCell (p := ⟨g, i, none⟩) hbg (.int .u8 (rd Q (i : Int))))
      go_roundg k1
      case measure => have := HK.out; omega
      case rel => exact ⟨i + 1, by omega, ⟨by have := HK.out; omega⟩, congrArg (Value.int .i64) (by omega), HB', HW'⟩
    · obtain rfl : i = Q.length := by omega
      have hdc : decide ((Q.length : Int) < (Q.length : Int)) = false := decide_eq_false (by omega)
      rw [XRd.ov_full Q P [201, 202, 203] Xq.out] at HW
      have HB11 := HB
      have HW11 := HW
      clear HB HW
      obtain ⟨w11, rfl⟩ : ∃ x : World, x = wr := ⟨_, rfl⟩
      go_wp2_with fail
      refine (XRd.dictInts HW11.out HB11.out.size K (HW11.out.Ct (fun _ => rfl) (0 : Int) 3 rfl Xq.out) Xq.out Xhq.out).mono ?_
      rintro e w12 ⟨Ak5, ck5, Al5, cl5, rfl, hb, hw⟩
      have HB12 := Aside0.mk (below_then HB11.out HB11.out.size hb)
      have HW12 := Aside0.mk hw
      clear hb hw HB11 HW11
      go_wp2_with fail
      refine (XRd.twin HW12.out HB12.out.size ⟨Kd.C_below Xhr1.out HB12.out, Xhc1.out⟩ rfl Xhtq.out).mono ?_
      rintro e w13 ⟨Aq2, cq2, rfl, hb, hw⟩
      have HB13 := Aside0.mk (below_then HB12.out HB12.out.size hb)
      have HW13 := Aside0.mk hw
      clear hb hw HB12 HW12
      go_wp2_with fail
      refine (XRd.dictInts HW13.out HB13.out.size K (HW13.out.Cn (fun _ => rfl) (0 : Int) 0 rfl rfl) rfl Xhq.out).mono ?_
      rintro e w14 ⟨Ak6, ck6, Al6, cl6, rfl, hb, hw⟩
      have HB14 := Aside0.mk (below_then HB13.out HB13.out.size hb)
      have HW14 := Aside0.mk hw
      clear hb hw HB13 HW13
      have cv1 := fun m_ : Nat => Kd.C_string (P := Try.prog) Try.underlying46 Try.underlying5 Try.underlying9 (c := cl5) (Kd.C_drewN (HW14.out.Cn (fun _ => rfl) (0 : Int) 4 rfl rfl).1 m_)
      have cv2 := fun m_ : Nat => Kd.C_string (P := Try.prog) Try.underlying46 Try.underlying5 Try.underlying9 (c := cl6) (Kd.C_drewN (HW14.out.Cn (fun _ => rfl) (0 : Int) 1 rfl rfl).1 m_)
      have SC0 := Aside0.mk (fun m_ : Nat => XRd.sameI K (W := w14.drewN m_) ⟨Kd.C_drewN (HW14.out.Cn (fun _ => rfl) (0 : Int) 3 rfl rfl).1 m_, (HW14.out.Cn (fun _ => rfl) (0 : Int) 3 rfl rfl).2⟩ rfl ⟨Kd.C_drewN (HW14.out.Cn (fun _ => rfl) (0 : Int) 0 rfl rfl).1 m_, (HW14.out.Cn (fun _ => rfl) (0 : Int) 0 rfl rfl).2⟩ rfl Xhsq.out)
      have SCz := Aside0.mk (XRd.sameI K (HW14.out.Cn (fun _ => rfl) (0 : Int) 3 rfl rfl) rfl (HW14.out.Cn (fun _ => rfl) (0 : Int) 0 rfl rfl) rfl Xhsq.out)
      go_wp2_with (first
          | (go_at_call 20; (with_reducible refine SCz.out.mono ?_); rintro e wz ⟨rfl, ⟨ndz, rfl⟩⟩)
          | (go_at_call 20; (with_reducible refine (SC0.out _).mono ?_); rintro e wz ⟨rfl, ⟨ndz0, rfl⟩⟩))
      clear SCz SC0
      go_ret
      exact ⟨rfl, pw_below_drewN HB14.out _⟩

set_option maxHeartbeats 16000000 in
set_option maxRecDepth 100000 in
theorem colonnadelaw09_DictOwn.go (K : Nat) (A0 : Option Addr) (L0 c0 : Nat) (X : List Int) (A1 : Option Addr) (L1 c1 M : Nat) (Y : List Int) (w : World) (SX CX SY CY P Q KP LP KQ LQ : List Int) (WP WQ : Int)
    (hr0 : Kd.C (Kd.int .i64) w A0 X.length X) (hc0 : X.length ≤ c0) (hr1 : Kd.C (Kd.int .i64) w A1 X.length Y) (hc1 : X.length ≤ c1) (hyx : Y.length = X.length) (hmin : (if L1 < L0 then (L1 : Int) else (L0 : Int)) = (M : Int)) (hmi2 : (if (1000 : Int) < (M : Int) then (1000 : Int) else (M : Int)) = (X.length : Int)) (hmi3 : (if 1000 < M then (1000 : Int) else (M : Int)) = (X.length : Int)) (hxl : X.length ≤ 1000) (hx1 : X.length ≤ L1) (hix : colonnadelaw09_ints.f X = some X) (hiy : colonnadelaw09_ints.f Y = some Y) (hwx : ∀ x ∈ X, (Lit.int .i64 x).wf = true) (hwy : ∀ x ∈ Y, (Lit.int .i64 x).wf = true) (hsx : XMap.keysOf X = SX) (hcx : X.map (XBuild.code SX) = CX) (hsy : XMap.keysOf Y = SY) (hcy : Y.map (XBuild.code SY) = CY) (hpx : dict_PutInts.f K X = some (P, 0)) (hpy : dict_PutInts.f K Y = some (Q, 0)) (hp : dict_Ints.f K P (X.length : Int) = some (KP, WP, LP, 0)) (hq : dict_Ints.f K Q (X.length : Int) = some (KQ, WQ, LQ, 0)) (htp : colonnadelaw09_twin.f P = some P) (htq : colonnadelaw09_twin.f Q = some Q) (hpl : P.length ≤ 1048576) (hql : Q.length ≤ 1048576) (hkp : KP.length ≤ 1048576) (hkq : KQ.length ≤ 1048576) (hlp : LP.length ≤ 1048576) (hlq : LQ.length ≤ 1048576) (hsp : colonnadelaw09_sameInts.f K KP KP = some true) (hsq : colonnadelaw09_sameInts.f K KQ KQ = some true) (hwq : 0 ≤ WQ) (hs1 : colonnadelaw09_sameInts.f K SX SX = some true) (hs2 : colonnadelaw09_sameInts.f K SY SY = some true) (hs3 : colonnadelaw09_sameInts.f K X X = some true) (hlx : SX.length ≤ 1000) (hly : SY.length ≤ 1000) :
    Calls Try.prog 12 #[.slice A0 L0 c0, .slice A1 L1 c1] w fun e w' => e = .returned (.bool true) ∧ Below w.heap.size w w' := by
  have Xhr0 := Aside0.mk hr0
  have Xhc0 := Aside0.mk hc0
  have Xhr1 := Aside0.mk hr1
  have Xhc1 := Aside0.mk hc1
  have Xhyx := Aside0.mk hyx
  have Xhmin := Aside0.mk hmin
  have Xhmi2 := Aside0.mk hmi2
  have Xhmi3 := Aside0.mk hmi3
  have Xhxl := Aside0.mk hxl
  have Xhx1 := Aside0.mk hx1
  have Xhix := Aside0.mk hix
  have Xhiy := Aside0.mk hiy
  have Xhwx := Aside0.mk hwx
  have Xhwy := Aside0.mk hwy
  have Xhsx := Aside0.mk hsx
  have Xhcx := Aside0.mk hcx
  have Xhsy := Aside0.mk hsy
  have Xhcy := Aside0.mk hcy
  have Xhpx := Aside0.mk hpx
  have Xhpy := Aside0.mk hpy
  have Xhp := Aside0.mk hp
  have Xhq := Aside0.mk hq
  have Xhtp := Aside0.mk htp
  have Xhtq := Aside0.mk htq
  have Xhpl := Aside0.mk hpl
  have Xhql := Aside0.mk hql
  have Xhkp := Aside0.mk hkp
  have Xhkq := Aside0.mk hkq
  have Xhlp := Aside0.mk hlp
  have Xhlq := Aside0.mk hlq
  have Xhsp := Aside0.mk hsp
  have Xhsq := Aside0.mk hsq
  have Xhwq := Aside0.mk hwq
  have Xhs1 := Aside0.mk hs1
  have Xhs2 := Aside0.mk hs2
  have Xhs3 := Aside0.mk hs3
  have Xhlx := Aside0.mk hlx
  have Xhly := Aside0.mk hly
  have hmi4 : (if L1 < L0 then (L1 : Int) else (L0 : Int)) = (M : Int) := hmin
  clear Xhmin Xhmi2 Xhmi3
  have hz0 : (0 : Int) ≤ (X.length : Int) := by omega
  have hz1 : (X.length : Int) ≤ (c0 : Int) := by omega
  have hz2 : (X.length : Int) ≤ (c1 : Int) := by omega
  have hlt : (X.length : Int) < 1001 := by omega
  clear hr0 hc0 hr1 hc1 hyx hxl hx1 hix hiy hwx hwy hsx hcx hsy hcy hpx hpy hp hq htp htq hpl hql hkp hkq hlp hlq hsp hsq hwq hs1 hs2 hs3 hlx hly
  go_enter Try.func12, Try.ntmps12
  go_wp2_with (first | (go_at_call 22; refine (XKn.known _).mono ?_; rintro e w1 ⟨rfl, hb1⟩; have HB1 := Aside0.mk hb1; clear hb1))
  refine (colonnadelaw09_ints.calls A0 c0 X X w1 (Kd.C_below Xhr0.out HB1.out) Xhc0.out Xhix.out).mono ?_
  rintro e w2 ⟨v1, rfl, hR, hb⟩
  have HR2 := Aside0.mk hR
  have HB2 := Aside0.mk hb
  clear hR hb
  have HL2 := Aside0.mk (XRd.litR (Value.int .i64) (fun _ => rfl) w2 2 [-9, -10] (by simp [maxLen]))
  go_wp2_with (first | ((with_reducible refine gate_builtin (b := .append) (xs := #[.tmp 42, .tmp 43]) rfl ?_); at_builtin; refine Kd.R_append_rows (Kd.int .i64) (w0 := w1) w1.heap.size rfl (.tmp 42) (.tmp 43) 22 2 (.int .i64 0) 8 rfl Try.underlying22 XRd.info64 rfl (by decide) (by omega) v1 X [-9, -10] _ _ _ (fun _ => True) (fun _ => False) rfl rfl (Kd.R_alloc HR2.out _) (Kd.R_reads' HL2.out).2.2 (fun _ _ h => h) (fun _ h => h.elim) (fun _ _ => trivial) (below_alloc HB2.out _) (below_size (below_alloc HB2.out _)) (by have := Xhxl.out; first | omega | (simp only [List.length_cons, List.length_nil]; omega)) ?_; intro v2 w3 ho hb hg hat; obtain ⟨Ar, cr, rfl⟩ := Kd.R_slice ho; have hw := (XRowsW.Rows.nil w1 w.heap.size).add hb HB1.out.size (r := ⟨_, _, _⟩) (XRowsW.ofR ho); have HB3 := Aside0.mk (below_then HB1.out HB1.out.size hb); have HW3 := Aside0.mk hw; have hcr0 := (hw.C (fun _ => rfl) (0 : Int) 0 rfl).2; rw [List.length_append] at hcr0; have hcr : (X.length : Int) ≤ (cr : Int) := (by omega); clear hcr0; clear ho hb hg hat hw HR2 HB2 HL2 HB1))
  obtain ⟨rg, rfl, hrg, hrc⟩ := HW3.out.cell (0 : Int) 0 rfl (by rw [List.length_append]; simp only [List.length_cons, List.length_nil]; omega)
  clear hrc
  refine (XRd.build HW3.out HB3.out.size (HW3.out.Ct (fun _ => rfl) (0 : Int) 0 rfl rfl) rfl Xhwx.out (by have h1_ := Xhxl.out; have h2_ := Xhyx.out; omega) Xhsx.out Xhcx.out).mono ?_
  rintro e w4 ⟨Ak1, Ac1, rfl, hb, hw⟩
  have HB4 := Aside0.mk (below_then HB3.out HB3.out.size hb)
  have HW4 := Aside0.mk hw
  clear hb hw HB3 HW3
  go_wp2_with fail
  refine (XRd.putInts HW4.out HB4.out.size K (HW4.out.Ct (fun _ => rfl) (0 : Int) 2 rfl rfl) rfl Xhpx.out).mono ?_
  rintro e w5 ⟨Ap1, cp1, rfl, hb, hw⟩
  have HB5 := Aside0.mk (below_then HB4.out HB4.out.size hb)
  have HW5 := Aside0.mk hw
  clear hb hw HB4 HW4
  go_wp2_with fail
  refine (XRd.ints HW5.out HB5.out.size ⟨Kd.C_below Xhr1.out HB5.out, Xhc1.out⟩ Xhyx.out Xhiy.out).mono ?_
  rintro e w6 ⟨Ai1, ci1, rfl, hb, hw⟩
  have HB6 := Aside0.mk (below_then HB5.out HB5.out.size hb)
  have HW6 := Aside0.mk hw
  clear hb hw HB5 HW5
  go_wp2_with fail
  refine (XRd.build HW6.out HB6.out.size (HW6.out.Cn (fun _ => rfl) (0 : Int) 0 rfl rfl) rfl Xhwy.out (by have h1_ := Xhxl.out; have h2_ := Xhyx.out; omega) Xhsy.out Xhcy.out).mono ?_
  rintro e w7 ⟨Ak2, Ac2, rfl, hb, hw⟩
  have HB7 := Aside0.mk (below_then HB6.out HB6.out.size hb)
  have HW7 := Aside0.mk hw
  clear hb hw HB6 HW6
  go_wp2_with fail
  refine (XRd.ints HW7.out HB7.out.size ⟨Kd.C_below Xhr1.out HB7.out, Xhc1.out⟩ Xhyx.out Xhiy.out).mono ?_
  rintro e w8 ⟨Ai2, ci2, rfl, hb, hw⟩
  have HB8 := Aside0.mk (below_then HB7.out HB7.out.size hb)
  have HW8 := Aside0.mk hw
  clear hb hw HB7 HW7
  go_wp2_with fail
  refine (XRd.putInts HW8.out HB8.out.size K (HW8.out.Cn (fun _ => rfl) (0 : Int) 0 rfl rfl) rfl Xhpy.out).mono ?_
  rintro e w9 ⟨Ap2, cp2, rfl, hb, hw⟩
  have HB9 := Aside0.mk (below_then HB8.out HB8.out.size hb)
  have HW9 := Aside0.mk hw
  clear hb hw HB8 HW8
  go_wp2_with fail
  refine (XRd.build HW9.out HB9.out.size (HW9.out.Ct (fun _ => rfl) (0 : Int) 8 rfl rfl) rfl Xhwx.out (by have h1_ := Xhxl.out; have h2_ := Xhyx.out; omega) Xhsx.out Xhcx.out).mono ?_
  rintro e w10 ⟨Ak3, Ac3, rfl, hb, hw⟩
  have HB10 := Aside0.mk (below_then HB9.out HB9.out.size hb)
  have HW10 := Aside0.mk hw
  clear hb hw HB9 HW9
  go_wp2_with fail
  refine (XRd.putInts HW10.out HB10.out.size K (HW10.out.Ct (fun _ => rfl) (0 : Int) 10 rfl rfl) rfl Xhpx.out).mono ?_
  rintro e w11 ⟨Ap3, cp3, rfl, hb, hw⟩
  have HB11 := Aside0.mk (below_then HB10.out HB10.out.size hb)
  have HW11 := Aside0.mk hw
  clear hb hw HB10 HW10
  go_wp2_with fail
  refine (XRd.build HW11.out HB11.out.size (HW11.out.Ct (fun _ => rfl) (0 : Int) 11 rfl rfl) rfl Xhwx.out (by have h1_ := Xhxl.out; have h2_ := Xhyx.out; omega) Xhsx.out Xhcx.out).mono ?_
  rintro e w12 ⟨Ak4, Ac4, rfl, hb, hw⟩
  have HB12 := Aside0.mk (below_then HB11.out HB11.out.size hb)
  have HW12 := Aside0.mk hw
  clear hb hw HB11 HW11
  go_wp2_with fail
  refine (XRd.putInts HW12.out HB12.out.size K (HW12.out.Ct (fun _ => rfl) (0 : Int) 13 rfl rfl) rfl Xhpx.out).mono ?_
  rintro e w13 ⟨Ap4, cp4, rfl, hb, hw⟩
  have HB13 := Aside0.mk (below_then HB12.out HB12.out.size hb)
  have HW13 := Aside0.mk hw
  clear hb hw HB12 HW12
  go_wp2_with fail
  obtain ⟨rg2, hrg2, _, hrc⟩ := HW13.out.cell (0 : Int) 14 rfl (by rw [List.length_append]; simp only [List.length_cons, List.length_nil]; omega)
  obtain rfl : rg = rg2 := by injection hrg2 with h; injection h
  clear hrg2
  have hr9 := (hrc X.length (by simp)).1
  have hr10 := (hrc (X.length + 1) (by simp)).1
  clear hrc
  rw [XRd.rd9] at hr9
  rw [XRd.rd10] at hr10
  have cv1 := fun m_ : Nat => Kd.C_string (P := Try.prog) Try.underlying46 Try.underlying5 Try.underlying9 (c := cp1) (Kd.C_drewN (HW13.out.Cn (fun _ => rfl) (0 : Int) 11 rfl rfl).1 m_)
  have cv2 := fun m_ : Nat => Kd.C_string (P := Try.prog) Try.underlying46 Try.underlying5 Try.underlying9 (c := cp3) (Kd.C_drewN (HW13.out.Cn (fun _ => rfl) (0 : Int) 3 rfl rfl).1 m_)
  have cv3 := fun m_ : Nat => Kd.C_string (P := Try.prog) Try.underlying46 Try.underlying5 Try.underlying9 (c := cp4) (Kd.C_drewN (HW13.out.Cn (fun _ => rfl) (0 : Int) 0 rfl rfl).1 m_)
  have hca := (HW13.out.Cn (fun _ => rfl) (0 : Int) 12 rfl rfl)
  have hcb := (HW13.out.Cn (fun _ => rfl) (0 : Int) 4 rfl rfl)
  have SC0 := Aside0.mk (fun m_ : Nat => XRd.quietI K (W := w13) (m := m_) hca rfl hcb rfl Xhs1.out)
  clear hca hcb
  have hca := (HW13.out.Cn (fun _ => rfl) (0 : Int) 12 rfl rfl)
  have hcb := (HW13.out.Cn (fun _ => rfl) (0 : Int) 1 rfl rfl)
  have SC1 := Aside0.mk (fun m_ : Nat => XRd.quietI K (W := w13) (m := m_) hca rfl hcb rfl Xhs1.out)
  clear hca hcb
  have hca := (HW13.out.Ct (fun _ => rfl) (0 : Int) 14 rfl rfl)
  have hcb := (And.intro (Kd.C_below Xhr0.out HB13.out) Xhc0.out)
  have SC2 := Aside0.mk (fun m_ : Nat => XRd.quietI K (W := w13) (m := m_) hca rfl hcb rfl Xhs3.out)
  clear hca hcb
  dsimp only [List.append]
  go_quiet (first
      | (go_at_call 20; with_reducible exact SC0.out _)
      | (go_at_call 20; with_reducible exact SC1.out _)
      | (go_at_call 20; with_reducible exact SC2.out _))
  clear SC0 SC1 SC2
  go_wp2_with fail
  clear cv1 cv2 cv3 hr9 hr10
  have HBd := Aside0.mk (pw_below_drewN HB13.out nq)
  have HWd := Aside0.mk (HW13.out.below (pw_below_drewN (Below.refl _ _) nq))
  clear HB13 HW13
  generalize w13.drewN nq = wd at HBd HWd ⊢
  obtain ⟨w14, rfl⟩ : ∃ x : World, x = wd := ⟨_, rfl⟩
  have HB14 := HBd
  have HW14 := HWd
  clear HBd HWd
  refine (XRd.reads K Ap1 cp1 P Ap2 cp2 Q (X.length : Int) w14 KP LP KQ LQ WP WQ (HW14.out.Cn (fun _ => rfl) (0 : Int) 11 rfl rfl).1 (HW14.out.Cn (fun _ => rfl) (0 : Int) 11 rfl rfl).2 (HW14.out.Cn (fun _ => rfl) (0 : Int) 6 rfl rfl).1 (HW14.out.Cn (fun _ => rfl) (0 : Int) 6 rfl rfl).2 Xhp.out Xhq.out Xhtp.out Xhtq.out Xhpl.out Xhql.out Xhkp.out Xhkq.out Xhlp.out Xhlq.out Xhsp.out Xhsq.out Xhwq.out).mono ?_
  rintro e w15 ⟨rfl, hb⟩
  have hw := HW14.out.below hb
  have HB15 := Aside0.mk (below_then HB14.out HB14.out.size hb)
  have HW15 := Aside0.mk hw
  clear hb hw HB14 HW14
  go_wp2_with fail
  obtain ⟨hP, hgr⟩ := HW15.out.grow HB15.out.size [12, 8, 4, 1] [11, 6, 3, 0, 13, 9, 5, 2, 14] (by decide) (eT := 2) 22 1099511627776 (vs := [.slice Ak1 SX.length SX.length, .slice Ak2 SY.length SY.length, .slice Ak3 SX.length SX.length, .slice Ak4 SX.length SX.length]) rfl (fun k hk => by
    match k, hk with
    | 0, _ => exact ⟨_, rfl, by rw [encs_length]; have h1 := Xhlx.out; have h2 := Xhly.out; omega⟩
    | 1, _ => exact ⟨_, rfl, by rw [encs_length]; have h1 := Xhlx.out; have h2 := Xhly.out; omega⟩
    | 2, _ => exact ⟨_, rfl, by rw [encs_length]; have h1 := Xhlx.out; have h2 := Xhly.out; omega⟩
    | 3, _ => exact ⟨_, rfl, by rw [encs_length]; have h1 := Xhlx.out; have h2 := Xhly.out; omega⟩
    | k + 4, hk => exact absurd hk (by simp)) (by decide) (by decide)
  refine (XGrown.grownInts.calls _ _ 4 _ hP).mono ?_
  rintro e w16 ⟨rfl, hbf⟩
  obtain ⟨hw, hb⟩ := hgr _ hbf
  have HB16 := Aside0.mk (HB15.out.trans hb)
  have HW16 := Aside0.mk hw
  clear hw hb hbf hgr hP HB15 HW15
  go_wp2_with fail
  obtain ⟨hP, hgr⟩ := HW16.out.grow HB16.out.size [0, 1, 2, 3] [4, 5, 6, 7, 8] (by decide) (eT := 5) 46 1099511627776 (vs := [.slice Ap1 P.length cp1, .slice Ap2 Q.length cp2, .slice Ap3 P.length cp3, .slice Ap4 P.length cp4]) rfl (fun k hk => by
    match k, hk with
    | 0, _ => exact ⟨_, rfl, by rw [encs_length]; have h1 := Xhpl.out; have h2 := Xhql.out; omega⟩
    | 1, _ => exact ⟨_, rfl, by rw [encs_length]; have h1 := Xhpl.out; have h2 := Xhql.out; omega⟩
    | 2, _ => exact ⟨_, rfl, by rw [encs_length]; have h1 := Xhpl.out; have h2 := Xhql.out; omega⟩
    | 3, _ => exact ⟨_, rfl, by rw [encs_length]; have h1 := Xhpl.out; have h2 := Xhql.out; omega⟩
    | k + 4, hk => exact absurd hk (by simp)) (by decide) (by decide)
  refine (XGrown.grownBytes.calls _ _ 4 _ hP).mono ?_
  rintro e w17 ⟨rfl, hbf⟩
  obtain ⟨hw, hb⟩ := hgr _ hbf
  have HB17 := Aside0.mk (HB16.out.trans hb)
  have HW17 := Aside0.mk hw
  clear hw hb hbf hgr hP HB16 HW16
  go_wp2_with fail
  obtain ⟨hP, hgr⟩ := HW17.out.grow HB17.out.size [0, 1, 2, 3] [4] (by decide) (eT := 61) 26 1099511627776 (vs := [.slice Ac1 X.length X.length, .slice Ac2 Y.length Y.length, .slice Ac3 X.length X.length, .slice Ac4 X.length X.length]) rfl (fun k hk => by
    match k, hk with
    | 0, _ => exact ⟨_, rfl, by rw [encs_length]; have h1 := Xhxl.out; have h2 := Xhyx.out; have h3 := congrArg List.length Xhcx.out; have h4 := congrArg List.length Xhcy.out; rw [List.length_map] at h3 h4; omega⟩
    | 1, _ => exact ⟨_, rfl, by rw [encs_length]; have h1 := Xhxl.out; have h2 := Xhyx.out; have h3 := congrArg List.length Xhcx.out; have h4 := congrArg List.length Xhcy.out; rw [List.length_map] at h3 h4; omega⟩
    | 2, _ => exact ⟨_, rfl, by rw [encs_length]; have h1 := Xhxl.out; have h2 := Xhyx.out; have h3 := congrArg List.length Xhcx.out; have h4 := congrArg List.length Xhcy.out; rw [List.length_map] at h3 h4; omega⟩
    | 3, _ => exact ⟨_, rfl, by rw [encs_length]; have h1 := Xhxl.out; have h2 := Xhyx.out; have h3 := congrArg List.length Xhcx.out; have h4 := congrArg List.length Xhcy.out; rw [List.length_map] at h3 h4; omega⟩
    | k + 4, hk => exact absurd hk (by simp)) (by decide) (by decide)
  refine (XGrown.grownCodes.calls _ _ 4 _ hP).mono ?_
  rintro e w18 ⟨rfl, hbf⟩
  obtain ⟨hw, hb⟩ := hgr _ hbf
  have HB18 := Aside0.mk (HB17.out.trans hb)
  have HW18 := Aside0.mk hw
  clear hw hb hbf hgr hP HB17 HW17
  go_wp2_with fail
  refine (XRd.build HW18.out HB18.out.size (HW18.out.Ct (fun _ => rfl) (0 : Int) 0 rfl rfl) rfl Xhwx.out (by have h1_ := Xhxl.out; have h2_ := Xhyx.out; omega) Xhsx.out Xhcx.out).mono ?_
  rintro e w19 ⟨Ak7, Ac7, rfl, hb, hw⟩
  have HB19 := Aside0.mk (below_then HB18.out HB18.out.size hb)
  have HW19 := Aside0.mk hw
  clear hb hw HB18 HW18
  go_wp2_with fail
  refine (XRd.putInts HW19.out HB19.out.size K (HW19.out.Ct (fun _ => rfl) (0 : Int) 2 rfl rfl) rfl Xhpx.out).mono ?_
  rintro e w20 ⟨Ap7, cp7, rfl, hb, hw⟩
  have HB20 := Aside0.mk (below_then HB19.out HB19.out.size hb)
  have HW20 := Aside0.mk hw
  clear hb hw HB19 HW19
  have HW0 : Aside0 (XRowsW.Rows w20 w.heap.size [⟨5, .slice Ap7 P.length cp7, encs (Value.int .u8) P⟩, ⟨2, .slice Ak7 SX.length SX.length, encs (Value.int .i64) SX⟩, ⟨61, .slice Ac7 X.length X.length, encs (Value.int .u32) CX⟩, ⟨2, .slice (some ⟨rg, 0, none⟩) (X.length + 2) cr, encs (Value.int .i64) (XRd.ov Y (X ++ [-9, -10]) 0)⟩]) := ⟨by rw [XRd.ov_zero]; have h := HW20.out; rw [(by simp : (X ++ ([-9, -10] : List Int)).length = X.length + 2)] at h; exact h⟩
  go_wp2_with fail
  (try simp only [add_plain])
  go_loopg [23] (X.length + 1) (fun kq v23 w' => ∃ i : Nat, i ≤ X.length ∧ Aside0 (kq + i = X.length + 1) ∧ v23 = .int .i64 (i : Int) ∧ Aside0 (Below w.heap.size w w') ∧ Aside0 (XRowsW.Rows w' w.heap.size [⟨5, .slice Ap7 P.length cp7, encs (Value.int .u8) P⟩, ⟨2, .slice Ak7 SX.length SX.length, encs (Value.int .i64) SX⟩, ⟨61, .slice Ac7 X.length X.length, encs (Value.int .u32) CX⟩, ⟨2, .slice (some ⟨rg, 0, none⟩) (X.length + 2) cr, encs (Value.int .i64) (XRd.ov Y (X ++ [-9, -10]) i)⟩]))
  case atStart => exact ⟨0, Nat.zero_le _, ⟨by omega⟩, rfl, HB20, HW0⟩
  case round =>
    clear HB20 HW20 HW0
    obtain ⟨i, hi, HK, rfl, HB, HW⟩ := hrel
    by_cases hlti : i < X.length
    · have hdc : decide ((i : Int) < (X.length : Int)) = true := decide_eq_true (by omega)
      have hyl := Xhyx.out
      obtain ⟨k1, rfl⟩ : ∃ k1, gk = k1 + 1 := ⟨gk - 1, by have := HK.out; omega⟩
      have hol : (XRd.ov Y (X ++ [-9, -10]) i).length = (X ++ [-9, -10]).length := XRd.ov_len Y _ i (by omega) (by rw [List.length_append]; omega)
      obtain ⟨g, hg, hbg, hcell⟩ := HW.out.cell (0 : Int) 3 rfl (by rw [hol, List.length_append]; simp only [List.length_cons, List.length_nil]; omega)
      obtain rfl : rg = g := by injection hg with h; injection h
      clear hg
      obtain ⟨hx, hf⟩ := hcell i (by rw [hol, List.length_append]; omega)
      clear hcell hol
      have p1 : (0 : Int) ≤ (i : Int) := by omega
      have q1 : (i : Int) < (L1 : Int) := by have := Xhx1.out; omega
      have q2 : (i : Int) < (X.length : Int) := by omega
      obtain ⟨ad1, e1, hx1⟩ := Kd.at_int (Kd.C_below Xhr1.out HB.out) (i : Int) p1 q2
      cases e1
      change wr.cell? (ad1.add i) = _ at hx1
      clear hyl
      have hb1 : (i : Int) < 1048576 := by omega
      go_wp2_with fail
      have HW' := Aside0.mk (HW.out.putE 3 rfl i (rd Y (i : Int)))
      rw [XRd.ov_set Y _ i (by have := Xhyx.out; omega) (by have := Xhyx.out; rw [List.length_append]; omega)] at HW'
      have HB' := Aside0.mk (HB.out.setCell (p := ⟨rg, i, none⟩) hbg (.int .i64 (rd Y (i : Int))))
      go_roundg k1
      case measure => have := HK.out; omega
      case rel => exact ⟨i + 1, by omega, ⟨by have := HK.out; omega⟩, congrArg (Value.int .i64) (by omega), HB', HW'⟩
    · obtain rfl : i = X.length := by omega
      have hdc : decide ((X.length : Int) < (X.length : Int)) = false := decide_eq_false (by omega)
      rw [show XRd.ov Y (X ++ [-9, -10]) X.length = Y ++ [-9, -10] from Xhyx.out ▸ XRd.ov_full Y X [-9, -10] Xhyx.out] at HW
      have HB20 := HB
      have HW20 := HW
      clear HB HW
      obtain ⟨w20, rfl⟩ : ∃ x : World, x = wr := ⟨_, rfl⟩
      go_wp2_with fail
      refine (XRd.putInts HW20.out HB20.out.size K (HW20.out.Ct (fun _ => rfl) (0 : Int) 3 rfl Xhyx.out) Xhyx.out Xhpy.out).mono ?_
      rintro e w21 ⟨Ap5, cp5, rfl, hb, hw⟩
      have HB21 := Aside0.mk (below_then HB20.out HB20.out.size hb)
      have HW21 := Aside0.mk hw
      clear hb hw HB20 HW20
      go_wp2_with fail
      refine (XRd.build HW21.out HB21.out.size (HW21.out.Ct (fun _ => rfl) (0 : Int) 4 rfl Xhyx.out) Xhyx.out Xhwy.out (by have h1_ := Xhxl.out; have h2_ := Xhyx.out; omega) Xhsy.out Xhcy.out).mono ?_
      rintro e w22 ⟨Ak5, Ac5, rfl, hb, hw⟩
      have HB22 := Aside0.mk (below_then HB21.out HB21.out.size hb)
      have HW22 := Aside0.mk hw
      clear hb hw HB21 HW21
      go_wp2_with fail
      refine (XRd.ints HW22.out HB22.out.size ⟨Kd.C_below Xhr1.out HB22.out, Xhc1.out⟩ Xhyx.out Xhiy.out).mono ?_
      rintro e w23 ⟨Ai5, ci5, rfl, hb, hw⟩
      have HB23 := Aside0.mk (below_then HB22.out HB22.out.size hb)
      have HW23 := Aside0.mk hw
      clear hb hw HB22 HW22
      go_wp2_with fail
      refine (XRd.putInts HW23.out HB23.out.size K (HW23.out.Cn (fun _ => rfl) (0 : Int) 0 rfl rfl) rfl Xhpy.out).mono ?_
      rintro e w24 ⟨Ap6, cp6, rfl, hb, hw⟩
      have HB24 := Aside0.mk (below_then HB23.out HB23.out.size hb)
      have HW24 := Aside0.mk hw
      clear hb hw HB23 HW23
      go_wp2_with fail
      refine (XRd.ints HW24.out HB24.out.size ⟨Kd.C_below Xhr1.out HB24.out, Xhc1.out⟩ Xhyx.out Xhiy.out).mono ?_
      rintro e w25 ⟨Ai6, ci6, rfl, hb, hw⟩
      have HB25 := Aside0.mk (below_then HB24.out HB24.out.size hb)
      have HW25 := Aside0.mk hw
      clear hb hw HB24 HW24
      go_wp2_with fail
      refine (XRd.build HW25.out HB25.out.size (HW25.out.Cn (fun _ => rfl) (0 : Int) 0 rfl rfl) rfl Xhwy.out (by have h1_ := Xhxl.out; have h2_ := Xhyx.out; omega) Xhsy.out Xhcy.out).mono ?_
      rintro e w26 ⟨Ak6, Ac6, rfl, hb, hw⟩
      have HB26 := Aside0.mk (below_then HB25.out HB25.out.size hb)
      have HW26 := Aside0.mk hw
      clear hb hw HB25 HW25
      have cv1 := Kd.C_string (P := Try.prog) Try.underlying46 Try.underlying5 Try.underlying9 (c := cp5) (HW26.out.Cn (fun _ => rfl) (0 : Int) 7 rfl rfl).1
      have cv2 := Kd.C_string (P := Try.prog) Try.underlying46 Try.underlying5 Try.underlying9 (c := cp6) (HW26.out.Cn (fun _ => rfl) (0 : Int) 3 rfl rfl).1
      have SCz := Aside0.mk (XRd.sameI K (HW26.out.Cn (fun _ => rfl) (0 : Int) 5 rfl rfl) rfl (HW26.out.Cn (fun _ => rfl) (0 : Int) 0 rfl rfl) rfl Xhs2.out)
      go_wp2_with (first | (go_at_call 20; (with_reducible refine SCz.out.mono ?_); rintro e wz ⟨rfl, ⟨ndz, rfl⟩⟩))
      go_ret
      exact ⟨rfl, pw_below_drewN HB26.out _⟩
def colonnadelaw09_DictOwn.X (l0 l1 : List Int) : List Int := l0.take (min (min l0.length l1.length) 1000)
def colonnadelaw09_DictOwn.Y (l0 l1 : List Int) : List Int := l1.take (min (min l0.length l1.length) 1000)
def colonnadelaw09_DictOwn.OK (K : Nat) (l0 l1 : List Int) : Prop := ∃ (P Q KP LP KQ LQ : List Int) (WP WQ : Int), (colonnadelaw09_ints.f (colonnadelaw09_DictOwn.X l0 l1) = some (colonnadelaw09_DictOwn.X l0 l1)) ∧ (colonnadelaw09_ints.f (colonnadelaw09_DictOwn.Y l0 l1) = some (colonnadelaw09_DictOwn.Y l0 l1)) ∧ (∀ x ∈ (colonnadelaw09_DictOwn.X l0 l1), (Lit.int .i64 x).wf = true) ∧ (∀ x ∈ (colonnadelaw09_DictOwn.Y l0 l1), (Lit.int .i64 x).wf = true) ∧ (dict_PutInts.f K (colonnadelaw09_DictOwn.X l0 l1) = some (P, 0)) ∧ (dict_PutInts.f K (colonnadelaw09_DictOwn.Y l0 l1) = some (Q, 0)) ∧ (dict_Ints.f K P ((colonnadelaw09_DictOwn.X l0 l1).length : Int) = some (KP, WP, LP, 0)) ∧ (dict_Ints.f K Q ((colonnadelaw09_DictOwn.X l0 l1).length : Int) = some (KQ, WQ, LQ, 0)) ∧ (colonnadelaw09_twin.f P = some P) ∧ (colonnadelaw09_twin.f Q = some Q) ∧ (P.length ≤ 1048576) ∧ (Q.length ≤ 1048576) ∧ (KP.length ≤ 1048576) ∧ (KQ.length ≤ 1048576) ∧ (LP.length ≤ 1048576) ∧ (LQ.length ≤ 1048576) ∧ (colonnadelaw09_sameInts.f K KP KP = some true) ∧ (colonnadelaw09_sameInts.f K KQ KQ = some true) ∧ (0 ≤ WQ) ∧ (colonnadelaw09_sameInts.f K (XMap.keysOf (colonnadelaw09_DictOwn.X l0 l1)) (XMap.keysOf (colonnadelaw09_DictOwn.X l0 l1)) = some true) ∧ (colonnadelaw09_sameInts.f K (XMap.keysOf (colonnadelaw09_DictOwn.Y l0 l1)) (XMap.keysOf (colonnadelaw09_DictOwn.Y l0 l1)) = some true) ∧ (colonnadelaw09_sameInts.f K (colonnadelaw09_DictOwn.X l0 l1) (colonnadelaw09_DictOwn.X l0 l1) = some true)
open Classical in
noncomputable def colonnadelaw09_DictOwn.f (K : Nat) (l0 l1 : List Int) : Option Bool := if colonnadelaw09_DictOwn.OK K l0 l1 then some true else none
theorem colonnadelaw09_DictOwn.calls (K : Nat) (A0 : Option Addr) (c0 : Nat) (l0 : List Int) (A1 : Option Addr) (c1 : Nat) (l1 : List Int) (r : Bool) (w : World) (hr0 : Kd.C (Kd.int .i64) w A0 l0.length l0) (hc0 : l0.length ≤ c0) (hr1 : Kd.C (Kd.int .i64) w A1 l1.length l1) (hc1 : l1.length ≤ c1) (h : colonnadelaw09_DictOwn.f K l0 l1 = some r) :
    Calls Try.prog 12 #[.slice A0 l0.length c0, .slice A1 l1.length c1] w fun e w' => e = .returned (.bool r) ∧ Below w.heap.size w w' := by
  unfold colonnadelaw09_DictOwn.f at h
  split at h
  · rename_i hok
    obtain rfl := Option.some.inj h
    obtain ⟨P, Q, KP, LP, KQ, LQ, WP, WQ, hix, hiy, hwx, hwy, hpx, hpy, hp, hq, htp, htq, hpl, hql, hkp, hkq, hlp, hlq, hsp, hsq, hwq, hs1, hs2, hs3⟩ := hok
    have eX : (colonnadelaw09_DictOwn.X l0 l1).length = min (min l0.length l1.length) 1000 := by unfold colonnadelaw09_DictOwn.X; rw [List.length_take]; omega
    have eY : (colonnadelaw09_DictOwn.Y l0 l1).length = min (min l0.length l1.length) 1000 := by unfold colonnadelaw09_DictOwn.Y; rw [List.length_take]; omega
    have h0 : Kd.C (Kd.int .i64) w A0 (colonnadelaw09_DictOwn.X l0 l1).length (colonnadelaw09_DictOwn.X l0 l1) :=
      Kd.C_take hr0 (m := min (min l0.length l1.length) 1000) (by omega)
    have h1 : Kd.C (Kd.int .i64) w A1 (colonnadelaw09_DictOwn.X l0 l1).length (colonnadelaw09_DictOwn.Y l0 l1) := by
      have := Kd.C_take hr1 (m := min (min l0.length l1.length) 1000) (by omega)
      rw [eX, ← eY]; exact this
    have kx := XMap.keysOf_length (colonnadelaw09_DictOwn.X l0 l1)
    have ky := XMap.keysOf_length (colonnadelaw09_DictOwn.Y l0 l1)
    have m1 : (if l1.length < l0.length then (l1.length : Int) else (l0.length : Int)) = ((min l0.length l1.length : Nat) : Int) := by split <;> omega
    have m2 : (if (1000 : Int) < ((min l0.length l1.length : Nat) : Int) then (1000 : Int) else ((min l0.length l1.length : Nat) : Int)) = ((colonnadelaw09_DictOwn.X l0 l1).length : Int) := by rw [eX]; split <;> omega
    have m3 : (if 1000 < min l0.length l1.length then (1000 : Int) else ((min l0.length l1.length : Nat) : Int)) = ((colonnadelaw09_DictOwn.X l0 l1).length : Int) := by rw [eX]; split <;> omega
    exact colonnadelaw09_DictOwn.go K A0 l0.length c0 (colonnadelaw09_DictOwn.X l0 l1) A1 l1.length c1 (min l0.length l1.length) (colonnadelaw09_DictOwn.Y l0 l1) w _ _ _ _ P Q KP LP KQ LQ WP WQ h0 (by omega) h1 (by omega) (by omega) m1 m2 m3 (by omega) (by omega) hix hiy hwx hwy rfl rfl rfl rfl hpx hpy hp hq htp htq hpl hql hkp hkq hlp hlq hsp hsq hwq hs1 hs2 hs3 (by omega) (by omega)
  · cases h

end Go.Proofs.Ytlpllhpnnhablaa.PDictOwn
