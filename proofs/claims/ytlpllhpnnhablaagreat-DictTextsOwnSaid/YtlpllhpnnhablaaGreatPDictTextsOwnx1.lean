-- Written by xprint.py, this session's own program over the kit's print; Lean checks it.
import Derived.Test.YtlpllhpnnhablaaGreatPDictTextsOwnx0
namespace Go.Proofs.YtlpllhpnnhablaaGreat.PDictTextsOwn
open Go.RowKit Go.Proofs.YtlpllhpnnhablaaGreatW.PrintWords Go.Proofs.YtlpllhpnnhablaaGreatW.PrintLast Go.Proofs.YtlpllhpnnhablaaGreatW.PrintMore
attribute [local go_sem] max2_int min2_int max_two min_two max_three min_three max_four min_four   -- for this text's walks alone
set_option linter.unusedVariables false
set_option linter.unusedSimpArgs false

/-! ### bits_Len64: function 83 -/
def bits_Len64.f (a0 : Int) : Option Int := if 0 ≤ a0 then if a0 ≤ 18446744073709551615 then some ((Lib.bitLen a0.toNat : Nat) : Int) else none else none
theorem bits_Len64.calls (a0 : Int) (r : Int) (w : World) (h : bits_Len64.f a0 = some r) :
    Calls Tryz.prog 83 #[.int .u64 a0] w fun e w' => e = .returned (.int .i64 r) ∧ Drawn0 w w' := by
  unfold bits_Len64.f at h
  split at h
  · rename_i h0
    split at h
    · rename_i h1
      obtain rfl := Option.some.inj h
      exact (Go.Proofs.Tryz.bits_Len64 a0 w h0 h1).mono fun e w' ⟨he, hw⟩ => ⟨he, hw ▸ Drawn0.refl _⟩
    · cases h
  · cases h

/-! ### bits_Len32: function 92 -/
def bits_Len32.f (a0 : Int) : Option (Int) := none
set_option maxHeartbeats 8000000 in
set_option maxRecDepth 100000 in
theorem bits_Len32.calls (a0 : Int) (r : Int) (w : World) (h : bits_Len32.f a0 = some r) :
    Calls Tryz.prog 92 #[.int .u32 a0] w fun e w' => e = .returned (.int .i64 r) ∧ Drawn0 w w' := by
  have H : (none) = some r := h
  clear h
  exact absurd H (by simp)

/-! ### bits_Len: function 71 -/
def bits_Len.f (a0 : Int) : Option (Int) := (bits_Len64.f a0).bind fun t101 => (some t101)
set_option maxHeartbeats 8000000 in
set_option maxRecDepth 100000 in
theorem bits_Len.calls (a0 : Int) (r : Int) (w : World) (h : bits_Len.f a0 = some r) :
    Calls Tryz.prog 71 #[.int .u64 a0] w fun e w' => e = .returned (.int .i64 r) ∧ Drawn0 w w' := by
  have H : ((bits_Len64.f a0).bind fun t101 => (some t101)) = some r := h
  clear h
  replace H := Option.bind_eq_some_iff.mp H
  obtain ⟨t101, A20, H⟩ := H
  replace H : (some t101) = some r := H
  have A2 := Aside0.mk A20
  clear A20
  obtain rfl := Option.some.inj H
  go_enter Tryz.func71, Tryz.ntmps71
  go_wp2_with (first | ((with_reducible refine gate_callee (f := 83) rfl ?_); refine goesL_ (some 7) rfl rfl Tryz.func83 (by kernel_rfl) rfl #[.int .u64 a0] rfl (by (try simp only [List.map_toArray, List.map_cons, List.map_nil]); first | done | rfl | (simp only [List.length_drop, List.length_take]; rfl)) ?_; (with_reducible refine (bits_Len64.calls a0 t101 _ A2.out).mono ?_); rintro e w' ⟨rfl, ⟨nd, rfl⟩⟩; refine ⟨_, rfl, ?_⟩))
  go_ret
  exact ⟨by first | rfl | (simp; done) | (simp [*]; done), by repeat (first | exact Drawn0.refl _ | apply Drawn0.step)⟩

-- NOT PRINTED: function 93 (slices_insertionSortCmpFunc_int64)

-- NOT PRINTED: function 106 (slices_siftDownCmpFunc_int64)

-- NOT PRINTED: function 94 (slices_heapSortCmpFunc_int64)

/-! ### slices_nextPowerOfTwo: function 102 -/
def slices_nextPowerOfTwo.f (a0 : Int) : Option (Int) := (bits_Len.f (IntKind.u64.wrap (a0))).bind fun t102 => (if 0 ≤ t102 then (some (shl .u64 1 t102)) else (none))
set_option maxHeartbeats 8000000 in
set_option maxRecDepth 100000 in
theorem slices_nextPowerOfTwo.calls (a0 : Int) (r : Int) (w : World) (h : slices_nextPowerOfTwo.f a0 = some r) :
    Calls Tryz.prog 102 #[.int .i64 a0] w fun e w' => e = .returned (.int .u64 r) ∧ Drawn0 w w' := by
  have H : ((bits_Len.f (IntKind.u64.wrap (a0))).bind fun t102 => (if 0 ≤ t102 then (some (shl .u64 1 t102)) else (none))) = some r := h
  clear h
  replace H := Option.bind_eq_some_iff.mp H
  obtain ⟨t102, A20, H⟩ := H
  replace H : (if 0 ≤ t102 then (some (shl .u64 1 t102)) else (none)) = some r := H
  have A2 := Aside0.mk A20
  clear A20
  by_cases c3 : 0 ≤ t102
  · rw [if_pos c3] at H
    have c3b0 := eq_true c3
    have c3b1 : decide (0 ≤ t102) = true := decide_eq_true c3
    clear c3
    obtain ⟨ji4, hji4⟩ : ∃ j_ : Int, (shl .u64 1 t102) = j_ := ⟨_, rfl⟩
    replace H : (some ji4) = some r := by first | (rw [hji4] at H; exact H) | (simp only [hji4] at H ⊢; exact H)
    (try rw [hji4] at A2)
    have hji4_ : (IntKind.u64.wrap (1 * 2 ^ min t102.toNat 64)) = ji4 := hji4
    have hji4z : t102 ≤ 64 → (IntKind.u64.wrap (1 * 2 ^ t102.toNat)) = ji4 := shl_small hji4
    have hji4u : (IntKind.u64.wrap (2 ^ min t102.toNat 64)) = ji4 := by have h_ := hji4_; rw [Int.one_mul] at h_; exact h_
    have hji4v : t102 ≤ 64 → (IntKind.u64.wrap (2 ^ t102.toNat)) = ji4 := fun hle_ => by have h_ := hji4z hle_; rw [Int.one_mul] at h_; exact h_
    obtain rfl := Option.some.inj H
    go_enter Tryz.func102, Tryz.ntmps102
    go_wp2_with (first | ((with_reducible refine gate_callee (f := 71) rfl ?_); refine goesL_ (some 5) rfl rfl Tryz.func71 (by kernel_rfl) rfl #[.int .u64 (IntKind.u64.wrap (a0))] rfl (by (try simp only [List.map_toArray, List.map_cons, List.map_nil]); first | done | rfl | (simp only [List.length_drop, List.length_take]; rfl)) ?_; (with_reducible refine (bits_Len.calls (IntKind.u64.wrap (a0)) t102 _ A2.out).mono ?_); rintro e w' ⟨rfl, ⟨nd, rfl⟩⟩; refine ⟨_, rfl, ?_⟩))
    go_ret
    exact ⟨by first | rfl | (simp; done) | (simp only [← hji4] <;> (first | rfl | simp)) | (simp [*]; done), by repeat (first | exact Drawn0.refl _ | apply Drawn0.step)⟩
  · rw [if_neg c3] at H
    exact absurd H (by simp)

-- NOT PRINTED: function 103 (slices_xorshift_Next)

-- NOT PRINTED: function 95 (slices_breakPatternsCmpFunc_int64)

-- NOT PRINTED: function 110 (slices_order2CmpFunc_int64)

-- NOT PRINTED: function 108 (slices_medianCmpFunc_int64)

-- NOT PRINTED: function 107 (slices_medianAdjacentCmpFunc_int64)

-- NOT PRINTED: function 96 (slices_choosePivotCmpFunc_int64)

-- NOT PRINTED: function 97 (slices_reverseRangeCmpFunc_int64)

-- NOT PRINTED: function 98 (slices_partialInsertionSortCmpFunc_int64)

-- NOT PRINTED: function 99 (slices_partitionEqualCmpFunc_int64)

-- NOT PRINTED: function 100 (slices_partitionCmpFunc_int64)

-- NOT PRINTED: function 73 (slices_pdqsortCmpFunc_int64)

-- NOT PRINTED: function 48 (slices_SortFunc_int64_int64)

/-! ### cmp_isNaN_int64: function 74 -/
def cmp_isNaN_int64.f (a0 : Int) : Option (Bool) := some (a0 != a0)
set_option maxHeartbeats 8000000 in
set_option maxRecDepth 100000 in
theorem cmp_isNaN_int64.calls (a0 : Int) (r : Bool) (w : World) (h : cmp_isNaN_int64.f a0 = some r) :
    Calls Tryz.prog 74 #[.int .i64 a0] w fun e w' => e = .returned (.bool r) ∧ Drawn0 w w' := by
  have H : (some (a0 != a0)) = some r := h
  clear h
  obtain rfl := Option.some.inj H
  go_enter Tryz.func74, Tryz.ntmps74
  go_wp2
  go_ret
  exact ⟨by first | rfl | (simp; done) | (simp [*]; done), by repeat (first | exact Drawn0.refl _ | apply Drawn0.step)⟩

/-! ### cmp_Compare_int64: function 49 -/
def cmp_Compare_int64.f (a0 : Int) (a1 : Int) : Option (Int) := (cmp_isNaN_int64.f a0).bind fun t103 => ((cmp_isNaN_int64.f a1).bind fun t104 => (if t103 = true then (if t104 = true then (some 0) else (some (-1))) else (if t104 = true then (some 1) else (if a0 < a1 then (some (-1)) else (if a0 > a1 then (some 1) else (some 0))))))
set_option maxHeartbeats 8000000 in
set_option maxRecDepth 100000 in
theorem cmp_Compare_int64.calls (a0 : Int) (a1 : Int) (r : Int) (w : World) (h : cmp_Compare_int64.f a0 a1 = some r) :
    Calls Tryz.prog 49 #[.int .i64 a0, .int .i64 a1] w fun e w' => e = .returned (.int .i64 r) ∧ Drawn0 w w' := by
  have H : ((cmp_isNaN_int64.f a0).bind fun t103 => ((cmp_isNaN_int64.f a1).bind fun t104 => (if t103 = true then (if t104 = true then (some 0) else (some (-1))) else (if t104 = true then (some 1) else (if a0 < a1 then (some (-1)) else (if a0 > a1 then (some 1) else (some 0))))))) = some r := h
  clear h
  replace H := Option.bind_eq_some_iff.mp H
  obtain ⟨t103, A30, H⟩ := H
  replace H : ((cmp_isNaN_int64.f a1).bind fun t104 => (if t103 = true then (if t104 = true then (some 0) else (some (-1))) else (if t104 = true then (some 1) else (if a0 < a1 then (some (-1)) else (if a0 > a1 then (some 1) else (some 0)))))) = some r := H
  have A3 := Aside0.mk A30
  clear A30
  replace H := Option.bind_eq_some_iff.mp H
  obtain ⟨t104, A40, H⟩ := H
  replace H : (if t103 = true then (if t104 = true then (some 0) else (some (-1))) else (if t104 = true then (some 1) else (if a0 < a1 then (some (-1)) else (if a0 > a1 then (some 1) else (some 0))))) = some r := H
  have A4 := Aside0.mk A40
  clear A40
  by_cases c5 : t103 = true
  · subst c5
    have H1 : (if t104 = true then (some 0) else (some (-1))) = some r := by rw [if_pos rfl] at H; exact H
    clear H
    have H := H1
    clear H1
    by_cases c6 : t104 = true
    · subst c6
      have H1 : (some 0) = some r := by rw [if_pos rfl] at H; exact H
      clear H
      have H := H1
      clear H1
      obtain rfl := Option.some.inj H
      go_enter Tryz.func49, Tryz.ntmps49
      go_wp2_with (first | ((with_reducible refine gate_callee (f := 74) rfl ?_); refine goesL_ (some 8) rfl rfl Tryz.func74 (by kernel_rfl) rfl #[.int .i64 a0] rfl (by (try simp only [List.map_toArray, List.map_cons, List.map_nil]); first | done | rfl | (simp only [List.length_drop, List.length_take]; rfl)) ?_; (with_reducible refine (cmp_isNaN_int64.calls a0 true _ A3.out).mono ?_); rintro e w' ⟨rfl, ⟨nd, rfl⟩⟩; refine ⟨_, rfl, ?_⟩) | ((with_reducible refine gate_callee (f := 74) rfl ?_); refine goesL_ (some 10) rfl rfl Tryz.func74 (by kernel_rfl) rfl #[.int .i64 a1] rfl (by (try simp only [List.map_toArray, List.map_cons, List.map_nil]); first | done | rfl | (simp only [List.length_drop, List.length_take]; rfl)) ?_; (with_reducible refine (cmp_isNaN_int64.calls a1 true _ A4.out).mono ?_); rintro e w' ⟨rfl, ⟨nd, rfl⟩⟩; refine ⟨_, rfl, ?_⟩))
      go_ret
      exact ⟨by first | rfl | (simp; done) | (simp [*]; done), by repeat (first | exact Drawn0.refl _ | apply Drawn0.step)⟩
    · replace c6 := Bool.eq_false_iff.mpr c6
      subst c6
      have H1 : (some (-1)) = some r := by rw [if_neg (show ¬ (false = true) by decide)] at H; exact H
      clear H
      have H := H1
      clear H1
      obtain rfl := Option.some.inj H
      go_enter Tryz.func49, Tryz.ntmps49
      go_wp2_with (first | ((with_reducible refine gate_callee (f := 74) rfl ?_); refine goesL_ (some 8) rfl rfl Tryz.func74 (by kernel_rfl) rfl #[.int .i64 a0] rfl (by (try simp only [List.map_toArray, List.map_cons, List.map_nil]); first | done | rfl | (simp only [List.length_drop, List.length_take]; rfl)) ?_; (with_reducible refine (cmp_isNaN_int64.calls a0 true _ A3.out).mono ?_); rintro e w' ⟨rfl, ⟨nd, rfl⟩⟩; refine ⟨_, rfl, ?_⟩) | ((with_reducible refine gate_callee (f := 74) rfl ?_); refine goesL_ (some 10) rfl rfl Tryz.func74 (by kernel_rfl) rfl #[.int .i64 a1] rfl (by (try simp only [List.map_toArray, List.map_cons, List.map_nil]); first | done | rfl | (simp only [List.length_drop, List.length_take]; rfl)) ?_; (with_reducible refine (cmp_isNaN_int64.calls a1 false _ A4.out).mono ?_); rintro e w' ⟨rfl, ⟨nd, rfl⟩⟩; refine ⟨_, rfl, ?_⟩))
      go_ret
      exact ⟨by first | rfl | (simp; done) | (simp [*]; done), by repeat (first | exact Drawn0.refl _ | apply Drawn0.step)⟩
  · replace c5 := Bool.eq_false_iff.mpr c5
    subst c5
    have H1 : (if t104 = true then (some 1) else (if a0 < a1 then (some (-1)) else (if a0 > a1 then (some 1) else (some 0)))) = some r := by rw [if_neg (show ¬ (false = true) by decide)] at H; exact H
    clear H
    have H := H1
    clear H1
    by_cases c7 : t104 = true
    · subst c7
      have H1 : (some 1) = some r := by rw [if_pos rfl] at H; exact H
      clear H
      have H := H1
      clear H1
      obtain rfl := Option.some.inj H
      go_enter Tryz.func49, Tryz.ntmps49
      go_wp2_with (first | ((with_reducible refine gate_callee (f := 74) rfl ?_); refine goesL_ (some 8) rfl rfl Tryz.func74 (by kernel_rfl) rfl #[.int .i64 a0] rfl (by (try simp only [List.map_toArray, List.map_cons, List.map_nil]); first | done | rfl | (simp only [List.length_drop, List.length_take]; rfl)) ?_; (with_reducible refine (cmp_isNaN_int64.calls a0 false _ A3.out).mono ?_); rintro e w' ⟨rfl, ⟨nd, rfl⟩⟩; refine ⟨_, rfl, ?_⟩) | ((with_reducible refine gate_callee (f := 74) rfl ?_); refine goesL_ (some 10) rfl rfl Tryz.func74 (by kernel_rfl) rfl #[.int .i64 a1] rfl (by (try simp only [List.map_toArray, List.map_cons, List.map_nil]); first | done | rfl | (simp only [List.length_drop, List.length_take]; rfl)) ?_; (with_reducible refine (cmp_isNaN_int64.calls a1 true _ A4.out).mono ?_); rintro e w' ⟨rfl, ⟨nd, rfl⟩⟩; refine ⟨_, rfl, ?_⟩))
      go_ret
      exact ⟨by first | rfl | (simp; done) | (simp [*]; done), by repeat (first | exact Drawn0.refl _ | apply Drawn0.step)⟩
    · replace c7 := Bool.eq_false_iff.mpr c7
      subst c7
      have H1 : (if a0 < a1 then (some (-1)) else (if a0 > a1 then (some 1) else (some 0))) = some r := by rw [if_neg (show ¬ (false = true) by decide)] at H; exact H
      clear H
      have H := H1
      clear H1
      by_cases c8 : a0 < a1
      · rw [if_pos c8] at H
        have c8b0 : decide (a0 < a1) = true := decide_eq_true c8
        clear c8
        obtain rfl := Option.some.inj H
        go_enter Tryz.func49, Tryz.ntmps49
        go_wp2_with (first | ((with_reducible refine gate_callee (f := 74) rfl ?_); refine goesL_ (some 8) rfl rfl Tryz.func74 (by kernel_rfl) rfl #[.int .i64 a0] rfl (by (try simp only [List.map_toArray, List.map_cons, List.map_nil]); first | done | rfl | (simp only [List.length_drop, List.length_take]; rfl)) ?_; (with_reducible refine (cmp_isNaN_int64.calls a0 false _ A3.out).mono ?_); rintro e w' ⟨rfl, ⟨nd, rfl⟩⟩; refine ⟨_, rfl, ?_⟩) | ((with_reducible refine gate_callee (f := 74) rfl ?_); refine goesL_ (some 10) rfl rfl Tryz.func74 (by kernel_rfl) rfl #[.int .i64 a1] rfl (by (try simp only [List.map_toArray, List.map_cons, List.map_nil]); first | done | rfl | (simp only [List.length_drop, List.length_take]; rfl)) ?_; (with_reducible refine (cmp_isNaN_int64.calls a1 false _ A4.out).mono ?_); rintro e w' ⟨rfl, ⟨nd, rfl⟩⟩; refine ⟨_, rfl, ?_⟩))
        go_ret
        exact ⟨by first | rfl | (simp; done) | (simp [*]; done), by repeat (first | exact Drawn0.refl _ | apply Drawn0.step)⟩
      · rw [if_neg c8] at H
        have c8b0 : decide (a0 < a1) = false := decide_eq_false c8
        clear c8
        by_cases c9 : a0 > a1
        · rw [if_pos c9] at H
          have c9b0 : decide (a1 < a0) = true := decide_eq_true c9
          clear c9
          obtain rfl := Option.some.inj H
          go_enter Tryz.func49, Tryz.ntmps49
          go_wp2_with (first | ((with_reducible refine gate_callee (f := 74) rfl ?_); refine goesL_ (some 8) rfl rfl Tryz.func74 (by kernel_rfl) rfl #[.int .i64 a0] rfl (by (try simp only [List.map_toArray, List.map_cons, List.map_nil]); first | done | rfl | (simp only [List.length_drop, List.length_take]; rfl)) ?_; (with_reducible refine (cmp_isNaN_int64.calls a0 false _ A3.out).mono ?_); rintro e w' ⟨rfl, ⟨nd, rfl⟩⟩; refine ⟨_, rfl, ?_⟩) | ((with_reducible refine gate_callee (f := 74) rfl ?_); refine goesL_ (some 10) rfl rfl Tryz.func74 (by kernel_rfl) rfl #[.int .i64 a1] rfl (by (try simp only [List.map_toArray, List.map_cons, List.map_nil]); first | done | rfl | (simp only [List.length_drop, List.length_take]; rfl)) ?_; (with_reducible refine (cmp_isNaN_int64.calls a1 false _ A4.out).mono ?_); rintro e w' ⟨rfl, ⟨nd, rfl⟩⟩; refine ⟨_, rfl, ?_⟩))
          go_ret
          exact ⟨by first | rfl | (simp; done) | (simp [*]; done), by repeat (first | exact Drawn0.refl _ | apply Drawn0.step)⟩
        · rw [if_neg c9] at H
          have c9b0 : decide (a1 < a0) = false := decide_eq_false c9
          clear c9
          obtain rfl := Option.some.inj H
          go_enter Tryz.func49, Tryz.ntmps49
          go_wp2_with (first | ((with_reducible refine gate_callee (f := 74) rfl ?_); refine goesL_ (some 8) rfl rfl Tryz.func74 (by kernel_rfl) rfl #[.int .i64 a0] rfl (by (try simp only [List.map_toArray, List.map_cons, List.map_nil]); first | done | rfl | (simp only [List.length_drop, List.length_take]; rfl)) ?_; (with_reducible refine (cmp_isNaN_int64.calls a0 false _ A3.out).mono ?_); rintro e w' ⟨rfl, ⟨nd, rfl⟩⟩; refine ⟨_, rfl, ?_⟩) | ((with_reducible refine gate_callee (f := 74) rfl ?_); refine goesL_ (some 10) rfl rfl Tryz.func74 (by kernel_rfl) rfl #[.int .i64 a1] rfl (by (try simp only [List.map_toArray, List.map_cons, List.map_nil]); first | done | rfl | (simp only [List.length_drop, List.length_take]; rfl)) ?_; (with_reducible refine (cmp_isNaN_int64.calls a1 false _ A4.out).mono ?_); rintro e w' ⟨rfl, ⟨nd, rfl⟩⟩; refine ⟨_, rfl, ?_⟩))
          go_ret
          exact ⟨by first | rfl | (simp; done) | (simp [*]; done), by repeat (first | exact Drawn0.refl _ | apply Drawn0.step)⟩

-- NOT PRINTED: function 50 (slices_Clip_int64_int64)

/-! ### dict_Build_int64: function 21 -/
section
open Go.Shelf Go.Sort
section
variable {α : Type} [Inhabited α] {enc : α → Value}
theorem XSort.so_holds {w : World} {g : Nat} {cur : Array Value} {e : TypeId} {ss : List α} (hb : w.heap[g]? = some (.cells cur e (0, 0))) (ht : cur.toList.take ss.length = ss.map enc) : Holds enc w g 0 ss.toArray := by
  intro j hj
  have hj' : j < ss.length := by simpa using hj
  refine ⟨?_, by simp [World.frozen?, hb]⟩
  have h1 : (cur.toList.take ss.length)[j]? = (ss.map enc)[j]? := by rw [ht]
  rw [List.getElem?_take_of_lt hj'] at h1
  simp only [World.cell?, hb, Nat.zero_add]
  simp only [Option.isSome_none, Bool.false_eq_true, if_false]
  rw [← Array.getElem?_toList, h1]
  simp [hj']
theorem XSort.so_heap {w : World} {g n : Nat} {os : Array Obj} {cur : Array Value} {e : TypeId} {fr : Nat × Nat} (d : Array α) (hb : w.heap[g]? = some (.cells cur e fr)) :
    (grow (putRow enc (Sort.ahead w n) g 0 d) os).heap[g]? = some (.cells (putCells enc 0 d cur) e fr) := by
  have hg : g < w.heap.size := (Array.getElem?_eq_some_iff.1 hb).1
  rw [heap_grow_old _ _ (by simpa using hg)]
  simp [putRow, mapBlock, Sort.ahead, Array.getElem?_modify, hb, onCells]
theorem XSort.so_grownBy {w : World} {g n : Nat} {os : Array Obj} (d : Array α) : w.grownBy (grow (putRow enc (Sort.ahead w n) g 0 d) os) (some g) := by
  refine ⟨rfl, rfl, rfl, by simp, fun k hk hne => ?_⟩
  rw [heap_grow_old _ _ (by simpa using hk)]
  have : g ≠ k := fun e => hne (by rw [e])
  simp [putRow, mapBlock, Sort.ahead, Array.getElem?_modify, this]
theorem XSort.so_take (cur : Array Value) (ts : List α) (h : ts.length ≤ cur.size) : (putCells enc 0 ts.toArray cur).toList.take ts.length = ts.map enc := by
  apply List.ext_getElem?
  intro j
  by_cases hj : j < ts.length
  · rw [List.getElem?_take_of_lt hj, Array.getElem?_toList]
    simp [putCells, hj, show j < cur.size by omega]
  · rw [List.getElem?_take_eq_none (by omega), List.getElem?_eq_none (by simp; omega)]
theorem XSort.so_owns {w : World} {base g cap n : Nat} {e : TypeId} {os : Array Obj} {cur : Array Value} {ss ts : List α} (hl : ts.length = ss.length) (hbase : base ≤ g) (hb : w.heap[g]? = some (.cells cur e (0, 0)))
    (h1 : ss.length ≤ cap) (h2 : cap ≤ maxLen) (h3 : cur.size = cap * 1) :
    (grow (putRow enc (Sort.ahead w n) g 0 ts.toArray) os).ownsRow base e 1 (.slice (some ⟨g, 0, none⟩) ss.length cap) ss.length (ts.map enc) :=
  ⟨by simp [hl], .inr ⟨g, cap, _, rfl, hbase, XSort.so_heap _ hb, h1, h2, by simp [putCells, h3], by rw [Nat.mul_one, ← hl]; exact XSort.so_take cur ts (by omega)⟩⟩
end
def XSort.so_cf (x y : Int) : Int := Lib.compareInt x y
theorem XSort.so_lt (x y : Int) : ltOf XSort.so_cf x y = decide (x < y) := by
  unfold ltOf XSort.so_cf Lib.compareInt
  by_cases h1 : x < y
  · simp [h1]
  · by_cases h2 : y < x <;> simp [h1, h2]
theorem XSort.so_swo : SWO (ltOf XSort.so_cf) where
  irrefl x := by rw [XSort.so_lt]; simp
  trans x y z h1 h2 := by rw [XSort.so_lt] at *; simp at *; omega
  ntrans x y z h1 h2 := by rw [XSort.so_lt] at *; simp at *; omega
theorem XSort.so_tot (x y : Int) (h1 : ltOf XSort.so_cf x y = false) (h2 : ltOf XSort.so_cf y x = false) : x = y := by rw [XSort.so_lt] at *; simp at *; omega
theorem XSort.so_le : (fun x y : Int => !ltOf XSort.so_cf y x) = fun x y => decide (x ≤ y) := by
  funext x y
  rw [XSort.so_lt]
  by_cases h : x ≤ y
  · simp [h, show ¬ y < x by omega]
  · simp [h, show y < x by omega]
set_option maxHeartbeats 1000000 in
theorem XSort.so_sort (A : Option Addr) (c : Nat) (ks : List Int) (W : World) (base : Nat) (hR : (Kd.int .i64).R 2 W base (fun _ => True) (.slice A ks.length c) ks) (hb : base ≤ W.heap.size) (hl : ks.length < 4294967296) :
    Calls Tryz.prog 48 #[.slice A ks.length c, .func (.func 49) #[] #[]] W fun e w' => e = .returned (.tuple #[]) ∧ (Kd.int .i64).R 2 w' base (fun _ => True) (.slice A ks.length c) (ks.mergeSort fun x y => decide (x ≤ y)) ∧ W.grownBy w' (Value.slice A ks.length c).ownBlock ∧ ∀ k, (Value.slice A ks.length c).ownBlock = some k → base ≤ k := by
  have ho := Kd.own_of_R hR
  have eg : ∀ args w, (callFunc 49 args).run Tryz.prog w = .ok (.enter 49 args) w := enters_of Tryz.func49 (by kernel_rfl) rfl
  rcases ho.2 with ⟨hnil, _⟩ | ⟨g, cap, cur, he, hbase, hh, h1, h2, h3, h4⟩
  · injection hnil with e1 e2 e3
    obtain rfl : ks = [] := List.eq_nil_of_length_eq_zero e2
    have h := AnyF.slices_SortFunc_none (P := Tryz.prog) (ρ := Tryz.sortL_ren) { Tryz.sortL with } A c (.func (.func 49) #[] #[]) W
    change Calls Tryz.prog 48 _ _ _ at h
    refine h.mono ?_
    rintro e w' ⟨rfl, rfl⟩
    exact ⟨rfl, by simpa using hR, ⟨rfl, rfl, rfl, Nat.le_refl _, fun k _ _ => rfl⟩, fun k hk => (ho.lt k hk).1⟩
  · injection he with e1 e2 e3
    subst e1 e3
    have hcmp : CmpReads Tryz.prog 49 #[] (Value.int .i64) XSort.so_cf g 0 ks.toArray.size W := fun _ _ _ _ x y => by
      have hc := AnyG.cmp_Compare_int Tryz.cmpL x y
      change ∀ w, Calls Tryz.prog 49 _ _ _ at hc
      exact (hc _).mono fun e w' ⟨he, hw⟩ => ⟨he, 0, hw⟩
    have h := Any.slices_SortFunc_total Tryz.sortL (Value.int .i64) (fun _ => rfl) XSort.so_cf XSort.so_swo 49 #[] g 0 c ks.toArray W eg hcmp.lays (XSort.so_holds hh (by simpa [encs] using h4)) ((Array.getElem?_eq_some_iff.1 hh).1) (by simp; omega) XSort.so_tot
    rw [XSort.so_le] at h
    change Calls Tryz.prog 48 _ _ _ at h
    refine (show Calls Tryz.prog 48 #[.slice (some ⟨g, 0, none⟩) ks.length c, .func (.func 49) #[] #[]] W _ from h).mono ?_
    rintro e w' ⟨rfl, n, os, rfl⟩
    exact ⟨rfl, Kd.R_of_own (h1 := fun _ => rfl) (by
      have ho' := XSort.so_owns (enc := Value.int .i64) (n := n) (os := os) (ts := ks.mergeSort fun x y => decide (x ≤ y)) (List.length_mergeSort ks) hbase hh h1 h2 h3
      rw [List.length_mergeSort]; exact ho') (fun _ _ => trivial), XSort.so_grownBy _, fun k hk => (ho.lt k hk).1⟩
end

theorem XBuild.law : Maps.Keyed Tryz.prog 2 := Maps.int_keyed Tryz.underlying2
theorem XBuild.zeroI (w : World) : (zeroValue 3).run Tryz.prog w = .ok (.int .i64 0) w := by kernel_rfl
theorem XBuild.zeroU (w : World) : (zeroValue 37).run Tryz.prog w = .ok (.int .u32 0) w := by kernel_rfl
theorem XBuild.infoU : (Tryz.prog.info? 37).map (fun i => (i.zero, i.size, i.bytes)) = some (some (.int .u32 0), 1, 4) := by kernel_rfl
theorem XBuild.info64 : (Tryz.prog.info? 2).map (fun i => (i.zero, i.size, i.bytes)) = some (some (.int .i64 0), 1, 8) := by kernel_rfl
/-- what the first map says when i elements were met: of each of them a place at which it stands -/
def XBuild.Good (l : List Int) (i : Nat) (f : Int → Option Int) : Prop := (∀ x, (f x).isSome = true ↔ x ∈ l.take i) ∧ ∀ x c, f x = some c → ∃ j : Nat, c = (j : Int) ∧ l[j]? = some x
theorem XBuild.Good.zero (l : List Int) : XBuild.Good l 0 (fun _ => none) := ⟨fun x => by simp, fun x c h => by cases h⟩
theorem XBuild.Good.old {l : List Int} {i : Nat} {f : Int → Option Int} (h : XBuild.Good l i f) (hi : i < l.length) (hf : (f l[i]).isSome = true) : XBuild.Good l (i + 1) f :=
  ⟨fun x => by
    rw [List.take_succ_eq_append_getElem hi, List.mem_append, List.mem_singleton, ← h.1 x]
    constructor
    · exact .inl
    · rintro (h' | rfl)
      · exact h'
      · exact hf, h.2⟩
theorem XBuild.Good.new {l : List Int} {i : Nat} {f : Int → Option Int} (h : XBuild.Good l i f) (hi : i < l.length) : XBuild.Good l (i + 1) (fun y => if y = l[i] then some (i : Int) else f y) :=
  ⟨fun x => by
    rw [List.take_succ_eq_append_getElem hi, List.mem_append, List.mem_singleton, ← h.1 x]
    by_cases e : x = l[i]
    · simp [e]
    · simp [e], fun x c hc => by
    by_cases e : x = l[i]
    · simp only [e, if_true, Option.some.injEq] at hc
      exact ⟨i, hc.symm, by rw [e]; exact List.getElem?_eq_getElem hi⟩
    · simp only [e, if_false] at hc
      exact h.2 x c hc⟩
/-- a value's code: which of the keys it is -/
def XBuild.code (SK : List Int) (x : Int) : Int := (SK.idxOf x : Nat)
theorem XBuild.Good.code {SK : List Int} {g : Int → Option Int} (h : XBuild.Good SK SK.length g) (hn : SK.Nodup) {x : Int} (hx : x ∈ SK) : g x = some (XBuild.code SK x) := by
  have h1 := (h.1 x).2 (by rw [List.take_length]; exact hx)
  obtain ⟨c, hc⟩ := Option.isSome_iff_exists.1 h1
  obtain ⟨j, rfl, hj⟩ := h.2 x c hc
  obtain ⟨hjl, hje⟩ := List.getElem?_eq_some_iff.1 hj
  have h2 : SK.idxOf x < SK.length := List.idxOf_lt_length_iff.2 hx
  have h3 : SK[SK.idxOf x] = x := List.getElem_idxOf h2
  have h4 : j = SK.idxOf x := by
    have hp := List.pairwise_iff_getElem.1 hn
    rcases Nat.lt_trichotomy j (SK.idxOf x) with h | h | h
    · exact absurd (hje.trans h3.symm) (hp _ _ hjl h2 h)
    · exact h
    · exact absurd (h3.trans hje.symm) (hp _ _ h2 hjl h)
  rw [hc, XBuild.code, ← h4]
theorem XBuild.setCodes (L : List Int) (i : Nat) (hi : i < L.length) : (L.take i ++ List.replicate (L.length - i) (0 : Int)).set i L[i] = L.take (i + 1) ++ List.replicate (L.length - (i + 1)) 0 := by
  rw [List.take_succ_eq_append_getElem hi, show L.length - i = (L.length - (i + 1)) + 1 by omega, List.replicate_succ, List.set_append_right _ _ (by simp; omega)]
  rw [List.length_take, show i - min i L.length = 0 by omega, List.set_cons_zero, List.append_assoc]; rfl
theorem run_makeMap_hint_ {P : Program} (t k e : TypeId) (ht : P.underlying t = some (.map k e)) (n : Int) (w : World) : (Instr.makeMap t (some (.int .i64 n))).run P w = .ok (.map (some w.heap.size)) (w.alloc (.map #[] 0)) := by
  simp [Instr.makeMap, run_underlying ht, asInt, asIntOf, Result.andThen]
/-- slices.SortFunc by cmp.Compare over one's own row -/
def XBuild.SortC : Prop := ∀ (A : Option Addr) (c : Nat) (ks : List Int) (W : World) (base : Nat), (Kd.int .i64).R 2 W base (fun _ => True) (.slice A ks.length c) ks → base ≤ W.heap.size → ks.length < 4294967296 →
  Calls Tryz.prog 48 #[.slice A ks.length c, .func (.func 49) #[] #[]] W fun e w' => e = .returned (.tuple #[]) ∧ (Kd.int .i64).R 2 w' base (fun _ => True) (.slice A ks.length c) (ks.mergeSort fun x y => decide (x ≤ y)) ∧ W.grownBy w' (Value.slice A ks.length c).ownBlock ∧ ∀ k, (Value.slice A ks.length c).ownBlock = some k → base ≤ k
set_option maxHeartbeats 4000000 in
set_option maxRecDepth 100000 in
theorem XBuild.clip (A : Option Addr) (n c : Nat) (w : World) (hc : n ≤ c) : Calls Tryz.prog 50 #[.slice A n c] w fun e w' => e = .returned (.slice A n n) ∧ w' = w := by
  go_enter Tryz.func50, Tryz.ntmps50
  go_wp2_with fail
  refine bodyPost_ret (results_tmp rfl _ _ _) rfl ?_
  exact ⟨rfl, rfl⟩
set_option maxHeartbeats 4000000 in
set_option maxRecDepth 100000 in
theorem XBuild.build (A0 : Option Addr) (c0 : Nat) (l0 : List Int) (w : World) (hr0 : Kd.C (Kd.int .i64) w A0 l0.length l0) (hc0 : l0.length ≤ c0) (hw : ∀ x ∈ l0, (Lit.int .i64 x).wf = true) (hl : l0.length < 4294967296) (hsort : XBuild.SortC) :
    Calls Tryz.prog 21 #[.slice A0 l0.length c0] w fun e w' => ∃ (Ak : Option Addr) (b : Nat) (SK : List Int), SK = XMap.keysOf l0 ∧ e = .returned (.tuple #[.slice Ak SK.length SK.length, .slice (some ⟨b, 0, none⟩) l0.length l0.length]) ∧ Kd.C (Kd.int .i64) w' Ak SK.length SK ∧ (Kd.int .u32).R 37 w' w.heap.size (fun _ => True) (.slice (some ⟨b, 0, none⟩) l0.length l0.length) (l0.map (XBuild.code SK)) ∧ ((∀ g, (Value.slice Ak SK.length SK.length).ownBlock = some g → w.heap.size ≤ g ∧ g ≠ b) ∧ XApartW.ownsW w' w.heap.size 2 (.slice Ak SK.length SK.length) SK.length (encs (Value.int .i64) SK)) ∧ Below w.heap.size w w' := by
  have HR0 := Aside0.mk hr0
  have HW := Aside0.mk hw
  clear hr0 hw
  have hmm := @run_makeMap Tryz.prog
  go_enter Tryz.func21, Tryz.ntmps21
  go_wp2_with fail
  (try simp only [add_plain])
  go_loopg [5, 21] (l0.length + 1) (fun kq v5 v21 w' => ∃ (i : Nat) (D : DataW Nat) (f : Int → Option Int), i ≤ l0.length ∧ v5 = .slice none 0 0 ∧ Aside0 (kq + i = l0.length + 1) ∧ v21 = .int .i64 (i : Int) ∧ Aside0 (w'.ownsMap Tryz.prog 2 (plainElem Tryz.prog 3) w.heap.size i D) ∧ Aside0 (XMap.Rep .i64 .i64 D f) ∧ Aside0 (XBuild.Good l0 i f) ∧ Aside0 (Below w.heap.size w w'))
  case atStart => exact ⟨0, .map [], fun _ => none, Nat.zero_le _, rfl, ⟨by omega⟩, rfl, ⟨World.ownsMap_made _ _ _ _⟩, ⟨XMap.Rep.empty _ _⟩, ⟨XBuild.Good.zero _⟩, ⟨below_alloc (Below.refl _ _) _⟩⟩
  case round =>
    clear hmm
    obtain ⟨i, D, f, hi, rfl, HK, rfl, HM, HF, HG, HB⟩ := hrel
    by_cases hlt : i < l0.length
    · have hd : decide ((i : Int) < (l0.length : Int)) = true := decide_eq_true (by omega)
      obtain ⟨k1, rfl⟩ : ∃ k1, gk = k1 + 1 := ⟨gk - 1, by have := HK.out; omega⟩
      obtain ⟨ad, e0, hx⟩ := Kd.at_int (Kd.C_below HR0.out HB.out) (i : Int) (by omega) (by omega)
      cases e0
      rw [Int.toNat_natCast, show rd l0 (i : Int) = l0[i] from by simp [rd, hlt]] at hx
      have hwx := HW.out l0[i] (List.getElem_mem hlt)
      have hk := Maps.keyOf_int_mk (P := Tryz.prog) (k := 2) Tryz.underlying2 hwx
      have hnew := Aside0.mk (HG.out.new hlt)
      have hold := Aside0.mk (HG.out.old hlt)
      have hh := HF.out.has_ l0[i]
      have hlen := hlt
      generalize l0[i] = x at hx hwx hk hnew hold hh
      by_cases hs : (f x).isSome = true
      · rw [hs] at hh
        have HG' := Aside0.mk (hold.out hs)
        clear hnew hold hs HG
        go_wp2_with (at_lookup; refine wpList_lookup_own_ok_int _ rfl _ _ 87 rfl 2 3 .i64 XBuild.law Tryz.underlying87 Tryz.underlying3 (XBuild.zeroI _) w.heap.size i D rfl HM.out _ _ rfl hk ?_; intro c hat hwc; rw [hh])
        go_roundg k1
        case measure => have := HK.out; omega
        case rel => exact ⟨i + 1, D, f, by omega, rfl, ⟨by have := HK.out; omega⟩, congrArg (Value.int .i64) (by omega), ⟨HM.out.mono (Nat.le_succ _)⟩, HF, HG', HB⟩
      · have hsf : (f x).isSome = false := by simpa using hs
        rw [hsf] at hh
        clear hold hs HG
        go_wp2_with (first | (at_lookup; refine wpList_lookup_own_ok_int _ rfl _ _ 87 rfl 2 3 .i64 XBuild.law Tryz.underlying87 Tryz.underlying3 (XBuild.zeroI _) w.heap.size i D rfl HM.out _ _ rfl hk ?_; intro c hat hwc; rw [hh]) | (at_mapUpdate; refine wpList_mapUpdate_own _ rfl _ _ _ 87 rfl 2 3 XBuild.law Tryz.underlying87 _ w.heap.size i D rfl HM.out (by unfold maxLen; omega) _ _ _ rfl rfl hk _ [] (plainElem_int Tryz.underlying3 (WalkArith.wf_i64 (by omega))) ?_; intro w1 hown1 hgrow1))
        have HM' := Aside0.mk hown1
        have HF' := Aside0.mk (HF.out.put x (i : Int))
        have HB' := Aside0.mk (HB.out.grown hgrow1 HB.out.size (fun j hj => by cases hj; exact Nat.le_refl _))
        clear hown1 hgrow1
        go_roundg k1
        case measure => have := HK.out; omega
        case rel => exact ⟨i + 1, _, _, by omega, rfl, ⟨by have := HK.out; omega⟩, congrArg (Value.int .i64) (by omega), HM', HF', hnew, HB'⟩
    · obtain rfl : i = l0.length := by omega
      have hd : decide ((l0.length : Int) < (l0.length : Int)) = false := decide_eq_false (by omega)
      have hsz := HM.out.size_le
      go_wp2_with (at_range; refine wpList_range_own _ rfl _ 87 rfl 2 3 XBuild.law Tryz.underlying87 _ w.heap.size l0.length D rfl HM.out ?_; intro w2 hrg hg2 hs2)
      go_frame
      have HRG := Aside0.mk hrg
      have HB2 := Aside0.mk (HB.out.grown hg2 HB.out.size (fun j hj => by cases hj))
      have HS2 := Aside0.mk hs2
      have HSZ := Aside0.mk hsz
      have hrb := HB.out.size
      generalize wr.heap.size = r at HRG HS2 hrb ⊢
      clear hrg hg2 hs2 hsz HM HB HK
      (try simp only [add_plain])
      go_loopg [5] (Maps.size D + 1) (fun kq v5 w' => ∃ (left : Lit → Bool) (cnt : Nat) (ks : List Int), Aside0 (cnt < kq) ∧ Aside0 (ks.length + cnt ≤ l0.length) ∧ Aside0 (w'.ranges Tryz.prog 2 (plainElem Tryz.prog 3) w.heap.size r l0.length D left cnt) ∧ Aside0 (XMap.Coll .i64 f left ks) ∧ Aside0 ((Kd.int .i64).R 2 w' (r + 1) (fun _ => True) v5 ks) ∧ Aside0 (Below w.heap.size w w') ∧ Aside0 (r + 1 ≤ w'.heap.size))
      case atStart => exact ⟨_, _, [], ⟨by omega⟩, ⟨by have := HSZ.out; simp; omega⟩, HRG, ⟨XMap.Coll.start HF.out⟩, ⟨Kd.R_nil _ _ _ _ _⟩, HB2, ⟨by have := HS2.out; omega⟩⟩
      case round =>
        clear HRG HB2 HSZ HS2
        obtain ⟨left, cnt, ks, HK2, HL2, HRG, HC, HR, HBw, HSz⟩ := hrel
        obtain ⟨Ak, ck, rfl⟩ := Kd.R_slice HR.out
        obtain ⟨k2, rfl⟩ : ∃ k2, gk = k2 + 1 := ⟨gk - 1, by have := HK2.out; omega⟩
        go_wp2_with (at_next; refine wpList_next_ranges_ii _ rfl _ rfl 2 3 .i64 .i64 XBuild.law Tryz.underlying2 Tryz.underlying3 w.heap.size r l0.length _ _ _ rfl HRG.out ?_ ?_)
        · intro hc0 hl0
          have hm : ∀ x, x ∈ ks ↔ x ∈ l0 := fun x => by rw [HC.out.2 x, hl0, HG.out.1 x, List.take_length]; simp
          have HKS := Aside0.mk (XMap.sorted_keys HC.out.1 hm)
          have HKL : Aside0 (ks.length ≤ l0.length) := ⟨by have := HL2.out; omega⟩
          clear hm hl0 hc0 HC HL2 HK2 HRG HG HF
          go_wp2_with fail
          refine (hsort Ak ck ks wr (r + 1) HR.out HSz.out (by have := HKL.out; omega)).mono ?_
          rintro e w3 ⟨rfl, hR3, hb3, hz3⟩
          have HR3 := Aside0.mk hR3
          have HB3 := Aside0.mk (HBw.out.grown hb3 HBw.out.size (fun k hk => by have := hz3 k hk; omega))
          have HSz3 := Aside0.mk (Nat.le_trans HSz.out hb3.size)
          rw [HKS.out] at HR3
          have hKL := (HKS.out ▸ List.length_mergeSort ks : (XMap.keysOf l0).length = ks.length)
          clear hR3 hb3 hz3 HR HBw HSz
          have hmk := @run_makeMap_hint_ Tryz.prog 90 2 37 Tryz.underlying90
          generalize hSK : XMap.keysOf l0 = SK at HR3 hKL
          have HSK := Aside0.mk hSK
          have hkl := HKL.out
          clear hSK HKS HKL
          go_wp2_with fail
          clear hmk
          have HB4 := Aside0.mk (below_alloc HB3.out (.map #[] 0))
          have HR4 := Aside0.mk (Kd.R_below HR3.out (below_alloc (Below.refl w3.heap.size w3) (.map #[] 0)))
          have HM4 : Aside0 ((w3.alloc (.map #[] 0)).ownsMap Tryz.prog 2 (plainElem (H := Nat) Tryz.prog 37) w3.heap.size 0 (.map [])) := ⟨World.ownsMap_made _ _ _ _⟩
          have hb3 : w.heap.size ≤ w3.heap.size := HB3.out.size
          have HNB : Aside0 (∀ g, (Value.slice Ak ks.length ck).ownBlock = some g → g < w3.heap.size) := ⟨fun g hg => own_lt (Kd.own_of_R HR3.out) g hg⟩
          generalize w3.alloc (.map #[] 0) = w4 at HB4 HR4 HM4 ⊢
          generalize w3.heap.size = B2 at HM4 hb3 HSz3 HNB ⊢
          clear HR3 HB3
          (try simp only [add_plain])
          go_loopg [68] (ks.length + 1) (fun kq v68 w' => ∃ (i : Nat) (D : DataW Nat) (g : Int → Option Int), i ≤ ks.length ∧ Aside0 (kq + i = ks.length + 1) ∧ v68 = .int .i64 (i : Int) ∧ Aside0 (w'.ownsMap Tryz.prog 2 (plainElem Tryz.prog 37) B2 i D) ∧ Aside0 (XMap.Rep .i64 .u32 D g) ∧ Aside0 (XBuild.Good SK i g) ∧ Aside0 ((Kd.int .i64).R 2 w' (r + 1) (fun _ => True) (.slice Ak ks.length ck) SK) ∧ Aside0 (Below w.heap.size w w'))
          case atStart => exact ⟨0, .map [], fun _ => none, Nat.zero_le _, ⟨by omega⟩, rfl, HM4, ⟨XMap.Rep.empty _ _⟩, ⟨XBuild.Good.zero _⟩, HR4, HB4⟩
          case round =>
            clear HM4 HR4 HB4
            obtain ⟨i, D, g, hi, HK, rfl, HM, HF, HG, HR, HB⟩ := hrel
            by_cases hlt : i < ks.length
            · have hd : decide ((i : Int) < (ks.length : Int)) = true := decide_eq_true (by omega)
              obtain ⟨k3, rfl⟩ : ∃ k3, gk = k3 + 1 := ⟨gk - 1, by have := HK.out; omega⟩
              have hC := (Kd.R_reads' HR.out).2.2
              obtain ⟨ad, e0, hx⟩ := Kd.at_int hC (i : Int) (by omega) (by omega)
              rw [Int.toNat_natCast, show rd SK (i : Int) = SK[i]'(by omega) from by simp [rd, show i < SK.length by omega]] at hx
              have hwx := HW.out (SK[i]'(by omega)) ((XMap.keysOf_spec l0).2 _ |>.1 (by rw [HSK.out]; exact List.getElem_mem _))
              have hk := Maps.keyOf_int_mk (P := Tryz.prog) (k := 2) Tryz.underlying2 hwx
              have hnew := Aside0.mk (HG.out.new (show i < SK.length by omega))
              have hwr : IntKind.u32.wrap (i : Int) = (i : Int) := by simp [IntKind.wrap, IntKind.bits, IntKind.signed]; omega
              generalize SK[i]'(by omega) = x at hx hwx hk hnew
              cases Ak with
              | none => cases e0
              | some ak =>
                cases e0
                clear hC HG
                go_wp2_with (at_mapUpdate; refine wpList_mapUpdate_own _ rfl _ _ _ 90 rfl 2 37 XBuild.law Tryz.underlying90 _ B2 i D rfl HM.out (by unfold maxLen; omega) _ _ _ rfl rfl hk _ [] (plainElem_int Tryz.underlying37 (WalkArith.wf_u32 (by omega))) ?_; intro w5 hown5 hg5)
                have HR' := Aside0.mk (Kd.R_of_own (h1 := fun _ => rfl) (ok := fun _ => True) ((Kd.own_of_R HR.out).kept hg5 (by
                  cases hb : (Value.slice (some ad) ks.length ck).ownBlock with
                  | none => exact .inl rfl
                  | some g => exact .inr (fun e => by have := HNB.out g hb; cases e; omega))) (fun _ _ => trivial))
                have HB' := Aside0.mk (HB.out.grown hg5 HB.out.size (fun k hk => by cases hk; exact hb3))
                have HM' := Aside0.mk hown5
                have HF' := Aside0.mk (HF.out.put x (i : Int))
                clear hown5 hg5 HR HB HM HF
                go_roundg k3
                case measure => have := HK.out; omega
                case rel => exact ⟨i + 1, _, _, by omega, ⟨by have := HK.out; omega⟩, congrArg (Value.int .i64) (by omega), HM', HF', hnew, HR', HB'⟩
            · obtain rfl : i = ks.length := by omega
              have hd : decide ((ks.length : Int) < (ks.length : Int)) = false := decide_eq_false (by omega)
              have hmk := print_make_of (P := Tryz.prog) 34 37 (.int .u32 0) 4 Tryz.underlying34 XBuild.infoU rfl (by decide) l0.length (by omega)
              go_wp2_with fail
              clear hmk
              have HB5 := Aside0.mk (below_alloc HB.out (.cells (madeCells #[.int .u32 0] l0.length) 37))
              have HR5 := Aside0.mk (Kd.R_below HR.out (below_alloc (Below.refl wr.heap.size wr) (.cells (madeCells #[.int .u32 0] l0.length) 37)))
              have HM5 := Aside0.mk (HM.out.alloc (.cells (madeCells #[.int .u32 0] l0.length) 37))
              have hmb : B2 < wr.heap.size := HM.out.lt
              have HC5 : Aside0 ((Kd.int .u32).R 37 (wr.alloc (.cells (madeCells #[.int .u32 0] l0.length) 37)) wr.heap.size (fun _ => True) (.slice (some ⟨wr.heap.size, 0, none⟩) l0.length l0.length) (List.replicate l0.length 0)) :=
                ⟨Kd.R_of_own (h1 := fun _ => rfl) (own_made_of' (enc := Value.int .u32) (d := 0) wr wr.heap.size 37 l0.length (Nat.le_refl _) (by omega)) (fun _ _ => trivial)⟩
              generalize wr.alloc (.cells (madeCells #[.int .u32 0] l0.length) 37) = w5 at HB5 HR5 HM5 HC5 ⊢
              have hb5 := HB.out.size
              have HNB5 : Aside0 (∀ g, (Value.slice Ak ks.length ck).ownBlock = some g → g < wr.heap.size) := ⟨fun g hg => own_lt (Kd.own_of_R HR.out) g hg⟩
              generalize wr.heap.size = B3 at HC5 hb5 hmb HNB5 ⊢
              clear HB HR HM HNB HK
              have hnd : SK.Nodup := by rw [← HSK.out]; exact (XMap.keysOf_spec l0).1.imp (fun h => by omega)
              have hcd : ∀ x ∈ l0, g x = some (XBuild.code SK x) := fun x hx => (hKL ▸ HG.out).code hnd (by rw [← HSK.out]; exact ((XMap.keysOf_spec l0).2 x).2 hx)
              clear HG hnd
              (try simp only [add_plain])
              go_loopg [83] (l0.length + 1) (fun kq v83 w' => ∃ (i : Nat) (Z : List Int), i ≤ l0.length ∧ Aside0 (kq + i = l0.length + 1) ∧ v83 = .int .i64 (i : Int) ∧ Aside0 (Z = (l0.map (XBuild.code SK)).take i ++ List.replicate ((l0.map (XBuild.code SK)).length - i) (0 : Int)) ∧ Aside0 (w'.ownsMap Tryz.prog 2 (plainElem Tryz.prog 37) B2 ks.length D) ∧ Aside0 ((Kd.int .i64).R 2 w' (r + 1) (fun _ => True) (.slice Ak ks.length ck) SK) ∧ Aside0 ((Kd.int .u32).R 37 w' B3 (fun _ => True) (.slice (some ⟨B3, 0, none⟩) l0.length l0.length) Z) ∧ Aside0 (Below w.heap.size w w'))
              case atStart => exact ⟨0, _, Nat.zero_le _, ⟨by omega⟩, rfl, ⟨by simp⟩, HM5, HR5, HC5, HB5⟩
              case round =>
                clear HM5 HR5 HB5 HC5
                obtain ⟨i, Z, hi, HK, rfl, HZ, HM, HR, HC, HB⟩ := hrel
                by_cases hlt : i < l0.length
                · have hd : decide ((i : Int) < (l0.length : Int)) = true := decide_eq_true (by omega)
                  obtain ⟨k4, rfl⟩ : ∃ k4, gk = k4 + 1 := ⟨gk - 1, by have := HK.out; omega⟩
                  obtain ⟨ad, e0, hx⟩ := Kd.at_int (Kd.C_below HR0.out HB.out) (i : Int) (by omega) (by omega)
                  cases e0
                  rw [Int.toNat_natCast, show rd l0 (i : Int) = l0[i] from by simp [rd, hlt]] at hx
                  have hwx := HW.out l0[i] (List.getElem_mem hlt)
                  have hk := Maps.keyOf_int_mk (P := Tryz.prog) (k := 2) Tryz.underlying2 hwx
                  have hat0 := HF.out.at_ l0[i] (.lit (.int .u32 0))
                  rw [hcd _ (List.getElem_mem hlt)] at hat0
                  have hZ := Aside0.mk (XBuild.setCodes (l0.map (XBuild.code SK)) i (by simpa using hlt))
                  rw [List.getElem_map] at hZ
                  rw [← HZ.out] at hZ
                  have hlen := hlt
                  generalize l0[i] = x at hx hwx hk hat0 hZ
                  generalize XBuild.code SK x = y at hat0 hZ
                  obtain ⟨hx10, hf10⟩ := Kd.R_celln 0 HC.out (i : Int) (by omega) (by omega)
                  have HP := Kd.R_putg HC.out (i : Int) y
                  rw [Int.toNat_natCast] at hx10 hf10 HP
                  have hwr : IntKind.u32.wrap (i : Int) = (i : Int) := by simp [IntKind.wrap, IntKind.bits, IntKind.signed]; omega
                  go_wp2_with (first
                    | (at_lookup; refine wpList_lookup_own_int _ rfl _ _ 90 rfl 2 37 .u32 XBuild.law Tryz.underlying90 Tryz.underlying37 (XBuild.zeroU _) B2 ks.length D rfl HM.out _ _ rfl hk ?_; intro c hat hwc; (obtain rfl : y = c := by (rw [hat0] at hat; injection hat with hat; injection hat with _ hat)); clear hat hat0)
                    | ((with_reducible refine gate_store (t := 37) (p := 93) rfl ?_); refine store_event (t := 37) (p := 93) (v := ?vo_w12) (w1 := (wr.setCell ⟨B3, i, none⟩ (.int .u32 y))) ?hg ?ho ?hn ?hr ?_; (case ho => rfl); (case hg => rfl); (case hn => rfl); (case hr => first | (go_simp; done) | (go_simp; rfl)); intro w12 hw; have hg12 : wr.grownBy w12 (some B3) := (by rw [hw]; exact HP.2); have HC' := Aside0.mk (show (Kd.int .u32).R 37 w12 B3 (fun _ => True) (.slice (some ⟨B3, 0, none⟩) l0.length l0.length) (Z.set i y) from (by rw [hw]; exact HP.1)); clear hw HP HC; have HG12 := Aside0.mk hg12; clear hg12))
                  have hg12 := HG12.out
                  have HR' := Aside0.mk (Kd.R_of_own (h1 := fun _ => rfl) (ok := fun _ => True) ((Kd.own_of_R HR.out).kept hg12 (by
                    cases hb : (Value.slice Ak ks.length ck).ownBlock with
                    | none => exact .inl rfl
                    | some g => exact .inr (fun e => by have := HNB5.out g hb; cases e; omega))) (fun _ _ => trivial))
                  have HB' := Aside0.mk (HB.out.grown hg12 HB.out.size (fun k hk => by cases hk; exact hb5))
                  have HM' := Aside0.mk (HM.out.kept hg12 (fun e => by cases e; omega))
                  clear hg12 HG12 HR HB HM
                  go_roundg k4
                  case measure => have := HK.out; omega
                  case rel => exact ⟨i + 1, _, by omega, ⟨by have := HK.out; omega⟩, congrArg (Value.int .i64) (by omega), hZ, HM', HR', HC', HB'⟩
                · obtain rfl : i = l0.length := by omega
                  have hd : decide ((l0.length : Int) < (l0.length : Int)) = false := decide_eq_false (by omega)
                  go_wp2_with fail
                  have hck := (Kd.R_reads' HR.out).2.1
                  refine (XBuild.clip Ak ks.length ck wr hck).mono ?_
                  rintro e w6 ⟨rfl, rfl⟩
                  go_wp2_with fail
                  refine bodyPost_ret (results_tmp2 rfl _ _ _) rfl ?_
                  have hZ0 := HZ.out
                  rw [List.take_of_length_le (by simp), show (l0.map (XBuild.code SK)).length - l0.length = 0 by simp, List.replicate_zero, List.append_nil] at hZ0
                  have hCk := (Kd.R_reads' HR.out).2.2
                  have hbk : ∀ g, (Value.slice Ak SK.length SK.length).ownBlock = some g → w.heap.size ≤ g ∧ g ≠ B3 := fun g hg => by
                    have hg' : (Value.slice Ak ks.length ck).ownBlock = some g := by
                      cases Ak with
                      | none => simp [Value.ownBlock] at hg
                      | some a => exact hg
                    have h1 := HNB5.out g hg'
                    have h2 := ((Kd.own_of_R HR.out).lt g hg').1
                    omega
                  have hOW : XApartW.ownsW w6 w.heap.size 2 (.slice Ak SK.length SK.length) SK.length (encs (Value.int .i64) SK) := by
                    have h1 := Kd.own_of_R HR.out
                    rw [← hKL] at h1
                    exact XRowsW.less (XApartW.ownsW.clip h1) (by omega)
                  exact ⟨Ak, B3, SK, HSK.out.symm, by rw [hKL]; rfl, hCk, hZ0 ▸ Kd.R_lower HC.out hb5, ⟨hbk, hOW⟩, HB.out⟩
        · intro x c w3 cnt3 hwx hwc hlx hat hrg3 hlt3 hg3 hs3 hen
          have hfx : f x = some c := by
            have h1 := HF.out.at_ x .nil
            rw [hat] at h1
            cases e : f x with
            | none => rw [e] at h1; cases h1
            | some c' => rw [e] at h1; simp at h1; rw [h1]
          obtain ⟨j, rfl, hj⟩ := HG.out.2 x c hfx
          obtain ⟨hjl, hje⟩ := List.getElem?_eq_some_iff.mp hj
          have HBw3 := Aside0.mk (HBw.out.grown hg3 HBw.out.size (fun k hk => by cases hk; exact hrb))
          have hown := Kd.own_of_R HR.out
          have hne : ∀ g, (Value.slice Ak ks.length ck).ownBlock = some g → r + 1 ≤ g := fun g hg => (hown.lt g hg).1
          have HR3 := Aside0.mk (Kd.R_of_own (h1 := fun _ => rfl) (ok := fun _ => True) (hown.kept hg3 (by
            cases hb : (Value.slice Ak ks.length ck).ownBlock with
            | none => exact .inl rfl
            | some g => exact .inr (fun e => by have := hne g hb; cases e; omega))) (fun _ _ => trivial))
          have HNE := Aside0.mk hne
          have HC3 := Aside0.mk (HC.out.step (by rw [hfx]; rfl) hlx)
          have HRG3 := Aside0.mk hrg3
          have HSz3 := Aside0.mk (Nat.le_trans HSz.out (Nat.le_of_eq hs3.symm))
          obtain ⟨ad, e0, hx⟩ := Kd.at_int (Kd.C_below HR0.out HBw3.out) (j : Int) (by omega) (by omega)
          cases e0
          rw [Int.toNat_natCast, show rd l0 (j : Int) = x from by simp [rd, hjl, hje]] at hx
          have hj0 : (0 : Int) ≤ (j : Int) := by omega
          have hj1 : (j : Int) < (l0.length : Int) := by omega
          clear hat hrg3 hg3 hs3 hfx hj hje hown hne HC HRG HBw HSz HR hlx
          go_wp2_with ((with_reducible refine gate_builtin (b := .append) (xs := #[.tmp 54, .tmp 59]) rfl ?_); at_builtin; refine Kd.R_append (Kd.int .i64) (w0 := w3) (r + 1) rfl (.tmp 54) (.tmp 59) 22 2 (.int .i64 0) 8 rfl Tryz.underlying22 XBuild.info64 rfl (by decide) (by decide) (.slice Ak ks.length ck) ks x [.int .i64 x] (fun _ => True) (fun _ => False) rfl rfl rfl (fun _ h => h.elim) (fun _ _ => trivial) HR3.out (Below.refl _ _) HSz3.out (by have := HL2.out; omega) ?_; intro v4 w4 ho hb hg hat)
          have HRG4 := Aside0.mk (HRG3.out.kept hg (fun e => by have := HNE.out _ e.symm; omega) (fun e => by have := HNE.out _ e.symm; omega))
          have HBw4 := Aside0.mk (HBw3.out.grown hg HBw3.out.size (fun k hk => by have := HNE.out k hk; omega))
          have HSz4 := Aside0.mk (Nat.le_trans HSz3.out hg.size)
          clear hb hg hat HRG3 HBw3 HSz3 HNE
          go_roundg k2
          case measure => have := HK2.out; omega
          case rel => exact ⟨_, cnt3, ks ++ [x], ⟨by have := HK2.out; omega⟩, ⟨by have := HL2.out; simp; omega⟩, HRG4, HC3, ⟨ho⟩, HBw4, HSz4⟩
theorem XBuild.sortC : XBuild.SortC := fun A c ks W base hR hb hl => XSort.so_sort A c ks W base hR hb hl

/-! ### pack_Width: function 65 -/
def pack_Width.f (a0 : Int) : Option (Int) := (bits_Len64.f a0).bind fun t105 => (some t105)
set_option maxHeartbeats 8000000 in
set_option maxRecDepth 100000 in
theorem pack_Width.calls (a0 : Int) (r : Int) (w : World) (h : pack_Width.f a0 = some r) :
    Calls Tryz.prog 65 #[.int .u64 a0] w fun e w' => e = .returned (.int .i64 r) ∧ Drawn0 w w' := by
  have H : ((bits_Len64.f a0).bind fun t105 => (some t105)) = some r := h
  clear h
  replace H := Option.bind_eq_some_iff.mp H
  obtain ⟨t105, A20, H⟩ := H
  replace H : (some t105) = some r := H
  have A2 := Aside0.mk A20
  clear A20
  obtain rfl := Option.some.inj H
  go_enter Tryz.func65, Tryz.ntmps65
  go_wp2_with (first | ((with_reducible refine gate_callee (f := 83) rfl ?_); refine goesL_ (some 4) rfl rfl Tryz.func83 (by kernel_rfl) rfl #[.int .u64 a0] rfl (by (try simp only [List.map_toArray, List.map_cons, List.map_nil]); first | done | rfl | (simp only [List.length_drop, List.length_take]; rfl)) ?_; (with_reducible refine (bits_Len64.calls a0 t105 _ A2.out).mono ?_); rintro e w' ⟨rfl, ⟨nd, rfl⟩⟩; refine ⟨_, rfl, ?_⟩))
  go_ret
  exact ⟨by first | rfl | (simp; done) | (simp [*]; done), by repeat (first | exact Drawn0.refl _ | apply Drawn0.step)⟩

/-! ### dict_width: function 33 -/
def dict_width.f (a0 : Int) : Option (Int) := if a0 < 2 then (some 0) else ((pack_Width.f (IntKind.u64.wrap (wrap64 (a0 - 1)))).bind fun t106 => (some t106))
set_option maxHeartbeats 8000000 in
set_option maxRecDepth 100000 in
theorem dict_width.calls (a0 : Int) (r : Int) (w : World) (h : dict_width.f a0 = some r) :
    Calls Tryz.prog 33 #[.int .i64 a0] w fun e w' => e = .returned (.int .i64 r) ∧ Drawn0 w w' := by
  have H : (if a0 < 2 then (some 0) else ((pack_Width.f (IntKind.u64.wrap (wrap64 (a0 - 1)))).bind fun t106 => (some t106))) = some r := h
  clear h
  by_cases c2 : a0 < 2
  · rw [if_pos c2] at H
    have c2b0 : decide (a0 < 2) = true := decide_eq_true c2
    clear c2
    obtain rfl := Option.some.inj H
    go_enter Tryz.func33, Tryz.ntmps33
    go_wp2
    go_ret
    exact ⟨by first | rfl | (simp; done) | (simp [*]; done), by repeat (first | exact Drawn0.refl _ | apply Drawn0.step)⟩
  · rw [if_neg c2] at H
    have c2b0 : decide (a0 < 2) = false := decide_eq_false c2
    clear c2
    replace H := Option.bind_eq_some_iff.mp H
    obtain ⟨t106, A30, H⟩ := H
    replace H : (some t106) = some r := H
    have A3 := Aside0.mk A30
    clear A30
    obtain rfl := Option.some.inj H
    go_enter Tryz.func33, Tryz.ntmps33
    go_wp2_with (first | ((with_reducible refine gate_callee (f := 65) rfl ?_); refine goesL_ (some 8) rfl rfl Tryz.func65 (by kernel_rfl) rfl #[.int .u64 (IntKind.u64.wrap (wrap64 (a0 - 1)))] rfl (by (try simp only [List.map_toArray, List.map_cons, List.map_nil]); first | done | rfl | (simp only [List.length_drop, List.length_take]; rfl)) ?_; (with_reducible refine (pack_Width.calls (IntKind.u64.wrap (wrap64 (a0 - 1))) t106 _ A3.out).mono ?_); rintro e w' ⟨rfl, ⟨nd, rfl⟩⟩; refine ⟨_, rfl, ?_⟩))
    go_ret
    exact ⟨by first | rfl | (simp; done) | (simp [*]; done), by repeat (first | exact Drawn0.refl _ | apply Drawn0.step)⟩

/-! ### pack_may: function 34 -/
def pack_may.f (a0 : Int) : Option (Bool) := if 0 ≤ a0 then (some (decide (a0 ≤ 64))) else (some false)
set_option maxHeartbeats 8000000 in
set_option maxRecDepth 100000 in
theorem pack_may.calls (a0 : Int) (r : Bool) (w : World) (h : pack_may.f a0 = some r) :
    Calls Tryz.prog 34 #[.int .i64 a0] w fun e w' => e = .returned (.bool r) ∧ Drawn0 w w' := by
  have H : (if 0 ≤ a0 then (some (decide (a0 ≤ 64))) else (some false)) = some r := h
  clear h
  by_cases c2 : 0 ≤ a0
  · rw [if_pos c2] at H
    have c2b0 : decide (0 ≤ a0) = true := decide_eq_true c2
    clear c2
    obtain rfl := Option.some.inj H
    go_enter Tryz.func34, Tryz.ntmps34
    go_wp2
    go_ret
    exact ⟨by first | rfl | (simp; done) | (simp [*]; done), by repeat (first | exact Drawn0.refl _ | apply Drawn0.step)⟩
  · rw [if_neg c2] at H
    have c2b0 : decide (0 ≤ a0) = false := decide_eq_false c2
    clear c2
    obtain rfl := Option.some.inj H
    go_enter Tryz.func34, Tryz.ntmps34
    go_wp2
    go_ret
    exact ⟨by first | rfl | (simp; done) | (simp [*]; done), by repeat (first | exact Drawn0.refl _ | apply Drawn0.step)⟩

/-! ### pack_Bytes: function 35 -/
def pack_Bytes.f (a0 : Int) (a1 : Int) : Option (Int × Int) := if a0 < 0 then (some (0, 2)) else (if a0 > 16777216 then (some (0, 3)) else ((pack_may.f a1).bind fun t107 => (if t107 = true then (some (wrap64 (Int.tdiv (wrap64 ((wrap64 (a0 * a1)) + 7)) 8), 0)) else (some (0, 20)))))
set_option maxHeartbeats 8000000 in
set_option maxRecDepth 100000 in
theorem pack_Bytes.calls (a0 : Int) (a1 : Int) (r1 : Int) (r2 : Int) (w : World) (h : pack_Bytes.f a0 a1 = some (r1, r2)) :
    Calls Tryz.prog 35 #[.int .i64 a0, .int .i64 a1] w fun e w' => e = .returned (.tuple #[.int .i64 r1, .int .i64 r2]) ∧ Drawn0 w w' := by
  have H : (if a0 < 0 then (some (0, 2)) else (if a0 > 16777216 then (some (0, 3)) else ((pack_may.f a1).bind fun t107 => (if t107 = true then (some (wrap64 (Int.tdiv (wrap64 ((wrap64 (a0 * a1)) + 7)) 8), 0)) else (some (0, 20)))))) = some (r1, r2) := h
  clear h
  by_cases c3 : a0 < 0
  · rw [if_pos c3] at H
    have c3b0 : decide (a0 < 0) = true := decide_eq_true c3
    clear c3
    simp only [Option.some.injEq, Prod.mk.injEq] at H
    obtain ⟨rfl, rfl⟩ := H
    go_enter Tryz.func35, Tryz.ntmps35
    go_wp2
    go_ret2
    exact ⟨by first | rfl | (simp; done) | (simp [*]; done), by repeat (first | exact Drawn0.refl _ | apply Drawn0.step)⟩
  · rw [if_neg c3] at H
    have c3b0 : decide (a0 < 0) = false := decide_eq_false c3
    clear c3
    by_cases c4 : a0 > 16777216
    · rw [if_pos c4] at H
      have c4b0 : decide (16777216 < a0) = true := decide_eq_true c4
      clear c4
      simp only [Option.some.injEq, Prod.mk.injEq] at H
      obtain ⟨rfl, rfl⟩ := H
      go_enter Tryz.func35, Tryz.ntmps35
      go_wp2
      go_ret2
      exact ⟨by first | rfl | (simp; done) | (simp [*]; done), by repeat (first | exact Drawn0.refl _ | apply Drawn0.step)⟩
    · rw [if_neg c4] at H
      have c4b0 : decide (16777216 < a0) = false := decide_eq_false c4
      clear c4
      replace H := Option.bind_eq_some_iff.mp H
      obtain ⟨t107, A50, H⟩ := H
      replace H : (if t107 = true then (some (wrap64 (Int.tdiv (wrap64 ((wrap64 (a0 * a1)) + 7)) 8), 0)) else (some (0, 20))) = some (r1, r2) := H
      have A5 := Aside0.mk A50
      clear A50
      by_cases c6 : t107 = true
      · subst c6
        have H1 : (some (wrap64 (Int.tdiv (wrap64 ((wrap64 (a0 * a1)) + 7)) 8), 0)) = some (r1, r2) := by rw [if_pos rfl] at H; exact H
        clear H
        have H := H1
        clear H1
        simp only [Option.some.injEq, Prod.mk.injEq] at H
        obtain ⟨rfl, rfl⟩ := H
        go_enter Tryz.func35, Tryz.ntmps35
        go_wp2_with (first | ((with_reducible refine gate_callee (f := 34) rfl ?_); refine goesL_ (some 14) rfl rfl Tryz.func34 (by kernel_rfl) rfl #[.int .i64 a1] rfl (by (try simp only [List.map_toArray, List.map_cons, List.map_nil]); first | done | rfl | (simp only [List.length_drop, List.length_take]; rfl)) ?_; (with_reducible refine (pack_may.calls a1 true _ A5.out).mono ?_); rintro e w' ⟨rfl, ⟨nd, rfl⟩⟩; refine ⟨_, rfl, ?_⟩))
        go_ret2
        exact ⟨by first | rfl | (simp; done) | (simp [*]; done), by repeat (first | exact Drawn0.refl _ | apply Drawn0.step)⟩
      · replace c6 := Bool.eq_false_iff.mpr c6
        subst c6
        have H1 : (some (0, 20)) = some (r1, r2) := by rw [if_neg (show ¬ (false = true) by decide)] at H; exact H
        clear H
        have H := H1
        clear H1
        simp only [Option.some.injEq, Prod.mk.injEq] at H
        obtain ⟨rfl, rfl⟩ := H
        go_enter Tryz.func35, Tryz.ntmps35
        go_wp2_with (first | ((with_reducible refine gate_callee (f := 34) rfl ?_); refine goesL_ (some 14) rfl rfl Tryz.func34 (by kernel_rfl) rfl #[.int .i64 a1] rfl (by (try simp only [List.map_toArray, List.map_cons, List.map_nil]); first | done | rfl | (simp only [List.length_drop, List.length_take]; rfl)) ?_; (with_reducible refine (pack_may.calls a1 false _ A5.out).mono ?_); rintro e w' ⟨rfl, ⟨nd, rfl⟩⟩; refine ⟨_, rfl, ?_⟩))
        go_ret2
        exact ⟨by first | rfl | (simp; done) | (simp [*]; done), by repeat (first | exact Drawn0.refl _ | apply Drawn0.step)⟩

end Go.Proofs.YtlpllhpnnhablaaGreat.PDictTextsOwn
