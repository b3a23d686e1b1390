-- Written by xprint.py, this session's own program over the kit's print; Lean checks it.
import Derived.Test.YtlpllhpnnhablaaGreatPDictTextsOwnx0
import Derived.Test.YtlpllhpnnhablaaGreatPDictTextsOwnx1
import Derived.Test.YtlpllhpnnhablaaGreatPDictTextsOwnx2
import Derived.Test.YtlpllhpnnhablaaGreatPDictTextsOwnx3
import Derived.Test.YtlpllhpnnhablaaGreatPDictTextsOwnx5
namespace Go.Proofs.YtlpllhpnnhablaaGreat.PDictTextsOwn
open Go.RowKit Go.Proofs.YtlpllhpnnhablaaGreatW.PrintWords Go.Proofs.YtlpllhpnnhablaaGreatW.PrintLast Go.Proofs.YtlpllhpnnhablaaGreatW.PrintMore
attribute [local go_sem] max2_int min2_int max_two min_two max_three min_three max_four min_four   -- for this text's walks alone
set_option linter.unusedVariables false
set_option linter.unusedSimpArgs false

/-! ### dict_Ints: function 9 -/
set_option maxHeartbeats 400000 in
theorem XCur.must_yes (c : Int) (w : World) : Calls Tryz.prog 61 #[.bool true, .int .i64 c] w fun e w' => e = .returned (.tuple #[]) ∧ w' = w := by
  go_enter Tryz.func61, Tryz.ntmps61
  go_wp2_with fail
  go_end0
  exact ⟨rfl, rfl⟩
theorem XCur.must_no (c : Int) (w : World) : Calls Tryz.prog 61 #[.bool false, .int .i64 c] w fun e w' => e = .panicked [{ v := .iface 27 (.int .i64 c), recovered := false }] ∧ w' = w := by
  go_enter Tryz.func61, Tryz.ntmps61
  go_wp2_with fail
  exact ⟨rfl, rfl, rfl⟩
/-- a reader: where it stands among its bytes, and its fault -/
def XCur.Rdr (M : Nat) (W : World) (g : Nat) (L : List Int) (at_ : Nat) (f : Int) : Prop :=
  g < M ∧ M ≤ W.heap.size ∧ at_ ≤ L.length ∧ ∃ A c, W.heap[g]? = some (.cells #[.slice A L.length c, .int .i64 at_, .int .i64 f] 97 (0, 0)) ∧ (Kd.int .u8).R 5 W 0 (fun k => k ≠ g ∧ k < M) (.slice A L.length c) L
theorem XCur.Rdr.cells {M : Nat} {W : World} {g : Nat} {L : List Int} {at_ : Nat} {f : Int} (h : XCur.Rdr M W g L at_ f) : ∃ A c, W.cell? ⟨g, 0, none⟩ = some (.slice A L.length c) ∧ W.cell? ⟨g, 1, none⟩ = some (.int .i64 at_) ∧ W.cell? ⟨g, 2, none⟩ = some (.int .i64 f) ∧ W.frozen? ⟨g, 1, none⟩ = false ∧ W.frozen? ⟨g, 2, none⟩ = false ∧ L.length ≤ c ∧ (Kd.int .u8).R 5 W 0 (fun k => k ≠ g ∧ k < M) (.slice A L.length c) L := by
  obtain ⟨_, _, _, A, c, hh, hr⟩ := h
  obtain ⟨_, h2, h3⟩ := Kd.R_reads' hr
  refine ⟨A, c, ?_, ?_, ?_, ?_, ?_, h2, hr⟩ <;> simp [World.cell?, World.frozen?, hh]
/-- writes to blocks from M on leave it as it was -/
theorem XCur.Rdr.keep {M : Nat} {W W' : World} {g : Nat} {L : List Int} {at_ : Nat} {f : Int} (h : XCur.Rdr M W g L at_ f) (hs : M ≤ W'.heap.size) (hk : ∀ k, k < M → W'.heap[k]? = W.heap[k]?) : XCur.Rdr M W' g L at_ f := by
  obtain ⟨h1, h2, h3, A, c, hh, hr⟩ := h
  exact ⟨h1, hs, h3, A, c, (hk g h1).trans hh, Kd.R_move hr (fun k hk' => hk k hk'.2)⟩
theorem XCur.Rdr.below {M : Nat} {W W' : World} {g : Nat} {L : List Int} {at_ : Nat} {f : Int} (h : XCur.Rdr M W g L at_ f) (hb : Below W.heap.size W W') : XCur.Rdr M W' g L at_ f :=
  h.keep (Nat.le_trans h.2.1 hb.size) (fun k hk => hb.block k (Nat.lt_of_lt_of_le hk h.2.1))
theorem XCur.Rdr.other {M j : Nat} {W W' : World} {g : Nat} {L : List Int} {at_ : Nat} {f : Int} (h : XCur.Rdr M W g L at_ f) (hg : W.grownBy W' (some j)) (hj : M ≤ j) : XCur.Rdr M W' g L at_ f :=
  h.keep (Nat.le_trans h.2.1 hg.size) (fun k hk => hg.block k (Nat.lt_of_lt_of_le hk h.2.1) (fun e => by cases e; omega))
theorem XCur.Rdr.wider {M M' : Nat} {W : World} {g : Nat} {L : List Int} {at_ : Nat} {f : Int} (h : XCur.Rdr M W g L at_ f) (h1 : M ≤ M') (h2 : M' ≤ W.heap.size) : XCur.Rdr M' W g L at_ f := by
  obtain ⟨a, b, c, A, d, hh, hr⟩ := h
  exact ⟨Nat.lt_of_lt_of_le a h1, h2, c, A, d, hh, Kd.R_mono hr (fun k hk => ⟨hk.1, Nat.lt_of_lt_of_le hk.2 h1⟩)⟩
theorem XCur.Rdr.set1 {M : Nat} {W : World} {g : Nat} {L : List Int} {at_ : Nat} {f : Int} (h : XCur.Rdr M W g L at_ f) (a' : Nat) (h' : a' ≤ L.length) : XCur.Rdr M (W.setCell ⟨g, 1, none⟩ (.int .i64 a')) g L a' f := by
  obtain ⟨h1, h2, h3, A, c, hh, hr⟩ := h
  refine ⟨h1, by simpa using h2, h', A, c, ?_, Kd.R_move hr (fun k hk => heap_setCell_other _ _ _ _ hk.1)⟩
  rw [heap_setCell_same _ _ _ _ _ _ hh]; rfl
theorem XCur.Rdr.set2 {M : Nat} {W : World} {g : Nat} {L : List Int} {at_ : Nat} {f : Int} (h : XCur.Rdr M W g L at_ f) (f' : Int) : XCur.Rdr M (W.setCell ⟨g, 2, none⟩ (.int .i64 f')) g L at_ f' := by
  obtain ⟨h1, h2, h3, A, c, hh, hr⟩ := h
  refine ⟨h1, by simpa using h2, h3, A, c, ?_, Kd.R_move hr (fun k hk => heap_setCell_other _ _ _ _ hk.1)⟩
  rw [heap_setCell_same _ _ _ _ _ _ hh]; rfl
theorem XCur.Rdr.drewN {M : Nat} {W : World} {g : Nat} {L : List Int} {at_ : Nat} {f : Int} (h : XCur.Rdr M W g L at_ f) (n : Nat) : XCur.Rdr M (W.drewN n) g L at_ f := h.below (pw_below_drewN (Below.refl _ _) n)

set_option maxHeartbeats 1000000 in
set_option maxRecDepth 100000 in
theorem XCur.take_short {M : Nat} {W : World} {g : Nat} {L : List Int} {at_ : Nat} {f : Int} (h : XCur.Rdr M W g L at_ f) (hL : L.length ≤ 9223372036854775807) (n : Nat) (hn : L.length - at_ < n) :
    Calls Tryz.prog 63 #[.pointer (some ⟨g, 0, none⟩), .int .u64 n] W fun e w' => e = .panicked [{ v := .iface 27 (.int .i64 71), recovered := false }] ∧ ∃ m, w' = W.drewN m := by
  obtain ⟨A, c, h0, h1, h2, h3, h4, h5, h6⟩ := h.cells
  have hle := h.2.2.1
  clear h h6
  have hsub : IntKind.i64.wrap ((L.length : Int) - (at_ : Int)) = ((L.length - at_ : Nat) : Int) := by rw [IntKind.wrap_i64]; omega
  have hwr : IntKind.u64.wrap ((L.length - at_ : Nat) : Int) = ((L.length - at_ : Nat) : Int) := by simp [IntKind.wrap, IntKind.bits, IntKind.signed]; omega
  have hd : decide (n ≤ L.length - at_) = false := decide_eq_false (by omega)
  clear hn hL hle h5 h2 h3 h4
  go_enter Tryz.func63, Tryz.ntmps63
  go_wp2_with fail
  refine wp_region_held_drew (S := (fun w' => w'.cell? ⟨g, 0, none⟩ = some (.slice A L.length c) ∧ w'.cell? ⟨g, 1, none⟩ = some (.int .i64 at_))) (by kernel_rfl) (⟨by go_simp, by go_simp⟩) (fun hHeld => ?_)
  refine wpAnyH_take (i := 0) (oi := ⟨some 6, _, _, _, _, _⟩) (v := ?v_1) rfl (by kernel_rfl) (by kernel_rfl) (by kernel_rfl) (fun _ _ _ h => h) (Or.inl ⟨by rfl, ?y_1⟩) (by assumption) ?n_1
  case y_1 => (intro w_ hSw; (try dsimp only at hSw); go_simp; try (with_reducible rfl))
  try simp only [Act.put, List.setIfInBounds_toArray, List.set_cons_zero, List.set_cons_succ]
  refine wpAnyH_take (i := 1) (oi := ⟨some 7, _, _, _, _, _⟩) (v := ?v_2) rfl (by kernel_rfl) (by kernel_rfl) (by kernel_rfl) (fun _ _ _ h => h) (Or.inl ⟨by rfl, ?y_2⟩) (by assumption) ?n_2
  case y_2 => (intro w_ hSw; (try dsimp only at hSw); go_simp; try (with_reducible rfl))
  try simp only [Act.put, List.setIfInBounds_toArray, List.set_cons_zero, List.set_cons_succ]
  refine wpAnyH_take (i := 2) (oi := ⟨some 8, _, _, _, _, _⟩) (v := ?v_3) rfl (by kernel_rfl) (by kernel_rfl) (by kernel_rfl) (fun _ _ _ h => h) (Or.inl ⟨by rfl, ?y_3⟩) (by assumption) ?n_3
  case y_3 => (intro w_ hSw; (try dsimp only at hSw); go_simp; try (with_reducible rfl))
  try simp only [Act.put, List.setIfInBounds_toArray, List.set_cons_zero, List.set_cons_succ]
  refine wpAnyH_take (i := 3) (oi := ⟨some 9, _, _, _, _, _⟩) (v := ?v_4) rfl (by kernel_rfl) (by kernel_rfl) (by kernel_rfl) (fun _ _ _ h => h) (Or.inl ⟨by rfl, ?y_4⟩) (by assumption) ?n_4
  case y_4 => (intro w_ hSw; (try dsimp only at hSw); go_simp; try (with_reducible rfl))
  try simp only [Act.put, List.setIfInBounds_toArray, List.set_cons_zero, List.set_cons_succ]
  refine wpAnyH_take (i := 4) (oi := ⟨some 10, _, _, _, _, _⟩) (v := ?v_5) rfl (by kernel_rfl) (by kernel_rfl) (by kernel_rfl) (fun _ _ _ h => h) (Or.inl ⟨by rfl, ?y_5⟩) (by assumption) ?n_5
  case y_5 => (intro w_ hSw; (try dsimp only at hSw); go_simp; try (with_reducible rfl))
  try simp only [Act.put, List.setIfInBounds_toArray, List.set_cons_zero, List.set_cons_succ]
  refine wpAnyH_take (i := 5) (oi := ⟨some 11, _, _, _, _, _⟩) (v := ?v_6) rfl (by kernel_rfl) (by kernel_rfl) (by kernel_rfl) (fun _ _ _ h => h) (Or.inl ⟨by rfl, ?y_6⟩) (by assumption) ?n_6
  case y_6 => (intro w_ hSw; (try dsimp only at hSw); go_simp; try (with_reducible rfl))
  try simp only [Act.put, List.setIfInBounds_toArray, List.set_cons_zero, List.set_cons_succ]
  refine wpAnyH_take (i := 6) (oi := ⟨some 12, _, _, _, _, _⟩) (v := ?v_7) rfl (by kernel_rfl) (by kernel_rfl) (by kernel_rfl) (fun _ _ _ h => h) (Or.inl ⟨by rfl, ?y_7⟩) (by assumption) ?n_7
  case y_7 => (intro w_ hSw; (try dsimp only at hSw); go_simp; try (with_reducible rfl))
  try simp only [Act.put, List.setIfInBounds_toArray, List.set_cons_zero, List.set_cons_succ]
  refine wpAnyH_take (i := 7) (oi := ⟨some 13, _, _, _, _, _⟩) (v := ?v_8) rfl (by kernel_rfl) (by kernel_rfl) (by kernel_rfl) (fun _ _ _ h => h) (Or.inl ⟨by rfl, ?y_8⟩) (by assumption) ?n_8
  case y_8 => (intro w_ hSw; (try dsimp only at hSw); go_simp; try (with_reducible rfl))
  try simp only [Act.put, List.setIfInBounds_toArray, List.set_cons_zero, List.set_cons_succ]
  refine wpAnyH_take (i := 8) (oi := ⟨some 14, _, _, _, _, _⟩) (v := ?v_9) rfl (by kernel_rfl) (by kernel_rfl) (by kernel_rfl) (fun _ _ _ h => h) (Or.inl ⟨by rfl, ?y_9⟩) (by assumption) ?n_9
  case y_9 => (intro w_ hSw; (try dsimp only at hSw); go_simp; try (with_reducible rfl))
  try simp only [Act.put, List.setIfInBounds_toArray, List.set_cons_zero, List.set_cons_succ]
  refine wpAnyH_take (i := 9) (oi := ⟨some 15, _, _, _, _, _⟩) (v := ?v_10) rfl (by kernel_rfl) (by kernel_rfl) (by kernel_rfl) (fun _ _ _ h => h) (Or.inl ⟨by rfl, ?y_10⟩) (by assumption) ?n_10
  case y_10 => (intro w_ hSw; (try dsimp only at hSw); go_simp; try (with_reducible rfl))
  try simp only [Act.put, List.setIfInBounds_toArray, List.set_cons_zero, List.set_cons_succ]
  refine wpAnyH_take (i := 10) (oi := ⟨some 16, _, _, _, _, _⟩) (v := ?v_11) rfl (by kernel_rfl) (by kernel_rfl) (by kernel_rfl) (fun _ _ _ h => h) (Or.inl ⟨by rfl, ?y_11⟩) (by assumption) ?n_11
  case y_11 => (intro w_ hSw; (try dsimp only at hSw); go_simp; try (with_reducible rfl))
  try simp only [Act.put, List.setIfInBounds_toArray, List.set_cons_zero, List.set_cons_succ]
  refine wpAnyH_take (i := 11) (oi := ⟨some 17, _, _, _, _, _⟩) (v := ?v_12) rfl (by kernel_rfl) (by kernel_rfl) (by kernel_rfl) (fun _ _ _ h => h) (Or.inl ⟨by rfl, ?y_12⟩) (by assumption) ?n_12
  case y_12 => (intro w_ hSw; (try dsimp only at hSw); go_simp; try (with_reducible rfl))
  try simp only [Act.put, List.setIfInBounds_toArray, List.set_cons_zero, List.set_cons_succ]
  refine wpAnyH_take (i := 12) (oi := ⟨some 18, _, _, _, _, _⟩) (v := ?v_13) rfl (by kernel_rfl) (by kernel_rfl) (by kernel_rfl) (fun _ _ _ h => h) (Or.inl ⟨by rfl, ?y_13⟩) (by assumption) ?n_13
  case y_13 => (intro w_ hSw; (try dsimp only at hSw); go_simp; try (with_reducible rfl))
  try simp only [Act.put, List.setIfInBounds_toArray, List.set_cons_zero, List.set_cons_succ]
  refine wpAnyH_ready (rs := [13]) (by kernel_rfl) (by simp) ?_
  refine AllReadyH.cons (o := ⟨some 19, _, _, _, _, _⟩) rfl (fun K_ hK_ => ?_) AllReadyH.nil
  go_simp
  refine (XCur.must_no _ _).mono ?_
  rintro e w1 ⟨rfl, rfl⟩
  exact ⟨rfl, rfl, 1, rfl⟩
set_option maxHeartbeats 1000000 in
set_option maxRecDepth 100000 in
theorem XCur.take_ok {M : Nat} {W : World} {g : Nat} {L : List Int} {at_ : Nat} {f : Int} (h : XCur.Rdr M W g L at_ f) (hL : L.length ≤ 140737488351232) (n : Nat) (hn : n ≤ L.length - at_) :
    Calls Tryz.prog 63 #[.pointer (some ⟨g, 0, none⟩), .int .u64 n] W fun e w' => ∃ A' c', e = .returned (.slice A' n c') ∧ n ≤ c' ∧ (Kd.int .u8).C w' A' n ((L.drop at_).take n) ∧ XCur.Rdr M w' g L (at_ + n) f ∧ W.grownBy w' (some g) := by
  obtain ⟨A, c, h0, h1, h2, h3, h4, h5, h6⟩ := h.cells
  have hle := h.2.2.1
  have H := Aside0.mk h
  have H6 := Aside0.mk h6
  obtain ⟨i0, hi0, _, hsz, _⟩ := info_parts info5
  obtain ⟨m, hm⟩ : ∃ m, m = at_ + n := ⟨_, rfl⟩
  obtain ⟨A', hcut, hA, hC⟩ := print_mid_int (P := Tryz.prog) (k := .u8) 26 5 Tryz.underlying26 hi0 hsz A c L (at_ : Int) (m : Int) (by omega) (by omega) (by omega) h5
  rw [Int.toNat_natCast, Int.toNat_natCast] at hcut hA hC
  have hlist : (L.take m).drop at_ = (L.drop at_).take n := by rw [List.drop_take]; congr 1; omega
  have hlen : ((L.drop at_).take n).length = n := by rw [List.length_take, List.length_drop]; omega
  rw [hlist, hlen] at hcut hA hC
  have HA := Aside0.mk hA
  have HC := Aside0.mk hC
  have HN := Aside0.mk hn
  have HLE := Aside0.mk hle
  clear h h6 hA hC hlist hlen hsz hi0
  have hsub : IntKind.i64.wrap ((L.length : Int) - (at_ : Int)) = ((L.length - at_ : Nat) : Int) := by rw [IntKind.wrap_i64]; omega
  have hwr : IntKind.u64.wrap ((L.length - at_ : Nat) : Int) = ((L.length - at_ : Nat) : Int) := by simp [IntKind.wrap, IntKind.bits, IntKind.signed]; omega
  have hwn : IntKind.i64.wrap (n : Int) = (n : Int) := by rw [IntKind.wrap_i64]; omega
  have hadd : IntKind.i64.wrap ((at_ : Int) + (n : Int)) = (m : Int) := by rw [IntKind.wrap_i64]; omega
  have hd : decide (n ≤ L.length - at_) = true := decide_eq_true (by omega)
  have HM := Aside0.mk hm
  clear hn hL hle h5 h2 h4 hm
  go_enter Tryz.func63, Tryz.ntmps63
  go_wp2_with fail
  refine wp_region_held_drew (S := (fun w' => w'.cell? ⟨g, 0, none⟩ = some (.slice A L.length c) ∧ w'.cell? ⟨g, 1, none⟩ = some (.int .i64 at_))) (by kernel_rfl) (⟨by go_simp, by go_simp⟩) (fun hHeld => ?_)
  refine wpAnyH_take (i := 0) (oi := ⟨some 6, _, _, _, _, _⟩) (v := ?v_14) rfl (by kernel_rfl) (by kernel_rfl) (by kernel_rfl) (fun _ _ _ h => h) (Or.inl ⟨by rfl, ?y_14⟩) (by assumption) ?n_14
  case y_14 => (intro w_ hSw; (try dsimp only at hSw); go_simp; try (with_reducible rfl))
  try simp only [Act.put, List.setIfInBounds_toArray, List.set_cons_zero, List.set_cons_succ]
  refine wpAnyH_take (i := 1) (oi := ⟨some 7, _, _, _, _, _⟩) (v := ?v_15) rfl (by kernel_rfl) (by kernel_rfl) (by kernel_rfl) (fun _ _ _ h => h) (Or.inl ⟨by rfl, ?y_15⟩) (by assumption) ?n_15
  case y_15 => (intro w_ hSw; (try dsimp only at hSw); go_simp; try (with_reducible rfl))
  try simp only [Act.put, List.setIfInBounds_toArray, List.set_cons_zero, List.set_cons_succ]
  refine wpAnyH_take (i := 2) (oi := ⟨some 8, _, _, _, _, _⟩) (v := ?v_16) rfl (by kernel_rfl) (by kernel_rfl) (by kernel_rfl) (fun _ _ _ h => h) (Or.inl ⟨by rfl, ?y_16⟩) (by assumption) ?n_16
  case y_16 => (intro w_ hSw; (try dsimp only at hSw); go_simp; try (with_reducible rfl))
  try simp only [Act.put, List.setIfInBounds_toArray, List.set_cons_zero, List.set_cons_succ]
  refine wpAnyH_take (i := 3) (oi := ⟨some 9, _, _, _, _, _⟩) (v := ?v_17) rfl (by kernel_rfl) (by kernel_rfl) (by kernel_rfl) (fun _ _ _ h => h) (Or.inl ⟨by rfl, ?y_17⟩) (by assumption) ?n_17
  case y_17 => (intro w_ hSw; (try dsimp only at hSw); go_simp; try (with_reducible rfl))
  try simp only [Act.put, List.setIfInBounds_toArray, List.set_cons_zero, List.set_cons_succ]
  refine wpAnyH_take (i := 4) (oi := ⟨some 10, _, _, _, _, _⟩) (v := ?v_18) rfl (by kernel_rfl) (by kernel_rfl) (by kernel_rfl) (fun _ _ _ h => h) (Or.inl ⟨by rfl, ?y_18⟩) (by assumption) ?n_18
  case y_18 => (intro w_ hSw; (try dsimp only at hSw); go_simp; try (with_reducible rfl))
  try simp only [Act.put, List.setIfInBounds_toArray, List.set_cons_zero, List.set_cons_succ]
  refine wpAnyH_take (i := 5) (oi := ⟨some 11, _, _, _, _, _⟩) (v := ?v_19) rfl (by kernel_rfl) (by kernel_rfl) (by kernel_rfl) (fun _ _ _ h => h) (Or.inl ⟨by rfl, ?y_19⟩) (by assumption) ?n_19
  case y_19 => (intro w_ hSw; (try dsimp only at hSw); go_simp; try (with_reducible rfl))
  try simp only [Act.put, List.setIfInBounds_toArray, List.set_cons_zero, List.set_cons_succ]
  refine wpAnyH_take (i := 6) (oi := ⟨some 12, _, _, _, _, _⟩) (v := ?v_20) rfl (by kernel_rfl) (by kernel_rfl) (by kernel_rfl) (fun _ _ _ h => h) (Or.inl ⟨by rfl, ?y_20⟩) (by assumption) ?n_20
  case y_20 => (intro w_ hSw; (try dsimp only at hSw); go_simp; try (with_reducible rfl))
  try simp only [Act.put, List.setIfInBounds_toArray, List.set_cons_zero, List.set_cons_succ]
  refine wpAnyH_take (i := 7) (oi := ⟨some 13, _, _, _, _, _⟩) (v := ?v_21) rfl (by kernel_rfl) (by kernel_rfl) (by kernel_rfl) (fun _ _ _ h => h) (Or.inl ⟨by rfl, ?y_21⟩) (by assumption) ?n_21
  case y_21 => (intro w_ hSw; (try dsimp only at hSw); go_simp; try (with_reducible rfl))
  try simp only [Act.put, List.setIfInBounds_toArray, List.set_cons_zero, List.set_cons_succ]
  refine wpAnyH_take (i := 8) (oi := ⟨some 14, _, _, _, _, _⟩) (v := ?v_22) rfl (by kernel_rfl) (by kernel_rfl) (by kernel_rfl) (fun _ _ _ h => h) (Or.inl ⟨by rfl, ?y_22⟩) (by assumption) ?n_22
  case y_22 => (intro w_ hSw; (try dsimp only at hSw); go_simp; try (with_reducible rfl))
  try simp only [Act.put, List.setIfInBounds_toArray, List.set_cons_zero, List.set_cons_succ]
  refine wpAnyH_take (i := 9) (oi := ⟨some 15, _, _, _, _, _⟩) (v := ?v_23) rfl (by kernel_rfl) (by kernel_rfl) (by kernel_rfl) (fun _ _ _ h => h) (Or.inl ⟨by rfl, ?y_23⟩) (by assumption) ?n_23
  case y_23 => (intro w_ hSw; (try dsimp only at hSw); go_simp; try (with_reducible rfl))
  try simp only [Act.put, List.setIfInBounds_toArray, List.set_cons_zero, List.set_cons_succ]
  refine wpAnyH_take (i := 10) (oi := ⟨some 16, _, _, _, _, _⟩) (v := ?v_24) rfl (by kernel_rfl) (by kernel_rfl) (by kernel_rfl) (fun _ _ _ h => h) (Or.inl ⟨by rfl, ?y_24⟩) (by assumption) ?n_24
  case y_24 => (intro w_ hSw; (try dsimp only at hSw); go_simp; try (with_reducible rfl))
  try simp only [Act.put, List.setIfInBounds_toArray, List.set_cons_zero, List.set_cons_succ]
  refine wpAnyH_take (i := 11) (oi := ⟨some 17, _, _, _, _, _⟩) (v := ?v_25) rfl (by kernel_rfl) (by kernel_rfl) (by kernel_rfl) (fun _ _ _ h => h) (Or.inl ⟨by rfl, ?y_25⟩) (by assumption) ?n_25
  case y_25 => (intro w_ hSw; (try dsimp only at hSw); go_simp; try (with_reducible rfl))
  try simp only [Act.put, List.setIfInBounds_toArray, List.set_cons_zero, List.set_cons_succ]
  refine wpAnyH_take (i := 12) (oi := ⟨some 18, _, _, _, _, _⟩) (v := ?v_26) rfl (by kernel_rfl) (by kernel_rfl) (by kernel_rfl) (fun _ _ _ h => h) (Or.inl ⟨by rfl, ?y_26⟩) (by assumption) ?n_26
  case y_26 => (intro w_ hSw; (try dsimp only at hSw); go_simp; try (with_reducible rfl))
  try simp only [Act.put, List.setIfInBounds_toArray, List.set_cons_zero, List.set_cons_succ]
  refine wpAnyH_ready (rs := [13]) (by kernel_rfl) (by simp) ?_
  refine AllReadyH.cons (o := ⟨some 19, _, _, _, _, _⟩) rfl (fun K_ hK_ => ?_) AllReadyH.nil
  go_simp
  refine (XCur.must_yes _ _).mono ?_
  rintro e w1 ⟨rfl, rfl⟩
  refine hK_.out _ _ (⟨by go_simp, by go_simp⟩) (fun hHeld => ?_)
  clear hK_ K_
  try simp only [Act.put, List.setIfInBounds_toArray, List.set_cons_zero, List.set_cons_succ]
  refine wpAnyH_done (by kernel_rfl) ?_ _
  go_wp2_with fail
  refine wp_region_held_drew (S := (fun w' => w'.cell? ⟨g, 0, none⟩ = some (.slice A L.length c) ∧ w'.cell? ⟨g, 1, none⟩ = some (.int .i64 at_))) (by kernel_rfl) (⟨by go_simp, by go_simp⟩) (fun hHeld => ?_)
  refine wpAnyH_take (i := 0) (oi := ⟨some 20, _, _, _, _, _⟩) (v := ?v_27) rfl (by kernel_rfl) (by kernel_rfl) (by kernel_rfl) (fun _ _ _ h => h) (Or.inl ⟨by rfl, ?y_27⟩) (by assumption) ?n_27
  case y_27 => (intro w_ hSw; (try dsimp only at hSw); go_simp; try (with_reducible rfl))
  try simp only [Act.put, List.setIfInBounds_toArray, List.set_cons_zero, List.set_cons_succ]
  refine wpAnyH_take (i := 1) (oi := ⟨some 21, _, _, _, _, _⟩) (v := ?v_28) rfl (by kernel_rfl) (by kernel_rfl) (by kernel_rfl) (fun _ _ _ h => h) (Or.inl ⟨by rfl, ?y_28⟩) (by assumption) ?n_28
  case y_28 => (intro w_ hSw; (try dsimp only at hSw); go_simp; try (with_reducible rfl))
  try simp only [Act.put, List.setIfInBounds_toArray, List.set_cons_zero, List.set_cons_succ]
  refine wpAnyH_take (i := 2) (oi := ⟨some 22, _, _, _, _, _⟩) (v := ?v_29) rfl (by kernel_rfl) (by kernel_rfl) (by kernel_rfl) (fun _ _ _ h => h) (Or.inl ⟨by rfl, ?y_29⟩) (by assumption) ?n_29
  case y_29 => (intro w_ hSw; (try dsimp only at hSw); go_simp; try (with_reducible rfl))
  try simp only [Act.put, List.setIfInBounds_toArray, List.set_cons_zero, List.set_cons_succ]
  refine wpAnyH_take (i := 3) (oi := ⟨some 23, _, _, _, _, _⟩) (v := ?v_30) rfl (by kernel_rfl) (by kernel_rfl) (by kernel_rfl) (fun _ _ _ h => h) (Or.inl ⟨by rfl, ?y_30⟩) (by assumption) ?n_30
  case y_30 => (intro w_ hSw; (try dsimp only at hSw); go_simp; try (with_reducible rfl))
  try simp only [Act.put, List.setIfInBounds_toArray, List.set_cons_zero, List.set_cons_succ]
  refine wpAnyH_take (i := 4) (oi := ⟨some 24, _, _, _, _, _⟩) (v := ?v_31) rfl (by kernel_rfl) (by kernel_rfl) (by kernel_rfl) (fun _ _ _ h => h) (Or.inl ⟨by rfl, ?y_31⟩) (by assumption) ?n_31
  case y_31 => (intro w_ hSw; (try dsimp only at hSw); go_simp; try (with_reducible rfl))
  try simp only [Act.put, List.setIfInBounds_toArray, List.set_cons_zero, List.set_cons_succ]
  refine wpAnyH_take (i := 5) (oi := ⟨some 25, _, _, _, _, _⟩) (v := ?v_32) rfl (by kernel_rfl) (by kernel_rfl) (by kernel_rfl) (fun _ _ _ h => h) (Or.inl ⟨by rfl, ?y_32⟩) (by assumption) ?n_32
  case y_32 => (intro w_ hSw; (try dsimp only at hSw); go_simp; try (with_reducible rfl))
  try simp only [Act.put, List.setIfInBounds_toArray, List.set_cons_zero, List.set_cons_succ]
  refine wpAnyH_take (i := 6) (oi := ⟨some 26, _, _, _, _, _⟩) (v := ?v_33) rfl (by kernel_rfl) (by kernel_rfl) (by kernel_rfl) (fun _ _ _ h => h) (Or.inl ⟨by rfl, ?y_33⟩) (by assumption) ?n_33
  case y_33 => (intro w_ hSw; (try dsimp only at hSw); go_simp; try (with_reducible rfl))
  try simp only [Act.put, List.setIfInBounds_toArray, List.set_cons_zero, List.set_cons_succ]
  refine wpAnyH_take (i := 7) (oi := ⟨some 27, _, _, _, _, _⟩) (v := ?v_34) rfl (by kernel_rfl) (by kernel_rfl) (by kernel_rfl) (fun _ _ _ h => h) (Or.inl ⟨by rfl, ?y_34⟩) (by assumption) ?n_34
  case y_34 => (intro w_ hSw; (try dsimp only at hSw); go_simp; try (with_reducible rfl))
  try simp only [Act.put, List.setIfInBounds_toArray, List.set_cons_zero, List.set_cons_succ]
  refine wpAnyH_take (i := 8) (oi := ⟨some 28, _, _, _, _, _⟩) (v := ?v_35) rfl (by kernel_rfl) (by kernel_rfl) (by kernel_rfl) (fun _ _ _ h => h) (Or.inl ⟨by rfl, ?y_35⟩) (by assumption) ?n_35
  case y_35 => (intro w_ hSw; (try dsimp only at hSw); go_simp; try (with_reducible rfl))
  try simp only [Act.put, List.setIfInBounds_toArray, List.set_cons_zero, List.set_cons_succ]
  refine wpAnyH_take (i := 9) (oi := ⟨some 29, _, _, _, _, _⟩) (v := ?v_36) rfl (by kernel_rfl) (by kernel_rfl) (by kernel_rfl) (fun _ _ _ h => h) (Or.inl ⟨by rfl, ?y_36⟩) (by assumption) ?n_36
  case y_36 => (intro w_ hSw; (try dsimp only at hSw); go_simp; try (with_reducible rfl))
  try simp only [Act.put, List.setIfInBounds_toArray, List.set_cons_zero, List.set_cons_succ]
  refine wpAnyH_take (i := 10) (oi := ⟨some 30, _, _, _, _, _⟩) (v := ?v_37) rfl (by kernel_rfl) (by kernel_rfl) (by kernel_rfl) (fun _ _ _ h => h) (Or.inl ⟨by rfl, ?y_37⟩) (by assumption) ?n_37
  case y_37 => (intro w_ hSw; (try dsimp only at hSw); go_simp; try (with_reducible rfl))
  try simp only [Act.put, List.setIfInBounds_toArray, List.set_cons_zero, List.set_cons_succ]
  refine wpAnyH_take (i := 11) (oi := ⟨some 31, _, _, _, _, _⟩) (v := ?v_38) rfl (by kernel_rfl) (by kernel_rfl) (by kernel_rfl) (fun _ _ _ h => h) (Or.inl ⟨by rfl, ?y_38⟩) (by assumption) ?n_38
  case y_38 => (intro w_ hSw; (try dsimp only at hSw); go_simp; try (with_reducible rfl))
  try simp only [Act.put, List.setIfInBounds_toArray, List.set_cons_zero, List.set_cons_succ]
  refine wpAnyH_take (i := 12) (oi := ⟨some 32, _, _, _, _, _⟩) (v := ?v_39) rfl (by kernel_rfl) (by kernel_rfl) (by kernel_rfl) (fun _ _ _ h => h) (Or.inl ⟨by rfl, ?y_39⟩) (by assumption) ?n_39
  case y_39 => (intro w_ hSw; (try dsimp only at hSw); go_simp; try (with_reducible rfl))
  try simp only [Act.put, List.setIfInBounds_toArray, List.set_cons_zero, List.set_cons_succ]
  refine wpAnyH_take (i := 13) (oi := ⟨some 33, _, _, _, _, _⟩) (v := ?v_40) rfl (by kernel_rfl) (by kernel_rfl) (by kernel_rfl) (fun _ _ _ h => h) (Or.inl ⟨by rfl, ?y_40⟩) (by assumption) ?n_40
  case y_40 => (intro w_ hSw; (try dsimp only at hSw); go_simp; try (with_reducible rfl))
  try simp only [Act.put, List.setIfInBounds_toArray, List.set_cons_zero, List.set_cons_succ]
  refine wpAnyH_take (i := 14) (oi := ⟨some 34, _, _, _, _, _⟩) (v := ?v_41) rfl (by kernel_rfl) (by kernel_rfl) (by kernel_rfl) (fun _ _ _ h => h) (Or.inl ⟨by rfl, ?y_41⟩) (by assumption) ?n_41
  case y_41 => (intro w_ hSw; (try dsimp only at hSw); go_simp; try (with_reducible rfl))
  try simp only [Act.put, List.setIfInBounds_toArray, List.set_cons_zero, List.set_cons_succ]
  refine wpAnyH_take (i := 15) (oi := ⟨some 35, _, _, _, _, _⟩) (v := ?v_42) rfl (by kernel_rfl) (by kernel_rfl) (by kernel_rfl) (fun _ _ _ h => h) (Or.inl ⟨by rfl, ?y_42⟩) (by assumption) ?n_42
  case y_42 => (intro w_ hSw; (try dsimp only at hSw); go_simp; try (with_reducible rfl))
  try simp only [Act.put, List.setIfInBounds_toArray, List.set_cons_zero, List.set_cons_succ]
  refine wpAnyH_take (i := 16) (oi := ⟨some 5, _, _, _, _, _⟩) (v := ?v_43) rfl (by kernel_rfl) (by kernel_rfl) (by kernel_rfl) (fun _ _ _ h => h) (Or.inl ⟨by rfl, ?y_43⟩) (by assumption) ?n_43
  case y_43 => (intro w_ hSw; (try dsimp only at hSw); go_simp; try (with_reducible rfl))
  try simp only [Act.put, List.setIfInBounds_toArray, List.set_cons_zero, List.set_cons_succ]
  refine wpAnyH_done (by kernel_rfl) ?_ _
  go_wp2_with fail
  go_ret
  rw [← HM.out]
  have hmL : m ≤ L.length := by have := HM.out; have := HN.out; have := HLE.out; omega
  refine ⟨A', c - at_, rfl, HC.out, Kd.C_of_reads (h1 := fun _ => rfl) (HA.out _ (Kd.reads_of_C (Kd.R_reads' (Kd.R_move H6.out ?_)).2.2)), ?_, ?_⟩
  · intro k hk
    exact heap_setCell_other _ _ _ _ hk.1
  · exact (H.out.drewN 2).set1 m hmL
  · exact ⟨rfl, rfl, rfl, by simp, fun k _ hk => heap_setCell_other _ _ _ _ (fun e => hk (by rw [e]))⟩

/-- what number() reads from place a on: the number and the place behind it, or the error -/
def XCur.num (L : List Int) : Nat → Nat → Nat → Int → Except Int (Int × Nat)
  | 0, _, _, _ => .error 0
  | k + 1, a, i, v => if a < L.length then
      (if i < 9 ∨ rd L (a : Int) ≤ 1 then
        (if rd L (a : Int) < 128 then (if 0 < rd L (a : Int) ∨ i = 0 then .ok (Go.bits .or .u64 v (shl .u64 (IntKind.u64.wrap (Go.bits .andNot .u8 (rd L (a : Int)) 128)) (7 * (i : Int))), a + 1) else .error 70)
        else XCur.num L k (a + 1) (i + 1) (Go.bits .or .u64 v (shl .u64 (IntKind.u64.wrap (Go.bits .andNot .u8 (rd L (a : Int)) 128)) (7 * (i : Int)))))
      else .error 70)
    else .error 71
def XCur.NumPost (M : Nat) (W : World) (g : Nat) (L : List Int) (f : Int) (r : Except Int (Int × Nat)) (e : Ending) (w' : World) : Prop :=
  W.grownBy w' (some g) ∧ match r with
    | .ok (v, a) => e = .returned (.int .u64 v) ∧ XCur.Rdr M w' g L a f
    | .error c => e = .panicked [{ v := .iface 27 (.int .i64 c), recovered := false }] ∧ ∃ a, XCur.Rdr M w' g L a f
set_option maxHeartbeats 4000000 in
set_option maxRecDepth 100000 in
theorem XCur.number {M : Nat} {W : World} {g : Nat} {L : List Int} {at_ : Nat} {f : Int} (h : XCur.Rdr M W g L at_ f) (hL : L.length ≤ 140737488351232) :
    Calls Tryz.prog 79 #[.pointer (some ⟨g, 0, none⟩)] W (XCur.NumPost M W g L f (XCur.num L 10 at_ 0 0)) := by
  have H := Aside0.mk h
  have HL := Aside0.mk hL
  obtain ⟨R, hR⟩ : ∃ R, XCur.num L 10 at_ 0 0 = R := ⟨_, rfl⟩
  rw [hR]
  have HR := Aside0.mk hR
  clear h hL hR
  go_enter Tryz.func79, Tryz.ntmps79
  go_wp2_with fail
  (try simp only [add_plain])
  go_loopg [3, 4] 11 (fun kq v3 v4 w' => ∃ (i a : Nat) (v : Int), i ≤ 9 ∧ Aside0 (kq + i = 11) ∧ v3 = .int .u64 v ∧ v4 = .int .i64 (i : Int) ∧ Aside0 (XCur.Rdr M w' g L a f) ∧ Aside0 (XCur.num L (10 - i) a i v = R) ∧ Aside0 (W.grownBy w' (some g)))
  case atStart => exact ⟨0, at_, 0, by omega, ⟨rfl⟩, rfl, rfl, H, HR, ⟨⟨rfl, rfl, rfl, Nat.le_refl _, fun _ _ _ => rfl⟩⟩⟩
  case round =>
    clear HR
    obtain ⟨i, a, v, hi, HK, rfl, rfl, HD, HR, HG⟩ := hrel
    clear H
    obtain ⟨k1, rfl⟩ : ∃ k1, gk = k1 + 1 := ⟨gk - 1, by have := HK.out; omega⟩
    have hR := HR.out
    rw [show 10 - i = (9 - i) + 1 by omega, XCur.num] at hR
    by_cases hlt : a < L.length
    · rw [if_pos hlt] at hR
      have hwi : IntKind.i64.wrap (7 * (i : Int)) = 7 * (i : Int) := by rw [IntKind.wrap_i64]; omega
      have hge : (0 : Int) ≤ 7 * (i : Int) := by omega
      have hl1 : ((L.drop a).take 1).length = 1 := by simp; omega
      have hl2 : rd ((L.drop a).take 1) 0 = rd L (a : Int) := by simp [rd]
      go_wp2_with fail
      refine (XCur.take_ok HD.out HL.out 1 (by omega)).mono ?_
      rintro e w1 ⟨A1, c1, rfl, hc1, hC1, hD1, hg1⟩
      obtain ⟨ad, rfl, hx⟩ := Kd.at_int hC1 0 (by omega) (by omega)
      rw [hl2, show ad.add (0 : Int).toNat = ad from by simp [Addr.add]] at hx
      have HD1 := Aside0.mk hD1
      have HG1 := Aside0.mk (HG.out.trans hg1)
      clear hl1 hl2 hC1 hD1 hg1 hc1 HD HG HR
      have HI := Aside0.mk hi
      generalize rd L (a : Int) = cc at hx hR
      have yes := XCur.must_yes
      by_cases h9 : i < 9
      · rw [if_pos (Or.inl h9)] at hR
        have hd9 : decide ((i : Int) < 9) = true := decide_eq_true (by omega)
        by_cases h128 : cc < 128
        · rw [if_pos h128] at hR
          by_cases hc0 : 0 < cc
          · rw [if_pos (Or.inl hc0)] at hR
            obtain rfl := hR
            clear hi h9
            go_wp2_with (go_at_call 61; refine (yes _ _).mono ?_; rintro e w' ⟨rfl, rfl⟩)
            go_ret
            exact ⟨HG1.out, rfl, HD1.out⟩
          · by_cases hi0 : i = 0
            · subst hi0
              rw [if_pos (Or.inr rfl)] at hR
              obtain rfl := hR
              clear hi h9 hd9
              go_wp2_with (go_at_call 61; refine (yes _ _).mono ?_; rintro e w' ⟨rfl, rfl⟩)
              go_ret
              have hs0 : shl .u64 (IntKind.u64.wrap (Go.bits .andNot .u8 cc 128)) (7 * ((0 : Nat) : Int)) = IntKind.u64.wrap (IntKind.u64.wrap (Go.bits .andNot .u8 cc 128)) := by
                rw [← shl_small (k := .u64) (x := IntKind.u64.wrap (Go.bits .andNot .u8 cc 128)) (y := 7 * ((0 : Nat) : Int)) rfl (by decide)]
                simp
              exact ⟨HG1.out, by rw [hs0]; rfl, HD1.out⟩
            · rw [if_neg (by omega)] at hR
              obtain rfl := hR
              have hcb : decide (0 < cc) = false := decide_eq_false hc0
              have hib : ((i : Int) == 0) = false := by simp; omega
              clear hi h9 hi0
              go_wp2_with fail
              refine (yes _ _).mono ?_
              rintro e w' ⟨rfl, rfl⟩
              go_wp2_with fail
              refine (XCur.must_no _ _).mono ?_
              rintro e w' ⟨rfl, rfl⟩
              exact ⟨rfl, HG1.out, rfl, _, HD1.out⟩
        · rw [if_neg h128] at hR
          have HR1 := Aside0.mk hR
          have H9 := Aside0.mk h9
          clear hR hi h9
          go_wp2_with (go_at_call 61; refine (yes _ _).mono ?_; rintro e w' ⟨rfl, rfl⟩)
          go_roundg k1
          case measure => omega
          case rel => exact ⟨i + 1, a + 1, _, by have := H9.out; omega, ⟨by have := HK.out; omega⟩, rfl, congrArg (Value.int .i64) (by have := H9.out; unfold wrap64; omega), HD1, ⟨by rw [show 10 - (i + 1) = 9 - i by omega]; exact HR1.out⟩, HG1⟩
      · obtain rfl : i = 9 := by omega
        clear hi h9
        by_cases h1 : cc ≤ 1
        · rw [if_pos (Or.inr h1), if_pos (by omega)] at hR
          have h128 : cc < 128 := by omega
          by_cases hc0 : 0 < cc
          · rw [if_pos (Or.inl hc0)] at hR
            obtain rfl := hR
            go_wp2_with (go_at_call 61; refine (yes _ _).mono ?_; rintro e w' ⟨rfl, rfl⟩)
            go_ret
            exact ⟨HG1.out, rfl, HD1.out⟩
          · rw [if_neg (by omega)] at hR
            obtain rfl := hR
            have hcb : decide (0 < cc) = false := decide_eq_false hc0
            go_wp2_with fail
            refine (yes _ _).mono ?_
            rintro e w' ⟨rfl, rfl⟩
            go_wp2_with fail
            refine (XCur.must_no _ _).mono ?_
            rintro e w' ⟨rfl, rfl⟩
            exact ⟨rfl, HG1.out, rfl, _, HD1.out⟩
        · rw [if_neg (by omega)] at hR
          obtain rfl := hR
          have hcb : decide (cc ≤ 1) = false := decide_eq_false h1
          go_wp2_with (go_at_call 61; refine (XCur.must_no _ _).mono ?_; rintro e w' ⟨rfl, rfl⟩)
          exact ⟨rfl, HG1.out, rfl, _, HD1.out⟩
    · rw [if_neg hlt] at hR
      obtain rfl := hR
      go_wp2_with fail
      refine (XCur.take_short HD.out (by have := HL.out; omega) 1 (by omega)).mono ?_
      rintro e w1 ⟨rfl, m, rfl⟩
      exact ⟨rfl, HG.out.trans ⟨rfl, rfl, rfl, Nat.le_refl _, fun _ _ _ => rfl⟩, rfl, _, HD.out.drewN m⟩

/-- blocks below M but g are as they were -/
structure XCur.Fr (M g : Nat) (W W' : World) : Prop where
  os : W'.os = W.os
  tape : W'.tape = W.tape
  output : W'.output = W.output
  size : W.heap.size ≤ W'.heap.size
  block : ∀ k, k < M → k ≠ g → W'.heap[k]? = W.heap[k]?
theorem XCur.Fr.refl (M g : Nat) (W : World) : XCur.Fr M g W W := ⟨rfl, rfl, rfl, Nat.le_refl _, fun _ _ _ => rfl⟩
theorem XCur.Fr.trans {M g : Nat} {a b c : World} (h : XCur.Fr M g a b) (k : XCur.Fr M g b c) : XCur.Fr M g a c :=
  ⟨k.os.trans h.os, k.tape.trans h.tape, k.output.trans h.output, Nat.le_trans h.size k.size, fun j h1 h2 => (k.block j h1 h2).trans (h.block j h1 h2)⟩
theorem XCur.Fr.of_below {M g B : Nat} {W W' : World} (h : Below B W W') (hM : M ≤ B) : XCur.Fr M g W W' := ⟨h.os, h.tape, h.output, h.size, fun k hk _ => h.block k (Nat.lt_of_lt_of_le hk hM)⟩
theorem XCur.Fr.of_grown {M g : Nat} {W W' : World} (h : W.grownBy W' (some g)) (hM : M ≤ W.heap.size) : XCur.Fr M g W W' := ⟨h.os, h.tape, h.output, h.size, fun k hk hne => h.block k (Nat.lt_of_lt_of_le hk hM) (fun e => hne (by cases e; rfl))⟩
theorem XCur.Fr.set {M g j : Nat} (W : World) (o : Nat) (v : Value) (hj : j = g ∨ M ≤ j) : XCur.Fr M g W (W.setCell ⟨j, o, none⟩ v) :=
  ⟨rfl, rfl, rfl, by simp, fun k h1 h2 => heap_setCell_other _ _ _ _ (by rcases hj with h | h <;> simp <;> omega)⟩
/-- what a reading's own part leaves: it returns, and what is good holds; or it gives up with a number -/
def XCur.Body (M N g : Nat) (L : List Int) (Ok : World → Prop) (Q : Int → World → Prop) (W1 : World) (e : Ending) (w' : World) : Prop :=
  XCur.Fr M g W1 w' ∧ (∀ k, N ≤ k → k < W1.heap.size → w'.heap[k]? = W1.heap[k]?) ∧
  ((e = .returned (.tuple #[]) ∧ Ok w') ∨ ∃ c a, e = .panicked [{ v := .iface 27 (.int .i64 c), recovered := false }] ∧ XCur.Rdr M w' g L a 0 ∧ Q c w')
def XCur.Done (M g : Nat) (L : List Int) (at_ : Nat) (Ok : World → Prop) (Q : Int → World → Prop) (W : World) (e : Ending) (w' : World) : Prop :=
  e = .returned (.tuple #[]) ∧ XCur.Fr M g W w' ∧ (Ok w' ∨ ∃ c, XCur.Rdr M w' g L at_ c ∧ Q c w')
section
variable {P : Program} {ops : Array Oper} {Q : Exit → Act → List Frame → World → Prop} {a : Act} {cs : List Frame} {w w' : World} {o : Oper} {i : Nat} {rest : List Nat} {v : Value}
theorem XCur.opS (ho : ops[i]? = some o) (hw : Region.wanted o (yielded ops a.tmps) = true) (hr : (execOp a.eval o).run P w = .ok (.value v) w') (h : wpOpsS P ops Q rest (a.put o.dst v) cs w') : wpOpsS P ops Q (i :: rest) a cs w := by
  simp only [wpOpsS, ho, hw, if_true, hr]; exact h
theorem XCur.opS_recover {cs' : List Frame} (ho : ops[i]? = some o) (hw : Region.wanted o (yielded ops a.tmps) = true) (hr : (execOp a.eval o).run P w = .ok .recover w') (hd : recoverD cs = some (v, cs')) (h : wpOpsS P ops Q rest (a.put o.dst v) cs' w') : wpOpsS P ops Q (i :: rest) a cs w := by
  simp only [wpOpsS, ho, hw, if_true, hr, hd]; exact h
theorem XCur.opS_recover_none (ho : ops[i]? = some o) (hw : Region.wanted o (yielded ops a.tmps) = true) (hr : (execOp a.eval o).run P w = .ok .recover w') (hd : recoverD cs = none) (h : wpOpsS P ops Q rest (a.put o.dst .nilIface) cs w') : wpOpsS P ops Q (i :: rest) a cs w := by
  simp only [wpOpsS, ho, hw, if_true, hr, hd]; exact h
end
theorem XCur.ta_nil (w : World) : (Instr.typeAssert .nilIface 20 27 true).run Tryz.prog w = .ok (.tuple #[.int .i64 0, .bool false]) w := by kernel_rfl
theorem XCur.ta_err (c : Int) (w : World) : (Instr.typeAssert (.iface 27 (.int .i64 c)) 20 27 true).run Tryz.prog w = .ok (.tuple #[.int .i64 c, .bool true]) w := by kernel_rfl
set_option maxHeartbeats 1000000 in
set_option maxRecDepth 100000 in
theorem XCur.idle (p q : Option Addr) (w : World) :
    CallsD Tryz.prog 81 #[.pointer p, .pointer q] .returning w fun e u' w' => e = .returned (.tuple #[]) ∧ u' = .returning ∧ w' = w := by
  have tn := XCur.ta_nil
  refine callsD_of_wpS Tryz.func81 rfl fun c₀ cs hu => ?_
  simp only [Tryz.ntmps81, List.size_toArray, List.length_cons, List.length_nil, Nat.reduceAdd, Nat.reduceSub, Array.replicate_succ, Array.replicate_zero, List.push_toArray, List.append_toArray, List.nil_append, List.cons_append]
  apply wpS_seq
  apply wpS_region
  show wpOpsS _ _ _ [0, 1, 2, 3, 4, 5, 6] _ _ _
  refine XCur.opS_recover_none rfl rfl (w' := w) ?_ ?_ ?_
  · rfl
  · simp [recoverD, hu]
  refine XCur.opS rfl rfl (w' := w) (v := .tuple #[.int .i64 0, .bool false]) ?_ ?_
  · go_simp
  refine XCur.opS rfl rfl (w' := w) (v := .tuple #[.int .i64 0, .bool false]) rfl ?_
  refine XCur.opS rfl rfl (w' := w) (v := .int .i64 0) rfl ?_
  refine XCur.opS rfl rfl (w' := w) (v := .bool false) rfl ?_
  refine XCur.opS rfl rfl (w' := w) (v := .int .i64 0) rfl ?_
  refine XCur.opS rfl rfl (w' := w) (v := .bool false) rfl ?_
  simp only [Act.put, Exit.thenS, wpOpsS, List.setIfInBounds_toArray, List.set_cons_zero, List.set_cons_succ]
  refine wpS_of_wp ?_
  go_wp2_with fail
  have hc : ({ c₀ with mode := FrameMode.returning } : Frame) = c₀ := by cases c₀; simp at hu; subst hu; rfl
  refine ⟨rfl, .returning, by rw [hc], .tuple #[], results_none rfl _ _ _, rfl, rfl, rfl⟩
set_option maxHeartbeats 1000000 in
set_option maxRecDepth 100000 in
theorem XCur.catch {g b1 b2 : Nat} {a0 c : Int} (w : World) (h1 : w.cell? ⟨b1, 0, none⟩ = some (.int .i64 a0)) (h2 : w.cell? ⟨b2, 0, none⟩ = some (.pointer (some ⟨g, 0, none⟩))) (h3 : (w.cell? ⟨g, 1, none⟩).isSome = true) (h4 : (w.cell? ⟨g, 2, none⟩).isSome = true) (f3 : w.frozen? ⟨g, 1, none⟩ = false) (f4 : w.frozen? ⟨g, 2, none⟩ = false) :
    CallsD Tryz.prog 81 #[.pointer (some ⟨b1, 0, none⟩), .pointer (some ⟨b2, 0, none⟩)] (.panicking [{ v := .iface 27 (.int .i64 c), recovered := false }]) w fun e u' w' => e = .returned (.tuple #[]) ∧ u' = .panicking [{ v := .iface 27 (.int .i64 c), recovered := true }] ∧ w' = (w.setCell ⟨g, 1, none⟩ (.int .i64 a0)).setCell ⟨g, 2, none⟩ (.int .i64 c) := by
  have tn := XCur.ta_err
  refine callsD_of_wpS Tryz.func81 rfl fun c₀ cs hu => ?_
  simp only [Tryz.ntmps81, List.size_toArray, List.length_cons, List.length_nil, Nat.reduceAdd, Nat.reduceSub, Array.replicate_succ, Array.replicate_zero, List.push_toArray, List.append_toArray, List.nil_append, List.cons_append]
  apply wpS_seq
  apply wpS_region
  show wpOpsS _ _ _ [0, 1, 2, 3, 4, 5, 6] _ _ _
  refine XCur.opS_recover (v := .iface 27 (.int .i64 c)) (cs' := { c₀ with mode := .panicking [{ v := .iface 27 (.int .i64 c), recovered := true }] } :: cs) rfl rfl (w' := w) ?_ ?_ ?_
  · rfl
  · simp [recoverD, hu]
  refine XCur.opS rfl rfl (w' := w) (v := .tuple #[.int .i64 c, .bool true]) ?_ ?_
  · go_simp
  refine XCur.opS rfl rfl (w' := w) (v := .tuple #[.int .i64 c, .bool true]) rfl ?_
  refine XCur.opS rfl rfl (w' := w) (v := .int .i64 c) rfl ?_
  refine XCur.opS rfl rfl (w' := w) (v := .bool true) rfl ?_
  refine XCur.opS rfl rfl (w' := w) (v := .int .i64 c) rfl ?_
  refine XCur.opS rfl rfl (w' := w) (v := .bool true) rfl ?_
  simp only [Act.put, Exit.thenS, wpOpsS, List.setIfInBounds_toArray, List.set_cons_zero, List.set_cons_succ]
  refine wpS_of_wp ?_
  obtain ⟨v3, h3⟩ := Option.isSome_iff_exists.1 h3
  obtain ⟨v4, h4⟩ := Option.isSome_iff_exists.1 h4
  go_wp2_with fail
  refine ⟨rfl, .panicking [{ v := .iface 27 (.int .i64 c), recovered := true }], rfl, .tuple #[], results_none rfl _ _ _, rfl, rfl, rfl⟩
set_option maxHeartbeats 1000000 in
set_option maxRecDepth 100000 in
theorem XCur.reading (n : Nat) (cap : Array Value) (hen : ∀ args W, (callFunc n args).run Tryz.prog W = .ok (.enter n args) W) {M : Nat} {W : World} {g : Nat} {L : List Int} {at_ : Nat} (h : XCur.Rdr M W g L at_ 0) (Ok : World → Prop) (Q : Int → World → Prop)
    (hQ : ∀ c (w w' : World), (∀ k, k ≠ g → w'.heap[k]? = w.heap[k]?) → Q c w → Q c w')
    (hbody : ∀ W1, Below W.heap.size W W1 → Calls Tryz.prog n cap W1 (XCur.Body M W.heap.size g L Ok Q W1)) :
    Calls Tryz.prog 59 #[.pointer (some ⟨g, 0, none⟩), .func (.func n) #[] cap] W (XCur.Done M g L at_ Ok Q W) := by
  obtain ⟨A, c, h0, h1, h2, h3, h4, h5, h6⟩ := h.cells
  have l0 := World.block_lt_of_cell? W _ h1
  have H := Aside0.mk h
  have HB := Aside0.mk hbody
  have HQ := Aside0.mk hQ
  have hmf : ∀ (fn : Fn) (first cap : Array Value) (w : World), (Instr.makeFunc fn first cap).run Tryz.prog w = .ok (.func fn first cap) w := fun _ _ _ _ => rfl
  clear h h0 h3 h4 h5 h6 hbody hQ
  go_enter_defers Tryz.func59, Tryz.ntmps59
  go_wp2_with fail
  have hB1 := below_alloc (below_alloc (Below.refl W.heap.size W) (.cells #[.pointer (some ⟨g, 0, none⟩)] 62)) (.cells #[.int .i64 at_] 3)
  refine (HB.out _ hB1).mono ?_
  rintro e w2 ⟨hF, hN, hcase⟩
  have hF' : XCur.Fr M g W w2 := (XCur.Fr.of_below hB1 H.out.2.1).trans hF
  have e1 := hN W.heap.size (Nat.le_refl _) (by simp; omega)
  have e2 := hN (W.heap.size + 1) (by omega) (by simp)
  have k1 : w2.cell? ⟨W.heap.size, 0, none⟩ = some (.pointer (some ⟨g, 0, none⟩)) := by
    have : ((W.alloc (.cells #[.pointer (some ⟨g, 0, none⟩)] 62)).alloc (.cells #[.int .i64 at_] 3)).cell? ⟨W.heap.size, 0, none⟩ = some (.pointer (some ⟨g, 0, none⟩)) := by go_simp
    rw [← this]; simp only [World.cell?, e1]
  have k2 : w2.cell? ⟨W.heap.size + 1, 0, none⟩ = some (.int .i64 at_) := by
    have : ((W.alloc (.cells #[.pointer (some ⟨g, 0, none⟩)] 62)).alloc (.cells #[.int .i64 at_] 3)).cell? ⟨W.heap.size + 1, 0, none⟩ = some (.int .i64 at_) := by go_simp
    rw [← this]; simp only [World.cell?, e2]
  clear e1 e2 hN hF hB1
  have HF := Aside0.mk hF'
  clear hF'
  rcases hcase with ⟨rfl, hok⟩ | ⟨cc, a, rfl, hR, hq⟩
  · have HOK := Aside0.mk hok
    clear hok
    go_wp2_with fail
    refine leaves_cons (f := 81) (args := #[.pointer (some ⟨W.heap.size + 1, 0, none⟩), .pointer (some ⟨W.heap.size, 0, none⟩)]) (by simp) (by simp [go_sem]) ?_
    refine (XCur.idle _ _ _).mono ?_
    rintro e u' w3 ⟨rfl, rfl, rfl⟩
    exact ⟨_, results_none rfl _ _ _, rfl, HF.out, Or.inl HOK.out⟩
  · have HR := Aside0.mk hR
    have HQQ := Aside0.mk hq
    clear hR hq
    go_wp2_with fail
    refine leaves_cons (f := 81) (args := #[.pointer (some ⟨W.heap.size + 1, 0, none⟩), .pointer (some ⟨W.heap.size, 0, none⟩)]) (by simp) (by simp [go_sem]) ?_
    obtain ⟨A2, c2, q0, q1, q2, q3, q4, q5, q6⟩ := HR.out.cells
    refine (XCur.catch (g := g) (a0 := at_) (c := cc) _ k2 k1 (by rw [q1]; rfl) (by rw [q2]; rfl) q3 q4).mono ?_
    rintro e u' w3 ⟨rfl, rfl, rfl⟩
    refine ⟨_, results_none rfl _ _ _, rfl, (HF.out.trans (XCur.Fr.set _ _ _ (Or.inl rfl))).trans (XCur.Fr.set _ _ _ (Or.inl rfl)), Or.inr ⟨cc, (HR.out.set1 at_ H.out.2.2.1).set2 cc, HQ.out cc _ _ (fun k hk => ?_) HQQ.out⟩⟩
    rw [heap_setCell_other _ _ _ _ hk, heap_setCell_other _ _ _ _ hk]

theorem XCur.heap_new (W : World) (o : Obj) : (W.alloc o).heap[W.heap.size]? = some o := by
  show (W.heap.push o)[W.heap.size]? = some o
  simp
theorem XCur.heap_new2 (W : World) (o1 o2 : Obj) : ((W.alloc o1).alloc o2).heap[W.heap.size + 1]? = some o2 := by
  have h := XCur.heap_new (W.alloc o1) o2
  rwa [show (W.alloc o1).heap.size = W.heap.size + 1 from World.size_alloc ..] at h
set_option maxHeartbeats 1000000 in
set_option maxRecDepth 100000 in
theorem XCur.uv1 {M : Nat} {Wc W1 : World} {g b1 b2 : Nat} {L : List Int} {at_ : Nat} (h : XCur.Rdr M Wc g L at_ 0) (hL : L.length ≤ 140737488351232) (m1 : M ≤ b1) (m2 : M ≤ b2) (hne : b1 ≠ b2)
    (h1 : Wc.cell? ⟨b1, 0, none⟩ = some (.pointer (some ⟨g, 0, none⟩))) (h2 : Wc.heap[b2]? = some (.cells #[.int .u64 0] 56 (0, 0))) (hB : Below Wc.heap.size Wc W1) :
    Calls Tryz.prog 78 #[.pointer (some ⟨b1, 0, none⟩), .pointer (some ⟨b2, 0, none⟩)] W1
      (XCur.Body M Wc.heap.size g L (fun w' => ∃ v a, XCur.num L 10 at_ 0 0 = .ok (v, a) ∧ XCur.Rdr M w' g L a 0 ∧ w'.heap[b2]? = some (.cells #[.int .u64 v] 56 (0, 0)))
        (fun c w' => XCur.num L 10 at_ 0 0 = .error c ∧ w'.heap[b2]? = some (.cells #[.int .u64 0] 56 (0, 0))) W1) := by
  obtain ⟨R, hR0⟩ : ∃ R, XCur.num L 10 at_ 0 0 = R := ⟨_, rfl⟩
  rw [hR0]
  have HR0 := Aside0.mk hR0
  clear hR0
  have l1 := World.block_lt_of_cell? Wc _ h1
  have l2 : b2 < Wc.heap.size := (Array.getElem?_eq_some_iff.1 h2).1
  have c1 := pw_cell_below hB h1
  have H := Aside0.mk (h.below hB)
  have gM := h.1
  have H2 := Aside0.mk ((hB.block b2 l2).trans h2)
  have HM := Aside0.mk h.2.1
  have hs := hB.size
  have l1' : b1 < W1.heap.size := Nat.lt_of_lt_of_le l1 hs
  have l2' : b2 < W1.heap.size := Nat.lt_of_lt_of_le l2 hs
  clear h h1 h2 hB
  go_enter Tryz.func78, Tryz.ntmps78
  go_wp2_with fail
  refine (XCur.number H.out hL).mono ?_
  intro e w2 hpost
  obtain ⟨hg, hpost⟩ := hpost
  rw [HR0.out] at hpost
  have H2' := Aside0.mk ((hg.block b2 l2' (fun e => by cases e; omega)).trans H2.out)
  have HG := Aside0.mk hg
  cases R with
  | ok p =>
    obtain ⟨v, a⟩ := p
    obtain ⟨rfl, hR⟩ := hpost
    have HR := Aside0.mk hR
    have k2 : w2.cell? ⟨b2, 0, none⟩ = some (.int .u64 0) := by simp [World.cell?, H2'.out]
    have k3 : w2.frozen? ⟨b2, 0, none⟩ = false := by simp [World.frozen?, H2'.out]
    clear hR hg
    go_wp2_with fail
    go_end0
    refine ⟨(XCur.Fr.of_grown HG.out H.out.2.1).trans (XCur.Fr.set _ _ _ (Or.inr m2)), fun k hk hk1 => ?_, Or.inl ⟨rfl, v, a, rfl, ?_, ?_⟩⟩
    · rw [heap_setCell_other _ _ _ _ (by simp; omega), HG.out.block k hk1 (fun e => by cases e; have := HM.out; omega)]
    · exact HR.out.other (by exact ⟨rfl, rfl, rfl, by simp, fun k _ hk => heap_setCell_other _ _ _ _ (fun e => hk (by rw [e]))⟩) m2
    · rw [heap_setCell_same _ _ _ _ _ _ H2'.out]; rfl
  | error c =>
    obtain ⟨rfl, a, hR⟩ := hpost
    have HR := Aside0.mk hR
    clear hR hg
    go_wp2_with fail
    refine ⟨rfl, XCur.Fr.of_grown HG.out H.out.2.1, fun k hk hk1 => HG.out.block k hk1 (fun e => by cases e; have := HM.out; omega), Or.inr ⟨c, a, rfl, HR.out, rfl, H2'.out⟩⟩
def XCur.UvPost (W : World) (g : Nat) (L : List Int) (at_ : Nat) (r : Except Int (Int × Nat)) (e : Ending) (w' : World) : Prop :=
  W.grownBy w' (some g) ∧ match r with
      | .ok (v, a) => e = .returned (.int .u64 v) ∧ XCur.Rdr W.heap.size w' g L a 0
      | .error c => e = .returned (.int .u64 0) ∧ XCur.Rdr W.heap.size w' g L at_ c
set_option maxHeartbeats 1000000 in
set_option maxRecDepth 100000 in
/-- Uvarint: the number and the place behind it; or a fault, and the place stays -/
theorem XCur.uvarint {M : Nat} {W : World} {g : Nat} {L : List Int} {at_ : Nat} (h : XCur.Rdr M W g L at_ 0) (hL : L.length ≤ 140737488351232) :
    Calls Tryz.prog 55 #[.pointer (some ⟨g, 0, none⟩)] W (XCur.UvPost W g L at_ (XCur.num L 10 at_ 0 0)) := by
  have h' := h.wider h.2.1 (Nat.le_refl _)
  have H := Aside0.mk h'
  have HL := Aside0.mk hL
  have hmf : ∀ (fn : Fn) (first cap : Array Value) (w : World), (Instr.makeFunc fn first cap).run Tryz.prog w = .ok (.func fn first cap) w := fun _ _ _ _ => rfl
  have hgM := h'.1
  clear h h' hL
  go_enter Tryz.func55, Tryz.ntmps55
  go_wp2_with fail
  have hb := below_alloc (below_alloc (Below.refl W.heap.size W) (.cells #[.pointer (some ⟨g, 0, none⟩)] 62)) (.cells #[.int .u64 0] 56)
  refine (XCur.reading _ _ (fun _ _ => enters_of Tryz.func78 (by kernel_rfl) rfl _ _) (H.out.below hb) _ _ ?hq (fun W1 hW1 => XCur.uv1 (H.out.below hb) HL.out (Nat.le_refl _) (Nat.le_succ _) (by omega) ?h1 ?h2 hW1)).mono ?_
  case hq =>
    rintro c w w' hk ⟨h1, h2⟩
    exact ⟨h1, (hk _ (by omega)).trans h2⟩
  case h1 => go_simp
  case h2 => exact XCur.heap_new2 _ _ _
  rintro e w2 ⟨rfl, hF, hcase⟩
  have HF := Aside0.mk ((XCur.Fr.of_below hb (Nat.le_refl _) : XCur.Fr W.heap.size g W _).trans hF)
  clear hF hb
  have gfr : ∀ (w3 : World) (v : Int), XCur.Fr W.heap.size g W w2 → w3 = w2.setCell ⟨W.heap.size + 1, 0, none⟩ (.int .u64 v) → W.grownBy w3 (some g) := fun w3 v hF e => by
    have hF' := hF.trans (XCur.Fr.set w2 0 (.int .u64 v) (Or.inr (Nat.le_succ W.heap.size)) : XCur.Fr W.heap.size g w2 _)
    rw [e]; exact ⟨hF'.os, hF'.tape, hF'.output, hF'.size, fun k hk hne => hF'.block k hk (fun e => hne (by rw [e]))⟩
  have gset : ∀ v : Int, w2.grownBy (w2.setCell ⟨W.heap.size + 1, 0, none⟩ (.int .u64 v)) (some (W.heap.size + 1)) := fun v => ⟨rfl, rfl, rfl, by simp, fun k _ hk => heap_setCell_other _ _ _ _ (fun e => hk (by rw [e]))⟩
  have GFR := Aside0.mk gfr
  have GSET := Aside0.mk gset
  clear gfr gset
  rcases hcase with ⟨v, a, e0, hR, h2⟩ | ⟨c, hR, e0, h2⟩
  · have HR := Aside0.mk hR
    have E0 := Aside0.mk e0
    have k2 : w2.cell? ⟨W.heap.size + 1, 0, none⟩ = some (.int .u64 v) := by simp [World.cell?, h2]
    have k4 : (w2.setCell ⟨W.heap.size + 1, 0, none⟩ (.int .u64 v)).cell? ⟨W.heap.size + 1, 0, none⟩ = some (.int .u64 v) := by simp [World.cell?, heap_setCell_same _ _ _ _ _ _ h2]
    have k3 : w2.frozen? ⟨W.heap.size + 1, 0, none⟩ = false := by simp [World.frozen?, h2]
    clear hR h2 e0
    go_wp2_with fail
    refine bodyPost_ret (v := .int .u64 v) (by simp [results, Tryz.results55, go_sem, k4]) rfl ⟨GFR.out _ _ HF.out rfl, ?_⟩
    rw [E0.out]
    exact ⟨rfl, HR.out.other (GSET.out _) (Nat.le_succ _)⟩
  · have HR := Aside0.mk hR
    have E0 := Aside0.mk e0
    have k2 : w2.cell? ⟨W.heap.size + 1, 0, none⟩ = some (.int .u64 0) := by simp [World.cell?, h2]
    have k4 : (w2.setCell ⟨W.heap.size + 1, 0, none⟩ (.int .u64 0)).cell? ⟨W.heap.size + 1, 0, none⟩ = some (.int .u64 0) := by simp [World.cell?, heap_setCell_same _ _ _ _ _ _ h2]
    have k3 : w2.frozen? ⟨W.heap.size + 1, 0, none⟩ = false := by simp [World.frozen?, h2]
    clear hR h2 e0
    go_wp2_with fail
    refine bodyPost_ret (v := .int .u64 0) (by simp [results, Tryz.results55, go_sem, k4]) rfl ⟨GFR.out _ _ HF.out rfl, ?_⟩
    rw [E0.out]
    exact ⟨rfl, HR.out.other (GSET.out _) (Nat.le_succ _)⟩

set_option maxHeartbeats 1000000 in
set_option maxRecDepth 100000 in
theorem XCur.by1 {M : Nat} {Wc W1 : World} {g b1 b2 b3 : Nat} {L : List Int} {at_ n : Nat} (h : XCur.Rdr M Wc g L at_ 0) (hL : L.length ≤ 140737488351232) (hn : n ≤ L.length - at_) (m3 : M ≤ b3) (h13 : b1 ≠ b3) (h23 : b2 ≠ b3) (m1 : M ≤ b1) (m2 : M ≤ b2)
    (h1 : Wc.cell? ⟨b1, 0, none⟩ = some (.int .i64 n)) (h2 : Wc.cell? ⟨b2, 0, none⟩ = some (.pointer (some ⟨g, 0, none⟩))) (h3 : Wc.heap[b3]? = some (.cells #[.slice none 0 0] 26 (0, 0))) (hB : Below Wc.heap.size Wc W1) :
    Calls Tryz.prog 60 #[.pointer (some ⟨b1, 0, none⟩), .pointer (some ⟨b2, 0, none⟩), .pointer (some ⟨b3, 0, none⟩)] W1
      (XCur.Body M Wc.heap.size g L (fun w' => ∃ v, XCur.Rdr M w' g L (at_ + n) 0 ∧ w'.heap[b3]? = some (.cells #[v] 26 (0, 0)) ∧ (Kd.int .u8).R 5 w' Wc.heap.size (fun k => Wc.heap.size ≤ k) v ((L.drop at_).take n))
        (fun _ _ => False) W1) := by
  have l1 := World.block_lt_of_cell? Wc _ h1
  have l2 := World.block_lt_of_cell? Wc _ h2
  have l3 : b3 < Wc.heap.size := (Array.getElem?_eq_some_iff.1 h3).1
  have c1 := pw_cell_below hB h1
  have c2 := pw_cell_below hB h2
  have H := Aside0.mk (h.below hB)
  have gM := h.1
  have H3 := Aside0.mk ((hB.block b3 l3).trans h3)
  have HM := Aside0.mk h.2.1
  have hs := hB.size
  have l1' : b1 < W1.heap.size := Nat.lt_of_lt_of_le l1 hs
  have l2' : b2 < W1.heap.size := Nat.lt_of_lt_of_le l2 hs
  have l3' : b3 < W1.heap.size := Nat.lt_of_lt_of_le l3 hs
  have HN := Aside0.mk hn
  have hge : decide ((0 : Int) ≤ (n : Int)) = true := decide_eq_true (by omega)
  have hwn : IntKind.u64.wrap (n : Int) = (n : Int) := by rw [IntKind.wrap_u64]; omega
  have yes := XCur.must_yes
  clear h h1 h2 h3 hB hn
  go_enter Tryz.func60, Tryz.ntmps60
  go_wp2_with (go_at_call 61; refine (yes _ _).mono ?_; rintro e w' ⟨rfl, rfl⟩)
  refine (XCur.take_ok H.out hL n HN.out).mono ?_
  rintro e w2 ⟨A2, c2', rfl, hc2, hC2, hR2, hg2⟩
  have hlen : ((L.drop at_).take n).length = n := by have := HN.out; simp; omega
  generalize hLs : (L.drop at_).take n = Ls at hC2 hlen
  have HLS := Aside0.mk hLs
  have hcl := bytes_Clone.clone A2 c2' Ls w2 (by rw [hlen]; exact hC2) (by have := HN.out; omega)
  rw [hlen] at hcl
  have HCL := Aside0.mk hcl
  have HG2 := Aside0.mk hg2
  have HR2 := Aside0.mk hR2
  clear hC2 hg2 hR2 hc2 hcl hLs hlen
  go_wp2_with fail
  refine HCL.out.mono ?_
  rintro e w3 ⟨v, rfl, hv, hb3⟩
  have H3' : w3.heap[b3]? = some (.cells #[.slice none 0 0] 26 (0, 0)) := (hb3.block b3 (Nat.lt_of_lt_of_le l3' HG2.out.size)).trans ((HG2.out.block b3 l3' (fun e => by cases e; omega)).trans H3.out)
  have k2 : w3.cell? ⟨b3, 0, none⟩ = some (.slice none 0 0) := by simp [World.cell?, H3']
  have k3 : w3.frozen? ⟨b3, 0, none⟩ = false := by simp [World.frozen?, H3']
  have HV := Aside0.mk hv
  have HB3 := Aside0.mk hb3
  have H3'' := Aside0.mk H3'
  obtain ⟨Av, nv, rfl⟩ := Kd.R_slice hv
  clear hv hb3 H3'
  go_wp2_with fail
  go_end0
  have hsz : Wc.heap.size ≤ w2.heap.size := Nat.le_trans hs HG2.out.size
  refine ⟨((XCur.Fr.of_grown HG2.out H.out.2.1).trans (XCur.Fr.of_below HB3.out (Nat.le_trans H.out.2.1 HG2.out.size))).trans (XCur.Fr.set _ _ _ (Or.inr m3)), fun k hk hk1 => ?_, Or.inl ⟨rfl, .slice Av Ls.length nv, ?_, ?_, ?_⟩⟩
  · have hk2 : k < w2.heap.size := Nat.lt_of_lt_of_le hk1 HG2.out.size
    rw [heap_setCell_other _ _ _ _ (by simp; omega), HB3.out.block k hk2, HG2.out.block k hk1 (fun e => by cases e; have := HM.out; omega)]
  · exact (HR2.out.below HB3.out).other (by exact ⟨rfl, rfl, rfl, by simp, fun k _ hk => heap_setCell_other _ _ _ _ (fun e => hk (by rw [e]))⟩) m3
  · rw [heap_setCell_same _ _ _ _ _ _ H3''.out]; rfl
  · rw [HLS.out]
    exact Kd.R_move (Kd.R_mono (Kd.R_lower (Kd.R_bound HV.out) hsz) (fun k hk => Nat.le_trans hsz hk.2.1)) (fun k hk => heap_setCell_other _ _ _ _ (by simp; omega))
set_option maxHeartbeats 1000000 in
set_option maxRecDepth 100000 in
/-- Bytes, of so many bytes as there are: they, in new memory, and the place behind them -/
theorem XCur.bytes {M : Nat} {W : World} {g : Nat} {L : List Int} {at_ : Nat} (h : XCur.Rdr M W g L at_ 0) (hL : L.length ≤ 140737488351232) (n : Nat) (hn : n ≤ L.length - at_) :
    Calls Tryz.prog 31 #[.pointer (some ⟨g, 0, none⟩), .int .i64 n] W fun e w' => ∃ v, e = .returned v ∧ W.grownBy w' (some g) ∧ XCur.Rdr W.heap.size w' g L (at_ + n) 0 ∧ (Kd.int .u8).R 5 w' W.heap.size (fun k => W.heap.size < k) v ((L.drop at_).take n) := by
  have h' := h.wider h.2.1 (Nat.le_refl _)
  have H := Aside0.mk h'
  have HL := Aside0.mk hL
  have HN := Aside0.mk hn
  have hmf : ∀ (fn : Fn) (first cap : Array Value) (w : World), (Instr.makeFunc fn first cap).run Tryz.prog w = .ok (.func fn first cap) w := fun _ _ _ _ => rfl
  have hgM := h'.1
  clear h h' hL hn
  go_enter Tryz.func31, Tryz.ntmps31
  go_wp2_with fail
  have hb := below_alloc (below_alloc (below_alloc (Below.refl W.heap.size W) (.cells #[.pointer (some ⟨g, 0, none⟩)] 62)) (.cells #[.int .i64 n] 3)) (.cells #[.slice none 0 0] 26)
  refine (XCur.reading _ _ (fun _ _ => enters_of Tryz.func60 (by kernel_rfl) rfl _ _) (H.out.below hb) _ _ ?hq (fun W1 hW1 => XCur.by1 (H.out.below hb) HL.out HN.out (by omega) (by omega) (by omega) (by omega) (by omega) ?h1 ?h2 ?h3 hW1)).mono ?_
  case hq => exact fun _ _ _ _ h => h.elim
  case h1 => go_simp
  case h2 => go_simp
  case h3 =>
    have e := XCur.heap_new2 (W.alloc (.cells #[.pointer (some ⟨g, 0, none⟩)] 62)) (.cells #[.int .i64 n] 3) (.cells #[.slice none 0 0] 26)
    rwa [show (W.alloc (.cells #[.pointer (some ⟨g, 0, none⟩)] 62)).heap.size = W.heap.size + 1 from World.size_alloc ..] at e
  rintro e w2 ⟨rfl, hF, hcase⟩
  have HF := Aside0.mk ((XCur.Fr.of_below hb (Nat.le_refl _) : XCur.Fr W.heap.size g W _).trans hF)
  clear hF hb
  rcases hcase with ⟨v, hR, h2, hv⟩ | ⟨c, hR, e0⟩
  · have HR := Aside0.mk hR
    have HV := Aside0.mk hv
    have k2 : w2.cell? ⟨W.heap.size + 1 + 1, 0, none⟩ = some v := by simp [World.cell?, h2]
    have k3 : w2.frozen? ⟨W.heap.size + 1 + 1, 0, none⟩ = false := by simp [World.frozen?, h2]
    obtain ⟨Av, nv, rfl⟩ := Kd.R_slice hv
    have k4 : (w2.setCell ⟨W.heap.size + 1 + 1, 0, none⟩ (.slice Av ((L.drop at_).take n).length nv)).cell? ⟨W.heap.size + 1 + 1, 0, none⟩ = some (.slice Av ((L.drop at_).take n).length nv) := by simp [World.cell?, heap_setCell_same _ _ _ _ _ _ h2]
    clear hR h2 hv
    generalize hq : ((L.drop at_).take n).length = q at k2 k4 ⊢
    have HQ := Aside0.mk hq
    clear hq
    go_wp2_with fail
    refine bodyPost_ret (v := .slice Av q nv) (by simp [results, Tryz.results31, go_sem, k4]) rfl ⟨_, rfl, ?_, ?_, ?_⟩
    · have hF' := HF.out.trans (XCur.Fr.set w2 0 (.slice Av q nv) (Or.inr (by omega : W.heap.size ≤ W.heap.size + 1 + 1)) : XCur.Fr W.heap.size g w2 _)
      exact ⟨hF'.os, hF'.tape, hF'.output, hF'.size, fun k hk hne => hF'.block k hk (fun e => hne (by rw [e]))⟩
    · exact HR.out.other (by exact ⟨rfl, rfl, rfl, by simp, fun k _ hk => heap_setCell_other _ _ _ _ (fun e => hk (by rw [e]))⟩) (by omega : W.heap.size ≤ W.heap.size + 1 + 1)
    · have hV := HV.out
      rw [HQ.out] at hV
      simp only [World.size_alloc] at hV
      exact Kd.R_mono (Kd.R_lower (Kd.R_move hV (fun k hk => heap_setCell_other _ _ _ _ (by simp; omega))) (by omega)) (fun k hk => by omega)
  · exact e0.elim
theorem XCur.left {M : Nat} {W : World} {g : Nat} {L : List Int} {at_ : Nat} {f : Int} (h : XCur.Rdr M W g L at_ f) (hL : L.length ≤ 9223372036854775807) :
    Calls Tryz.prog 29 #[.pointer (some ⟨g, 0, none⟩)] W fun e w' => e = .returned (.int .i64 ((L.length - at_ : Nat) : Int)) ∧ ∃ n, w' = W.drewN n := by
  obtain ⟨A, c, h0, h1, h2, h3, h4, h5, h6⟩ := h.cells
  have hle := h.2.2.1
  have hsub : IntKind.i64.wrap ((L.length : Int) - (at_ : Int)) = ((L.length - at_ : Nat) : Int) := by rw [IntKind.wrap_i64]; omega
  clear h h6 h5 hle hL
  go_enter Tryz.func29, Tryz.ntmps29
  go_wp2_with fail
  go_quiet (fail)
  go_wp2_with fail
  go_ret
  exact ⟨rfl, _, rfl⟩
theorem XCur.faultOf {M : Nat} {W : World} {g : Nat} {L : List Int} {at_ : Nat} {f : Int} (h : XCur.Rdr M W g L at_ f) :
    Calls Tryz.prog 56 #[.pointer (some ⟨g, 0, none⟩)] W fun e w' => e = .returned (.int .i64 f) ∧ w' = W := by
  obtain ⟨A, c, h0, h1, h2, h3, h4, h5, h6⟩ := h.cells
  clear h h6 h5
  go_enter Tryz.func56, Tryz.ntmps56
  go_wp2_with fail
  go_ret
  exact ⟨rfl, rfl⟩
/-- Open: a reader over the same bytes, in new memory -/
theorem XCur.open_ (A : Option Addr) (c : Nat) (l : List Int) (w : World) (hr : Kd.C (Kd.int .u8) w A l.length l) (hl : l.length < 140737488355328) :
    Calls Tryz.prog 39 #[.slice A l.length c] w fun e w' => ∃ g, e = .returned (.pointer (some ⟨g, 0, none⟩)) ∧ w.heap.size ≤ g ∧ XCur.Rdr w'.heap.size w' g l 0 0 ∧ Below w.heap.size w w' := by
  have HR := Aside0.mk hr
  have HL := Aside0.mk hl
  clear hr hl
  go_enter Tryz.func39, Tryz.ntmps39
  go_wp2_with fail
  refine (bytes_Clone.clone A c l w HR.out HL.out).mono ?_
  rintro e w1 ⟨v, rfl, hv, hb⟩
  have HV := Aside0.mk hv
  have HB := Aside0.mk hb
  obtain ⟨Av, nv, rfl⟩ := Kd.R_slice hv
  clear hv hb
  go_wp2_with fail
  go_ret
  have hn := XCur.heap_new w1 (.cells #[.slice Av l.length nv, .int .i64 0, .int .i64 0] 97)
  refine ⟨w1.heap.size, rfl, HB.out.size, ⟨by simp, Nat.le_refl _, Nat.zero_le _, Av, nv, hn, ?_⟩, below_alloc HB.out _⟩
  have h1 := Kd.R_below (Kd.R_bound HV.out) (below_alloc (Below.refl w1.heap.size w1) (.cells #[.slice Av l.length nv, .int .i64 0, .int .i64 0] 97))
  exact Kd.R_mono (Kd.R_lower h1 (Nat.zero_le _)) (fun k hk => by simp only [World.size_alloc]; omega)

theorem XCur.num_code {L : List Int} : ∀ (k a i : Nat) (v : Int) (c : Int), k + i = 10 → i ≤ 9 → XCur.num L k a i v = .error c → c ≠ 0
  | 0, _, i, _, _, h, hi => by omega
  | k + 1, a, i, v, c, h, hi => by
    intro e
    rw [XCur.num] at e
    by_cases h1 : a < L.length
    · rw [if_pos h1] at e
      by_cases h2 : i < 9 ∨ rd L (a : Int) ≤ 1
      · rw [if_pos h2] at e
        by_cases h3 : rd L (a : Int) < 128
        · rw [if_pos h3] at e
          by_cases h4 : 0 < rd L (a : Int) ∨ i = 0
          · rw [if_pos h4] at e; cases e
          · rw [if_neg h4] at e; injection e with e; omega
        · rw [if_neg h3] at e
          exact XCur.num_code k (a + 1) (i + 1) _ c (by omega) (by omega) e
      · rw [if_neg h2] at e; injection e with e; omega
    · rw [if_neg h1] at e; injection e with e; omega
theorem XCur.num_nonneg {L : List Int} : ∀ (k a i : Nat) (v : Int) (r : Int × Nat), XCur.num L k a i v = .ok r → 0 ≤ r.1 ∧ a < r.2 ∧ r.2 ≤ L.length
  | 0, _, _, _, _ => fun e => by cases e
  | k + 1, a, i, v, r => by
    intro e
    rw [XCur.num] at e
    by_cases h1 : a < L.length
    · rw [if_pos h1] at e
      by_cases h2 : i < 9 ∨ rd L (a : Int) ≤ 1
      · rw [if_pos h2] at e
        by_cases h3 : rd L (a : Int) < 128
        · rw [if_pos h3] at e
          by_cases h4 : 0 < rd L (a : Int) ∨ i = 0
          · rw [if_pos h4] at e
            injection e with e
            rw [← e]
            refine ⟨?_, by simp, by simp; omega⟩
            show 0 ≤ Go.bits .or .u64 _ _
            unfold Go.bits
            rw [IntKind.wrap_u64]
            exact Int.emod_nonneg _ (by decide)
          · rw [if_neg h4] at e; cases e
        · rw [if_neg h3] at e
          have := XCur.num_nonneg k (a + 1) (i + 1) _ r e
          omega
      · rw [if_neg h2] at e; cases e
    · rw [if_neg h1] at e; cases e
def XCur.KeyedPost (w : World) (l : List Int) (r : Except Int (Int × Nat)) (e : Ending) (w' : World) : Prop :=
  ∃ g, w.heap.size ≤ g ∧ Below w.heap.size w w' ∧ match r with
    | .ok (v, a) => e = .returned (.tuple #[.pointer (some ⟨g, 0, none⟩), .int .i64 (if 65536 < v then 65536 else v), .bool (decide (v ≤ 65536))]) ∧ XCur.Rdr w'.heap.size w' g l a 0
    | .error c => e = .returned (.tuple #[.pointer (some ⟨g, 0, none⟩), .int .i64 0, .bool false]) ∧ XCur.Rdr w'.heap.size w' g l 0 c
set_option maxHeartbeats 1000000 in
set_option maxRecDepth 100000 in
theorem XCur.keyed (A : Option Addr) (c : Nat) (l : List Int) (w : World) (hr : Kd.C (Kd.int .u8) w A l.length l) (hl : l.length ≤ 140737488351232) :
    Calls Tryz.prog 28 #[.slice A l.length c] w (XCur.KeyedPost w l (XCur.num l 10 0 0 0)) := by
  have HR := Aside0.mk hr
  have HL := Aside0.mk hl
  obtain ⟨R, hR0⟩ : ∃ R, XCur.num l 10 0 0 0 = R := ⟨_, rfl⟩
  rw [hR0]
  have HR0 := Aside0.mk hR0
  clear hr hl hR0
  go_enter Tryz.func28, Tryz.ntmps28
  go_wp2_with fail
  refine (XCur.open_ A c l w HR.out (by have := HL.out; omega)).mono ?_
  rintro e w1 ⟨g, rfl, hg, hR1, hB1⟩
  have HG := Aside0.mk hg
  have HB1 := Aside0.mk hB1
  have HR1 := Aside0.mk hR1
  clear hg hB1 hR1
  go_wp2_with fail
  refine (XCur.uvarint HR1.out HL.out).mono ?_
  intro e w2 hpost
  obtain ⟨hg2, hpost⟩ := hpost
  rw [HR0.out] at hpost
  have hB2 : Below w.heap.size w w2 := HB1.out.grown hg2 HB1.out.size (fun k hk => by cases hk; exact HG.out)
  have HB2 := Aside0.mk hB2
  have hs2 := hg2.size
  clear hB2 hg2
  cases R with
  | ok p =>
    obtain ⟨v, a⟩ := p
    obtain ⟨rfl, hR2⟩ := hpost
    have hv := (XCur.num_nonneg _ _ _ _ _ HR0.out).1
    have HR2 := Aside0.mk (hR2.wider hs2 (Nat.le_refl _))
    clear hR2 hs2
    by_cases hc : v ≤ 65536
    · have hw : IntKind.i64.wrap v = v := by rw [IntKind.wrap_i64]; omega
      have hmn : (if (65536 : Int) < v then (65536 : Int) else v) = v := if_neg (by omega)
      have hmn2 : (if v < (65536 : Int) then v else (65536 : Int)) = v := by split <;> omega
      have hd : decide (v ≤ 65536) = true := decide_eq_true hc
      clear hc hv
      go_wp2_with fail
      refine (XCur.faultOf HR2.out).mono ?_
      rintro e w3 ⟨rfl, rfl⟩
      go_wp2_with fail
      refine bodyPost_ret (v := .tuple #[.pointer (some ⟨g, 0, none⟩), .int .i64 v, .bool true]) (by simp [results, Tryz.results28, go_sem]) rfl ?_
      have h1 : (if (65536 : Int) < v then (65536 : Int) else v) = v := hmn
      exact ⟨g, HG.out, HB2.out, by rw [h1, hd], HR2.out⟩
    · have hmn : (if (65536 : Int) < v then (65536 : Int) else v) = 65536 := if_pos (by omega)
      have hmn2 : (if v < (65536 : Int) then v else (65536 : Int)) = 65536 := by split <;> omega
      have hd : decide (v ≤ 65536) = false := decide_eq_false hc
      clear hc hv
      go_wp2_with fail
      refine (XCur.faultOf HR2.out).mono ?_
      rintro e w3 ⟨rfl, rfl⟩
      go_wp2_with fail
      refine bodyPost_ret (v := .tuple #[.pointer (some ⟨g, 0, none⟩), .int .i64 65536, .bool false]) (by simp [results, Tryz.results28, go_sem]) rfl ?_
      exact ⟨g, HG.out, HB2.out, by rw [hmn, hd], HR2.out⟩
  | error cc =>
    obtain ⟨rfl, hR2⟩ := hpost
    have HR2 := Aside0.mk (hR2.wider hs2 (Nat.le_refl _))
    have hne : (cc == 0) = false := by simpa using XCur.num_code 10 0 0 0 cc (by omega) (by omega) HR0.out
    clear hR2 hs2
    go_wp2_with fail
    refine (XCur.faultOf HR2.out).mono ?_
    rintro e w3 ⟨rfl, rfl⟩
    go_wp2_with fail
    refine bodyPost_ret (v := .tuple #[.pointer (some ⟨g, 0, none⟩), .int .i64 0, .bool false]) (by simp [results, Tryz.results28, go_sem]) rfl ?_
    exact ⟨g, HG.out, HB2.out, rfl, HR2.out⟩
/-- what dict.Ints answers -/
def XCur.intsM (K : Nat) (l : List Int) (n : Int) : Option (List Int × Int × List Int × Int) :=
  (dict_count.f n).bind fun e => if e = 0 then
    (match XCur.num l 10 0 0 0 with
    | .error _ => some ([], 0, [], 90)
    | .ok (v, a) => if v ≤ 65536 then
        (if ((l.length - a : Nat) : Int) < 8 * v then some ([], 0, [], 90)
        else (plain_Ints.f K ((l.drop a).take (8 * v).toNat) v).bind fun ke => if ke.2 = 0 then
          ((dict_used_int64.f K ke.1 (l.drop (a + (8 * v).toNat)) n).bind fun u => if u = true then (dict_width.f v).bind fun wd => some (ke.1, wd, l.drop (a + (8 * v).toNat), 0) else some ([], 0, [], 90))
          else some ([], 0, [], 90))
      else some ([], 0, [], 90))
  else some ([], 0, [], e)
def XCur.IntsPost (w : World) (r : List Int × Int × List Int × Int) (e : Ending) (w' : World) : Prop :=
  ∃ vk vl, e = .returned (.tuple #[vk, .int .i64 r.2.1, vl, .int .i64 r.2.2.2]) ∧ (Kd.int .i64).R 2 w' w.heap.size (fun _ => True) vk r.1 ∧ (Kd.int .u8).R 5 w' w.heap.size (fun _ => True) vl r.2.2.1 ∧ Below w.heap.size w w'
set_option maxHeartbeats 2000000 in
set_option maxRecDepth 100000 in
theorem XCur.ints (K : Nat) (A : Option Addr) (c : Nat) (l : List Int) (n : Int) (r : List Int × Int × List Int × Int) (w : World) (hr : Kd.C (Kd.int .u8) w A l.length l) (hl : l.length ≤ 140737488351232) (h : XCur.intsM K l n = some r) :
    Calls Tryz.prog 9 #[.slice A l.length c, .int .i64 n] w (XCur.IntsPost w r) := by
  have HR := Aside0.mk hr
  have HL := Aside0.mk hl
  unfold XCur.intsM at h
  obtain ⟨e0, hcnt, h2⟩ := Option.bind_eq_some_iff.mp h
  have HC := Aside0.mk hcnt
  clear hr hl hcnt h
  have nil2 : ∀ (W : World) (er : Int), Below w.heap.size w W → XCur.IntsPost w ([], 0, [], er) (.returned (.tuple #[.slice none 0 0, .int .i64 0, .slice none 0 0, .int .i64 er])) W := fun W er hb => ⟨_, _, rfl, Kd.R_nil _ _ _ _ _, Kd.R_nil _ _ _ _ _, hb⟩
  by_cases hz : e0 = 0
  · subst hz
    rw [if_pos rfl] at h2
    obtain ⟨R, hR0⟩ : ∃ R, XCur.num l 10 0 0 0 = R := ⟨_, rfl⟩
    rw [hR0] at h2
    have HR0 := Aside0.mk hR0
    have HH := Aside0.mk h2
    clear hR0 h2
    have NIL2 := Aside0.mk nil2
    clear nil2
    go_enter Tryz.func9, Tryz.ntmps9
    go_wp2_with (go_at_call 27; (with_reducible refine (dict_count.calls _ _ _ HC.out).mono ?_); rintro e w1 ⟨rfl, ⟨nd, rfl⟩⟩)
    refine (XCur.keyed A c l (w.drewN nd) (Kd.C_drewN HR.out nd) HL.out).mono ?_
    intro e w2 hpost
    rw [XCur.KeyedPost, HR0.out] at hpost
    obtain ⟨g, hg, hB, hpost⟩ := hpost
    have HG : Aside0 (w.heap.size ≤ g) := ⟨by simpa using hg⟩
    have HB := Aside0.mk (below_then (pw_below_drewN (Below.refl w.heap.size w) nd) (Nat.le_refl _) hB)
    clear hg hB
    cases R with
    | error cc =>
      obtain ⟨rfl, hR2⟩ := hpost
      clear hR2
      obtain rfl := Option.some.inj HH.out
      go_wp2_with fail
      refine bodyPost_ret (v := .tuple #[.slice none 0 0, .int .i64 0, .slice none 0 0, .int .i64 90]) (by simp [results, Tryz.results9, go_sem]) rfl ?_
      exact NIL2.out _ _ HB.out
    | ok p =>
      obtain ⟨v, a⟩ := p
      obtain ⟨rfl, hR2⟩ := hpost
      obtain ⟨hv0, hav, hal⟩ := XCur.num_nonneg _ _ _ _ _ HR0.out
      simp only at hv0 hav hal
      have HR2 := Aside0.mk hR2
      have hh := HH.out
      simp only at hh
      clear hR2 HH
      by_cases hc : v ≤ 65536
      · rw [if_pos hc] at hh
        obtain ⟨V, rfl⟩ := Int.eq_ofNat_of_zero_le hv0
        obtain ⟨q, hq⟩ : ∃ q, q = 8 * V := ⟨_, rfl⟩
        have hmn : (if (65536 : Int) < (V : Int) then (65536 : Int) else (V : Int)) = (V : Int) := if_neg (by omega)
        have hw8 : IntKind.i64.wrap (8 * (V : Int)) = (q : Int) := by rw [IntKind.wrap_i64]; omega
        rw [show (8 * (V : Int)).toNat = q by omega] at hh
        rw [hmn, decide_eq_true hc]
        clear hmn
        by_cases hs : l.length - a < q
        · rw [if_pos (by omega)] at hh
          obtain rfl := Option.some.inj hh
          have hd : decide (l.length - a < q) = true := decide_eq_true hs
          clear hv0 hav hal hc hq hs hh
          go_wp2_with (go_at_call 29; (with_reducible refine (XCur.left HR2.out (by have := HL.out; omega)).mono ?_); rintro e w3 ⟨rfl, ⟨nd3, rfl⟩⟩)
          refine bodyPost_ret (v := .tuple #[.slice none 0 0, .int .i64 0, .slice none 0 0, .int .i64 90]) (by simp [results, Tryz.results9, go_sem]) rfl ?_
          exact NIL2.out _ _ (pw_below_drewN HB.out _)
        · rw [if_neg (by omega)] at hh
          obtain ⟨⟨ks, er⟩, hpi, hh⟩ := Option.bind_eq_some_iff.mp hh
          have hd : decide (l.length - a < q) = false := decide_eq_false hs
          have hlen : ((l.drop a).take q).length = q := by simp; omega
          obtain ⟨Ls, hLs⟩ : ∃ Ls, (l.drop a).take q = Ls := ⟨_, rfl⟩
          rw [hLs] at hpi hlen
          obtain ⟨Lr, hLr⟩ : ∃ Lr, l.drop (a + q) = Lr := ⟨_, rfl⟩
          rw [hLr] at hh
          have HLR := Aside0.mk hLr
          clear hLr
          have HPI := Aside0.mk hpi
          have HH := Aside0.mk hh
          have HLS := Aside0.mk hLs
          have HQ : Aside0 (q ≤ l.length - a) := ⟨by omega⟩
          have HA : Aside0 (a ≤ l.length) := ⟨hal⟩
          clear hv0 hav hal hc hq hs hh hpi hLs
          go_wp2_with (go_at_call 29; (with_reducible refine (XCur.left HR2.out (by have := HL.out; omega)).mono ?_); rintro e w3 ⟨rfl, ⟨nd3, rfl⟩⟩)
          refine (XCur.bytes (HR2.out.drewN nd3) HL.out q HQ.out).mono ?_
          rintro e w4 ⟨v4, rfl, hg4, hR4, hV4⟩
          rw [HLS.out] at hV4
          obtain ⟨A4, n4, rfl⟩ := Kd.R_slice hV4
          obtain ⟨_, hn4, hC4⟩ := Kd.R_reads' hV4
          have HB4 := Aside0.mk ((pw_below_drewN HB.out nd3).grown hg4 (by simpa using HB.out.size) (fun k hk => by cases hk; exact HG.out))
          have HR4 := Aside0.mk (hR4.wider hg4.size (Nat.le_refl _))
          have HC4 := Aside0.mk hC4
          have HN4 := Aside0.mk hn4
          clear hg4 hR4 hV4 hC4 hn4 HB HR2 hd hlen
          go_wp2_with fail
          refine (plain_Ints.calls K A4 n4 Ls V ks er w4 HC4.out HN4.out HPI.out).mono ?_
          rintro e w5 ⟨v5, rfl, hv5, hb5⟩
          have HB5 := Aside0.mk (below_then HB4.out HB4.out.size hb5)
          have HR5 := Aside0.mk (HR4.out.below hb5)
          have HV5 := Aside0.mk (Kd.R_bound hv5)
          have HG5 : Aside0 (g < w4.heap.size) := ⟨HR4.out.1⟩
          have hs45 := hb5.size
          have HS45 : Aside0 (w.heap.size ≤ w4.heap.size) := ⟨HB4.out.size⟩
          obtain ⟨A5, n5, rfl⟩ := Kd.R_slice hv5
          clear hv5 hb5 HB4 HR4 HC4 HN4 hs45
          go_wp2_with (go_at_call 29; (with_reducible refine (XCur.left HR5.out (by have := HL.out; omega)).mono ?_); rintro e w6 ⟨rfl, ⟨nd6, rfl⟩⟩)
          refine (XCur.bytes (HR5.out.drewN nd6) HL.out (l.length - (a + q)) (Nat.le_refl _)).mono ?_
          rintro e w7 ⟨v7, rfl, hg7, hR7, hV7⟩
          have htk : (l.drop (a + q)).take (l.length - (a + q)) = l.drop (a + q) := List.take_of_length_le (by simp)
          rw [htk, HLR.out] at hV7
          obtain ⟨A7, n7, rfl⟩ := Kd.R_slice hV7
          obtain ⟨_, hn7, hC7⟩ := Kd.R_reads' hV7
          have HB7 := Aside0.mk ((pw_below_drewN HB5.out nd6).grown hg7 (by simpa using HB5.out.size) (fun k hk => by cases hk; exact HG.out))
          have hV5' : (Kd.int .i64).R 2 w7 w4.heap.size (fun _ => True) (.slice A5 ks.length n5) ks := Kd.R_mono (Kd.R_move HV5.out (fun k hk => hg7.block k (by simpa using hk.2.2.1) (fun e => by cases e; have := HG5.out; omega))) (fun _ _ => trivial)
          obtain ⟨_, hn5, hC5⟩ := Kd.R_reads' hV5'
          have HV5' := Aside0.mk (Kd.R_lower hV5' HS45.out)
          have HV7 := Aside0.mk (Kd.R_mono (Kd.R_lower hV7 (show w.heap.size ≤ (w5.drewN nd6).heap.size by simpa using HB5.out.size)) (fun _ _ => trivial))
          have HC5 := Aside0.mk hC5
          have HC7 := Aside0.mk hC7
          have HN5 := Aside0.mk hn5
          have HN7 := Aside0.mk hn7
          have HH2 := HH.out
          clear hg7 hR7 hV7 hC7 hn7 hV5' hC5 hn5 HV5 HB5 HR5 HH htk
          try simp only at HH2
          by_cases he : er = 0
          · subst he
            rw [if_pos rfl] at HH2
            obtain ⟨u, hu, HH3⟩ := Option.bind_eq_some_iff.mp HH2
            have HU := Aside0.mk hu
            clear HH2 hu
            by_cases hut : u = true
            · subst hut
              rw [if_pos rfl] at HH3
              obtain ⟨wd, hwd, HH4⟩ := Option.bind_eq_some_iff.mp HH3
              have HW := Aside0.mk hwd
              obtain rfl := Option.some.inj HH4
              clear HH3 HH4 hwd
              go_wp2_with (first | (go_at_call 32; (with_reducible refine (dict_used_int64.calls K A5 n5 ks A7 n7 Lr n true _ HC5.out HN5.out HC7.out HN7.out HU.out).mono ?_); rintro e w8 ⟨rfl, hb8⟩; have HB8 := Aside0.mk hb8; clear hb8) | (go_at_call 33; (with_reducible refine (dict_width.calls _ _ _ HW.out).mono ?_); rintro e w9 ⟨rfl, ⟨nd9, rfl⟩⟩))
              refine bodyPost_ret (v := .tuple #[.slice A5 ks.length n5, .int .i64 wd, .slice A7 Lr.length n7, .int .i64 0]) (by simp [results, Tryz.results9, go_sem]) rfl ?_
              have hb9 := pw_below_drewN HB8.out nd9
              exact ⟨_, _, rfl, Kd.R_below HV5'.out hb9, Kd.R_below HV7.out hb9, below_then HB7.out HB7.out.size hb9⟩
            · obtain rfl : u = false := by simpa using hut
              obtain rfl := Option.some.inj HH3
              clear HH3 hut
              go_wp2_with (go_at_call 32; (with_reducible refine (dict_used_int64.calls K A5 n5 ks A7 n7 Lr n false _ HC5.out HN5.out HC7.out HN7.out HU.out).mono ?_); rintro e w8 ⟨rfl, hb8⟩; have HB8 := Aside0.mk hb8; clear hb8)
              refine bodyPost_ret (v := .tuple #[.slice none 0 0, .int .i64 0, .slice none 0 0, .int .i64 90]) (by simp [results, Tryz.results9, go_sem]) rfl ?_
              exact NIL2.out _ _ (below_then HB7.out HB7.out.size HB8.out)
          · rw [if_neg he] at HH2
            obtain rfl := Option.some.inj HH2
            have heb : (er == 0) = false := by simpa using he
            have heb2 : (er != 0) = true := by simpa using he
            clear HH2 he
            go_wp2_with fail
            refine bodyPost_ret (v := .tuple #[.slice none 0 0, .int .i64 0, .slice none 0 0, .int .i64 90]) (by simp [results, Tryz.results9, go_sem]) rfl ?_
            exact NIL2.out _ _ HB7.out
      · rw [if_neg hc] at hh
        obtain rfl := Option.some.inj hh
        rw [decide_eq_false hc, if_pos (show (65536 : Int) < v by omega)]
        clear hh hv0 hav hal hc
        go_wp2_with fail
        refine bodyPost_ret (v := .tuple #[.slice none 0 0, .int .i64 0, .slice none 0 0, .int .i64 90]) (by simp [results, Tryz.results9, go_sem]) rfl ?_
        exact NIL2.out _ _ HB.out
  · rw [if_neg hz] at h2
    obtain rfl := Option.some.inj h2
    have heb : (e0 == 0) = false := by simpa using hz
    have heb2 : (e0 != 0) = true := by simpa using hz
    have NIL2 := Aside0.mk nil2
    clear nil2 h2 hz
    go_enter Tryz.func9, Tryz.ntmps9
    go_wp2_with (go_at_call 27; (with_reducible refine (dict_count.calls _ _ _ HC.out).mono ?_); rintro e w1 ⟨rfl, ⟨nd, rfl⟩⟩)
    refine bodyPost_ret (v := .tuple #[.slice none 0 0, .int .i64 0, .slice none 0 0, .int .i64 e0]) (by simp [results, Tryz.results9, go_sem]) rfl ?_
    exact NIL2.out _ _ (pw_below_drewN (Below.refl _ _) _)

def dict_Ints.f (k : Nat) (l0 : List Int) (a1 : Int) : Option (List Int × Int × List Int × Int) := if l0.length ≤ 140737488351232 then XCur.intsM k l0 a1 else none
theorem dict_Ints.mono : ∀ a0 a1 k, LeO (dict_Ints.f k a0 a1) (dict_Ints.f (k + 1) a0 a1) := by
  intro a0 a1 k
  unfold dict_Ints.f XCur.intsM
  refine LeO.ite (LeO.bind (LeO.refl _) fun e => LeO.ite ?_ (LeO.refl _)) (LeO.none _)
  split
  · exact LeO.refl _
  · exact LeO.ite (LeO.ite (LeO.refl _) (LeO.bind (plain_Ints.mono _ _ _) fun _ => LeO.ite (LeO.bind (dict_used_int64.mono _ _ _ _) fun _ => LeO.refl _) (LeO.refl _))) (LeO.refl _)
theorem dict_Ints.calls (k : Nat) (A0 : Option Addr) (c0 : Nat) (l0 : List Int) (a1 : Int) (r1 : List Int) (r2 : Int) (r3 : List Int) (r4 : Int) (w : World) (hr0 : Kd.C (Kd.int .u8) w A0 l0.length l0) (hc0 : l0.length ≤ c0) (h : dict_Ints.f k l0 a1 = some (r1, r2, r3, r4)) :
    Calls Tryz.prog 9 #[.slice A0 l0.length c0, .int .i64 a1] w fun e w' => ∃ v0_ v1_ : Value, e = .returned (.tuple #[v0_, .int .i64 r2, v1_, .int .i64 r4]) ∧ Kd.R (Kd.int .i64) 2 w' w.heap.size (fun _ => True) v0_ r1 ∧ Kd.R (Kd.int .u8) 5 w' w.heap.size (fun _ => True) v1_ r3 ∧ Below w.heap.size w w' := by
  unfold dict_Ints.f at h
  split at h
  · rename_i hl
    exact XCur.ints k A0 c0 l0 a1 (r1, r2, r3, r4) w hr0 hl h
  · cases h

end Go.Proofs.YtlpllhpnnhablaaGreat.PDictTextsOwn
