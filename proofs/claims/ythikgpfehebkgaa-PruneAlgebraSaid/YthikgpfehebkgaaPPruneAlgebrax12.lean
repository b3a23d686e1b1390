-- Written by xprint.py, this session's own program over the kit's print; Lean checks it.
import Derived.Test.YthikgpfehebkgaaPPruneAlgebrax0
import Derived.Test.YthikgpfehebkgaaPPruneAlgebrax1
import Derived.Test.YthikgpfehebkgaaPPruneAlgebrax3
import Derived.Test.YthikgpfehebkgaaPPruneAlgebrax10
import Derived.Test.YthikgpfehebkgaaPPruneAlgebrax11
namespace Go.Proofs.Ythikgpfehebkgaa.PPruneAlgebra
open Go.RowKit Go.Proofs.YthikgpfehebkgaaW.PrintWords Go.Proofs.YthikgpfehebkgaaW.PrintLast Go.Proofs.YthikgpfehebkgaaW.PrintMore
attribute [local go_sem] XFloat.run_store_float max2_int min2_int max_two min_two max_three min_three max_four min_four   -- for this text's walks alone
set_option linter.unusedVariables false
set_option linter.unusedSimpArgs false

/-! ### colonnadelaw26_PruneAlgebra: function 3 -/
theorem XAwake.at1 : prune_Atom.f 40 ⟨#[105]⟩ 1 true 4 1 1 3 0 ⟨#[]⟩ 1 9 0 ⟨#[]⟩ [] 1 ⟨#[105]⟩ 1 1 2 0 ⟨#[]⟩ [] [] true false false 0 = some (true, false, true, 0) := by decide +kernel
theorem XAwake.at2 : prune_Atom.f 40 ⟨#[105]⟩ 1 true 4 1 1 3 0 ⟨#[]⟩ 1 9 0 ⟨#[]⟩ [] 1 ⟨#[105]⟩ 1 1 2 0 ⟨#[]⟩ [] [] false false false 0 = some (true, true, true, 0) := by decide +kernel
theorem XAwake.at3 : prune_Atom.f 40 ⟨#[105]⟩ 1 true 0 0 0 0 0 ⟨#[]⟩ 0 0 0 ⟨#[]⟩ [] 1 ⟨#[105]⟩ 1 1 2 0 ⟨#[]⟩ [] [] true false false 0 = some (false, false, false, 0) := by decide +kernel
set_option maxHeartbeats 8000000 in
set_option maxRecDepth 100000 in
theorem XAwake.awake (w : World) : Calls Try.prog 4 #[] w fun e w' => e = .returned (.bool true) ∧ Below w.heap.size w w' := by
  have HH := Aside0.mk ((((XHeld.H.nil w).alloc (.cells #[.string ⟨#[105]⟩, .int .i64 1, .bool true] 29 (0, 0))).alloc (.cells #[.int .i64 1, .int .i64 1, .int .i64 3, .float .f64 0, .string ⟨#[]⟩, .int .i64 1, .int .i64 9, .float .f64 0, .string ⟨#[]⟩, .slice none 0 0] 35 (0, 0))).alloc (.cells #[.int .i64 1, .string ⟨#[105]⟩, .int .i64 1, .int .i64 1, .int .i64 2, .float .f64 0, .string ⟨#[]⟩, .slice none 0 0, .slice none 0 0] 39 (0, 0)))
  simp only [World.size_alloc] at HH
  go_enter Try.func4, Try.ntmps4
  go_wp2_with fail
  refine (prune_Atom.calls 40 ⟨#[105]⟩ 1 true 4 1 1 3 0 ⟨#[]⟩ 1 9 0 ⟨#[]⟩ none 0 [] 1 ⟨#[105]⟩ 1 1 2 0 ⟨#[]⟩ none 0 [] none 0 [] true false false 0 true false true 0 _ (Kd.C_nil _ _) (Nat.le_refl _) (Kd.C_nil _ _) (Nat.le_refl _) (Kd.C_nil _ _) (Nat.le_refl _) XAwake.at1).mono ?_
  rintro e w1 ⟨rfl, hb⟩
  have HH' := Aside0.mk ((HH.out.step hb).alloc (.cells #[.bool true, .bool false, .bool true] 23 (0, 0)))
  clear hb HH
  have HH := HH'
  clear HH'
  have q0 := HH.out.at 3 0 rfl rfl
  have q1 := HH.out.at 3 1 rfl rfl
  have q2 := HH.out.at 3 2 rfl rfl
  have q3 := HH.out.at 2 0 rfl rfl
  have q4 := HH.out.at 2 1 rfl rfl
  have q5 := HH.out.at 2 2 rfl rfl
  have q6 := HH.out.at 2 3 rfl rfl
  have q7 := HH.out.at 2 4 rfl rfl
  have q8 := HH.out.at 2 5 rfl rfl
  have q9 := HH.out.at 2 6 rfl rfl
  have q10 := HH.out.at 2 7 rfl rfl
  have q11 := HH.out.at 2 8 rfl rfl
  have q12 := HH.out.at 2 9 rfl rfl
  have q13 := HH.out.at 1 0 rfl rfl
  have q14 := HH.out.at 1 1 rfl rfl
  have q15 := HH.out.at 1 2 rfl rfl
  have q16 := HH.out.at 1 3 rfl rfl
  have q17 := HH.out.at 1 4 rfl rfl
  have q18 := HH.out.at 1 5 rfl rfl
  have q19 := HH.out.at 1 6 rfl rfl
  have q20 := HH.out.at 1 7 rfl rfl
  have q21 := HH.out.at 1 8 rfl rfl
  go_wp2_with fail
  refine (prune_Atom.calls 40 ⟨#[105]⟩ 1 true 4 1 1 3 0 ⟨#[]⟩ 1 9 0 ⟨#[]⟩ none 0 [] 1 ⟨#[105]⟩ 1 1 2 0 ⟨#[]⟩ none 0 [] none 0 [] false false false 0 true true true 0 _ (Kd.C_nil _ _) (Nat.le_refl _) (Kd.C_nil _ _) (Nat.le_refl _) (Kd.C_nil _ _) (Nat.le_refl _) XAwake.at2).mono ?_
  rintro e w2 ⟨rfl, hb⟩
  have HH' := Aside0.mk ((HH.out.step hb).alloc (.cells #[.bool true, .bool true, .bool true] 23 (0, 0)))
  clear hb HH q0 q1 q2 q3 q4 q5 q6 q7 q8 q9 q10 q11 q12 q13 q14 q15 q16 q17 q18 q19 q20 q21
  have HH := HH'
  clear HH'
  have q0 := HH.out.at 4 0 rfl rfl
  have q1 := HH.out.at 4 1 rfl rfl
  have q2 := HH.out.at 4 2 rfl rfl
  have q3 := HH.out.at 3 0 rfl rfl
  have q4 := HH.out.at 3 1 rfl rfl
  have q5 := HH.out.at 3 2 rfl rfl
  have q6 := HH.out.at 3 3 rfl rfl
  have q7 := HH.out.at 3 4 rfl rfl
  have q8 := HH.out.at 3 5 rfl rfl
  have q9 := HH.out.at 3 6 rfl rfl
  have q10 := HH.out.at 3 7 rfl rfl
  have q11 := HH.out.at 3 8 rfl rfl
  have q12 := HH.out.at 3 9 rfl rfl
  have q13 := HH.out.at 2 0 rfl rfl
  have q14 := HH.out.at 2 1 rfl rfl
  have q15 := HH.out.at 2 2 rfl rfl
  have q16 := HH.out.at 2 3 rfl rfl
  have q17 := HH.out.at 2 4 rfl rfl
  have q18 := HH.out.at 2 5 rfl rfl
  have q19 := HH.out.at 2 6 rfl rfl
  have q20 := HH.out.at 2 7 rfl rfl
  have q21 := HH.out.at 2 8 rfl rfl
  go_wp2_with fail
  refine (prune_Atom.calls 40 ⟨#[105]⟩ 1 true 0 0 0 0 0 ⟨#[]⟩ 0 0 0 ⟨#[]⟩ none 0 [] 1 ⟨#[105]⟩ 1 1 2 0 ⟨#[]⟩ none 0 [] none 0 [] true false false 0 false false false 0 _ (Kd.C_nil _ _) (Nat.le_refl _) (Kd.C_nil _ _) (Nat.le_refl _) (Kd.C_nil _ _) (Nat.le_refl _) XAwake.at3).mono ?_
  rintro e w3 ⟨rfl, hb⟩
  have HH' := Aside0.mk ((HH.out.step hb).alloc (.cells #[.bool false, .bool false, .bool false] 23 (0, 0)))
  clear hb HH q0 q1 q2 q3 q4 q5 q6 q7 q8 q9 q10 q11 q12 q13 q14 q15 q16 q17 q18 q19 q20 q21
  have HH := HH'
  clear HH'
  have q0 := HH.out.at 5 0 rfl rfl
  have q1 := HH.out.at 5 1 rfl rfl
  have q2 := HH.out.at 5 2 rfl rfl
  have q3 := HH.out.at 4 0 rfl rfl
  have q4 := HH.out.at 4 1 rfl rfl
  have q5 := HH.out.at 4 2 rfl rfl
  have q6 := HH.out.at 4 3 rfl rfl
  have q7 := HH.out.at 4 4 rfl rfl
  have q8 := HH.out.at 4 5 rfl rfl
  have q9 := HH.out.at 4 6 rfl rfl
  have q10 := HH.out.at 4 7 rfl rfl
  have q11 := HH.out.at 4 8 rfl rfl
  have q12 := HH.out.at 4 9 rfl rfl
  have q13 := HH.out.at 3 0 rfl rfl
  have q14 := HH.out.at 3 1 rfl rfl
  have q15 := HH.out.at 3 2 rfl rfl
  have q16 := HH.out.at 3 3 rfl rfl
  have q17 := HH.out.at 3 4 rfl rfl
  have q18 := HH.out.at 3 5 rfl rfl
  have q19 := HH.out.at 3 6 rfl rfl
  have q20 := HH.out.at 3 7 rfl rfl
  have q21 := HH.out.at 3 8 rfl rfl
  go_wp2_with fail
  clear q0 q1 q2 q3 q4 q5 q6 q7 q8 q9 q10 q11 q12 q13 q14 q15 q16 q17 q18 q19 q20 q21
  generalize w3.alloc (.cells #[.bool false, .bool false, .bool false] 23) = W4 at HH ⊢
  generalize w3.heap.size = g3 at HH ⊢
  generalize w2.heap.size = g2 at HH ⊢
  generalize w1.heap.size = g1 at HH ⊢
  have HH0 := Aside0.mk HH.out.drew
  have hq := eqA23
  refine wp_region_held_drew (S := (fun w' => w'.cell? ⟨g3, 0, none⟩ = some (.bool false) ∧ w'.cell? ⟨g3, 1, none⟩ = some (.bool false) ∧ w'.cell? ⟨g3, 2, none⟩ = some (.bool false) ∧ w'.cell? ⟨g2, 0, none⟩ = some (.bool true) ∧ w'.cell? ⟨g2, 1, none⟩ = some (.bool true) ∧ w'.cell? ⟨g2, 2, none⟩ = some (.bool true) ∧ w'.cell? ⟨g1, 0, none⟩ = some (.bool true) ∧ w'.cell? ⟨g1, 1, none⟩ = some (.bool false) ∧ w'.cell? ⟨g1, 2, none⟩ = some (.bool true))) (by kernel_rfl) (⟨HH0.out.at 0 0 rfl rfl, HH0.out.at 0 1 rfl rfl, HH0.out.at 0 2 rfl rfl, HH0.out.at 1 0 rfl rfl, HH0.out.at 1 1 rfl rfl, HH0.out.at 1 2 rfl rfl, HH0.out.at 2 0 rfl rfl, HH0.out.at 2 1 rfl rfl, HH0.out.at 2 2 rfl rfl⟩) (fun hHeld => ?_)
  refine wpAnyH_take (i := 0) (oi := ⟨some 40, _, _, _, _, _⟩) (v := ?v_1) rfl (by kernel_rfl) (by kernel_rfl) (by kernel_rfl) (fun _ _ _ h => h) (Or.inl ⟨by rfl, ?y_1⟩) (by assumption) ?n_1
  case y_1 => (intro w_ hSw; (try dsimp only at hSw); go_simp; try (with_reducible rfl))
  try simp only [Act.put, List.setIfInBounds_toArray, List.set_cons_zero, List.set_cons_succ]
  refine wpAnyH_ready (rs := [1]) (by kernel_rfl) (by simp) ?_
  refine AllReadyH.cons (o := ⟨some 41, _, _, _, _, _⟩) rfl (fun K_ hK_ => ?_) AllReadyH.nil
  go_simp
  refine (colonnadelaw26_num.calls 0 0 _ rfl).mono ?_
  rintro e u1 ⟨rfl, hd⟩
  have HH1 := Aside0.mk (HH0.out.step hd.below)
  clear hd
  refine hK_.out _ _ (⟨HH1.out.at 0 0 rfl rfl, HH1.out.at 0 1 rfl rfl, HH1.out.at 0 2 rfl rfl, HH1.out.at 1 0 rfl rfl, HH1.out.at 1 1 rfl rfl, HH1.out.at 1 2 rfl rfl, HH1.out.at 2 0 rfl rfl, HH1.out.at 2 1 rfl rfl, HH1.out.at 2 2 rfl rfl⟩) (fun hHeld => ?_)
  clear hK_ K_
  try simp only [Act.put, List.setIfInBounds_toArray, List.set_cons_zero, List.set_cons_succ]
  refine wpAnyH_take (i := 2) (oi := ⟨some 42, _, _, _, _, _⟩) (v := ?v_2) rfl (by kernel_rfl) (by kernel_rfl) (by kernel_rfl) (fun _ _ _ h => h) (Or.inl ⟨by rfl, ?y_2⟩) (by assumption) ?n_2
  case y_2 => (intro w_ hSw; (try dsimp only at hSw); go_simp; try (with_reducible rfl))
  try simp only [Act.put, List.setIfInBounds_toArray, List.set_cons_zero, List.set_cons_succ]
  refine wpAnyH_take (i := 3) (oi := ⟨some 43, _, _, _, _, _⟩) (v := ?v_3) rfl (by kernel_rfl) (by kernel_rfl) (by kernel_rfl) (fun _ _ _ h => h) (Or.inl ⟨by rfl, ?y_3⟩) (by assumption) ?n_3
  case y_3 => (intro w_ hSw; (try dsimp only at hSw); go_simp; try (with_reducible rfl))
  try simp only [Act.put, List.setIfInBounds_toArray, List.set_cons_zero, List.set_cons_succ]
  refine wpAnyH_take (i := 4) (oi := ⟨some 44, _, _, _, _, _⟩) (v := ?v_4) rfl (by kernel_rfl) (by kernel_rfl) (by kernel_rfl) (fun _ _ _ h => h) (Or.inl ⟨by rfl, ?y_4⟩) (by assumption) ?n_4
  case y_4 => (intro w_ hSw; (try dsimp only at hSw); go_simp; try (with_reducible rfl))
  try simp only [Act.put, List.setIfInBounds_toArray, List.set_cons_zero, List.set_cons_succ]
  refine wpAnyH_take (i := 5) (oi := ⟨some 45, _, _, _, _, _⟩) (v := ?v_5) rfl (by kernel_rfl) (by kernel_rfl) (by kernel_rfl) (fun _ _ _ h => h) (Or.inl ⟨by rfl, ?y_5⟩) (by assumption) ?n_5
  case y_5 => (intro w_ hSw; (try dsimp only at hSw); go_simp; try (with_reducible rfl))
  try simp only [Act.put, List.setIfInBounds_toArray, List.set_cons_zero, List.set_cons_succ]
  refine wpAnyH_take (i := 6) (oi := ⟨some 46, _, _, _, _, _⟩) (v := ?v_6) rfl (by kernel_rfl) (by kernel_rfl) (by kernel_rfl) (fun _ _ _ h => h) (Or.inl ⟨by rfl, ?y_6⟩) (by assumption) ?n_6
  case y_6 => (intro w_ hSw; (try dsimp only at hSw); go_simp; try (with_reducible rfl))
  try simp only [Act.put, List.setIfInBounds_toArray, List.set_cons_zero, List.set_cons_succ]
  refine wpAnyH_take (i := 7) (oi := ⟨some 47, _, _, _, _, _⟩) (v := ?v_7) rfl (by kernel_rfl) (by kernel_rfl) (by kernel_rfl) (fun _ _ _ h => h) (Or.inl ⟨by rfl, ?y_7⟩) (by assumption) ?n_7
  case y_7 => (intro w_ hSw; (try dsimp only at hSw); go_simp; try (with_reducible rfl))
  try simp only [Act.put, List.setIfInBounds_toArray, List.set_cons_zero, List.set_cons_succ]
  refine wpAnyH_take (i := 8) (oi := ⟨some 48, _, _, _, _, _⟩) (v := ?v_8) rfl (by kernel_rfl) (by kernel_rfl) (by kernel_rfl) (fun _ _ _ h => h) (Or.inl ⟨by rfl, ?y_8⟩) (by assumption) ?n_8
  case y_8 => (intro w_ hSw; (try dsimp only at hSw); go_simp; try (with_reducible rfl))
  try simp only [Act.put, List.setIfInBounds_toArray, List.set_cons_zero, List.set_cons_succ]
  refine wpAnyH_take (i := 9) (oi := ⟨some 49, _, _, _, _, _⟩) (v := ?v_9) rfl (by kernel_rfl) (by kernel_rfl) (by kernel_rfl) (fun _ _ _ h => h) (Or.inl ⟨by rfl, ?y_9⟩) (by assumption) ?n_9
  case y_9 => (intro w_ hSw; (try dsimp only at hSw); go_simp; try (with_reducible rfl))
  try simp only [Act.put, List.setIfInBounds_toArray, List.set_cons_zero, List.set_cons_succ]
  refine wpAnyH_ready (rs := [10]) (by kernel_rfl) (by simp) ?_
  refine AllReadyH.cons (o := ⟨some 50, _, _, _, _, _⟩) rfl (fun K_ hK_ => ?_) AllReadyH.nil
  go_simp
  refine (colonnadelaw26_num.calls 0 0 _ rfl).mono ?_
  rintro e u2 ⟨rfl, hd⟩
  have HH2 := Aside0.mk (HH1.out.step hd.below)
  clear hd
  refine hK_.out _ _ (⟨HH2.out.at 0 0 rfl rfl, HH2.out.at 0 1 rfl rfl, HH2.out.at 0 2 rfl rfl, HH2.out.at 1 0 rfl rfl, HH2.out.at 1 1 rfl rfl, HH2.out.at 1 2 rfl rfl, HH2.out.at 2 0 rfl rfl, HH2.out.at 2 1 rfl rfl, HH2.out.at 2 2 rfl rfl⟩) (fun hHeld => ?_)
  clear hK_ K_
  try simp only [Act.put, List.setIfInBounds_toArray, List.set_cons_zero, List.set_cons_succ]
  refine wpAnyH_take (i := 11) (oi := ⟨some 51, _, _, _, _, _⟩) (v := ?v_10) rfl (by kernel_rfl) (by kernel_rfl) (by kernel_rfl) (fun _ _ _ h => h) (Or.inl ⟨by rfl, ?y_10⟩) (by assumption) ?n_10
  case y_10 => (intro w_ hSw; (try dsimp only at hSw); go_simp; try (with_reducible rfl))
  try simp only [Act.put, List.setIfInBounds_toArray, List.set_cons_zero, List.set_cons_succ]
  refine wpAnyH_take (i := 12) (oi := ⟨some 52, _, _, _, _, _⟩) (v := ?v_11) rfl (by kernel_rfl) (by kernel_rfl) (by kernel_rfl) (fun _ _ _ h => h) (Or.inl ⟨by rfl, ?y_11⟩) (by assumption) ?n_11
  case y_11 => (intro w_ hSw; (try dsimp only at hSw); go_simp; try (with_reducible rfl))
  try simp only [Act.put, List.setIfInBounds_toArray, List.set_cons_zero, List.set_cons_succ]
  refine wpAnyH_take (i := 13) (oi := ⟨some 53, _, _, _, _, _⟩) (v := ?v_12) rfl (by kernel_rfl) (by kernel_rfl) (by kernel_rfl) (fun _ _ _ h => h) (Or.inl ⟨by rfl, ?y_12⟩) (by assumption) ?n_12
  case y_12 => (intro w_ hSw; (try dsimp only at hSw); go_simp; try (with_reducible rfl))
  try simp only [Act.put, List.setIfInBounds_toArray, List.set_cons_zero, List.set_cons_succ]
  refine wpAnyH_take (i := 14) (oi := ⟨some 54, _, _, _, _, _⟩) (v := ?v_13) rfl (by kernel_rfl) (by kernel_rfl) (by kernel_rfl) (fun _ _ _ h => h) (Or.inl ⟨by rfl, ?y_13⟩) (by assumption) ?n_13
  case y_13 => (intro w_ hSw; (try dsimp only at hSw); go_simp; try (with_reducible rfl))
  try simp only [Act.put, List.setIfInBounds_toArray, List.set_cons_zero, List.set_cons_succ]
  refine wpAnyH_take (i := 15) (oi := ⟨some 55, _, _, _, _, _⟩) (v := ?v_14) rfl (by kernel_rfl) (by kernel_rfl) (by kernel_rfl) (fun _ _ _ h => h) (Or.inl ⟨by rfl, ?y_14⟩) (by assumption) ?n_14
  case y_14 => (intro w_ hSw; (try dsimp only at hSw); go_simp; try (with_reducible rfl))
  try simp only [Act.put, List.setIfInBounds_toArray, List.set_cons_zero, List.set_cons_succ]
  refine wpAnyH_take (i := 16) (oi := ⟨some 56, _, _, _, _, _⟩) (v := ?v_15) rfl (by kernel_rfl) (by kernel_rfl) (by kernel_rfl) (fun _ _ _ h => h) (Or.inl ⟨by rfl, ?y_15⟩) (by assumption) ?n_15
  case y_15 => (intro w_ hSw; (try dsimp only at hSw); go_simp; try (with_reducible rfl))
  try simp only [Act.put, List.setIfInBounds_toArray, List.set_cons_zero, List.set_cons_succ]
  refine wpAnyH_take (i := 17) (oi := ⟨some 57, _, _, _, _, _⟩) (v := ?v_16) rfl (by kernel_rfl) (by kernel_rfl) (by kernel_rfl) (fun _ _ _ h => h) (Or.inl ⟨by rfl, ?y_16⟩) (by assumption) ?n_16
  case y_16 => (intro w_ hSw; (try dsimp only at hSw); go_simp; try (with_reducible rfl))
  try simp only [Act.put, List.setIfInBounds_toArray, List.set_cons_zero, List.set_cons_succ]
  refine wpAnyH_take (i := 18) (oi := ⟨some 58, _, _, _, _, _⟩) (v := ?v_17) rfl (by kernel_rfl) (by kernel_rfl) (by kernel_rfl) (fun _ _ _ h => h) (Or.inl ⟨by rfl, ?y_17⟩) (by assumption) ?n_17
  case y_17 => (intro w_ hSw; (try dsimp only at hSw); go_simp; try (with_reducible rfl))
  try simp only [Act.put, List.setIfInBounds_toArray, List.set_cons_zero, List.set_cons_succ]
  refine wpAnyH_take (i := 19) (oi := ⟨some 59, _, _, _, _, _⟩) (v := ?v_18) rfl (by kernel_rfl) (by kernel_rfl) (by kernel_rfl) (fun _ _ _ h => h) (Or.inl ⟨by rfl, ?y_18⟩) (by assumption) ?n_18
  case y_18 => (intro w_ hSw; (try dsimp only at hSw); go_simp; try (with_reducible rfl))
  try simp only [Act.put, List.setIfInBounds_toArray, List.set_cons_zero, List.set_cons_succ]
  refine wpAnyH_ready (rs := [20]) (by kernel_rfl) (by simp) ?_
  refine AllReadyH.cons (o := ⟨some 60, _, _, _, _, _⟩) rfl (fun K_ hK_ => ?_) AllReadyH.nil
  go_simp
  refine (colonnadelaw26_num.calls 0 0 _ rfl).mono ?_
  rintro e u3 ⟨rfl, hd⟩
  have HH3 := Aside0.mk (HH2.out.step hd.below)
  clear hd
  refine hK_.out _ _ (⟨HH3.out.at 0 0 rfl rfl, HH3.out.at 0 1 rfl rfl, HH3.out.at 0 2 rfl rfl, HH3.out.at 1 0 rfl rfl, HH3.out.at 1 1 rfl rfl, HH3.out.at 1 2 rfl rfl, HH3.out.at 2 0 rfl rfl, HH3.out.at 2 1 rfl rfl, HH3.out.at 2 2 rfl rfl⟩) (fun hHeld => ?_)
  clear hK_ K_
  try simp only [Act.put, List.setIfInBounds_toArray, List.set_cons_zero, List.set_cons_succ]
  refine wpAnyH_take (i := 21) (oi := ⟨some 61, _, _, _, _, _⟩) (v := ?v_19) rfl (by kernel_rfl) (by kernel_rfl) (by kernel_rfl) (fun _ _ _ h => h) (Or.inl ⟨by rfl, ?y_19⟩) (by assumption) ?n_19
  case y_19 => (intro w_ hSw; (try dsimp only at hSw); go_simp; try (with_reducible rfl))
  try simp only [Act.put, List.setIfInBounds_toArray, List.set_cons_zero, List.set_cons_succ]
  refine wpAnyH_take (i := 22) (oi := ⟨some 62, _, _, _, _, _⟩) (v := ?v_20) rfl (by kernel_rfl) (by kernel_rfl) (by kernel_rfl) (fun _ _ _ h => h) (Or.inl ⟨by rfl, ?y_20⟩) (by assumption) ?n_20
  case y_20 => (intro w_ hSw; (try dsimp only at hSw); go_simp; try (with_reducible rfl))
  try simp only [Act.put, List.setIfInBounds_toArray, List.set_cons_zero, List.set_cons_succ]
  refine wpAnyH_take (i := 23) (oi := ⟨some 63, _, _, _, _, _⟩) (v := ?v_21) rfl (by kernel_rfl) (by kernel_rfl) (by kernel_rfl) (fun _ _ _ h => h) (Or.inl ⟨by rfl, ?y_21⟩) (by assumption) ?n_21
  case y_21 => (intro w_ hSw; (try dsimp only at hSw); go_simp; try (with_reducible rfl))
  try simp only [Act.put, List.setIfInBounds_toArray, List.set_cons_zero, List.set_cons_succ]
  refine wpAnyH_take (i := 24) (oi := ⟨some 64, _, _, _, _, _⟩) (v := ?v_22) rfl (by kernel_rfl) (by kernel_rfl) (by kernel_rfl) (fun _ _ _ h => h) (Or.inl ⟨by rfl, ?y_22⟩) (by assumption) ?n_22
  case y_22 => (intro w_ hSw; (try dsimp only at hSw); go_simp; try (with_reducible rfl))
  try simp only [Act.put, List.setIfInBounds_toArray, List.set_cons_zero, List.set_cons_succ]
  refine wpAnyH_take (i := 25) (oi := ⟨some 65, _, _, _, _, _⟩) (v := ?v_23) rfl (by kernel_rfl) (by kernel_rfl) (by kernel_rfl) (fun _ _ _ h => h) (Or.inl ⟨by rfl, ?y_23⟩) (by assumption) ?n_23
  case y_23 => (intro w_ hSw; (try dsimp only at hSw); go_simp; try (with_reducible rfl))
  try simp only [Act.put, List.setIfInBounds_toArray, List.set_cons_zero, List.set_cons_succ]
  refine wpAnyH_take (i := 26) (oi := ⟨some 66, _, _, _, _, _⟩) (v := ?v_24) rfl (by kernel_rfl) (by kernel_rfl) (by kernel_rfl) (fun _ _ _ h => h) (Or.inl ⟨by rfl, ?y_24⟩) (by assumption) ?n_24
  case y_24 => (intro w_ hSw; (try dsimp only at hSw); go_simp; try (with_reducible rfl))
  try simp only [Act.put, List.setIfInBounds_toArray, List.set_cons_zero, List.set_cons_succ]
  refine wpAnyH_take (i := 27) (oi := ⟨some 67, _, _, _, _, _⟩) (v := ?v_25) rfl (by kernel_rfl) (by kernel_rfl) (by kernel_rfl) (fun _ _ _ h => h) (Or.inl ⟨by rfl, ?y_25⟩) (by assumption) ?n_25
  case y_25 => (intro w_ hSw; (try dsimp only at hSw); go_simp; try (with_reducible rfl))
  try simp only [Act.put, List.setIfInBounds_toArray, List.set_cons_zero, List.set_cons_succ]
  refine wpAnyH_take (i := 28) (oi := ⟨some 68, _, _, _, _, _⟩) (v := ?v_26) rfl (by kernel_rfl) (by kernel_rfl) (by kernel_rfl) (fun _ _ _ h => h) (Or.inl ⟨by rfl, ?y_26⟩) (by assumption) ?n_26
  case y_26 => (intro w_ hSw; (try dsimp only at hSw); go_simp; try (with_reducible rfl))
  try simp only [Act.put, List.setIfInBounds_toArray, List.set_cons_zero, List.set_cons_succ]
  refine wpAnyH_take (i := 29) (oi := ⟨some 69, _, _, _, _, _⟩) (v := ?v_27) rfl (by kernel_rfl) (by kernel_rfl) (by kernel_rfl) (fun _ _ _ h => h) (Or.inl ⟨by rfl, ?y_27⟩) (by assumption) ?n_27
  case y_27 => (intro w_ hSw; (try dsimp only at hSw); go_simp; try (with_reducible rfl))
  try simp only [Act.put, List.setIfInBounds_toArray, List.set_cons_zero, List.set_cons_succ]
  refine wpAnyH_take (i := 30) (oi := ⟨some 70, _, _, _, _, _⟩) (v := ?v_28) rfl (by kernel_rfl) (by kernel_rfl) (by kernel_rfl) (fun _ _ _ h => h) (Or.inl ⟨by rfl, ?y_28⟩) (by assumption) ?n_28
  case y_28 => (intro w_ hSw; (try dsimp only at hSw); go_simp; try (with_reducible rfl))
  try simp only [Act.put, List.setIfInBounds_toArray, List.set_cons_zero, List.set_cons_succ]
  refine wpAnyH_take (i := 32) (oi := ⟨some 72, _, _, _, _, _⟩) (v := ?v_29) rfl (by kernel_rfl) (by kernel_rfl) (by kernel_rfl) (fun _ _ _ h => h) (Or.inl ⟨by rfl, ?y_29⟩) (by assumption) ?n_29
  case y_29 => (intro w_ hSw; (try dsimp only at hSw); go_simp; try (with_reducible rfl))
  try simp only [Act.put, List.setIfInBounds_toArray, List.set_cons_zero, List.set_cons_succ]
  refine wpAnyH_ready (rs := [31]) (by kernel_rfl) (by simp) ?_
  refine AllReadyH.cons (o := ⟨some 71, _, _, _, _, _⟩) rfl (fun K_ hK_ => ?_) AllReadyH.nil
  go_simp
  refine (prune_And.calls true false true false true false _ _ _ _ rfl).mono ?_
  rintro e u4 ⟨rfl, hb⟩
  have HH4 := Aside0.mk (HH3.out.step hb)
  clear hb
  refine hK_.out _ _ (⟨HH4.out.at 0 0 rfl rfl, HH4.out.at 0 1 rfl rfl, HH4.out.at 0 2 rfl rfl, HH4.out.at 1 0 rfl rfl, HH4.out.at 1 1 rfl rfl, HH4.out.at 1 2 rfl rfl, HH4.out.at 2 0 rfl rfl, HH4.out.at 2 1 rfl rfl, HH4.out.at 2 2 rfl rfl⟩) (fun hHeld => ?_)
  clear hK_ K_
  try simp only [Act.put, List.setIfInBounds_toArray, List.set_cons_zero, List.set_cons_succ]
  refine wpAnyH_take (i := 33) (oi := ⟨some 73, _, _, _, _, _⟩) (v := ?v_30) rfl (by kernel_rfl) (by kernel_rfl) (by kernel_rfl) (fun _ _ _ h => h) (Or.inl ⟨by rfl, ?y_30⟩) (by assumption) ?n_30
  case y_30 => (intro w_ hSw; (try dsimp only at hSw); go_simp; try (with_reducible rfl))
  try simp only [Act.put, List.setIfInBounds_toArray, List.set_cons_zero, List.set_cons_succ]
  refine wpAnyH_take (i := 34) (oi := ⟨some 74, _, _, _, _, _⟩) (v := ?v_31) rfl (by kernel_rfl) (by kernel_rfl) (by kernel_rfl) (fun _ _ _ h => h) (Or.inl ⟨by rfl, ?y_31⟩) (by assumption) ?n_31
  case y_31 => (intro w_ hSw; (try dsimp only at hSw); go_simp; try (with_reducible rfl))
  try simp only [Act.put, List.setIfInBounds_toArray, List.set_cons_zero, List.set_cons_succ]
  refine wpAnyH_take (i := 35) (oi := ⟨some 0, _, _, _, _, _⟩) (v := ?v_32) rfl (by kernel_rfl) (by kernel_rfl) (by kernel_rfl) (fun _ _ _ h => h) (Or.inl ⟨by rfl, ?y_32⟩) (by assumption) ?n_32
  case y_32 => (intro w_ hSw; (try dsimp only at hSw); go_simp; try (with_reducible rfl))
  try simp only [Act.put, List.setIfInBounds_toArray, List.set_cons_zero, List.set_cons_succ]
  refine wpAnyH_done (by kernel_rfl) ?_ _
  go_wp2_with fail
  go_ret
  exact ⟨rfl, HH4.out.below⟩
def XLaw.notT (a : S23) : S23 := ⟨a.f1, a.f0, a.f2⟩
def XLaw.orT (a b : S23) : S23 := XLaw.notT (XAnd.andT (XLaw.notT a) (XLaw.notT b))
theorem XLaw.and_comm (a b : S23) : XAnd.andT b a = XAnd.andT a b := by
  obtain ⟨a0, a1, a2⟩ := a; obtain ⟨b0, b1, b2⟩ := b
  cases a0 <;> cases a1 <;> cases a2 <;> cases b0 <;> cases b1 <;> cases b2 <;> rfl
set_option maxHeartbeats 2000000 in
theorem XLaw.and_assoc (a b c : S23) : XAnd.andT a (XAnd.andT b c) = XAnd.andT (XAnd.andT a b) c := by
  obtain ⟨a0, a1, a2⟩ := a; obtain ⟨b0, b1, b2⟩ := b; obtain ⟨c0, c1, c2⟩ := c
  cases a0 <;> cases a1 <;> cases a2 <;> cases b0 <;> cases b1 <;> cases b2 <;> cases c0 <;> cases c1 <;> cases c2 <;> rfl
theorem XLaw.not_not (a : S23) : XLaw.notT (XLaw.notT a) = a := rfl
theorem XLaw.or_comm (a b : S23) : XLaw.orT b a = XLaw.orT a b := by unfold XLaw.orT; rw [XLaw.and_comm]
theorem XLaw.or_assoc (a b c : S23) : XLaw.orT a (XLaw.orT b c) = XLaw.orT (XLaw.orT a b) c := by unfold XLaw.orT; rw [XLaw.not_not, XLaw.not_not, XLaw.and_assoc]
theorem XLaw.morgan (a b : S23) : XLaw.orT (XLaw.notT a) (XLaw.notT b) = XLaw.notT (XAnd.andT a b) := by unfold XLaw.orT; rw [XLaw.not_not, XLaw.not_not]
theorem XLaw.and_none (a : S23) : XAnd.andT a ⟨false, false, false⟩ = ⟨false, false, false⟩ := by
  obtain ⟨a0, a1, a2⟩ := a; cases a0 <;> cases a1 <;> cases a2 <;> rfl
theorem XLaw.none_or (a : S23) : XLaw.orT ⟨false, false, false⟩ a = ⟨false, false, false⟩ := by
  obtain ⟨a0, a1, a2⟩ := a; cases a0 <;> cases a1 <;> cases a2 <;> rfl
theorem XLaw.and_yes (a : S23) : XAnd.andT a ⟨false, true, false⟩ = a := by
  obtain ⟨a0, a1, a2⟩ := a; cases a0 <;> cases a1 <;> cases a2 <;> rfl
theorem XLaw.or_no (a : S23) : XLaw.orT a ⟨true, false, false⟩ = a := by
  obtain ⟨a0, a1, a2⟩ := a; cases a0 <;> cases a1 <;> cases a2 <;> rfl
theorem XLaw.andC {a b r : S23} (h : XAnd.andT a b = r) (w : World) : Calls Try.prog 5 #[.agg #[.bool a.f0, .bool a.f1, .bool a.f2], .agg #[.bool b.f0, .bool b.f1, .bool b.f2]] w fun e w' => e = .returned (.agg #[.bool r.f0, .bool r.f1, .bool r.f2]) ∧ Below w.heap.size w w' := by
  subst h
  exact XAnd.and a.f0 a.f1 a.f2 b.f0 b.f1 b.f2 w
theorem XLaw.notC {a r : S23} (h : XLaw.notT a = r) (w : World) : Calls Try.prog 7 #[.agg #[.bool a.f0, .bool a.f1, .bool a.f2]] w fun e w' => e = .returned (.agg #[.bool r.f0, .bool r.f1, .bool r.f2]) ∧ Below w.heap.size w w' := by
  subst h
  exact prune_Not.calls a.f0 a.f1 a.f2 _ _ _ w rfl
theorem XLaw.orC {a b r : S23} (h : XLaw.orT a b = r) (w : World) : Calls Try.prog 6 #[.agg #[.bool a.f0, .bool a.f1, .bool a.f2], .agg #[.bool b.f0, .bool b.f1, .bool b.f2]] w fun e w' => e = .returned (.agg #[.bool r.f0, .bool r.f1, .bool r.f2]) ∧ Below w.heap.size w w' := by
  subst h
  exact prune_Or.calls a.f0 a.f1 a.f2 b.f0 b.f1 b.f2 _ _ _ w rfl
set_option maxHeartbeats 8000000 in
set_option maxRecDepth 100000 in
theorem XLaw.law (a b c : S23) (w : World) : Calls Try.prog 3 #[.agg #[.bool a.f0, .bool a.f1, .bool a.f2], .agg #[.bool b.f0, .bool b.f1, .bool b.f2], .agg #[.bool c.f0, .bool c.f1, .bool c.f2]] w fun e w' => e = .returned (.bool true) ∧ Below w.heap.size w w' := by
  have HH := Aside0.mk ((((XHeld.H.nil w).alloc (.cells #[.bool a.f0, .bool a.f1, .bool a.f2] 23 (0, 0))).alloc (.cells #[.bool b.f0, .bool b.f1, .bool b.f2] 23 (0, 0))).alloc (.cells #[.bool c.f0, .bool c.f1, .bool c.f2] 23 (0, 0)))
  simp only [World.size_alloc] at HH
  have hq := eqA23
  obtain ⟨ab, hab⟩ : ∃ r, XAnd.andT a b = r := ⟨_, rfl⟩
  obtain ⟨bc, hbc⟩ : ∃ r, XAnd.andT b c = r := ⟨_, rfl⟩
  obtain ⟨abc, habc⟩ : ∃ r, XAnd.andT ab c = r := ⟨_, rfl⟩
  obtain ⟨oab, hoab⟩ : ∃ r, XLaw.orT a b = r := ⟨_, rfl⟩
  obtain ⟨obc, hobc⟩ : ∃ r, XLaw.orT b c = r := ⟨_, rfl⟩
  obtain ⟨oabc, hoabc⟩ : ∃ r, XLaw.orT oab c = r := ⟨_, rfl⟩
  obtain ⟨na, hna⟩ : ∃ r, XLaw.notT a = r := ⟨_, rfl⟩
  obtain ⟨nb, hnb⟩ : ∃ r, XLaw.notT b = r := ⟨_, rfl⟩
  obtain ⟨nab, hnab⟩ : ∃ r, XLaw.notT ab = r := ⟨_, rfl⟩
  have k1 := Aside0.mk hab
  have k2 : Aside0 (XAnd.andT b a = ab) := ⟨by rw [XLaw.and_comm, hab]⟩
  have k3 := Aside0.mk hbc
  have k4 := Aside0.mk habc
  have k5 : Aside0 (XAnd.andT a bc = abc) := ⟨by rw [← hbc, XLaw.and_assoc, hab, habc]⟩
  have k6 := Aside0.mk hoab
  have k7 : Aside0 (XLaw.orT b a = oab) := ⟨by rw [XLaw.or_comm, hoab]⟩
  have k8 := Aside0.mk hobc
  have k9 := Aside0.mk hoabc
  have k10 : Aside0 (XLaw.orT a obc = oabc) := ⟨by rw [← hobc, XLaw.or_assoc, hoab, hoabc]⟩
  have k11 := Aside0.mk hna
  have k12 : Aside0 (XLaw.notT na = a) := ⟨by rw [← hna, XLaw.not_not]⟩
  have k13 := Aside0.mk hnb
  have k14 := Aside0.mk hnab
  have k15 : Aside0 (XLaw.orT na nb = nab) := ⟨by rw [← hna, ← hnb, XLaw.morgan, hab, hnab]⟩
  clear hab hbc habc hoab hobc hoabc hna hnb hnab
  go_enter Try.func3, Try.ntmps3
  go_wp2_with fail
  refine (XAwake.awake _).mono ?_
  rintro e w1 ⟨rfl, hb⟩
  have HH1 := Aside0.mk (HH.out.step hb)
  clear hb HH
  go_wp2_with fail
  have HH0 := Aside0.mk HH1.out.drew
  clear HH1
  refine wp_region_held_drew (S := (fun w' => w'.cell? ⟨w.heap.size, 0, none⟩ = some (.bool a.f0) ∧ w'.cell? ⟨w.heap.size, 1, none⟩ = some (.bool a.f1) ∧ w'.cell? ⟨w.heap.size, 2, none⟩ = some (.bool a.f2) ∧ w'.cell? ⟨w.heap.size + 1, 0, none⟩ = some (.bool b.f0) ∧ w'.cell? ⟨w.heap.size + 1, 1, none⟩ = some (.bool b.f1) ∧ w'.cell? ⟨w.heap.size + 1, 2, none⟩ = some (.bool b.f2))) (by kernel_rfl) (⟨HH0.out.at 2 0 rfl rfl, HH0.out.at 2 1 rfl rfl, HH0.out.at 2 2 rfl rfl, HH0.out.at 1 0 rfl rfl, HH0.out.at 1 1 rfl rfl, HH0.out.at 1 2 rfl rfl⟩) (fun hHeld => ?_)
  refine wpAnyH_take (i := 0) (oi := ⟨some 12, _, _, _, _, _⟩) (v := ?v_33) rfl (by kernel_rfl) (by kernel_rfl) (by kernel_rfl) (fun _ _ _ h => h) (Or.inl ⟨by rfl, ?y_33⟩) (by assumption) ?n_33
  case y_33 => (intro w_ hSw; (try dsimp only at hSw); go_simp; try (with_reducible rfl))
  try simp only [Act.put, List.setIfInBounds_toArray, List.set_cons_zero, List.set_cons_succ]
  refine wpAnyH_take (i := 1) (oi := ⟨some 13, _, _, _, _, _⟩) (v := ?v_34) rfl (by kernel_rfl) (by kernel_rfl) (by kernel_rfl) (fun _ _ _ h => h) (Or.inl ⟨by rfl, ?y_34⟩) (by assumption) ?n_34
  case y_34 => (intro w_ hSw; (try dsimp only at hSw); go_simp; try (with_reducible rfl))
  try simp only [Act.put, List.setIfInBounds_toArray, List.set_cons_zero, List.set_cons_succ]
  refine wpAnyH_take (i := 3) (oi := ⟨some 15, _, _, _, _, _⟩) (v := ?v_35) rfl (by kernel_rfl) (by kernel_rfl) (by kernel_rfl) (fun _ _ _ h => h) (Or.inl ⟨by rfl, ?y_35⟩) (by assumption) ?n_35
  case y_35 => (intro w_ hSw; (try dsimp only at hSw); go_simp; try (with_reducible rfl))
  try simp only [Act.put, List.setIfInBounds_toArray, List.set_cons_zero, List.set_cons_succ]
  refine wpAnyH_take (i := 4) (oi := ⟨some 16, _, _, _, _, _⟩) (v := ?v_36) rfl (by kernel_rfl) (by kernel_rfl) (by kernel_rfl) (fun _ _ _ h => h) (Or.inl ⟨by rfl, ?y_36⟩) (by assumption) ?n_36
  case y_36 => (intro w_ hSw; (try dsimp only at hSw); go_simp; try (with_reducible rfl))
  try simp only [Act.put, List.setIfInBounds_toArray, List.set_cons_zero, List.set_cons_succ]
  refine wpAnyH_ready (rs := [2]) (by kernel_rfl) (by simp) ?_
  refine AllReadyH.cons (o := ⟨some 14, _, _, _, _, _⟩) rfl (fun K_ hK_ => ?_) AllReadyH.nil
  go_simp
  refine (XLaw.andC k1.out _).mono ?_
  rintro e u1 ⟨rfl, hb⟩
  have HC1 := Aside0.mk (HH0.out.step hb)
  clear hb HH0
  refine hK_.out _ _ (⟨HC1.out.at 2 0 rfl rfl, HC1.out.at 2 1 rfl rfl, HC1.out.at 2 2 rfl rfl, HC1.out.at 1 0 rfl rfl, HC1.out.at 1 1 rfl rfl, HC1.out.at 1 2 rfl rfl⟩) (fun hHeld => ?_)
  clear hK_ K_
  try simp only [Act.put, List.setIfInBounds_toArray, List.set_cons_zero, List.set_cons_succ]
  refine wpAnyH_ready (rs := [5]) (by kernel_rfl) (by simp) ?_
  refine AllReadyH.cons (o := ⟨some 17, _, _, _, _, _⟩) rfl (fun K_ hK_ => ?_) AllReadyH.nil
  go_simp
  refine (XLaw.andC k2.out _).mono ?_
  rintro e u2 ⟨rfl, hb⟩
  have HC2 := Aside0.mk (HC1.out.step hb)
  clear hb HC1
  refine hK_.out _ _ (⟨HC2.out.at 2 0 rfl rfl, HC2.out.at 2 1 rfl rfl, HC2.out.at 2 2 rfl rfl, HC2.out.at 1 0 rfl rfl, HC2.out.at 1 1 rfl rfl, HC2.out.at 1 2 rfl rfl⟩) (fun hHeld => ?_)
  clear hK_ K_
  try simp only [Act.put, List.setIfInBounds_toArray, List.set_cons_zero, List.set_cons_succ]
  refine wpAnyH_take (i := 6) (oi := ⟨some 18, _, _, _, _, _⟩) (v := ?v_37) rfl (by kernel_rfl) (by kernel_rfl) (by kernel_rfl) (fun _ _ _ h => h) (Or.inl ⟨by rfl, ?y_37⟩) (by assumption) ?n_37
  case y_37 => (intro w_ hSw; (try dsimp only at hSw); go_simp; try (with_reducible rfl))
  try simp only [Act.put, List.setIfInBounds_toArray, List.set_cons_zero, List.set_cons_succ]
  refine wpAnyH_take (i := 7) (oi := ⟨some 19, _, _, _, _, _⟩) (v := ?v_38) rfl (by kernel_rfl) (by kernel_rfl) (by kernel_rfl) (fun _ _ _ h => h) (Or.inl ⟨by rfl, ?y_38⟩) (by assumption) ?n_38
  case y_38 => (intro w_ hSw; (try dsimp only at hSw); go_simp; try (with_reducible rfl))
  try simp only [Act.put, List.setIfInBounds_toArray, List.set_cons_zero, List.set_cons_succ]
  refine wpAnyH_take (i := 8) (oi := ⟨some 20, _, _, _, _, _⟩) (v := ?v_39) rfl (by kernel_rfl) (by kernel_rfl) (by kernel_rfl) (fun _ _ _ h => h) (Or.inl ⟨by rfl, ?y_39⟩) (by assumption) ?n_39
  case y_39 => (intro w_ hSw; (try dsimp only at hSw); go_simp; try (with_reducible rfl))
  try simp only [Act.put, List.setIfInBounds_toArray, List.set_cons_zero, List.set_cons_succ]
  refine wpAnyH_take (i := 9) (oi := ⟨some 21, _, _, _, _, _⟩) (v := ?v_40) rfl (by kernel_rfl) (by kernel_rfl) (by kernel_rfl) (fun _ _ _ h => h) (Or.inl ⟨by rfl, ?y_40⟩) (by assumption) ?n_40
  case y_40 => (intro w_ hSw; (try dsimp only at hSw); go_simp; try (with_reducible rfl))
  try simp only [Act.put, List.setIfInBounds_toArray, List.set_cons_zero, List.set_cons_succ]
  refine wpAnyH_take (i := 11) (oi := ⟨some 23, _, _, _, _, _⟩) (v := ?v_41) rfl (by kernel_rfl) (by kernel_rfl) (by kernel_rfl) (fun _ _ _ h => h) (Or.inl ⟨by rfl, ?y_41⟩) (by assumption) ?n_41
  case y_41 => (intro w_ hSw; (try dsimp only at hSw); go_simp; try (with_reducible rfl))
  try simp only [Act.put, List.setIfInBounds_toArray, List.set_cons_zero, List.set_cons_succ]
  refine wpAnyH_take (i := 12) (oi := ⟨some 24, _, _, _, _, _⟩) (v := ?v_42) rfl (by kernel_rfl) (by kernel_rfl) (by kernel_rfl) (fun _ _ _ h => h) (Or.inl ⟨by rfl, ?y_42⟩) (by assumption) ?n_42
  case y_42 => (intro w_ hSw; (try dsimp only at hSw); go_simp; try (with_reducible rfl))
  try simp only [Act.put, List.setIfInBounds_toArray, List.set_cons_zero, List.set_cons_succ]
  refine wpAnyH_ready (rs := [10]) (by kernel_rfl) (by simp) ?_
  refine AllReadyH.cons (o := ⟨some 22, _, _, _, _, _⟩) rfl (fun K_ hK_ => ?_) AllReadyH.nil
  go_simp
  refine (XLaw.orC k6.out _).mono ?_
  rintro e u3 ⟨rfl, hb⟩
  have HC3 := Aside0.mk (HC2.out.step hb)
  clear hb HC2
  refine hK_.out _ _ (⟨HC3.out.at 2 0 rfl rfl, HC3.out.at 2 1 rfl rfl, HC3.out.at 2 2 rfl rfl, HC3.out.at 1 0 rfl rfl, HC3.out.at 1 1 rfl rfl, HC3.out.at 1 2 rfl rfl⟩) (fun hHeld => ?_)
  clear hK_ K_
  try simp only [Act.put, List.setIfInBounds_toArray, List.set_cons_zero, List.set_cons_succ]
  refine wpAnyH_ready (rs := [13]) (by kernel_rfl) (by simp) ?_
  refine AllReadyH.cons (o := ⟨some 25, _, _, _, _, _⟩) rfl (fun K_ hK_ => ?_) AllReadyH.nil
  go_simp
  refine (XLaw.orC k7.out _).mono ?_
  rintro e u4 ⟨rfl, hb⟩
  have HC4 := Aside0.mk (HC3.out.step hb)
  clear hb HC3
  refine hK_.out _ _ (⟨HC4.out.at 2 0 rfl rfl, HC4.out.at 2 1 rfl rfl, HC4.out.at 2 2 rfl rfl, HC4.out.at 1 0 rfl rfl, HC4.out.at 1 1 rfl rfl, HC4.out.at 1 2 rfl rfl⟩) (fun hHeld => ?_)
  clear hK_ K_
  try simp only [Act.put, List.setIfInBounds_toArray, List.set_cons_zero, List.set_cons_succ]
  refine wpAnyH_take (i := 14) (oi := ⟨some 26, _, _, _, _, _⟩) (v := ?v_43) rfl (by kernel_rfl) (by kernel_rfl) (by kernel_rfl) (fun _ _ _ h => h) (Or.inl ⟨by rfl, ?y_43⟩) (by assumption) ?n_43
  case y_43 => (intro w_ hSw; (try dsimp only at hSw); go_simp; try (with_reducible rfl))
  try simp only [Act.put, List.setIfInBounds_toArray, List.set_cons_zero, List.set_cons_succ]
  refine wpAnyH_take (i := 15) (oi := ⟨some 27, _, _, _, _, _⟩) (v := ?v_44) rfl (by kernel_rfl) (by kernel_rfl) (by kernel_rfl) (fun _ _ _ h => h) (Or.inl ⟨by rfl, ?y_44⟩) (by assumption) ?n_44
  case y_44 => (intro w_ hSw; (try dsimp only at hSw); go_simp; try (with_reducible rfl))
  try simp only [Act.put, List.setIfInBounds_toArray, List.set_cons_zero, List.set_cons_succ]
  refine wpAnyH_take (i := 16) (oi := ⟨some 28, _, _, _, _, _⟩) (v := ?v_45) rfl (by kernel_rfl) (by kernel_rfl) (by kernel_rfl) (fun _ _ _ h => h) (Or.inl ⟨by rfl, ?y_45⟩) (by assumption) ?n_45
  case y_45 => (intro w_ hSw; (try dsimp only at hSw); go_simp; try (with_reducible rfl))
  try simp only [Act.put, List.setIfInBounds_toArray, List.set_cons_zero, List.set_cons_succ]
  refine wpAnyH_take (i := 17) (oi := ⟨some 29, _, _, _, _, _⟩) (v := ?v_46) rfl (by kernel_rfl) (by kernel_rfl) (by kernel_rfl) (fun _ _ _ h => h) (Or.inl ⟨by rfl, ?y_46⟩) (by assumption) ?n_46
  case y_46 => (intro w_ hSw; (try dsimp only at hSw); go_simp; try (with_reducible rfl))
  try simp only [Act.put, List.setIfInBounds_toArray, List.set_cons_zero, List.set_cons_succ]
  refine wpAnyH_take (i := 20) (oi := ⟨some 32, _, _, _, _, _⟩) (v := ?v_47) rfl (by kernel_rfl) (by kernel_rfl) (by kernel_rfl) (fun _ _ _ h => h) (Or.inl ⟨by rfl, ?y_47⟩) (by assumption) ?n_47
  case y_47 => (intro w_ hSw; (try dsimp only at hSw); go_simp; try (with_reducible rfl))
  try simp only [Act.put, List.setIfInBounds_toArray, List.set_cons_zero, List.set_cons_succ]
  refine wpAnyH_ready (rs := [18]) (by kernel_rfl) (by simp) ?_
  refine AllReadyH.cons (o := ⟨some 30, _, _, _, _, _⟩) rfl (fun K_ hK_ => ?_) AllReadyH.nil
  go_simp
  refine (XLaw.notC k11.out _).mono ?_
  rintro e u5 ⟨rfl, hb⟩
  have HC5 := Aside0.mk (HC4.out.step hb)
  clear hb HC4
  refine hK_.out _ _ (⟨HC5.out.at 2 0 rfl rfl, HC5.out.at 2 1 rfl rfl, HC5.out.at 2 2 rfl rfl, HC5.out.at 1 0 rfl rfl, HC5.out.at 1 1 rfl rfl, HC5.out.at 1 2 rfl rfl⟩) (fun hHeld => ?_)
  clear hK_ K_
  try simp only [Act.put, List.setIfInBounds_toArray, List.set_cons_zero, List.set_cons_succ]
  refine wpAnyH_ready (rs := [19]) (by kernel_rfl) (by simp) ?_
  refine AllReadyH.cons (o := ⟨some 31, _, _, _, _, _⟩) rfl (fun K_ hK_ => ?_) AllReadyH.nil
  go_simp
  refine (XLaw.notC k12.out _).mono ?_
  rintro e u6 ⟨rfl, hb⟩
  have HC6 := Aside0.mk (HC5.out.step hb)
  clear hb HC5
  refine hK_.out _ _ (⟨HC6.out.at 2 0 rfl rfl, HC6.out.at 2 1 rfl rfl, HC6.out.at 2 2 rfl rfl, HC6.out.at 1 0 rfl rfl, HC6.out.at 1 1 rfl rfl, HC6.out.at 1 2 rfl rfl⟩) (fun hHeld => ?_)
  clear hK_ K_
  try simp only [Act.put, List.setIfInBounds_toArray, List.set_cons_zero, List.set_cons_succ]
  refine wpAnyH_take (i := 21) (oi := ⟨some 33, _, _, _, _, _⟩) (v := ?v_48) rfl (by kernel_rfl) (by kernel_rfl) (by kernel_rfl) (fun _ _ _ h => h) (Or.inl ⟨by rfl, ?y_48⟩) (by assumption) ?n_48
  case y_48 => (intro w_ hSw; (try dsimp only at hSw); go_simp; try (with_reducible rfl))
  try simp only [Act.put, List.setIfInBounds_toArray, List.set_cons_zero, List.set_cons_succ]
  refine wpAnyH_take (i := 22) (oi := ⟨some 34, _, _, _, _, _⟩) (v := ?v_49) rfl (by kernel_rfl) (by kernel_rfl) (by kernel_rfl) (fun _ _ _ h => h) (Or.inl ⟨by rfl, ?y_49⟩) (by assumption) ?n_49
  case y_49 => (intro w_ hSw; (try dsimp only at hSw); go_simp; try (with_reducible rfl))
  try simp only [Act.put, List.setIfInBounds_toArray, List.set_cons_zero, List.set_cons_succ]
  refine wpAnyH_done (by kernel_rfl) ?_ _
  clear hHeld
  go_wp2_with fail
  have HH0 := Aside0.mk HC6.out.drew
  clear HC6
  refine wp_region_held_drew (S := (fun w' => w'.cell? ⟨w.heap.size, 0, none⟩ = some (.bool a.f0) ∧ w'.cell? ⟨w.heap.size, 1, none⟩ = some (.bool a.f1) ∧ w'.cell? ⟨w.heap.size, 2, none⟩ = some (.bool a.f2) ∧ w'.cell? ⟨w.heap.size + 1, 0, none⟩ = some (.bool b.f0) ∧ w'.cell? ⟨w.heap.size + 1, 1, none⟩ = some (.bool b.f1) ∧ w'.cell? ⟨w.heap.size + 1, 2, none⟩ = some (.bool b.f2) ∧ w'.cell? ⟨w.heap.size + 1 + 1, 0, none⟩ = some (.bool c.f0) ∧ w'.cell? ⟨w.heap.size + 1 + 1, 1, none⟩ = some (.bool c.f1) ∧ w'.cell? ⟨w.heap.size + 1 + 1, 2, none⟩ = some (.bool c.f2))) (by kernel_rfl) (⟨HH0.out.at 2 0 rfl rfl, HH0.out.at 2 1 rfl rfl, HH0.out.at 2 2 rfl rfl, HH0.out.at 1 0 rfl rfl, HH0.out.at 1 1 rfl rfl, HH0.out.at 1 2 rfl rfl, HH0.out.at 0 0 rfl rfl, HH0.out.at 0 1 rfl rfl, HH0.out.at 0 2 rfl rfl⟩) (fun hHeld => ?_)
  refine wpAnyH_take (i := 0) (oi := ⟨some 35, _, _, _, _, _⟩) (v := ?v_50) rfl (by kernel_rfl) (by kernel_rfl) (by kernel_rfl) (fun _ _ _ h => h) (Or.inl ⟨by rfl, ?y_50⟩) (by assumption) ?n_50
  case y_50 => (intro w_ hSw; (try dsimp only at hSw); go_simp; try (with_reducible rfl))
  try simp only [Act.put, List.setIfInBounds_toArray, List.set_cons_zero, List.set_cons_succ]
  refine wpAnyH_take (i := 1) (oi := ⟨some 36, _, _, _, _, _⟩) (v := ?v_51) rfl (by kernel_rfl) (by kernel_rfl) (by kernel_rfl) (fun _ _ _ h => h) (Or.inl ⟨by rfl, ?y_51⟩) (by assumption) ?n_51
  case y_51 => (intro w_ hSw; (try dsimp only at hSw); go_simp; try (with_reducible rfl))
  try simp only [Act.put, List.setIfInBounds_toArray, List.set_cons_zero, List.set_cons_succ]
  refine wpAnyH_take (i := 3) (oi := ⟨some 38, _, _, _, _, _⟩) (v := ?v_52) rfl (by kernel_rfl) (by kernel_rfl) (by kernel_rfl) (fun _ _ _ h => h) (Or.inl ⟨by rfl, ?y_52⟩) (by assumption) ?n_52
  case y_52 => (intro w_ hSw; (try dsimp only at hSw); go_simp; try (with_reducible rfl))
  try simp only [Act.put, List.setIfInBounds_toArray, List.set_cons_zero, List.set_cons_succ]
  refine wpAnyH_take (i := 5) (oi := ⟨some 40, _, _, _, _, _⟩) (v := ?v_53) rfl (by kernel_rfl) (by kernel_rfl) (by kernel_rfl) (fun _ _ _ h => h) (Or.inl ⟨by rfl, ?y_53⟩) (by assumption) ?n_53
  case y_53 => (intro w_ hSw; (try dsimp only at hSw); go_simp; try (with_reducible rfl))
  try simp only [Act.put, List.setIfInBounds_toArray, List.set_cons_zero, List.set_cons_succ]
  refine wpAnyH_take (i := 6) (oi := ⟨some 41, _, _, _, _, _⟩) (v := ?v_54) rfl (by kernel_rfl) (by kernel_rfl) (by kernel_rfl) (fun _ _ _ h => h) (Or.inl ⟨by rfl, ?y_54⟩) (by assumption) ?n_54
  case y_54 => (intro w_ hSw; (try dsimp only at hSw); go_simp; try (with_reducible rfl))
  try simp only [Act.put, List.setIfInBounds_toArray, List.set_cons_zero, List.set_cons_succ]
  refine wpAnyH_take (i := 7) (oi := ⟨some 42, _, _, _, _, _⟩) (v := ?v_55) rfl (by kernel_rfl) (by kernel_rfl) (by kernel_rfl) (fun _ _ _ h => h) (Or.inl ⟨by rfl, ?y_55⟩) (by assumption) ?n_55
  case y_55 => (intro w_ hSw; (try dsimp only at hSw); go_simp; try (with_reducible rfl))
  try simp only [Act.put, List.setIfInBounds_toArray, List.set_cons_zero, List.set_cons_succ]
  refine wpAnyH_ready (rs := [2]) (by kernel_rfl) (by simp) ?_
  refine AllReadyH.cons (o := ⟨some 37, _, _, _, _, _⟩) rfl (fun K_ hK_ => ?_) AllReadyH.nil
  go_simp
  refine (XLaw.andC k1.out _).mono ?_
  rintro e u7 ⟨rfl, hb⟩
  have HC7 := Aside0.mk (HH0.out.step hb)
  clear hb HH0
  refine hK_.out _ _ (⟨HC7.out.at 2 0 rfl rfl, HC7.out.at 2 1 rfl rfl, HC7.out.at 2 2 rfl rfl, HC7.out.at 1 0 rfl rfl, HC7.out.at 1 1 rfl rfl, HC7.out.at 1 2 rfl rfl, HC7.out.at 0 0 rfl rfl, HC7.out.at 0 1 rfl rfl, HC7.out.at 0 2 rfl rfl⟩) (fun hHeld => ?_)
  clear hK_ K_
  try simp only [Act.put, List.setIfInBounds_toArray, List.set_cons_zero, List.set_cons_succ]
  refine wpAnyH_ready (rs := [4]) (by kernel_rfl) (by simp) ?_
  refine AllReadyH.cons (o := ⟨some 39, _, _, _, _, _⟩) rfl (fun K_ hK_ => ?_) AllReadyH.nil
  go_simp
  refine (XLaw.andC k4.out _).mono ?_
  rintro e u8 ⟨rfl, hb⟩
  have HC8 := Aside0.mk (HC7.out.step hb)
  clear hb HC7
  refine hK_.out _ _ (⟨HC8.out.at 2 0 rfl rfl, HC8.out.at 2 1 rfl rfl, HC8.out.at 2 2 rfl rfl, HC8.out.at 1 0 rfl rfl, HC8.out.at 1 1 rfl rfl, HC8.out.at 1 2 rfl rfl, HC8.out.at 0 0 rfl rfl, HC8.out.at 0 1 rfl rfl, HC8.out.at 0 2 rfl rfl⟩) (fun hHeld => ?_)
  clear hK_ K_
  try simp only [Act.put, List.setIfInBounds_toArray, List.set_cons_zero, List.set_cons_succ]
  refine wpAnyH_ready (rs := [8]) (by kernel_rfl) (by simp) ?_
  refine AllReadyH.cons (o := ⟨some 43, _, _, _, _, _⟩) rfl (fun K_ hK_ => ?_) AllReadyH.nil
  go_simp
  refine (XLaw.andC k3.out _).mono ?_
  rintro e u9 ⟨rfl, hb⟩
  have HC9 := Aside0.mk (HC8.out.step hb)
  clear hb HC8
  refine hK_.out _ _ (⟨HC9.out.at 2 0 rfl rfl, HC9.out.at 2 1 rfl rfl, HC9.out.at 2 2 rfl rfl, HC9.out.at 1 0 rfl rfl, HC9.out.at 1 1 rfl rfl, HC9.out.at 1 2 rfl rfl, HC9.out.at 0 0 rfl rfl, HC9.out.at 0 1 rfl rfl, HC9.out.at 0 2 rfl rfl⟩) (fun hHeld => ?_)
  clear hK_ K_
  try simp only [Act.put, List.setIfInBounds_toArray, List.set_cons_zero, List.set_cons_succ]
  refine wpAnyH_ready (rs := [9]) (by kernel_rfl) (by simp) ?_
  refine AllReadyH.cons (o := ⟨some 44, _, _, _, _, _⟩) rfl (fun K_ hK_ => ?_) AllReadyH.nil
  go_simp
  refine (XLaw.andC k5.out _).mono ?_
  rintro e u10 ⟨rfl, hb⟩
  have HC10 := Aside0.mk (HC9.out.step hb)
  clear hb HC9
  refine hK_.out _ _ (⟨HC10.out.at 2 0 rfl rfl, HC10.out.at 2 1 rfl rfl, HC10.out.at 2 2 rfl rfl, HC10.out.at 1 0 rfl rfl, HC10.out.at 1 1 rfl rfl, HC10.out.at 1 2 rfl rfl, HC10.out.at 0 0 rfl rfl, HC10.out.at 0 1 rfl rfl, HC10.out.at 0 2 rfl rfl⟩) (fun hHeld => ?_)
  clear hK_ K_
  try simp only [Act.put, List.setIfInBounds_toArray, List.set_cons_zero, List.set_cons_succ]
  refine wpAnyH_take (i := 10) (oi := ⟨some 45, _, _, _, _, _⟩) (v := ?v_56) rfl (by kernel_rfl) (by kernel_rfl) (by kernel_rfl) (fun _ _ _ h => h) (Or.inl ⟨by rfl, ?y_56⟩) (by assumption) ?n_56
  case y_56 => (intro w_ hSw; (try dsimp only at hSw); go_simp; try (with_reducible rfl))
  try simp only [Act.put, List.setIfInBounds_toArray, List.set_cons_zero, List.set_cons_succ]
  refine wpAnyH_take (i := 11) (oi := ⟨some 46, _, _, _, _, _⟩) (v := ?v_57) rfl (by kernel_rfl) (by kernel_rfl) (by kernel_rfl) (fun _ _ _ h => h) (Or.inl ⟨by rfl, ?y_57⟩) (by assumption) ?n_57
  case y_57 => (intro w_ hSw; (try dsimp only at hSw); go_simp; try (with_reducible rfl))
  try simp only [Act.put, List.setIfInBounds_toArray, List.set_cons_zero, List.set_cons_succ]
  refine wpAnyH_take (i := 12) (oi := ⟨some 47, _, _, _, _, _⟩) (v := ?v_58) rfl (by kernel_rfl) (by kernel_rfl) (by kernel_rfl) (fun _ _ _ h => h) (Or.inl ⟨by rfl, ?y_58⟩) (by assumption) ?n_58
  case y_58 => (intro w_ hSw; (try dsimp only at hSw); go_simp; try (with_reducible rfl))
  try simp only [Act.put, List.setIfInBounds_toArray, List.set_cons_zero, List.set_cons_succ]
  refine wpAnyH_take (i := 13) (oi := ⟨some 48, _, _, _, _, _⟩) (v := ?v_59) rfl (by kernel_rfl) (by kernel_rfl) (by kernel_rfl) (fun _ _ _ h => h) (Or.inl ⟨by rfl, ?y_59⟩) (by assumption) ?n_59
  case y_59 => (intro w_ hSw; (try dsimp only at hSw); go_simp; try (with_reducible rfl))
  try simp only [Act.put, List.setIfInBounds_toArray, List.set_cons_zero, List.set_cons_succ]
  refine wpAnyH_take (i := 15) (oi := ⟨some 50, _, _, _, _, _⟩) (v := ?v_60) rfl (by kernel_rfl) (by kernel_rfl) (by kernel_rfl) (fun _ _ _ h => h) (Or.inl ⟨by rfl, ?y_60⟩) (by assumption) ?n_60
  case y_60 => (intro w_ hSw; (try dsimp only at hSw); go_simp; try (with_reducible rfl))
  try simp only [Act.put, List.setIfInBounds_toArray, List.set_cons_zero, List.set_cons_succ]
  refine wpAnyH_take (i := 17) (oi := ⟨some 52, _, _, _, _, _⟩) (v := ?v_61) rfl (by kernel_rfl) (by kernel_rfl) (by kernel_rfl) (fun _ _ _ h => h) (Or.inl ⟨by rfl, ?y_61⟩) (by assumption) ?n_61
  case y_61 => (intro w_ hSw; (try dsimp only at hSw); go_simp; try (with_reducible rfl))
  try simp only [Act.put, List.setIfInBounds_toArray, List.set_cons_zero, List.set_cons_succ]
  refine wpAnyH_take (i := 18) (oi := ⟨some 53, _, _, _, _, _⟩) (v := ?v_62) rfl (by kernel_rfl) (by kernel_rfl) (by kernel_rfl) (fun _ _ _ h => h) (Or.inl ⟨by rfl, ?y_62⟩) (by assumption) ?n_62
  case y_62 => (intro w_ hSw; (try dsimp only at hSw); go_simp; try (with_reducible rfl))
  try simp only [Act.put, List.setIfInBounds_toArray, List.set_cons_zero, List.set_cons_succ]
  refine wpAnyH_take (i := 19) (oi := ⟨some 54, _, _, _, _, _⟩) (v := ?v_63) rfl (by kernel_rfl) (by kernel_rfl) (by kernel_rfl) (fun _ _ _ h => h) (Or.inl ⟨by rfl, ?y_63⟩) (by assumption) ?n_63
  case y_63 => (intro w_ hSw; (try dsimp only at hSw); go_simp; try (with_reducible rfl))
  try simp only [Act.put, List.setIfInBounds_toArray, List.set_cons_zero, List.set_cons_succ]
  refine wpAnyH_ready (rs := [14]) (by kernel_rfl) (by simp) ?_
  refine AllReadyH.cons (o := ⟨some 49, _, _, _, _, _⟩) rfl (fun K_ hK_ => ?_) AllReadyH.nil
  go_simp
  refine (XLaw.orC k6.out _).mono ?_
  rintro e u11 ⟨rfl, hb⟩
  have HC11 := Aside0.mk (HC10.out.step hb)
  clear hb HC10
  refine hK_.out _ _ (⟨HC11.out.at 2 0 rfl rfl, HC11.out.at 2 1 rfl rfl, HC11.out.at 2 2 rfl rfl, HC11.out.at 1 0 rfl rfl, HC11.out.at 1 1 rfl rfl, HC11.out.at 1 2 rfl rfl, HC11.out.at 0 0 rfl rfl, HC11.out.at 0 1 rfl rfl, HC11.out.at 0 2 rfl rfl⟩) (fun hHeld => ?_)
  clear hK_ K_
  try simp only [Act.put, List.setIfInBounds_toArray, List.set_cons_zero, List.set_cons_succ]
  refine wpAnyH_ready (rs := [16]) (by kernel_rfl) (by simp) ?_
  refine AllReadyH.cons (o := ⟨some 51, _, _, _, _, _⟩) rfl (fun K_ hK_ => ?_) AllReadyH.nil
  go_simp
  refine (XLaw.orC k9.out _).mono ?_
  rintro e u12 ⟨rfl, hb⟩
  have HC12 := Aside0.mk (HC11.out.step hb)
  clear hb HC11
  refine hK_.out _ _ (⟨HC12.out.at 2 0 rfl rfl, HC12.out.at 2 1 rfl rfl, HC12.out.at 2 2 rfl rfl, HC12.out.at 1 0 rfl rfl, HC12.out.at 1 1 rfl rfl, HC12.out.at 1 2 rfl rfl, HC12.out.at 0 0 rfl rfl, HC12.out.at 0 1 rfl rfl, HC12.out.at 0 2 rfl rfl⟩) (fun hHeld => ?_)
  clear hK_ K_
  try simp only [Act.put, List.setIfInBounds_toArray, List.set_cons_zero, List.set_cons_succ]
  refine wpAnyH_ready (rs := [20]) (by kernel_rfl) (by simp) ?_
  refine AllReadyH.cons (o := ⟨some 55, _, _, _, _, _⟩) rfl (fun K_ hK_ => ?_) AllReadyH.nil
  go_simp
  refine (XLaw.orC k8.out _).mono ?_
  rintro e u13 ⟨rfl, hb⟩
  have HC13 := Aside0.mk (HC12.out.step hb)
  clear hb HC12
  refine hK_.out _ _ (⟨HC13.out.at 2 0 rfl rfl, HC13.out.at 2 1 rfl rfl, HC13.out.at 2 2 rfl rfl, HC13.out.at 1 0 rfl rfl, HC13.out.at 1 1 rfl rfl, HC13.out.at 1 2 rfl rfl, HC13.out.at 0 0 rfl rfl, HC13.out.at 0 1 rfl rfl, HC13.out.at 0 2 rfl rfl⟩) (fun hHeld => ?_)
  clear hK_ K_
  try simp only [Act.put, List.setIfInBounds_toArray, List.set_cons_zero, List.set_cons_succ]
  refine wpAnyH_ready (rs := [21]) (by kernel_rfl) (by simp) ?_
  refine AllReadyH.cons (o := ⟨some 56, _, _, _, _, _⟩) rfl (fun K_ hK_ => ?_) AllReadyH.nil
  go_simp
  refine (XLaw.orC k10.out _).mono ?_
  rintro e u14 ⟨rfl, hb⟩
  have HC14 := Aside0.mk (HC13.out.step hb)
  clear hb HC13
  refine hK_.out _ _ (⟨HC14.out.at 2 0 rfl rfl, HC14.out.at 2 1 rfl rfl, HC14.out.at 2 2 rfl rfl, HC14.out.at 1 0 rfl rfl, HC14.out.at 1 1 rfl rfl, HC14.out.at 1 2 rfl rfl, HC14.out.at 0 0 rfl rfl, HC14.out.at 0 1 rfl rfl, HC14.out.at 0 2 rfl rfl⟩) (fun hHeld => ?_)
  clear hK_ K_
  try simp only [Act.put, List.setIfInBounds_toArray, List.set_cons_zero, List.set_cons_succ]
  refine wpAnyH_take (i := 22) (oi := ⟨some 57, _, _, _, _, _⟩) (v := ?v_64) rfl (by kernel_rfl) (by kernel_rfl) (by kernel_rfl) (fun _ _ _ h => h) (Or.inl ⟨by rfl, ?y_64⟩) (by assumption) ?n_64
  case y_64 => (intro w_ hSw; (try dsimp only at hSw); go_simp; try (with_reducible rfl))
  try simp only [Act.put, List.setIfInBounds_toArray, List.set_cons_zero, List.set_cons_succ]
  refine wpAnyH_take (i := 23) (oi := ⟨some 58, _, _, _, _, _⟩) (v := ?v_65) rfl (by kernel_rfl) (by kernel_rfl) (by kernel_rfl) (fun _ _ _ h => h) (Or.inl ⟨by rfl, ?y_65⟩) (by assumption) ?n_65
  case y_65 => (intro w_ hSw; (try dsimp only at hSw); go_simp; try (with_reducible rfl))
  try simp only [Act.put, List.setIfInBounds_toArray, List.set_cons_zero, List.set_cons_succ]
  refine wpAnyH_done (by kernel_rfl) ?_ _
  clear hHeld
  go_wp2_with fail
  have HH0 := Aside0.mk HC14.out.drew
  clear HC14
  refine wp_region_held_drew (S := (fun w' => w'.cell? ⟨w.heap.size, 0, none⟩ = some (.bool a.f0) ∧ w'.cell? ⟨w.heap.size, 1, none⟩ = some (.bool a.f1) ∧ w'.cell? ⟨w.heap.size, 2, none⟩ = some (.bool a.f2) ∧ w'.cell? ⟨w.heap.size + 1, 0, none⟩ = some (.bool b.f0) ∧ w'.cell? ⟨w.heap.size + 1, 1, none⟩ = some (.bool b.f1) ∧ w'.cell? ⟨w.heap.size + 1, 2, none⟩ = some (.bool b.f2))) (by kernel_rfl) (⟨HH0.out.at 2 0 rfl rfl, HH0.out.at 2 1 rfl rfl, HH0.out.at 2 2 rfl rfl, HH0.out.at 1 0 rfl rfl, HH0.out.at 1 1 rfl rfl, HH0.out.at 1 2 rfl rfl⟩) (fun hHeld => ?_)
  refine wpAnyH_take (i := 0) (oi := ⟨some 59, _, _, _, _, _⟩) (v := ?v_66) rfl (by kernel_rfl) (by kernel_rfl) (by kernel_rfl) (fun _ _ _ h => h) (Or.inl ⟨by rfl, ?y_66⟩) (by assumption) ?n_66
  case y_66 => (intro w_ hSw; (try dsimp only at hSw); go_simp; try (with_reducible rfl))
  try simp only [Act.put, List.setIfInBounds_toArray, List.set_cons_zero, List.set_cons_succ]
  refine wpAnyH_take (i := 1) (oi := ⟨some 60, _, _, _, _, _⟩) (v := ?v_67) rfl (by kernel_rfl) (by kernel_rfl) (by kernel_rfl) (fun _ _ _ h => h) (Or.inl ⟨by rfl, ?y_67⟩) (by assumption) ?n_67
  case y_67 => (intro w_ hSw; (try dsimp only at hSw); go_simp; try (with_reducible rfl))
  try simp only [Act.put, List.setIfInBounds_toArray, List.set_cons_zero, List.set_cons_succ]
  refine wpAnyH_take (i := 4) (oi := ⟨some 63, _, _, _, _, _⟩) (v := ?v_68) rfl (by kernel_rfl) (by kernel_rfl) (by kernel_rfl) (fun _ _ _ h => h) (Or.inl ⟨by rfl, ?y_68⟩) (by assumption) ?n_68
  case y_68 => (intro w_ hSw; (try dsimp only at hSw); go_simp; try (with_reducible rfl))
  try simp only [Act.put, List.setIfInBounds_toArray, List.set_cons_zero, List.set_cons_succ]
  refine wpAnyH_take (i := 6) (oi := ⟨some 65, _, _, _, _, _⟩) (v := ?v_69) rfl (by kernel_rfl) (by kernel_rfl) (by kernel_rfl) (fun _ _ _ h => h) (Or.inl ⟨by rfl, ?y_69⟩) (by assumption) ?n_69
  case y_69 => (intro w_ hSw; (try dsimp only at hSw); go_simp; try (with_reducible rfl))
  try simp only [Act.put, List.setIfInBounds_toArray, List.set_cons_zero, List.set_cons_succ]
  refine wpAnyH_ready (rs := [2]) (by kernel_rfl) (by simp) ?_
  refine AllReadyH.cons (o := ⟨some 61, _, _, _, _, _⟩) rfl (fun K_ hK_ => ?_) AllReadyH.nil
  go_simp
  refine (XLaw.andC k1.out _).mono ?_
  rintro e u15 ⟨rfl, hb⟩
  have HC15 := Aside0.mk (HH0.out.step hb)
  clear hb HH0
  refine hK_.out _ _ (⟨HC15.out.at 2 0 rfl rfl, HC15.out.at 2 1 rfl rfl, HC15.out.at 2 2 rfl rfl, HC15.out.at 1 0 rfl rfl, HC15.out.at 1 1 rfl rfl, HC15.out.at 1 2 rfl rfl⟩) (fun hHeld => ?_)
  clear hK_ K_
  try simp only [Act.put, List.setIfInBounds_toArray, List.set_cons_zero, List.set_cons_succ]
  refine wpAnyH_ready (rs := [3]) (by kernel_rfl) (by simp) ?_
  refine AllReadyH.cons (o := ⟨some 62, _, _, _, _, _⟩) rfl (fun K_ hK_ => ?_) AllReadyH.nil
  go_simp
  refine (XLaw.notC k14.out _).mono ?_
  rintro e u16 ⟨rfl, hb⟩
  have HC16 := Aside0.mk (HC15.out.step hb)
  clear hb HC15
  refine hK_.out _ _ (⟨HC16.out.at 2 0 rfl rfl, HC16.out.at 2 1 rfl rfl, HC16.out.at 2 2 rfl rfl, HC16.out.at 1 0 rfl rfl, HC16.out.at 1 1 rfl rfl, HC16.out.at 1 2 rfl rfl⟩) (fun hHeld => ?_)
  clear hK_ K_
  try simp only [Act.put, List.setIfInBounds_toArray, List.set_cons_zero, List.set_cons_succ]
  refine wpAnyH_ready (rs := [5]) (by kernel_rfl) (by simp) ?_
  refine AllReadyH.cons (o := ⟨some 64, _, _, _, _, _⟩) rfl (fun K_ hK_ => ?_) AllReadyH.nil
  go_simp
  refine (XLaw.notC k11.out _).mono ?_
  rintro e u17 ⟨rfl, hb⟩
  have HC17 := Aside0.mk (HC16.out.step hb)
  clear hb HC16
  refine hK_.out _ _ (⟨HC17.out.at 2 0 rfl rfl, HC17.out.at 2 1 rfl rfl, HC17.out.at 2 2 rfl rfl, HC17.out.at 1 0 rfl rfl, HC17.out.at 1 1 rfl rfl, HC17.out.at 1 2 rfl rfl⟩) (fun hHeld => ?_)
  clear hK_ K_
  try simp only [Act.put, List.setIfInBounds_toArray, List.set_cons_zero, List.set_cons_succ]
  refine wpAnyH_ready (rs := [7]) (by kernel_rfl) (by simp) ?_
  refine AllReadyH.cons (o := ⟨some 66, _, _, _, _, _⟩) rfl (fun K_ hK_ => ?_) AllReadyH.nil
  go_simp
  refine (XLaw.notC k13.out _).mono ?_
  rintro e u18 ⟨rfl, hb⟩
  have HC18 := Aside0.mk (HC17.out.step hb)
  clear hb HC17
  refine hK_.out _ _ (⟨HC18.out.at 2 0 rfl rfl, HC18.out.at 2 1 rfl rfl, HC18.out.at 2 2 rfl rfl, HC18.out.at 1 0 rfl rfl, HC18.out.at 1 1 rfl rfl, HC18.out.at 1 2 rfl rfl⟩) (fun hHeld => ?_)
  clear hK_ K_
  try simp only [Act.put, List.setIfInBounds_toArray, List.set_cons_zero, List.set_cons_succ]
  refine wpAnyH_ready (rs := [8]) (by kernel_rfl) (by simp) ?_
  refine AllReadyH.cons (o := ⟨some 67, _, _, _, _, _⟩) rfl (fun K_ hK_ => ?_) AllReadyH.nil
  go_simp
  refine (XLaw.orC k15.out _).mono ?_
  rintro e u19 ⟨rfl, hb⟩
  have HC19 := Aside0.mk (HC18.out.step hb)
  clear hb HC18
  refine hK_.out _ _ (⟨HC19.out.at 2 0 rfl rfl, HC19.out.at 2 1 rfl rfl, HC19.out.at 2 2 rfl rfl, HC19.out.at 1 0 rfl rfl, HC19.out.at 1 1 rfl rfl, HC19.out.at 1 2 rfl rfl⟩) (fun hHeld => ?_)
  clear hK_ K_
  try simp only [Act.put, List.setIfInBounds_toArray, List.set_cons_zero, List.set_cons_succ]
  refine wpAnyH_take (i := 9) (oi := ⟨some 68, _, _, _, _, _⟩) (v := ?v_70) rfl (by kernel_rfl) (by kernel_rfl) (by kernel_rfl) (fun _ _ _ h => h) (Or.inl ⟨by rfl, ?y_70⟩) (by assumption) ?n_70
  case y_70 => (intro w_ hSw; (try dsimp only at hSw); go_simp; try (with_reducible rfl))
  try simp only [Act.put, List.setIfInBounds_toArray, List.set_cons_zero, List.set_cons_succ]
  refine wpAnyH_done (by kernel_rfl) ?_ _
  clear hHeld
  have HH := Aside0.mk (HC19.out.alloc (.cells #[.bool false, .bool false, .bool false] 23))
  go_wp2_with fail
  have HH0 := Aside0.mk HH.out.drew
  refine wp_region_held_drew (S := (fun w' => w'.cell? ⟨w.heap.size, 0, none⟩ = some (.bool a.f0) ∧ w'.cell? ⟨w.heap.size, 1, none⟩ = some (.bool a.f1) ∧ w'.cell? ⟨w.heap.size, 2, none⟩ = some (.bool a.f2) ∧ w'.cell? ⟨u19.heap.size, 0, none⟩ = some (.bool false) ∧ w'.cell? ⟨u19.heap.size, 1, none⟩ = some (.bool false) ∧ w'.cell? ⟨u19.heap.size, 2, none⟩ = some (.bool false))) (by kernel_rfl) (⟨HH0.out.at 3 0 rfl rfl, HH0.out.at 3 1 rfl rfl, HH0.out.at 3 2 rfl rfl, HH0.out.at 0 0 rfl rfl, HH0.out.at 0 1 rfl rfl, HH0.out.at 0 2 rfl rfl⟩) (fun hHeld => ?_)
  refine wpAnyH_take (i := 0) (oi := ⟨some 69, _, _, _, _, _⟩) (v := ?v_71) rfl (by kernel_rfl) (by kernel_rfl) (by kernel_rfl) (fun _ _ _ h => h) (Or.inl ⟨by rfl, ?y_71⟩) (by assumption) ?n_71
  case y_71 => (intro w_ hSw; (try dsimp only at hSw); go_simp; try (with_reducible rfl))
  try simp only [Act.put, List.setIfInBounds_toArray, List.set_cons_zero, List.set_cons_succ]
  refine wpAnyH_take (i := 1) (oi := ⟨some 70, _, _, _, _, _⟩) (v := ?v_72) rfl (by kernel_rfl) (by kernel_rfl) (by kernel_rfl) (fun _ _ _ h => h) (Or.inl ⟨by rfl, ?y_72⟩) (by assumption) ?n_72
  case y_72 => (intro w_ hSw; (try dsimp only at hSw); go_simp; try (with_reducible rfl))
  try simp only [Act.put, List.setIfInBounds_toArray, List.set_cons_zero, List.set_cons_succ]
  refine wpAnyH_take (i := 3) (oi := ⟨some 72, _, _, _, _, _⟩) (v := ?v_73) rfl (by kernel_rfl) (by kernel_rfl) (by kernel_rfl) (fun _ _ _ h => h) (Or.inl ⟨by rfl, ?y_73⟩) (by assumption) ?n_73
  case y_73 => (intro w_ hSw; (try dsimp only at hSw); go_simp; try (with_reducible rfl))
  try simp only [Act.put, List.setIfInBounds_toArray, List.set_cons_zero, List.set_cons_succ]
  refine wpAnyH_ready (rs := [2]) (by kernel_rfl) (by simp) ?_
  refine AllReadyH.cons (o := ⟨some 71, _, _, _, _, _⟩) rfl (fun K_ hK_ => ?_) AllReadyH.nil
  go_simp
  refine (XLaw.andC (XLaw.and_none a) _).mono ?_
  rintro e u20 ⟨rfl, hb⟩
  have HC20 := Aside0.mk (HH0.out.step hb)
  clear hb HH0
  refine hK_.out _ _ (⟨HC20.out.at 3 0 rfl rfl, HC20.out.at 3 1 rfl rfl, HC20.out.at 3 2 rfl rfl, HC20.out.at 0 0 rfl rfl, HC20.out.at 0 1 rfl rfl, HC20.out.at 0 2 rfl rfl⟩) (fun hHeld => ?_)
  clear hK_ K_
  try simp only [Act.put, List.setIfInBounds_toArray, List.set_cons_zero, List.set_cons_succ]
  refine wpAnyH_take (i := 4) (oi := ⟨some 73, _, _, _, _, _⟩) (v := ?v_74) rfl (by kernel_rfl) (by kernel_rfl) (by kernel_rfl) (fun _ _ _ h => h) (Or.inl ⟨by rfl, ?y_74⟩) (by assumption) ?n_74
  case y_74 => (intro w_ hSw; (try dsimp only at hSw); go_simp; try (with_reducible rfl))
  try simp only [Act.put, List.setIfInBounds_toArray, List.set_cons_zero, List.set_cons_succ]
  refine wpAnyH_take (i := 5) (oi := ⟨some 74, _, _, _, _, _⟩) (v := ?v_75) rfl (by kernel_rfl) (by kernel_rfl) (by kernel_rfl) (fun _ _ _ h => h) (Or.inl ⟨by rfl, ?y_75⟩) (by assumption) ?n_75
  case y_75 => (intro w_ hSw; (try dsimp only at hSw); go_simp; try (with_reducible rfl))
  try simp only [Act.put, List.setIfInBounds_toArray, List.set_cons_zero, List.set_cons_succ]
  refine wpAnyH_take (i := 6) (oi := ⟨some 75, _, _, _, _, _⟩) (v := ?v_76) rfl (by kernel_rfl) (by kernel_rfl) (by kernel_rfl) (fun _ _ _ h => h) (Or.inl ⟨by rfl, ?y_76⟩) (by assumption) ?n_76
  case y_76 => (intro w_ hSw; (try dsimp only at hSw); go_simp; try (with_reducible rfl))
  try simp only [Act.put, List.setIfInBounds_toArray, List.set_cons_zero, List.set_cons_succ]
  refine wpAnyH_take (i := 7) (oi := ⟨some 76, _, _, _, _, _⟩) (v := ?v_77) rfl (by kernel_rfl) (by kernel_rfl) (by kernel_rfl) (fun _ _ _ h => h) (Or.inl ⟨by rfl, ?y_77⟩) (by assumption) ?n_77
  case y_77 => (intro w_ hSw; (try dsimp only at hSw); go_simp; try (with_reducible rfl))
  try simp only [Act.put, List.setIfInBounds_toArray, List.set_cons_zero, List.set_cons_succ]
  refine wpAnyH_take (i := 9) (oi := ⟨some 78, _, _, _, _, _⟩) (v := ?v_78) rfl (by kernel_rfl) (by kernel_rfl) (by kernel_rfl) (fun _ _ _ h => h) (Or.inl ⟨by rfl, ?y_78⟩) (by assumption) ?n_78
  case y_78 => (intro w_ hSw; (try dsimp only at hSw); go_simp; try (with_reducible rfl))
  try simp only [Act.put, List.setIfInBounds_toArray, List.set_cons_zero, List.set_cons_succ]
  refine wpAnyH_ready (rs := [8]) (by kernel_rfl) (by simp) ?_
  refine AllReadyH.cons (o := ⟨some 77, _, _, _, _, _⟩) rfl (fun K_ hK_ => ?_) AllReadyH.nil
  go_simp
  refine (XLaw.orC (XLaw.none_or a) _).mono ?_
  rintro e u21 ⟨rfl, hb⟩
  have HC21 := Aside0.mk (HC20.out.step hb)
  clear hb HC20
  refine hK_.out _ _ (⟨HC21.out.at 3 0 rfl rfl, HC21.out.at 3 1 rfl rfl, HC21.out.at 3 2 rfl rfl, HC21.out.at 0 0 rfl rfl, HC21.out.at 0 1 rfl rfl, HC21.out.at 0 2 rfl rfl⟩) (fun hHeld => ?_)
  clear hK_ K_
  try simp only [Act.put, List.setIfInBounds_toArray, List.set_cons_zero, List.set_cons_succ]
  refine wpAnyH_take (i := 10) (oi := ⟨some 79, _, _, _, _, _⟩) (v := ?v_79) rfl (by kernel_rfl) (by kernel_rfl) (by kernel_rfl) (fun _ _ _ h => h) (Or.inl ⟨by rfl, ?y_79⟩) (by assumption) ?n_79
  case y_79 => (intro w_ hSw; (try dsimp only at hSw); go_simp; try (with_reducible rfl))
  try simp only [Act.put, List.setIfInBounds_toArray, List.set_cons_zero, List.set_cons_succ]
  refine wpAnyH_take (i := 11) (oi := ⟨some 80, _, _, _, _, _⟩) (v := ?v_80) rfl (by kernel_rfl) (by kernel_rfl) (by kernel_rfl) (fun _ _ _ h => h) (Or.inl ⟨by rfl, ?y_80⟩) (by assumption) ?n_80
  case y_80 => (intro w_ hSw; (try dsimp only at hSw); go_simp; try (with_reducible rfl))
  try simp only [Act.put, List.setIfInBounds_toArray, List.set_cons_zero, List.set_cons_succ]
  refine wpAnyH_take (i := 12) (oi := ⟨some 81, _, _, _, _, _⟩) (v := ?v_81) rfl (by kernel_rfl) (by kernel_rfl) (by kernel_rfl) (fun _ _ _ h => h) (Or.inl ⟨by rfl, ?y_81⟩) (by assumption) ?n_81
  case y_81 => (intro w_ hSw; (try dsimp only at hSw); go_simp; try (with_reducible rfl))
  try simp only [Act.put, List.setIfInBounds_toArray, List.set_cons_zero, List.set_cons_succ]
  refine wpAnyH_take (i := 13) (oi := ⟨some 82, _, _, _, _, _⟩) (v := ?v_82) rfl (by kernel_rfl) (by kernel_rfl) (by kernel_rfl) (fun _ _ _ h => h) (Or.inl ⟨by rfl, ?y_82⟩) (by assumption) ?n_82
  case y_82 => (intro w_ hSw; (try dsimp only at hSw); go_simp; try (with_reducible rfl))
  try simp only [Act.put, List.setIfInBounds_toArray, List.set_cons_zero, List.set_cons_succ]
  refine wpAnyH_take (i := 14) (oi := ⟨some 83, _, _, _, _, _⟩) (v := ?v_83) rfl (by kernel_rfl) (by kernel_rfl) (by kernel_rfl) (fun _ _ _ h => h) (Or.inl ⟨by rfl, ?y_83⟩) (by assumption) ?n_83
  case y_83 => (intro w_ hSw; (try dsimp only at hSw); go_simp; try (with_reducible rfl))
  try simp only [Act.put, List.setIfInBounds_toArray, List.set_cons_zero, List.set_cons_succ]
  refine wpAnyH_take (i := 16) (oi := ⟨some 85, _, _, _, _, _⟩) (v := ?v_84) rfl (by kernel_rfl) (by kernel_rfl) (by kernel_rfl) (fun _ _ _ h => h) (Or.inl ⟨by rfl, ?y_84⟩) (by assumption) ?n_84
  case y_84 => (intro w_ hSw; (try dsimp only at hSw); go_simp; try (with_reducible rfl))
  try simp only [Act.put, List.setIfInBounds_toArray, List.set_cons_zero, List.set_cons_succ]
  refine wpAnyH_ready (rs := [15]) (by kernel_rfl) (by simp) ?_
  refine AllReadyH.cons (o := ⟨some 84, _, _, _, _, _⟩) rfl (fun K_ hK_ => ?_) AllReadyH.nil
  go_simp
  refine (XLaw.andC (XLaw.and_yes a) _).mono ?_
  rintro e u22 ⟨rfl, hb⟩
  have HC22 := Aside0.mk (HC21.out.step hb)
  clear hb HC21
  refine hK_.out _ _ (⟨HC22.out.at 3 0 rfl rfl, HC22.out.at 3 1 rfl rfl, HC22.out.at 3 2 rfl rfl, HC22.out.at 0 0 rfl rfl, HC22.out.at 0 1 rfl rfl, HC22.out.at 0 2 rfl rfl⟩) (fun hHeld => ?_)
  clear hK_ K_
  try simp only [Act.put, List.setIfInBounds_toArray, List.set_cons_zero, List.set_cons_succ]
  refine wpAnyH_take (i := 17) (oi := ⟨some 86, _, _, _, _, _⟩) (v := ?v_85) rfl (by kernel_rfl) (by kernel_rfl) (by kernel_rfl) (fun _ _ _ h => h) (Or.inl ⟨by rfl, ?y_85⟩) (by assumption) ?n_85
  case y_85 => (intro w_ hSw; (try dsimp only at hSw); go_simp; try (with_reducible rfl))
  try simp only [Act.put, List.setIfInBounds_toArray, List.set_cons_zero, List.set_cons_succ]
  refine wpAnyH_take (i := 18) (oi := ⟨some 87, _, _, _, _, _⟩) (v := ?v_86) rfl (by kernel_rfl) (by kernel_rfl) (by kernel_rfl) (fun _ _ _ h => h) (Or.inl ⟨by rfl, ?y_86⟩) (by assumption) ?n_86
  case y_86 => (intro w_ hSw; (try dsimp only at hSw); go_simp; try (with_reducible rfl))
  try simp only [Act.put, List.setIfInBounds_toArray, List.set_cons_zero, List.set_cons_succ]
  refine wpAnyH_take (i := 19) (oi := ⟨some 88, _, _, _, _, _⟩) (v := ?v_87) rfl (by kernel_rfl) (by kernel_rfl) (by kernel_rfl) (fun _ _ _ h => h) (Or.inl ⟨by rfl, ?y_87⟩) (by assumption) ?n_87
  case y_87 => (intro w_ hSw; (try dsimp only at hSw); go_simp; try (with_reducible rfl))
  try simp only [Act.put, List.setIfInBounds_toArray, List.set_cons_zero, List.set_cons_succ]
  refine wpAnyH_take (i := 20) (oi := ⟨some 89, _, _, _, _, _⟩) (v := ?v_88) rfl (by kernel_rfl) (by kernel_rfl) (by kernel_rfl) (fun _ _ _ h => h) (Or.inl ⟨by rfl, ?y_88⟩) (by assumption) ?n_88
  case y_88 => (intro w_ hSw; (try dsimp only at hSw); go_simp; try (with_reducible rfl))
  try simp only [Act.put, List.setIfInBounds_toArray, List.set_cons_zero, List.set_cons_succ]
  refine wpAnyH_take (i := 21) (oi := ⟨some 90, _, _, _, _, _⟩) (v := ?v_89) rfl (by kernel_rfl) (by kernel_rfl) (by kernel_rfl) (fun _ _ _ h => h) (Or.inl ⟨by rfl, ?y_89⟩) (by assumption) ?n_89
  case y_89 => (intro w_ hSw; (try dsimp only at hSw); go_simp; try (with_reducible rfl))
  try simp only [Act.put, List.setIfInBounds_toArray, List.set_cons_zero, List.set_cons_succ]
  refine wpAnyH_take (i := 23) (oi := ⟨some 92, _, _, _, _, _⟩) (v := ?v_90) rfl (by kernel_rfl) (by kernel_rfl) (by kernel_rfl) (fun _ _ _ h => h) (Or.inl ⟨by rfl, ?y_90⟩) (by assumption) ?n_90
  case y_90 => (intro w_ hSw; (try dsimp only at hSw); go_simp; try (with_reducible rfl))
  try simp only [Act.put, List.setIfInBounds_toArray, List.set_cons_zero, List.set_cons_succ]
  refine wpAnyH_ready (rs := [22]) (by kernel_rfl) (by simp) ?_
  refine AllReadyH.cons (o := ⟨some 91, _, _, _, _, _⟩) rfl (fun K_ hK_ => ?_) AllReadyH.nil
  go_simp
  refine (XLaw.orC (XLaw.or_no a) _).mono ?_
  rintro e u23 ⟨rfl, hb⟩
  have HC23 := Aside0.mk (HC22.out.step hb)
  clear hb HC22
  refine hK_.out _ _ (⟨HC23.out.at 3 0 rfl rfl, HC23.out.at 3 1 rfl rfl, HC23.out.at 3 2 rfl rfl, HC23.out.at 0 0 rfl rfl, HC23.out.at 0 1 rfl rfl, HC23.out.at 0 2 rfl rfl⟩) (fun hHeld => ?_)
  clear hK_ K_
  try simp only [Act.put, List.setIfInBounds_toArray, List.set_cons_zero, List.set_cons_succ]
  refine wpAnyH_take (i := 24) (oi := ⟨some 93, _, _, _, _, _⟩) (v := ?v_91) rfl (by kernel_rfl) (by kernel_rfl) (by kernel_rfl) (fun _ _ _ h => h) (Or.inl ⟨by rfl, ?y_91⟩) (by assumption) ?n_91
  case y_91 => (intro w_ hSw; (try dsimp only at hSw); go_simp; try (with_reducible rfl))
  try simp only [Act.put, List.setIfInBounds_toArray, List.set_cons_zero, List.set_cons_succ]
  refine wpAnyH_take (i := 25) (oi := ⟨some 94, _, _, _, _, _⟩) (v := ?v_92) rfl (by kernel_rfl) (by kernel_rfl) (by kernel_rfl) (fun _ _ _ h => h) (Or.inl ⟨by rfl, ?y_92⟩) (by assumption) ?n_92
  case y_92 => (intro w_ hSw; (try dsimp only at hSw); go_simp; try (with_reducible rfl))
  try simp only [Act.put, List.setIfInBounds_toArray, List.set_cons_zero, List.set_cons_succ]
  refine wpAnyH_take (i := 26) (oi := ⟨some 6, _, _, _, _, _⟩) (v := ?v_93) rfl (by kernel_rfl) (by kernel_rfl) (by kernel_rfl) (fun _ _ _ h => h) (Or.inl ⟨by rfl, ?y_93⟩) (by assumption) ?n_93
  case y_93 => (intro w_ hSw; (try dsimp only at hSw); go_simp; try (with_reducible rfl))
  try simp only [Act.put, List.setIfInBounds_toArray, List.set_cons_zero, List.set_cons_succ]
  refine wpAnyH_done (by kernel_rfl) ?_ _
  clear hHeld
  go_wp2_with fail
  go_ret
  exact ⟨rfl, HC23.out.below⟩
def colonnadelaw26_PruneAlgebra.f (a0_0 : Bool) (a0_1 : Bool) (a0_2 : Bool) (a1_0 : Bool) (a1_1 : Bool) (a1_2 : Bool) (a2_0 : Bool) (a2_1 : Bool) (a2_2 : Bool) : Option (Bool) := some true
theorem colonnadelaw26_PruneAlgebra.calls (a0_0 : Bool) (a0_1 : Bool) (a0_2 : Bool) (a1_0 : Bool) (a1_1 : Bool) (a1_2 : Bool) (a2_0 : Bool) (a2_1 : Bool) (a2_2 : Bool) (r : Bool) (w : World) (h : colonnadelaw26_PruneAlgebra.f a0_0 a0_1 a0_2 a1_0 a1_1 a1_2 a2_0 a2_1 a2_2 = some r) :
    Calls Try.prog 3 #[.agg #[.bool a0_0, .bool a0_1, .bool a0_2], .agg #[.bool a1_0, .bool a1_1, .bool a1_2], .agg #[.bool a2_0, .bool a2_1, .bool a2_2]] w fun e w' => e = .returned (.bool r) ∧ Below w.heap.size w w' := by
  obtain rfl := Option.some.inj h
  exact XLaw.law ⟨a0_0, a0_1, a0_2⟩ ⟨a1_0, a1_1, a1_2⟩ ⟨a2_0, a2_1, a2_2⟩ w

end Go.Proofs.Ythikgpfehebkgaa.PPruneAlgebra
