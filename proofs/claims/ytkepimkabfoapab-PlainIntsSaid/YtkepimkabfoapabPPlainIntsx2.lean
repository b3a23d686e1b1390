-- Written by xprint.py, this session's own program over the kit's print; Lean checks it.
import Derived.Test.YtkepimkabfoapabPPlainIntsx0
import Derived.Test.YtkepimkabfoapabPPlainIntsx1
namespace Go.Proofs.Ytkepimkabfoapab.PPlainInts
open Go.RowKit Go.Proofs.YtkepimkabfoapabW.PrintWords Go.Proofs.YtkepimkabfoapabW.PrintLast Go.Proofs.YtkepimkabfoapabW.PrintMore
attribute [local go_sem] max2_int min2_int max_two min_two max_three min_three max_four min_four   -- for this text's walks alone
set_option linter.unusedVariables false
set_option linter.unusedSimpArgs false

/-! ### plain_Ints: function 21 -/
def plain_Ints.l0 : Nat → List Int → List Int → Int → Int → Option (List Int × Int)
  | 0, _, _, _, _ => none
  | k + 1, x0, x7, x29, x30 => if x30 < x29 then ((plain_IntAt.f k x0 x30).bind fun bt117 => (if 0 ≤ x30 then (if x30 < (x7.length : Int) then (plain_Ints.l0 k x0 (x7.set (x30 : Int).toNat bt117.1) x29 (wrap64 (x30 + 1))) else (none)) else (none))) else (some (x7, 0))
def plain_Ints.f (k : Nat) (l0 : List Int) (a1 : Int) : Option (List Int × Int) := (plain_may.f a1).bind fun t113 => (if t113 = 0 then (if (l0.length : Int) < (wrap64 (8 * a1)) then (some (([] : List Int), 71)) else (if (l0.length : Int) > (wrap64 (8 * a1)) then (some (([] : List Int), 72)) else (if 0 ≤ a1 then (if (a1 : Int).toNat ≤ 35184372088832 then ((some (List.replicate (a1 : Int).toNat 0 : List Int)).bind fun y114 => (plain_Ints.l0 k l0 y114 (y114.length : Int) 0)) else (none)) else (none)))) else (some (([] : List Int), t113)))
theorem plain_Ints.mono_l : ∀ k, (∀ y0 y1 y2 y3, LeO (plain_Ints.l0 k y0 y1 y2 y3) (plain_Ints.l0 (k + 1) y0 y1 y2 y3))
  | 0 => fun _ _ _ _ r h => by simp [plain_Ints.l0] at h
  | k + 1 => by
    have ih0 := plain_Ints.mono_l k
    · intro y0 y1 y2 y3
      unfold plain_Ints.l0
      repeat' first
      | (with_reducible exact ih0 _ _ _ _)
      | (with_reducible exact plain_IntAt.mono _ _ _)
      | (with_reducible exact LeO.refl _)
      | (with_reducible exact LeO.none _)
      | (with_reducible refine LeO.ite ?_ ?_)
      | (with_reducible refine LeO.bind ?_ (fun _ => ?_))
      | exact ih0 _ _ _ _
      | exact plain_IntAt.mono _ _ _
      | exact LeO.none _
      | refine LeO.ite ?_ ?_
      | refine LeO.bind ?_ (fun _ => ?_)
theorem plain_Ints.mono : ∀ a0 a1 k, LeO (plain_Ints.f k a0 a1) (plain_Ints.f (k + 1) a0 a1) := by
  intro a0 a1 k
  have ih0 := plain_Ints.mono_l k
  unfold plain_Ints.f
  repeat' first
      | (with_reducible exact ih0 _ _ _ _)
      | (with_reducible exact plain_IntAt.mono _ _ _)
      | (with_reducible exact LeO.refl _)
      | (with_reducible exact LeO.none _)
      | (with_reducible refine LeO.ite ?_ ?_)
      | (with_reducible refine LeO.bind ?_ (fun _ => ?_))
      | exact ih0 _ _ _ _
      | exact plain_IntAt.mono _ _ _
      | exact LeO.none _
      | refine LeO.ite ?_ ?_
      | refine LeO.bind ?_ (fun _ => ?_)
set_option maxHeartbeats 8000000 in
set_option maxRecDepth 100000 in
theorem plain_Ints.calls (k : Nat) (A0 : Option Addr) (c0 : Nat) (l0 : List Int) (a1 : Int) (r1 : List Int) (r2 : Int) (w : World) (hr0 : Kd.C (Kd.int .u8) w A0 l0.length l0) (hc0 : l0.length ≤ c0) (h : plain_Ints.f k l0 a1 = some (r1, r2)) :
    Calls Try.prog 21 #[.slice A0 l0.length c0, .int .i64 a1] w fun e w' => ∃ v0_ : Value, e = .returned (.tuple #[v0_, .int .i64 r2]) ∧ Kd.R (Kd.int .i64) 2 w' w.heap.size (fun _ => True) v0_ r1 ∧ Below w.heap.size w w' := by
  have HR0 := Aside0.mk hr0
  have HC0 := Aside0.mk hc0
  clear hr0 hc0
  have HB := Aside0.mk (Below.refl w.heap.size w)
  have H : ((plain_may.f a1).bind fun t113 => (if t113 = 0 then (if (l0.length : Int) < (wrap64 (8 * a1)) then (some (([] : List Int), 71)) else (if (l0.length : Int) > (wrap64 (8 * a1)) then (some (([] : List Int), 72)) else (if 0 ≤ a1 then (if (a1 : Int).toNat ≤ 35184372088832 then ((some (List.replicate (a1 : Int).toNat 0 : List Int)).bind fun y114 => (plain_Ints.l0 k l0 y114 (y114.length : Int) 0)) else (none)) else (none)))) else (some (([] : List Int), t113)))) = some (r1, r2) := h
  clear h
  replace H := Option.bind_eq_some_iff.mp H
  obtain ⟨t113, A30, H⟩ := H
  replace H : (if t113 = 0 then (if (l0.length : Int) < (wrap64 (8 * a1)) then (some (([] : List Int), 71)) else (if (l0.length : Int) > (wrap64 (8 * a1)) then (some (([] : List Int), 72)) else (if 0 ≤ a1 then (if (a1 : Int).toNat ≤ 35184372088832 then ((some (List.replicate (a1 : Int).toNat 0 : List Int)).bind fun y114 => (plain_Ints.l0 k l0 y114 (y114.length : Int) 0)) else (none)) else (none)))) else (some (([] : List Int), t113))) = some (r1, r2) := H
  have A3 := Aside0.mk A30
  clear A30
  by_cases c4 : t113 = 0
  · rw [if_pos c4] at H
    have c4b0 : (t113 == 0) = true := beq_iff_eq.mpr c4
    have c4b1 : (t113 != 0) = false := bne_eq_false_iff_eq.mpr c4
    clear c4
    by_cases c5 : (l0.length : Int) < (wrap64 (8 * a1))
    · rw [if_pos c5] at H
      have c5b0 : decide ((l0.length : Int) < (wrap64 (8 * a1))) = true := decide_eq_true c5
      clear c5
      simp only [Option.some.injEq, Prod.mk.injEq] at H
      obtain ⟨rfl, rfl⟩ := H
      go_enter Try.func21, Try.ntmps21
      go_wp2_with (first | ((with_reducible refine gate_callee (f := 44) rfl ?_); refine goesL_ (some 10) rfl rfl Try.func44 (by kernel_rfl) rfl #[.int .i64 a1] rfl (by (try simp only [List.map_toArray, List.map_cons, List.map_nil]); first | done | rfl | (simp only [List.length_drop, List.length_take]; rfl)) ?_; (with_reducible refine (plain_may.calls a1 t113 _ A3.out).mono ?_); rintro e w' ⟨rfl, ⟨nd, rfl⟩⟩; refine ⟨_, rfl, ?_⟩))
      go_ret2
      exact ⟨_, by first | rfl | (simp [errW_none, errW_some] <;> rfl) | (simp [*, errW_none, errW_some] <;> rfl), by first | exact Kd.R_nil _ _ _ _ _ | exact Kd.N_nil _ _ _ _ _ | exact Kd.V_nil _ _ _ _ _ | exact Kd.Q_nil _ _ _ _ _ | exact Kd.S_nil _ _ _ _ _, by repeat (first | (with_reducible first | exact HB.out | apply below_alloc | apply pw_below_drewN | apply below_drew1) | exact HB.out)⟩
    · rw [if_neg c5] at H
      have c5b0 : decide ((l0.length : Int) < (wrap64 (8 * a1))) = false := decide_eq_false c5
      clear c5
      by_cases c6 : (l0.length : Int) > (wrap64 (8 * a1))
      · rw [if_pos c6] at H
        have c6b0 : decide ((wrap64 (8 * a1)) < (l0.length : Int)) = true := decide_eq_true c6
        clear c6
        simp only [Option.some.injEq, Prod.mk.injEq] at H
        obtain ⟨rfl, rfl⟩ := H
        go_enter Try.func21, Try.ntmps21
        go_wp2_with (first | ((with_reducible refine gate_callee (f := 44) rfl ?_); refine goesL_ (some 10) rfl rfl Try.func44 (by kernel_rfl) rfl #[.int .i64 a1] rfl (by (try simp only [List.map_toArray, List.map_cons, List.map_nil]); first | done | rfl | (simp only [List.length_drop, List.length_take]; rfl)) ?_; (with_reducible refine (plain_may.calls a1 t113 _ A3.out).mono ?_); rintro e w' ⟨rfl, ⟨nd, rfl⟩⟩; refine ⟨_, rfl, ?_⟩))
        go_ret2
        exact ⟨_, by first | rfl | (simp [errW_none, errW_some] <;> rfl) | (simp [*, errW_none, errW_some] <;> rfl), by first | exact Kd.R_nil _ _ _ _ _ | exact Kd.N_nil _ _ _ _ _ | exact Kd.V_nil _ _ _ _ _ | exact Kd.Q_nil _ _ _ _ _ | exact Kd.S_nil _ _ _ _ _, by repeat (first | (with_reducible first | exact HB.out | apply below_alloc | apply pw_below_drewN | apply below_drew1) | exact HB.out)⟩
      · rw [if_neg c6] at H
        have c6b0 : decide ((wrap64 (8 * a1)) < (l0.length : Int)) = false := decide_eq_false c6
        clear c6
        by_cases c7 : 0 ≤ a1
        · rw [if_pos c7] at H
          have c7b0 := eq_true c7
          have c7b1 : decide (0 ≤ a1) = true := decide_eq_true c7
          clear c7
          by_cases c8 : (a1 : Int).toNat ≤ 35184372088832
          · rw [if_pos c8] at H
            have c8b0 := eq_true c8
            have c8b1 : decide ((a1 : Int).toNat ≤ 35184372088832) = true := decide_eq_true c8
            clear c8
            obtain ⟨y114, hy114⟩ : ∃ y_ : List Int, y_ = (List.replicate (a1 : Int).toNat 0) := ⟨_, rfl⟩
            replace H : (plain_Ints.l0 k l0 y114 (y114.length : Int) 0) = some (r1, r2) := by first | (rw [hy114]; with_reducible exact H) | (have H2_ := (Option.bind_some _ _).symm.trans H; rw [hy114]; with_reducible exact H2_) | (have H2_ := (Option.bind_some _ _).symm.trans H; with_reducible exact H2_) | with_reducible exact H | (rw [hy114]; exact H) | exact H
            have Ny114 := Aside0.mk hy114
            clear hy114
            have H' := Aside0.mk H
            clear H
            go_enter Try.func21, Try.ntmps21
            go_wp2_with (first | ((with_reducible refine gate_callee (f := 44) rfl ?_); refine goesL_ (some 10) rfl rfl Try.func44 (by kernel_rfl) rfl #[.int .i64 a1] rfl (by (try simp only [List.map_toArray, List.map_cons, List.map_nil]); first | done | rfl | (simp only [List.length_drop, List.length_take]; rfl)) ?_; (with_reducible refine (plain_may.calls a1 t113 _ A3.out).mono ?_); rintro e w' ⟨rfl, ⟨nd, rfl⟩⟩; refine ⟨_, rfl, ?_⟩) | ((with_reducible refine gate_dst (N := 27) rfl ?_); refine Kd.R_make (Kd.int .i64) _ 2 rfl (N := 27) rfl 22 _ _ rfl a1 rfl rfl Try.underlying22 (.int .i64 0) 8 info2 rfl (by decide) (by omega) 0 (ok := fun _ => True) (okp := fun _ => True) rfl (fun _ hk => hk) trivial (of_decide_eq_true (by first | (with_reducible assumption) | assumption)) (Nat.le_trans (Nat.mul_le_mul_right _ (of_decide_eq_true (by first | (with_reducible assumption) | assumption) : a1.toNat ≤ 35184372088832)) (by omega)) (Below.refl _ _) (Nat.le_refl _) ?_; intro v115 w9 ho10 hb hg_ hnew_; clear hg_ hnew_; (first | rw [← Ny114.out] at ho10 | (simp only [Int.reduceToNat] at ho10; rw [← Ny114.out] at ho10)); have n0_ := Aside0.mk (Kd.R_lower ho10 (below_size (by repeat (first | (with_reducible first | exact HB.out | apply below_alloc | apply pw_below_drewN | apply below_drew1) | exact HB.out)))); have n1_ := Aside0.mk (below_step (by repeat (first | (with_reducible first | exact HB.out | apply below_alloc | apply pw_below_drewN | apply below_drew1) | exact HB.out)) hb); clear HB; have HO116 := n0_; have HB := n1_; clear n0_ n1_; clear hb ho10; obtain ⟨Ao11, co11, eo11⟩ := Kd.R_slice HO116.out; subst eo11))
            (try simp only [add_plain])
            go_loopg [30] k (fun kq v30 w' => ∃ (x7_1 : List Int) (x30_1 : Int), v30 = .int .i64 x30_1 ∧ Aside0 (plain_Ints.l0 kq l0 x7_1 (y114.length : Int) x30_1 = some (r1, r2)) ∧ Aside0 (kq ≤ k) ∧ Aside0 (Kd.R (Kd.int .i64) 2 w' w.heap.size (fun _ => True) (.slice Ao11 y114.length co11) x7_1) ∧ Aside0 (Below w.heap.size w w'))
            case atStart => exact ⟨(y114), (0), (by first | rfl | (simp; done) | (simp [*]; done)), H', ⟨Nat.le_refl _⟩, ⟨by (with_reducible repeat (first | apply Kd.R_alloc | apply Kd.R_drewN | apply Kd.R_drew)); exact HO116.out⟩, ⟨by repeat (first | (with_reducible first | exact HB.out | apply below_alloc | apply pw_below_drewN | apply below_drew1) | exact HB.out)⟩⟩
            case round =>
              clear H'
              try clear c2
              try clear p2
              try clear c4
              try clear c4b0
              try clear c4b1
              try clear c5
              try clear c5b0
              try clear c6
              try clear c6b0
              try clear p6
              try clear c7
              try clear c7b0
              try clear c7b1
              try clear c8
              try clear c8b0
              try clear c8b1
              obtain ⟨x7_1, x30_1, rfl, HA, HK1, HO_7, HB⟩ := hrel
              have hl7_1 := (Kd.R_reads' HO_7.out).1
              rw [hl7_1] at HO_7
              (try simp only [hl7_1])
              cases gk with
              | zero => exact absurd HA.out (by simp [plain_Ints.l0])
              | succ k1 =>
                have H := HA.out
                clear HA
                simp only [plain_Ints.l0] at H
                by_cases c12 : x30_1 < (y114.length : Int)
                · rw [if_pos c12] at H
                  have c12b0 : decide (x30_1 < (y114.length : Int)) = true := decide_eq_true c12
                  (try (have c12b0z_ := c12b0; simp only [hl7_1] at c12b0z_))
                  clear c12
                  replace H := Option.bind_eq_some_iff.mp H
                  obtain ⟨⟨t117, t118⟩, A130, H⟩ := H
                  replace H : (if 0 ≤ x30_1 then (if x30_1 < (x7_1.length : Int) then (plain_Ints.l0 k1 l0 (x7_1.set (x30_1 : Int).toNat t117) (y114.length : Int) (wrap64 (x30_1 + 1))) else (none)) else (none)) = some (r1, r2) := H
                  have A13 := Aside0.mk A130
                  clear A130
                  by_cases c14 : 0 ≤ x30_1
                  · rw [if_pos c14] at H
                    have c14b0 : decide (0 ≤ x30_1) = true := decide_eq_true c14
                    clear c14
                    by_cases c15 : x30_1 < (x7_1.length : Int)
                    · rw [if_pos c15] at H
                      have c15b0 : decide (x30_1 < (x7_1.length : Int)) = true := decide_eq_true c15
                      (try (have c15b0z_ := c15b0; simp only [hl7_1] at c15b0z_))
                      clear c15
                      obtain ⟨y119, hy119⟩ : ∃ y_ : List Int, y_ = (x7_1.set (x30_1 : Int).toNat t117) := ⟨_, rfl⟩
                      replace H : (plain_Ints.l0 k1 l0 y119 (y114.length : Int) (wrap64 (x30_1 + 1))) = some (r1, r2) := by first | (rw [hy119]; with_reducible exact H) | (have H2_ := (Option.bind_some _ _).symm.trans H; rw [hy119]; with_reducible exact H2_) | (have H2_ := (Option.bind_some _ _).symm.trans H; with_reducible exact H2_) | with_reducible exact H | (rw [hy119]; exact H) | exact H
                      have Ny119 := Aside0.mk hy119
                      clear hy119
                      have H' := Aside0.mk H
                      clear H
                      go_wp2_with (first | ((with_reducible refine gate_callee (f := 23) rfl ?_); refine goesL_ (some 38) rfl rfl Try.func23 (by kernel_rfl) rfl #[.slice A0 l0.length c0, .int .i64 x30_1] rfl (by (try simp only [List.map_toArray, List.map_cons, List.map_nil]); first | done | rfl | (simp only [List.length_drop, List.length_take]; rfl)) ?_; (with_reducible refine (plain_IntAt.calls k1 _ _ l0 x30_1 t117 t118 _ ?side1 ?side2 A13.out).mono ?_); (case side1 => repeat (first | exact (Kd.C_below HR0.out HB.out) | (with_reducible refine Kd.C_alloc ?_ _) | (with_reducible refine Kd.C_drewN ?_ _) | (with_reducible refine Kd.C_drew ?_))); (case side2 => exact HC0.out); rintro e w' ⟨rfl, ⟨nd, rfl⟩⟩; refine ⟨_, rfl, ?_⟩; (try (rw [drewN_self wr]; generalize hq_ : World.drewN wr _ = wr; have n0_ : Aside0 (Kd.R (Kd.int .i64) 2 wr w.heap.size (fun _ => True) (.slice Ao11 x7_1.length co11) x7_1) := ⟨by rw [← hq_]; exact (by (with_reducible repeat (first | apply Kd.R_alloc | apply Kd.R_drewN | apply Kd.R_drew)); exact HO_7.out)⟩; have n1_ : Aside0 (Below w.heap.size w wr) := ⟨by rw [← hq_]; exact (by repeat (first | (with_reducible first | exact HB.out | apply below_alloc | apply pw_below_drewN | apply below_drew1) | exact HB.out))⟩; clear HO_7 HB hq_; have HO_7 := n0_; have HB := n1_; clear n0_ n1_)); have p16 : 0 ≤ (x30_1 : Int) := of_decide_eq_true (by first | (with_reducible assumption) | assumption); have q16 : (x30_1 : Int) < ((x7_1.length : Int) : Int) := of_decide_eq_true (by first | (with_reducible assumption) | assumption); obtain ⟨go16, co16, eo16, gb16, gl16, cl16, HG16⟩ := Kd.R_form HO_7.out (by omega); (first | cases eo16 | (injection eo16 with ea_ en_ ec_; (first | subst ea_ | (injection ea_ with ea_; subst ea_)); subst ec_; clear en_)); have GB16 := Aside0.mk gb16; have GG16 := Aside0.mk HG16; clear gb16 gl16 HG16; obtain ⟨hx16_0, hf16_0⟩ := Kd.R_celln 0 HO_7.out (x30_1 : Int) p16 q16; replace p16 := eq_true p16; replace q16 := eq_true q16; obtain ⟨hy17_, hz17_⟩ := Kd.R_celln 0 HO_7.out (x30_1 : Int) (of_decide_eq_true (by first | (with_reducible assumption) | assumption)) (of_decide_eq_true (by first | (with_reducible assumption) | assumption)); have HP17 := Kd.R_putg HO_7.out (x30_1 : Int) t117) | ((with_reducible refine gate_store (t := 2) (p := 41) rfl ?_); refine store_event (t := 2) (p := 41) (v := ?vo_w18) (w1 := (wr.setCell ⟨go16, (x30_1 : Int).toNat, none⟩ (.int .i64 t117))) ?hg ?ho ?hn ?hr ?_; (case ho => rfl); (case hg => rfl); (case hn => rfl); (case hr => first | (go_simp; done) | (go_simp; rfl)); intro w18 hw; have hg : wr.grownBy w18 (some go16) := (by rw [hw]; exact HP17.2); have hp_ : Kd.R (Kd.int .i64) 2 w18 w.heap.size (fun _ => True) (.slice (some ⟨go16, 0, none⟩) x7_1.length co11) y119 := (by rw [hw, Ny119.out]; exact HP17.1); clear HP17; have n0_ := Aside0.mk (hp_); have n1_ := Aside0.mk ((by rw [hw]; exact below_set (HB.out) GB16.out : Below w.heap.size w w18)); clear HO_7; clear HB; have HO_7 := n0_; have HB := n1_; clear n0_ n1_; clear hg hw hp_))
                      (try simp only [← hl7_1])
                      go_roundg k1
                      case measure => have := HK1.out; omega
                      case rel => exact ⟨(y119), (wrap64 (x30_1 + 1)), (by first | rfl | (simp; done) | (simp [*]; done)), H', ⟨by have := HK1.out; omega⟩, ⟨by (try simp only [hl7_1]); (with_reducible repeat (first | apply Kd.R_alloc | apply Kd.R_drewN | apply Kd.R_drew)); exact HO_7.out⟩, ⟨by repeat (first | (with_reducible first | exact HB.out | apply below_alloc | apply pw_below_drewN | apply below_drew1) | exact HB.out)⟩⟩
                    · rw [if_neg c15] at H
                      exact absurd H (by simp)
                  · rw [if_neg c14] at H
                    exact absurd H (by simp)
                · rw [if_neg c12] at H
                  have c12b0 : decide (x30_1 < (y114.length : Int)) = false := decide_eq_false c12
                  (try (have c12b0z_ := c12b0; simp only [hl7_1] at c12b0z_))
                  clear c12
                  simp only [Option.some.injEq, Prod.mk.injEq] at H
                  obtain ⟨rfl, rfl⟩ := H
                  go_wp2
                  go_ret2
                  exact ⟨_, by first | rfl | (simp [errW_none, errW_some] <;> rfl) | (simp [*, errW_none, errW_some] <;> rfl), by (with_reducible repeat (first | apply Kd.R_alloc | apply Kd.R_drewN | apply Kd.R_drew)); exact HO_7.out, by repeat (first | (with_reducible first | exact HB.out | apply below_alloc | apply pw_below_drewN | apply below_drew1) | exact HB.out)⟩
          · rw [if_neg c8] at H
            exact absurd H (by simp)
        · rw [if_neg c7] at H
          exact absurd H (by simp)
  · rw [if_neg c4] at H
    have c4b0 : (t113 == 0) = false := beq_eq_false_iff_ne.mpr c4
    have c4b1 : (t113 != 0) = true := bne_iff_ne.mpr c4
    simp only [Option.some.injEq, Prod.mk.injEq] at H
    obtain ⟨rfl, rfl⟩ := H
    go_enter Try.func21, Try.ntmps21
    go_wp2_with (first | ((with_reducible refine gate_callee (f := 44) rfl ?_); refine goesL_ (some 10) rfl rfl Try.func44 (by kernel_rfl) rfl #[.int .i64 a1] rfl (by (try simp only [List.map_toArray, List.map_cons, List.map_nil]); first | done | rfl | (simp only [List.length_drop, List.length_take]; rfl)) ?_; (with_reducible refine (plain_may.calls a1 t113 _ A3.out).mono ?_); rintro e w' ⟨rfl, ⟨nd, rfl⟩⟩; refine ⟨_, rfl, ?_⟩))
    go_ret2
    exact ⟨_, by first | rfl | (simp [errW_none, errW_some] <;> rfl) | (simp [*, errW_none, errW_some] <;> rfl), by first | exact Kd.R_nil _ _ _ _ _ | exact Kd.N_nil _ _ _ _ _ | exact Kd.V_nil _ _ _ _ _ | exact Kd.Q_nil _ _ _ _ _ | exact Kd.S_nil _ _ _ _ _, by repeat (first | (with_reducible first | exact HB.out | apply below_alloc | apply pw_below_drewN | apply below_drew1) | exact HB.out)⟩

/-! ### colonnaderef08_IntAt: function 22 -/
def colonnaderef08_IntAt.f (k : Nat) (l0 : List Int) (a1 : Int) : Option (Int × Bool) := if a1 < 0 then (some (0, false)) else (if a1 ≥ (wrap64 ((l0.length : Int) / 8)) then (some (0, false)) else (if 0 ≤ (wrap64 (8 * a1)) then (if (wrap64 (8 * a1)) ≤ (wrap64 ((wrap64 (8 * a1)) + 8)) then (if (wrap64 ((wrap64 (8 * a1)) + 8)) ≤ (l0.length : Int) then ((colonnaderef08_Low.f k ((l0.take ((wrap64 ((wrap64 (8 * a1)) + 8)) : Int).toNat).drop ((wrap64 (8 * a1)) : Int).toNat)).bind fun t121 => (some (wrap64 (t121), true))) else (none)) else (none)) else (none)))
theorem colonnaderef08_IntAt.mono : ∀ a0 a1 k, LeO (colonnaderef08_IntAt.f k a0 a1) (colonnaderef08_IntAt.f (k + 1) a0 a1) := by
  intro a0 a1 k
  unfold colonnaderef08_IntAt.f
  repeat' first
      | (with_reducible exact colonnaderef08_Low.mono _ _)
      | (with_reducible exact LeO.refl _)
      | (with_reducible exact LeO.none _)
      | (with_reducible refine LeO.ite ?_ ?_)
      | (with_reducible refine LeO.bind ?_ (fun _ => ?_))
      | exact colonnaderef08_Low.mono _ _
      | exact LeO.none _
      | refine LeO.ite ?_ ?_
      | refine LeO.bind ?_ (fun _ => ?_)
set_option maxHeartbeats 8000000 in
set_option maxRecDepth 100000 in
theorem colonnaderef08_IntAt.calls (k : Nat) (A0 : Option Addr) (c0 : Nat) (l0 : List Int) (a1 : Int) (r1 : Int) (r2 : Bool) (w : World) (hr0 : Kd.C (Kd.int .u8) w A0 l0.length l0) (hc0 : l0.length ≤ c0) (h : colonnaderef08_IntAt.f k l0 a1 = some (r1, r2)) :
    Calls Try.prog 22 #[.slice A0 l0.length c0, .int .i64 a1] w fun e w' => e = .returned (.tuple #[.int .i64 r1, .bool r2]) ∧ Drawn0 w w' := by
  have HR0 := Aside0.mk hr0
  have HC0 := Aside0.mk hc0
  clear hr0 hc0
  have H : (if a1 < 0 then (some (0, false)) else (if a1 ≥ (wrap64 ((l0.length : Int) / 8)) then (some (0, false)) else (if 0 ≤ (wrap64 (8 * a1)) then (if (wrap64 (8 * a1)) ≤ (wrap64 ((wrap64 (8 * a1)) + 8)) then (if (wrap64 ((wrap64 (8 * a1)) + 8)) ≤ (l0.length : Int) then ((colonnaderef08_Low.f k ((l0.take ((wrap64 ((wrap64 (8 * a1)) + 8)) : Int).toNat).drop ((wrap64 (8 * a1)) : Int).toNat)).bind fun t121 => (some (wrap64 (t121), true))) else (none)) else (none)) else (none)))) = some (r1, r2) := h
  clear h
  by_cases c3 : a1 < 0
  · rw [if_pos c3] at H
    have c3b0 : decide (a1 < 0) = true := decide_eq_true c3
    clear c3
    simp only [Option.some.injEq, Prod.mk.injEq] at H
    obtain ⟨rfl, rfl⟩ := H
    go_enter Try.func22, Try.ntmps22
    go_wp2
    go_ret2
    exact ⟨by first | rfl | (simp; done) | (simp [*]; done), by repeat (first | exact Drawn0.refl _ | apply Drawn0.step)⟩
  · rw [if_neg c3] at H
    have c3b0 : decide (a1 < 0) = false := decide_eq_false c3
    clear c3
    by_cases c4 : a1 ≥ (wrap64 ((l0.length : Int) / 8))
    · rw [if_pos c4] at H
      have c4b0 : decide ((wrap64 ((l0.length : Int) / 8)) ≤ a1) = true := decide_eq_true c4
      clear c4
      simp only [Option.some.injEq, Prod.mk.injEq] at H
      obtain ⟨rfl, rfl⟩ := H
      go_enter Try.func22, Try.ntmps22
      go_wp2
      go_ret2
      exact ⟨by first | rfl | (simp; done) | (simp [*]; done), by repeat (first | exact Drawn0.refl _ | apply Drawn0.step)⟩
    · rw [if_neg c4] at H
      have c4b0 : decide ((wrap64 ((l0.length : Int) / 8)) ≤ a1) = false := decide_eq_false c4
      clear c4
      obtain ⟨ji5, hji5⟩ : ∃ j_ : Int, (wrap64 (8 * a1)) = j_ := ⟨_, rfl⟩
      replace H : (if 0 ≤ (ji5) then (if (ji5) ≤ (wrap64 ((ji5) + 8)) then (if (wrap64 ((ji5) + 8)) ≤ (l0.length : Int) then ((colonnaderef08_Low.f k ((l0.take ((wrap64 ((ji5) + 8)) : Int).toNat).drop ((ji5) : Int).toNat)).bind fun t121 => (some (wrap64 (t121), true))) else (none)) else (none)) else (none)) = some (r1, r2) := by first | (rw [hji5] at H; exact H) | (simp only [hji5] at H ⊢; exact H)
      have hji5w : (IntKind.i64.wrap (8 * a1)) = ji5 := (i64_w _).trans hji5
      by_cases c6 : 0 ≤ (ji5)
      · rw [if_pos c6] at H
        have c6b0 := eq_true c6
        have c6b1 : decide (0 ≤ (ji5)) = true := decide_eq_true c6
        clear c6
        by_cases c7 : (ji5) ≤ (wrap64 ((ji5) + 8))
        · rw [if_pos c7] at H
          have c7b0 := eq_true c7
          have c7b1 : decide ((ji5) ≤ (wrap64 ((ji5) + 8))) = true := decide_eq_true c7
          by_cases c8 : (wrap64 ((ji5) + 8)) ≤ (l0.length : Int)
          · rw [if_pos c8] at H
            have c8b0 := eq_true c8
            have c8b1 : decide ((wrap64 ((ji5) + 8)) ≤ (l0.length : Int)) = true := decide_eq_true c8
            replace H := Option.bind_eq_some_iff.mp H
            obtain ⟨t121, A90, H⟩ := H
            replace H : (some (wrap64 (t121), true)) = some (r1, r2) := H
            have A9 := Aside0.mk A90
            clear A90
            simp only [Option.some.injEq, Prod.mk.injEq] at H
            obtain ⟨rfl, rfl⟩ := H
            obtain ⟨i010, hi010, _, hsz10, _⟩ := info_parts info5
            obtain ⟨A10, hcut10, hA10, hC10⟩ := print_mid_of (P := Try.prog) (Value.int .u8) 0 24 5 .i64 .i64 Try.underlying24 hi010 hsz10 A0 c0 l0 (ji5) (wrap64 ((ji5) + 8)) (of_decide_eq_true (by first | (with_reducible assumption) | assumption)) (by first | omega | exact of_decide_eq_true (by first | (with_reducible assumption) | assumption)) (of_decide_eq_true (by first | (with_reducible assumption) | assumption)) HC0.out
            have HR120 := Aside0.mk (Kd.C_of_reads (h1 := fun _ => rfl) (hA10 _ (Kd.reads_of_C HR0.out)))
            have HC120 := Aside0.mk hC10
            clear hA10 hC10 hi010 hsz10
            go_enter Try.func22, Try.ntmps22
            go_wp2_with (first | ((with_reducible refine gate_callee (f := 43) rfl ?_); refine goesL_ (some 22) rfl rfl Try.func43 (by kernel_rfl) rfl #[.slice A10 ((l0.take ((wrap64 ((ji5) + 8)) : Int).toNat).drop ((ji5) : Int).toNat).length (c0 - (ji5).toNat)] rfl (by (try simp only [List.map_toArray, List.map_cons, List.map_nil]); first | done | (rw [show ((l0.take ((wrap64 ((ji5) + 8)) : Int).toNat).drop ((ji5) : Int).toNat).length = ((wrap64 ((ji5) + 8)).toNat - (ji5).toNat) from (by rw [List.length_drop, List.length_take]; have h_ : ((wrap64 ((ji5) + 8)) : Int) ≤ (l0.length : Int) := of_decide_eq_true (by first | (with_reducible assumption) | assumption); omega)] <;> rfl) | (simp only [hji5]; rfl) | rfl | (simp only [List.length_drop, List.length_take]; rfl)) ?_; (with_reducible refine (colonnaderef08_Low.calls k _ _ ((l0.take ((wrap64 ((ji5) + 8)) : Int).toNat).drop ((ji5) : Int).toNat) t121 _ ?side1 ?side2 A9.out).mono ?_); (case side1 => repeat (first | exact HR120.out | (with_reducible refine Kd.C_alloc ?_ _) | (with_reducible refine Kd.C_drewN ?_ _) | (with_reducible refine Kd.C_drew ?_))); (case side2 => exact HC120.out); rintro e w' ⟨rfl, ⟨nd, rfl⟩⟩; refine ⟨_, rfl, ?_⟩))
            go_ret2
            exact ⟨by first | rfl | (simp; done) | (simp only [← hji5] <;> (first | rfl | simp)) | (simp [*]; done), by repeat (first | exact Drawn0.refl _ | apply Drawn0.step)⟩
          · rw [if_neg c8] at H
            exact absurd H (by simp)
        · rw [if_neg c7] at H
          exact absurd H (by simp)
      · rw [if_neg c6] at H
        exact absurd H (by simp)

/-! ### colonnadelaw08_bytesKept: function 24 -/
def colonnadelaw08_bytesKept.f (l0 l1 : List Int) : Option Bool := if l0.length < 140737488355228 then some ((strOfNums l0).toList == (strOfNums l1).toList) else none
theorem colonnadelaw08_bytesKept.calls (A0 : Option Addr) (c0 : Nat) (l0 : List Int) (A1 : Option Addr) (c1 : Nat) (l1 : List Int) (r : Bool) (w : World) (hr0 : XLent.LK w A0 c0 l0) (hc0 : l0.length ≤ c0) (hr1 : Kd.C (Kd.int .u8) w A1 l1.length l1) (hc1 : l1.length ≤ c1) (h : colonnadelaw08_bytesKept.f l0 l1 = some r) :
    Calls Try.prog 24 #[.slice A0 l0.length c0, .slice A1 l1.length c1] w fun e w' => e = .returned (.bool r) ∧ Drawn0 w w' := by
  unfold colonnadelaw08_bytesKept.f at h
  by_cases hc : l0.length < 140737488355228
  · rw [if_pos hc] at h
    obtain rfl := Option.some.inj h
    exact XLent.kept_calls A0 c0 l0 A1 c1 l1 w hr0 hr1 hc1 hc
  · rw [if_neg hc] at h
    cases h

/-! ### colonnadelaw08_PlainInts: function 4 -/
mutual
def colonnadelaw08_PlainInts.l0 : Nat → Int → Int → List Int → Int → Option (Bool)
  | 0, _, _, _, _ => none
  | k + 1, x1, x2, x7, x8 => if x8 < 2 then ((some (([] : List Int) : List Int)).bind fun y125 => (if y125.length + x7.length < 140737488355328 then ((some (y125 ++ x7 : List Int)).bind fun y128 => ((colonnaderef08_Ints.f k y128 x1).bind fun bt131 => ((plain_Ints.f k x7 x1).bind fun bt135 => ((colonnaderef08_IntAt.f k y128 x2).bind fun bt139 => ((plain_IntAt.f k x7 x2).bind fun bt141 => ((colonnadelaw08_num.f bt135.2).bind fun t143 => (if t143 = bt131.2 then ((colonnaderef08_SameInts.f k bt135.1 bt131.1).bind fun t144 => (if t144 = true then (if bt141.1 = bt139.1 then (if (bt141.2 != bt139.2) = true then (colonnadelaw08_PlainInts.j1 k x1 x2 x7 x8 true) else ((colonnadelaw08_bytesKept.f x7 y128).bind fun t145 => (colonnadelaw08_PlainInts.j1 k x1 x2 x7 x8 (!t145)))) else (colonnadelaw08_PlainInts.j1 k x1 x2 x7 x8 true)) else (colonnadelaw08_PlainInts.j1 k x1 x2 x7 x8 true))) else (colonnadelaw08_PlainInts.j1 k x1 x2 x7 x8 true)))))))) else (none))) else (some true)
def colonnadelaw08_PlainInts.j1 : Nat → Int → Int → List Int → Int → Bool → Option (Bool)
  | 0, _, _, _, _, _ => none
  | k + 1, x1, x2, x7, x8, x77 => if x77 = true then (some false) else (colonnadelaw08_PlainInts.l1 k x1 x2 x7 x8 0)
def colonnadelaw08_PlainInts.l1 : Nat → Int → Int → List Int → Int → Int → Option (Bool)
  | 0, _, _, _, _, _ => none
  | k + 1, x1, x2, x7, x8, x18 => if x18 < (x7.length : Int) then (if 0 ≤ x18 then (colonnadelaw08_PlainInts.l1 k x1 x2 (x7.set (x18 : Int).toNat (((rd x7 x18) + 3) % 256)) x8 (wrap64 (x18 + 1))) else (none)) else (colonnadelaw08_PlainInts.l0 k x1 x2 x7 (wrap64 (x8 + 1)))
end
def colonnadelaw08_PlainInts.f (k : Nat) (l0 : List Int) (a1 : Int) (a2 : Int) : Option (Bool) := (colonnadelaw08_bytesLent.f l0).bind fun t122 => (colonnadelaw08_PlainInts.l0 k a1 a2 t122 0)
theorem colonnadelaw08_PlainInts.mono_l : ∀ k, (∀ y0 y1 y2 y3, LeO (colonnadelaw08_PlainInts.l0 k y0 y1 y2 y3) (colonnadelaw08_PlainInts.l0 (k + 1) y0 y1 y2 y3)) ∧ (∀ y0 y1 y2 y3 y4, LeO (colonnadelaw08_PlainInts.j1 k y0 y1 y2 y3 y4) (colonnadelaw08_PlainInts.j1 (k + 1) y0 y1 y2 y3 y4)) ∧ (∀ y0 y1 y2 y3 y4, LeO (colonnadelaw08_PlainInts.l1 k y0 y1 y2 y3 y4) (colonnadelaw08_PlainInts.l1 (k + 1) y0 y1 y2 y3 y4))
  | 0 => ⟨fun _ _ _ _ r h => by simp [colonnadelaw08_PlainInts.l0] at h, fun _ _ _ _ _ r h => by simp [colonnadelaw08_PlainInts.j1] at h, fun _ _ _ _ _ r h => by simp [colonnadelaw08_PlainInts.l1] at h⟩
  | k + 1 => by
    obtain ⟨ih0, ih1, ih2⟩ := colonnadelaw08_PlainInts.mono_l k
    refine ⟨?_, ?_, ?_⟩
    · intro y0 y1 y2 y3
      unfold colonnadelaw08_PlainInts.l0
      repeat' first
      | (with_reducible exact ih0 _ _ _ _)
      | (with_reducible exact ih1 _ _ _ _ _)
      | (with_reducible exact ih2 _ _ _ _ _)
      | (with_reducible exact colonnaderef08_IntAt.mono _ _ _)
      | (with_reducible exact colonnaderef08_Ints.mono _ _ _)
      | (with_reducible exact colonnaderef08_SameInts.mono _ _ _)
      | (with_reducible exact plain_IntAt.mono _ _ _)
      | (with_reducible exact plain_Ints.mono _ _ _)
      | (with_reducible exact LeO.refl _)
      | (with_reducible exact LeO.none _)
      | (with_reducible refine LeO.ite ?_ ?_)
      | (with_reducible refine LeO.bind ?_ (fun _ => ?_))
      | exact ih0 _ _ _ _
      | exact ih1 _ _ _ _ _
      | exact ih2 _ _ _ _ _
      | exact colonnaderef08_IntAt.mono _ _ _
      | exact colonnaderef08_Ints.mono _ _ _
      | exact colonnaderef08_SameInts.mono _ _ _
      | exact plain_IntAt.mono _ _ _
      | exact plain_Ints.mono _ _ _
      | exact LeO.none _
      | refine LeO.ite ?_ ?_
      | refine LeO.bind ?_ (fun _ => ?_)
    · intro y0 y1 y2 y3 y4
      unfold colonnadelaw08_PlainInts.j1
      repeat' first
      | (with_reducible exact ih0 _ _ _ _)
      | (with_reducible exact ih1 _ _ _ _ _)
      | (with_reducible exact ih2 _ _ _ _ _)
      | (with_reducible exact colonnaderef08_IntAt.mono _ _ _)
      | (with_reducible exact colonnaderef08_Ints.mono _ _ _)
      | (with_reducible exact colonnaderef08_SameInts.mono _ _ _)
      | (with_reducible exact plain_IntAt.mono _ _ _)
      | (with_reducible exact plain_Ints.mono _ _ _)
      | (with_reducible exact LeO.refl _)
      | (with_reducible exact LeO.none _)
      | (with_reducible refine LeO.ite ?_ ?_)
      | (with_reducible refine LeO.bind ?_ (fun _ => ?_))
      | exact ih0 _ _ _ _
      | exact ih1 _ _ _ _ _
      | exact ih2 _ _ _ _ _
      | exact colonnaderef08_IntAt.mono _ _ _
      | exact colonnaderef08_Ints.mono _ _ _
      | exact colonnaderef08_SameInts.mono _ _ _
      | exact plain_IntAt.mono _ _ _
      | exact plain_Ints.mono _ _ _
      | exact LeO.none _
      | refine LeO.ite ?_ ?_
      | refine LeO.bind ?_ (fun _ => ?_)
    · intro y0 y1 y2 y3 y4
      unfold colonnadelaw08_PlainInts.l1
      repeat' first
      | (with_reducible exact ih0 _ _ _ _)
      | (with_reducible exact ih1 _ _ _ _ _)
      | (with_reducible exact ih2 _ _ _ _ _)
      | (with_reducible exact colonnaderef08_IntAt.mono _ _ _)
      | (with_reducible exact colonnaderef08_Ints.mono _ _ _)
      | (with_reducible exact colonnaderef08_SameInts.mono _ _ _)
      | (with_reducible exact plain_IntAt.mono _ _ _)
      | (with_reducible exact plain_Ints.mono _ _ _)
      | (with_reducible exact LeO.refl _)
      | (with_reducible exact LeO.none _)
      | (with_reducible refine LeO.ite ?_ ?_)
      | (with_reducible refine LeO.bind ?_ (fun _ => ?_))
      | exact ih0 _ _ _ _
      | exact ih1 _ _ _ _ _
      | exact ih2 _ _ _ _ _
      | exact colonnaderef08_IntAt.mono _ _ _
      | exact colonnaderef08_Ints.mono _ _ _
      | exact colonnaderef08_SameInts.mono _ _ _
      | exact plain_IntAt.mono _ _ _
      | exact plain_Ints.mono _ _ _
      | exact LeO.none _
      | refine LeO.ite ?_ ?_
      | refine LeO.bind ?_ (fun _ => ?_)
theorem colonnadelaw08_PlainInts.mono : ∀ a0 a1 a2 k, LeO (colonnadelaw08_PlainInts.f k a0 a1 a2) (colonnadelaw08_PlainInts.f (k + 1) a0 a1 a2) := by
  intro a0 a1 a2 k
  obtain ⟨ih0, ih1, ih2⟩ := colonnadelaw08_PlainInts.mono_l k
  unfold colonnadelaw08_PlainInts.f
  repeat' first
      | (with_reducible exact ih0 _ _ _ _)
      | (with_reducible exact ih1 _ _ _ _ _)
      | (with_reducible exact ih2 _ _ _ _ _)
      | (with_reducible exact colonnaderef08_IntAt.mono _ _ _)
      | (with_reducible exact colonnaderef08_Ints.mono _ _ _)
      | (with_reducible exact colonnaderef08_SameInts.mono _ _ _)
      | (with_reducible exact plain_IntAt.mono _ _ _)
      | (with_reducible exact plain_Ints.mono _ _ _)
      | (with_reducible exact LeO.refl _)
      | (with_reducible exact LeO.none _)
      | (with_reducible refine LeO.ite ?_ ?_)
      | (with_reducible refine LeO.bind ?_ (fun _ => ?_))
      | exact ih0 _ _ _ _
      | exact ih1 _ _ _ _ _
      | exact ih2 _ _ _ _ _
      | exact colonnaderef08_IntAt.mono _ _ _
      | exact colonnaderef08_Ints.mono _ _ _
      | exact colonnaderef08_SameInts.mono _ _ _
      | exact plain_IntAt.mono _ _ _
      | exact plain_Ints.mono _ _ _
      | exact LeO.none _
      | refine LeO.ite ?_ ?_
      | refine LeO.bind ?_ (fun _ => ?_)
set_option maxHeartbeats 8000000 in
set_option maxRecDepth 100000 in
theorem colonnadelaw08_PlainInts.calls (k : Nat) (A0 : Option Addr) (c0 : Nat) (l0 : List Int) (a1 : Int) (a2 : Int) (r : Bool) (w : World) (hr0 : Kd.C (Kd.int .u8) w A0 l0.length l0) (hc0 : l0.length ≤ c0) (h : colonnadelaw08_PlainInts.f k l0 a1 a2 = some r) :
    Calls Try.prog 4 #[.slice A0 l0.length c0, .int .i64 a1, .int .i64 a2] w fun e w' => e = .returned (.bool r) ∧ Below w.heap.size w w' := by
  have HR0 := Aside0.mk hr0
  have HC0 := Aside0.mk hc0
  clear hr0 hc0
  have HB := Aside0.mk (Below.refl w.heap.size w)
  have H : ((colonnadelaw08_bytesLent.f l0).bind fun t122 => (colonnadelaw08_PlainInts.l0 k a1 a2 t122 0)) = some r := h
  clear h
  replace H := Option.bind_eq_some_iff.mp H
  obtain ⟨t122, A40, H⟩ := H
  replace H : (colonnadelaw08_PlainInts.l0 k a1 a2 t122 0) = some r := H
  have A4 := Aside0.mk A40
  clear A40
  have H' := Aside0.mk H
  clear H
  go_enter Try.func4, Try.ntmps4
  go_wp2_with (first | ((with_reducible refine gate_callee (f := 19) rfl ?_); refine goesL_ (some 20) rfl rfl Try.func19 (by kernel_rfl) rfl #[.slice A0 l0.length c0] rfl (by (try simp only [List.map_toArray, List.map_cons, List.map_nil]); first | done | rfl | (simp only [List.length_drop, List.length_take]; rfl)) ?_; (with_reducible refine (colonnadelaw08_bytesLent.calls _ _ l0 t122 _ ?side1 ?side2 A4.out).mono ?_); (case side1 => repeat (first | exact HR0.out | (with_reducible refine Kd.C_alloc ?_ _) | (with_reducible refine Kd.C_drewN ?_ _) | (with_reducible refine Kd.C_drew ?_))); (case side2 => exact HC0.out); rintro e w5 ⟨v123, rfl, ho0, hb⟩; refine ⟨_, rfl, ?_⟩; have n0_ := Aside0.mk (XLent.LR_lower ho0 (below_size (by repeat (first | (with_reducible first | exact HB.out | apply below_alloc | apply pw_below_drewN | apply below_drew1) | exact HB.out)))); have n1_ := Aside0.mk (below_step (by repeat (first | (with_reducible first | exact HB.out | apply below_alloc | apply pw_below_drewN | apply below_drew1) | exact HB.out)) hb); clear HB; have HO124 := n0_; have HB := n1_; clear n0_ n1_; (try clear hb); (try clear hb2); (try clear hk); (try clear hi); (try clear ho0)))
  (try simp only [add_plain])
  go_loopg [8] k (fun kq v8 w' => ∃ (x7_1 : List Int) (x8_1 : Int), v8 = .int .i64 x8_1 ∧ Aside0 (colonnadelaw08_PlainInts.l0 kq a1 a2 x7_1 x8_1 = some r) ∧ Aside0 (kq ≤ k) ∧ Aside0 (XLent.LR w' w.heap.size (fun _ => True) v123 x7_1) ∧ Aside0 (Below w.heap.size w w'))
  case atStart => exact ⟨(t122), (0), (by first | rfl | (simp; done) | (simp [*]; done)), H', ⟨Nat.le_refl _⟩, ⟨by (with_reducible repeat (first | apply XLent.LR_alloc | apply XLent.LR_drewN | apply XLent.LR_drew)); exact HO124.out⟩, ⟨by repeat (first | (with_reducible first | exact HB.out | apply below_alloc | apply pw_below_drewN | apply below_drew1) | exact HB.out)⟩⟩
  case round =>
    clear H'
    try clear c1
    try clear p2
    try clear c4
    obtain ⟨x7_1, x8_1, rfl, HA, HK1, HO_7, HB⟩ := hrel
    cases gk with
    | zero => exact absurd HA.out (by simp [colonnadelaw08_PlainInts.l0])
    | succ k1 =>
      have H := HA.out
      clear HA
      simp only [colonnadelaw08_PlainInts.l0] at H
      by_cases c6 : x8_1 < 2
      · rw [if_pos c6] at H
        have c6b0 : decide (x8_1 < 2) = true := decide_eq_true c6
        clear c6
        obtain ⟨y125, hy125⟩ : ∃ y_ : List Int, y_ = (([] : List Int)) := ⟨_, rfl⟩
        replace H : (if y125.length + x7_1.length < 140737488355328 then ((some (y125 ++ x7_1 : List Int)).bind fun y128 => ((colonnaderef08_Ints.f k1 y128 a1).bind fun bt131 => ((plain_Ints.f k1 x7_1 a1).bind fun bt135 => ((colonnaderef08_IntAt.f k1 y128 a2).bind fun bt139 => ((plain_IntAt.f k1 x7_1 a2).bind fun bt141 => ((colonnadelaw08_num.f bt135.2).bind fun t143 => (if t143 = bt131.2 then ((colonnaderef08_SameInts.f k1 bt135.1 bt131.1).bind fun t144 => (if t144 = true then (if bt141.1 = bt139.1 then (if (bt141.2 != bt139.2) = true then (colonnadelaw08_PlainInts.j1 k1 a1 a2 x7_1 x8_1 true) else ((colonnadelaw08_bytesKept.f x7_1 y128).bind fun t145 => (colonnadelaw08_PlainInts.j1 k1 a1 a2 x7_1 x8_1 (!t145)))) else (colonnadelaw08_PlainInts.j1 k1 a1 a2 x7_1 x8_1 true)) else (colonnadelaw08_PlainInts.j1 k1 a1 a2 x7_1 x8_1 true))) else (colonnadelaw08_PlainInts.j1 k1 a1 a2 x7_1 x8_1 true)))))))) else (none)) = some r := by first | (rw [hy125]; with_reducible exact H) | (have H2_ := (Option.bind_some _ _).symm.trans H; rw [hy125]; with_reducible exact H2_) | (have H2_ := (Option.bind_some _ _).symm.trans H; with_reducible exact H2_) | with_reducible exact H | (rw [hy125]; exact H) | exact H
        have Ny125 := Aside0.mk hy125
        clear hy125
        by_cases c7 : y125.length + x7_1.length < 140737488355328
        · rw [if_pos c7] at H
          have LMc7 := Aside0.mk c7
          clear c7
          obtain ⟨y128, hy128⟩ : ∃ y_ : List Int, y_ = (y125 ++ x7_1) := ⟨_, rfl⟩
          replace H : ((colonnaderef08_Ints.f k1 y128 a1).bind fun bt131 => ((plain_Ints.f k1 x7_1 a1).bind fun bt135 => ((colonnaderef08_IntAt.f k1 y128 a2).bind fun bt139 => ((plain_IntAt.f k1 x7_1 a2).bind fun bt141 => ((colonnadelaw08_num.f bt135.2).bind fun t143 => (if t143 = bt131.2 then ((colonnaderef08_SameInts.f k1 bt135.1 bt131.1).bind fun t144 => (if t144 = true then (if bt141.1 = bt139.1 then (if (bt141.2 != bt139.2) = true then (colonnadelaw08_PlainInts.j1 k1 a1 a2 x7_1 x8_1 true) else ((colonnadelaw08_bytesKept.f x7_1 y128).bind fun t145 => (colonnadelaw08_PlainInts.j1 k1 a1 a2 x7_1 x8_1 (!t145)))) else (colonnadelaw08_PlainInts.j1 k1 a1 a2 x7_1 x8_1 true)) else (colonnadelaw08_PlainInts.j1 k1 a1 a2 x7_1 x8_1 true))) else (colonnadelaw08_PlainInts.j1 k1 a1 a2 x7_1 x8_1 true))))))) = some r := by first | (rw [hy128]; with_reducible exact H) | (have H2_ := (Option.bind_some _ _).symm.trans H; rw [hy128]; with_reducible exact H2_) | (have H2_ := (Option.bind_some _ _).symm.trans H; with_reducible exact H2_) | with_reducible exact H | (rw [hy128]; exact H) | exact H
          have Ny128 := Aside0.mk hy128
          clear hy128
          replace H := Option.bind_eq_some_iff.mp H
          obtain ⟨⟨t131, t132⟩, A80, H⟩ := H
          replace H : ((plain_Ints.f k1 x7_1 a1).bind fun bt135 => ((colonnaderef08_IntAt.f k1 y128 a2).bind fun bt139 => ((plain_IntAt.f k1 x7_1 a2).bind fun bt141 => ((colonnadelaw08_num.f bt135.2).bind fun t143 => (if t143 = t132 then ((colonnaderef08_SameInts.f k1 bt135.1 t131).bind fun t144 => (if t144 = true then (if bt141.1 = bt139.1 then (if (bt141.2 != bt139.2) = true then (colonnadelaw08_PlainInts.j1 k1 a1 a2 x7_1 x8_1 true) else ((colonnadelaw08_bytesKept.f x7_1 y128).bind fun t145 => (colonnadelaw08_PlainInts.j1 k1 a1 a2 x7_1 x8_1 (!t145)))) else (colonnadelaw08_PlainInts.j1 k1 a1 a2 x7_1 x8_1 true)) else (colonnadelaw08_PlainInts.j1 k1 a1 a2 x7_1 x8_1 true))) else (colonnadelaw08_PlainInts.j1 k1 a1 a2 x7_1 x8_1 true)))))) = some r := H
          have A8 := Aside0.mk A80
          clear A80
          replace H := Option.bind_eq_some_iff.mp H
          obtain ⟨⟨t135, t136⟩, A90, H⟩ := H
          replace H : ((colonnaderef08_IntAt.f k1 y128 a2).bind fun bt139 => ((plain_IntAt.f k1 x7_1 a2).bind fun bt141 => ((colonnadelaw08_num.f t136).bind fun t143 => (if t143 = t132 then ((colonnaderef08_SameInts.f k1 t135 t131).bind fun t144 => (if t144 = true then (if bt141.1 = bt139.1 then (if (bt141.2 != bt139.2) = true then (colonnadelaw08_PlainInts.j1 k1 a1 a2 x7_1 x8_1 true) else ((colonnadelaw08_bytesKept.f x7_1 y128).bind fun t145 => (colonnadelaw08_PlainInts.j1 k1 a1 a2 x7_1 x8_1 (!t145)))) else (colonnadelaw08_PlainInts.j1 k1 a1 a2 x7_1 x8_1 true)) else (colonnadelaw08_PlainInts.j1 k1 a1 a2 x7_1 x8_1 true))) else (colonnadelaw08_PlainInts.j1 k1 a1 a2 x7_1 x8_1 true))))) = some r := H
          have A9 := Aside0.mk A90
          clear A90
          replace H := Option.bind_eq_some_iff.mp H
          obtain ⟨⟨t139, t140⟩, A100, H⟩ := H
          replace H : ((plain_IntAt.f k1 x7_1 a2).bind fun bt141 => ((colonnadelaw08_num.f t136).bind fun t143 => (if t143 = t132 then ((colonnaderef08_SameInts.f k1 t135 t131).bind fun t144 => (if t144 = true then (if bt141.1 = t139 then (if (bt141.2 != t140) = true then (colonnadelaw08_PlainInts.j1 k1 a1 a2 x7_1 x8_1 true) else ((colonnadelaw08_bytesKept.f x7_1 y128).bind fun t145 => (colonnadelaw08_PlainInts.j1 k1 a1 a2 x7_1 x8_1 (!t145)))) else (colonnadelaw08_PlainInts.j1 k1 a1 a2 x7_1 x8_1 true)) else (colonnadelaw08_PlainInts.j1 k1 a1 a2 x7_1 x8_1 true))) else (colonnadelaw08_PlainInts.j1 k1 a1 a2 x7_1 x8_1 true)))) = some r := H
          have A10 := Aside0.mk A100
          clear A100
          replace H := Option.bind_eq_some_iff.mp H
          obtain ⟨⟨t141, t142⟩, A110, H⟩ := H
          replace H : ((colonnadelaw08_num.f t136).bind fun t143 => (if t143 = t132 then ((colonnaderef08_SameInts.f k1 t135 t131).bind fun t144 => (if t144 = true then (if t141 = t139 then (if (t142 != t140) = true then (colonnadelaw08_PlainInts.j1 k1 a1 a2 x7_1 x8_1 true) else ((colonnadelaw08_bytesKept.f x7_1 y128).bind fun t145 => (colonnadelaw08_PlainInts.j1 k1 a1 a2 x7_1 x8_1 (!t145)))) else (colonnadelaw08_PlainInts.j1 k1 a1 a2 x7_1 x8_1 true)) else (colonnadelaw08_PlainInts.j1 k1 a1 a2 x7_1 x8_1 true))) else (colonnadelaw08_PlainInts.j1 k1 a1 a2 x7_1 x8_1 true))) = some r := H
          have A11 := Aside0.mk A110
          clear A110
          have HC12 := Aside0.mk H
          clear H
          go_upto_region 10 with (first | ((with_reducible refine gate_dst (N := 25) rfl ?_); refine Kd.R_lit (Kd.int .u8) _ 5 ?hg (N := 25) ?hd (xs := ([] : List Int)) (inner := []) (ok := fun _ => True) (okp := fun _ => True) ?hr ?hp (fun _ hk => hk) trivial (Below.refl _ _) (Nat.le_refl _) (by simp) ?_; (case hd => rfl); (case hg => rfl); (case hr => first | (go_simp; done) | (go_simp; rfl)); (case hp => exact (Reps.none _ _)); intro v126 w13 ho14 hb hg_ hnew_; clear hg_ hnew_; (first | rw [← Ny125.out] at ho14 | (simp only [Int.reduceToNat] at ho14; rw [← Ny125.out] at ho14)); have n0_ := Aside0.mk (XLent.LR_elder' (by (with_reducible repeat (first | apply XLent.LR_alloc | apply XLent.LR_drewN | apply XLent.LR_drew)); exact HO_7.out) (Kd.R_base ho14) hb); have n1_ := Aside0.mk (Kd.R_lower (Kd.R_new' ho14 (Kd.R_lt (by (with_reducible repeat (first | apply Kd.R_alloc | apply Kd.R_drewN | apply Kd.R_drew)); exact HO_7.out.r))) (below_size (by repeat (first | (with_reducible first | exact HB.out | apply below_alloc | apply pw_below_drewN | apply below_drew1) | exact HB.out)))); have n2_ := Aside0.mk (below_step (by repeat (first | (with_reducible first | exact HB.out | apply below_alloc | apply pw_below_drewN | apply below_drew1) | exact HB.out)) hb); clear HO_7; clear HB; have HO_7 := n0_; have HO127 := n1_; have HB := n2_; clear n0_ n1_ n2_; clear hb ho14; obtain ⟨Ao16, co16, eo16⟩ := Kd.R_slice HO_7.out.r; subst eo16) | ((with_reducible refine gate_builtin (b := .append) (xs := #[.tmp 25, .tmp 26]) rfl ?_); at_builtin; refine Kd.R_append_rows (Kd.int .u8) (w0 := w) w.heap.size rfl (.tmp 25) (.tmp 26) 24 5 (.int .u8 0) 1 rfl Try.underlying24 info5 rfl (by decide) (by omega) v126 y125 x7_1 _ _ _ (fun k_ => some k_ ≠ (.slice Ao16 x7_1.length co16 : Value).ownBlock) (fun _ => False) rfl rfl ?aO ?aR (fun _ _ h => h) (fun _ h => h.elim) ?aF ?aB ?aS ?aL ?_; (case aR => repeat (first | exact (Kd.R_reads' HO_7.out.r).2.2 | (with_reducible refine Kd.C_alloc ?_ _) | (with_reducible refine Kd.C_drewN ?_ _) | (with_reducible refine Kd.C_drew ?_))); (case aB => exact (by repeat (first | (with_reducible first | exact HB.out | apply below_alloc | apply pw_below_drewN | apply below_drew1) | exact HB.out))); (case aF => exact (fun k_ hk => Kd.fresh' (Kd.R_lt (by (with_reducible repeat (first | apply Kd.R_alloc | apply Kd.R_drewN | apply Kd.R_drew)); exact HO_7.out.r)) k_ hk)); (case aO => exact (by (with_reducible repeat (first | apply Kd.R_alloc | apply Kd.R_drewN | apply Kd.R_drew)); exact Kd.R_mono HO127.out (fun _ hk => hk.2))); (case aS => exact (below_size (by repeat (first | (with_reducible first | exact HB.out | apply below_alloc | apply pw_below_drewN | apply below_drew1) | exact HB.out)))); (case aL => have := LMc7.out; omega); intro v129 w15 ho hb hg hat; rw [← Ny128.out] at ho; have n0_ := Aside0.mk (XLent.LR_after (ok := (fun _ => True)) (by (with_reducible repeat (first | apply XLent.LR_alloc | apply XLent.LR_drewN | apply XLent.LR_drew)); exact HO_7.out) hg hat); have n1_ := Aside0.mk (hb); have n2_ := Aside0.mk (ho); clear HO_7; clear HB; clear HO127; have HO_7 := n0_; have HB := n1_; have HO130 := n2_; clear n0_ n1_ n2_; clear ho hb hg hat; obtain ⟨Ao17, co17, eo17⟩ := Kd.R_slice HO130.out; subst eo17) | ((with_reducible refine gate_callee (f := 20) rfl ?_); refine goesL_ (some 31) rfl rfl Try.func20 (by kernel_rfl) rfl #[.slice Ao17 y128.length co17, .int .i64 a1] rfl (by (try simp only [List.map_toArray, List.map_cons, List.map_nil]); first | done | rfl | (simp only [List.length_drop, List.length_take]; rfl)) ?_; (with_reducible refine (colonnaderef08_Ints.calls k1 _ _ y128 a1 t131 t132 _ ?side1 ?side2 A8.out).mono ?_); (case side1 => repeat (first | exact (Kd.R_reads' HO130.out).2.2 | (with_reducible refine Kd.C_alloc ?_ _) | (with_reducible refine Kd.C_drewN ?_ _) | (with_reducible refine Kd.C_drew ?_))); (case side2 => exact (Kd.R_reads' HO130.out).2.1); rintro e w18 ⟨v133, rfl, ho0, hb⟩; refine ⟨_, rfl, ?_⟩; have n0_ := Aside0.mk (XLent.LR_below (by (with_reducible repeat (first | apply XLent.LR_alloc | apply XLent.LR_drewN | apply XLent.LR_drew)); exact HO_7.out) hb); have n1_ := Aside0.mk (Kd.R_below (by (with_reducible repeat (first | apply Kd.R_alloc | apply Kd.R_drewN | apply Kd.R_drew)); exact HO130.out) hb); have n2_ := Aside0.mk (Kd.R_lower ho0 (below_size (by repeat (first | (with_reducible first | exact HB.out | apply below_alloc | apply pw_below_drewN | apply below_drew1) | exact HB.out)))); have n3_ := Aside0.mk (below_step (by repeat (first | (with_reducible first | exact HB.out | apply below_alloc | apply pw_below_drewN | apply below_drew1) | exact HB.out)) hb); clear HO_7; clear HO130; clear HB; have HO_7 := n0_; have HO130 := n1_; have HO134 := n2_; have HB := n3_; clear n0_ n1_ n2_ n3_; (try clear hb); (try clear hb2); (try clear hk); (try clear hi); (try clear ho0)) | ((with_reducible refine gate_callee (f := 21) rfl ?_); refine goesL_ (some 37) rfl rfl Try.func21 (by kernel_rfl) rfl #[.slice Ao16 x7_1.length co16, .int .i64 a1] rfl (by (try simp only [List.map_toArray, List.map_cons, List.map_nil]); first | done | rfl | (simp only [List.length_drop, List.length_take]; rfl)) ?_; (with_reducible refine (plain_Ints.calls k1 _ _ x7_1 a1 t135 t136 _ ?side1 ?side2 A9.out).mono ?_); (case side1 => repeat (first | exact (Kd.R_reads' HO_7.out.r).2.2 | (with_reducible refine Kd.C_alloc ?_ _) | (with_reducible refine Kd.C_drewN ?_ _) | (with_reducible refine Kd.C_drew ?_))); (case side2 => exact (Kd.R_reads' HO_7.out.r).2.1); rintro e w19 ⟨v137, rfl, ho0, hb⟩; refine ⟨_, rfl, ?_⟩; have n0_ := Aside0.mk (XLent.LR_below (by (with_reducible repeat (first | apply XLent.LR_alloc | apply XLent.LR_drewN | apply XLent.LR_drew)); exact HO_7.out) hb); have n1_ := Aside0.mk (Kd.R_below (by (with_reducible repeat (first | apply Kd.R_alloc | apply Kd.R_drewN | apply Kd.R_drew)); exact HO130.out) hb); have n2_ := Aside0.mk (Kd.R_elder' (by (with_reducible repeat (first | apply Kd.R_alloc | apply Kd.R_drewN | apply Kd.R_drew)); exact HO134.out) (Kd.R_base ho0) hb); have n3_ := Aside0.mk (Kd.R_lower (Kd.R_new' ho0 (Kd.R_lt (by (with_reducible repeat (first | apply Kd.R_alloc | apply Kd.R_drewN | apply Kd.R_drew)); exact HO134.out))) (below_size (by repeat (first | (with_reducible first | exact HB.out | apply below_alloc | apply pw_below_drewN | apply below_drew1) | exact HB.out)))); have n4_ := Aside0.mk (below_step (by repeat (first | (with_reducible first | exact HB.out | apply below_alloc | apply pw_below_drewN | apply below_drew1) | exact HB.out)) hb); clear HO_7; clear HO130; clear HO134; clear HB; have HO_7 := n0_; have HO130 := n1_; have HO134 := n2_; have HO138 := n3_; have HB := n4_; clear n0_ n1_ n2_ n3_ n4_; (try clear hb); (try clear hb2); (try clear hk); (try clear hi); (try clear ho0)) | ((with_reducible refine gate_callee (f := 22) rfl ?_); refine goesL_ (some 43) rfl rfl Try.func22 (by kernel_rfl) rfl #[.slice Ao17 y128.length co17, .int .i64 a2] rfl (by (try simp only [List.map_toArray, List.map_cons, List.map_nil]); first | done | rfl | (simp only [List.length_drop, List.length_take]; rfl)) ?_; (with_reducible refine (colonnaderef08_IntAt.calls k1 _ _ y128 a2 t139 t140 _ ?side1 ?side2 A10.out).mono ?_); (case side1 => repeat (first | exact (Kd.R_reads' HO130.out).2.2 | (with_reducible refine Kd.C_alloc ?_ _) | (with_reducible refine Kd.C_drewN ?_ _) | (with_reducible refine Kd.C_drew ?_))); (case side2 => exact (Kd.R_reads' HO130.out).2.1); rintro e w' ⟨rfl, ⟨nd, rfl⟩⟩; refine ⟨_, rfl, ?_⟩) | ((with_reducible refine gate_callee (f := 23) rfl ?_); refine goesL_ (some 49) rfl rfl Try.func23 (by kernel_rfl) rfl #[.slice Ao16 x7_1.length co16, .int .i64 a2] rfl (by (try simp only [List.map_toArray, List.map_cons, List.map_nil]); first | done | rfl | (simp only [List.length_drop, List.length_take]; rfl)) ?_; (with_reducible refine (plain_IntAt.calls k1 _ _ x7_1 a2 t141 t142 _ ?side1 ?side2 A11.out).mono ?_); (case side1 => repeat (first | exact (Kd.R_reads' HO_7.out.r).2.2 | (with_reducible refine Kd.C_alloc ?_ _) | (with_reducible refine Kd.C_drewN ?_ _) | (with_reducible refine Kd.C_drew ?_))); (case side2 => exact (Kd.R_reads' HO_7.out.r).2.1); rintro e w' ⟨rfl, ⟨nd, rfl⟩⟩; refine ⟨_, rfl, ?_⟩))
          (try simp only [Act.put, List.setIfInBounds_toArray, List.set_cons_zero, List.set_cons_succ])
          go_cut [77] (fun v77 wc => ∃ (kq : Nat) (x77_11 : Bool), v77 = .bool x77_11 ∧ Aside0 (colonnadelaw08_PlainInts.j1 kq a1 a2 x7_1 x8_1 x77_11 = some r) ∧ Aside0 (kq ≤ k1) ∧ Aside0 (XLent.LR wc w.heap.size (fun _ => True) (.slice Ao16 x7_1.length co16) x7_1) ∧ Aside0 (Below w.heap.size w wc))
          case first =>
            have H := HC12.out
            clear HC12
            replace H := Option.bind_eq_some_iff.mp H
            obtain ⟨t143, A200, H⟩ := H
            replace H : (if t143 = t132 then ((colonnaderef08_SameInts.f k1 t135 t131).bind fun t144 => (if t144 = true then (if t141 = t139 then (if (t142 != t140) = true then (colonnadelaw08_PlainInts.j1 k1 a1 a2 x7_1 x8_1 true) else ((colonnadelaw08_bytesKept.f x7_1 y128).bind fun t145 => (colonnadelaw08_PlainInts.j1 k1 a1 a2 x7_1 x8_1 (!t145)))) else (colonnadelaw08_PlainInts.j1 k1 a1 a2 x7_1 x8_1 true)) else (colonnadelaw08_PlainInts.j1 k1 a1 a2 x7_1 x8_1 true))) else (colonnadelaw08_PlainInts.j1 k1 a1 a2 x7_1 x8_1 true)) = some r := H
            have A20 := Aside0.mk A200
            clear A200
            by_cases c21 : t143 = t132
            · rw [if_pos c21] at H
              have c21b0 : (t143 == t132) = true := beq_iff_eq.mpr c21
              have c21b1 : (t143 != t132) = false := bne_eq_false_iff_eq.mpr c21
              clear c21
              (first | rw [c21b0] | (simp only [i64_w, i32_w]; rw [c21b0]) | skip)
              replace H := Option.bind_eq_some_iff.mp H
              obtain ⟨t144, A220, H⟩ := H
              replace H : (if t144 = true then (if t141 = t139 then (if (t142 != t140) = true then (colonnadelaw08_PlainInts.j1 k1 a1 a2 x7_1 x8_1 true) else ((colonnadelaw08_bytesKept.f x7_1 y128).bind fun t145 => (colonnadelaw08_PlainInts.j1 k1 a1 a2 x7_1 x8_1 (!t145)))) else (colonnadelaw08_PlainInts.j1 k1 a1 a2 x7_1 x8_1 true)) else (colonnadelaw08_PlainInts.j1 k1 a1 a2 x7_1 x8_1 true)) = some r := H
              have A22 := Aside0.mk A220
              clear A220
              by_cases c23 : t144 = true
              · subst c23
                have H1 : (if t141 = t139 then (if (t142 != t140) = true then (colonnadelaw08_PlainInts.j1 k1 a1 a2 x7_1 x8_1 true) else ((colonnadelaw08_bytesKept.f x7_1 y128).bind fun t145 => (colonnadelaw08_PlainInts.j1 k1 a1 a2 x7_1 x8_1 (!t145)))) else (colonnadelaw08_PlainInts.j1 k1 a1 a2 x7_1 x8_1 true)) = some r := by rw [if_pos rfl] at H; exact H
                clear H
                have H := H1
                clear H1
                by_cases c24 : t141 = t139
                · rw [if_pos c24] at H
                  have c24b0 : (t141 == t139) = true := beq_iff_eq.mpr c24
                  have c24b1 : (t141 != t139) = false := bne_eq_false_iff_eq.mpr c24
                  clear c24
                  by_cases c25 : (t142 != t140) = true
                  · rw [if_pos c25] at H
                    have c25b0 : (t142 != t140) = true := c25
                    (try (have c25b1 : decide (t142 = t140) = false := by simpa using c25))
                    (try (have c25b2 : (t142 == t140) = false := by simpa using c25))
                    (try (have c25b3 : ¬ (t142 = t140) := by simpa using c25))
                    clear c25
                    have H' := Aside0.mk H
                    clear H
                    go_wp2_with (first | ((with_reducible refine gate_callee (f := 16) rfl ?_); refine goesL_ (some 53) rfl rfl Try.func16 (by kernel_rfl) rfl #[.int .i64 t136] rfl (by (try simp only [List.map_toArray, List.map_cons, List.map_nil]); first | done | rfl | (simp only [List.length_drop, List.length_take]; rfl)) ?_; (with_reducible refine (colonnadelaw08_num.calls t136 t143 _ A20.out).mono ?_); rintro e w' ⟨rfl, ⟨nd, rfl⟩⟩; refine ⟨_, rfl, ?_⟩; obtain ⟨Ao26, co26, eo26⟩ := Kd.R_slice HO138.out; subst eo26; obtain ⟨Ao27, co27, eo27⟩ := Kd.R_slice HO134.out; subst eo27) | (go_at_call 17; (with_reducible refine (colonnaderef08_SameInts.calls k1 _ _ t135 _ _ t131 true _ ?side1 ?side2 ?side3 ?side4 A22.out).mono ?_); (case side1 => repeat (first | exact (Kd.R_reads' HO138.out).2.2 | (with_reducible refine Kd.C_alloc ?_ _) | (with_reducible refine Kd.C_drewN ?_ _) | (with_reducible refine Kd.C_drew ?_))); (case side2 => exact (Kd.R_reads' HO138.out).2.1); (case side3 => repeat (first | exact (Kd.R_reads' HO134.out).2.2 | (with_reducible refine Kd.C_alloc ?_ _) | (with_reducible refine Kd.C_drewN ?_ _) | (with_reducible refine Kd.C_drew ?_))); (case side4 => exact (Kd.R_reads' HO134.out).2.1); rintro e w' ⟨rfl, ⟨nd, rfl⟩⟩))
                    go_meet
                    case rel => exact ⟨_, (true), (by first | rfl | (simp; done) | (simp [*]; done)), H', ⟨by have := HK1.out; first | omega | exact Nat.le_refl _⟩, ⟨by (with_reducible repeat (first | apply XLent.LR_alloc | apply XLent.LR_drewN | apply XLent.LR_drew)); exact XLent.LR_mono HO_7.out (fun _ hk => trivial)⟩, ⟨by repeat (first | (with_reducible first | exact HB.out | apply below_alloc | apply pw_below_drewN | apply below_drew1) | exact HB.out)⟩⟩
                  · rw [if_neg c25] at H
                    have c25b0 : (t142 != t140) = false := by simpa using c25
                    (try (have c25b1 : decide (t142 = t140) = true := by simpa using c25))
                    (try (have c25b2 : (t142 == t140) = true := by simpa using c25))
                    clear c25
                    replace H := Option.bind_eq_some_iff.mp H
                    obtain ⟨t145, A280, H⟩ := H
                    replace H : (colonnadelaw08_PlainInts.j1 k1 a1 a2 x7_1 x8_1 (!t145)) = some r := H
                    have A28 := Aside0.mk A280
                    clear A280
                    have H' := Aside0.mk H
                    clear H
                    go_wp2_with (first | ((with_reducible refine gate_callee (f := 16) rfl ?_); refine goesL_ (some 53) rfl rfl Try.func16 (by kernel_rfl) rfl #[.int .i64 t136] rfl (by (try simp only [List.map_toArray, List.map_cons, List.map_nil]); first | done | rfl | (simp only [List.length_drop, List.length_take]; rfl)) ?_; (with_reducible refine (colonnadelaw08_num.calls t136 t143 _ A20.out).mono ?_); rintro e w' ⟨rfl, ⟨nd, rfl⟩⟩; refine ⟨_, rfl, ?_⟩; obtain ⟨Ao29, co29, eo29⟩ := Kd.R_slice HO138.out; subst eo29; obtain ⟨Ao30, co30, eo30⟩ := Kd.R_slice HO134.out; subst eo30) | (go_at_call 17; (with_reducible refine (colonnaderef08_SameInts.calls k1 _ _ t135 _ _ t131 true _ ?side1 ?side2 ?side3 ?side4 A22.out).mono ?_); (case side1 => repeat (first | exact (Kd.R_reads' HO138.out).2.2 | (with_reducible refine Kd.C_alloc ?_ _) | (with_reducible refine Kd.C_drewN ?_ _) | (with_reducible refine Kd.C_drew ?_))); (case side2 => exact (Kd.R_reads' HO138.out).2.1); (case side3 => repeat (first | exact (Kd.R_reads' HO134.out).2.2 | (with_reducible refine Kd.C_alloc ?_ _) | (with_reducible refine Kd.C_drewN ?_ _) | (with_reducible refine Kd.C_drew ?_))); (case side4 => exact (Kd.R_reads' HO134.out).2.1); rintro e w' ⟨rfl, ⟨nd, rfl⟩⟩) | (go_at_call 24; (with_reducible refine (colonnadelaw08_bytesKept.calls _ _ x7_1 _ _ y128 t145 _ ?side1 ?side2 ?side3 ?side4 A28.out).mono ?_); (case side1 => repeat (first | exact HO_7.out.k | (with_reducible refine XLent.LK_alloc ?_ _) | (with_reducible refine XLent.LK_drewN ?_ _) | (with_reducible refine XLent.LK_drew ?_))); (case side2 => exact (Kd.R_reads' HO_7.out.r).2.1); (case side3 => repeat (first | exact (Kd.R_reads' HO130.out).2.2 | (with_reducible refine Kd.C_alloc ?_ _) | (with_reducible refine Kd.C_drewN ?_ _) | (with_reducible refine Kd.C_drew ?_))); (case side4 => exact (Kd.R_reads' HO130.out).2.1); rintro e w' ⟨rfl, ⟨nd, rfl⟩⟩))
                    go_meet
                    case rel => exact ⟨_, (!t145), (by first | rfl | (simp; done) | (simp [*]; done)), H', ⟨by have := HK1.out; first | omega | exact Nat.le_refl _⟩, ⟨by (with_reducible repeat (first | apply XLent.LR_alloc | apply XLent.LR_drewN | apply XLent.LR_drew)); exact XLent.LR_mono HO_7.out (fun _ hk => trivial)⟩, ⟨by repeat (first | (with_reducible first | exact HB.out | apply below_alloc | apply pw_below_drewN | apply below_drew1) | exact HB.out)⟩⟩
                · rw [if_neg c24] at H
                  have c24b0 : (t141 == t139) = false := beq_eq_false_iff_ne.mpr c24
                  have c24b1 : (t141 != t139) = true := bne_iff_ne.mpr c24
                  have H' := Aside0.mk H
                  clear H
                  go_wp2_with (first | ((with_reducible refine gate_callee (f := 16) rfl ?_); refine goesL_ (some 53) rfl rfl Try.func16 (by kernel_rfl) rfl #[.int .i64 t136] rfl (by (try simp only [List.map_toArray, List.map_cons, List.map_nil]); first | done | rfl | (simp only [List.length_drop, List.length_take]; rfl)) ?_; (with_reducible refine (colonnadelaw08_num.calls t136 t143 _ A20.out).mono ?_); rintro e w' ⟨rfl, ⟨nd, rfl⟩⟩; refine ⟨_, rfl, ?_⟩; obtain ⟨Ao31, co31, eo31⟩ := Kd.R_slice HO138.out; subst eo31; obtain ⟨Ao32, co32, eo32⟩ := Kd.R_slice HO134.out; subst eo32) | (go_at_call 17; (with_reducible refine (colonnaderef08_SameInts.calls k1 _ _ t135 _ _ t131 true _ ?side1 ?side2 ?side3 ?side4 A22.out).mono ?_); (case side1 => repeat (first | exact (Kd.R_reads' HO138.out).2.2 | (with_reducible refine Kd.C_alloc ?_ _) | (with_reducible refine Kd.C_drewN ?_ _) | (with_reducible refine Kd.C_drew ?_))); (case side2 => exact (Kd.R_reads' HO138.out).2.1); (case side3 => repeat (first | exact (Kd.R_reads' HO134.out).2.2 | (with_reducible refine Kd.C_alloc ?_ _) | (with_reducible refine Kd.C_drewN ?_ _) | (with_reducible refine Kd.C_drew ?_))); (case side4 => exact (Kd.R_reads' HO134.out).2.1); rintro e w' ⟨rfl, ⟨nd, rfl⟩⟩))
                  go_meet
                  case rel => exact ⟨_, (true), (by first | rfl | (simp; done) | (simp [*]; done)), H', ⟨by have := HK1.out; first | omega | exact Nat.le_refl _⟩, ⟨by (with_reducible repeat (first | apply XLent.LR_alloc | apply XLent.LR_drewN | apply XLent.LR_drew)); exact XLent.LR_mono HO_7.out (fun _ hk => trivial)⟩, ⟨by repeat (first | (with_reducible first | exact HB.out | apply below_alloc | apply pw_below_drewN | apply below_drew1) | exact HB.out)⟩⟩
              · replace c23 := Bool.eq_false_iff.mpr c23
                subst c23
                have H1 : (colonnadelaw08_PlainInts.j1 k1 a1 a2 x7_1 x8_1 true) = some r := by rw [if_neg (show ¬ (false = true) by decide)] at H; exact H
                clear H
                have H := H1
                clear H1
                have H' := Aside0.mk H
                clear H
                go_wp2_with (first | ((with_reducible refine gate_callee (f := 16) rfl ?_); refine goesL_ (some 53) rfl rfl Try.func16 (by kernel_rfl) rfl #[.int .i64 t136] rfl (by (try simp only [List.map_toArray, List.map_cons, List.map_nil]); first | done | rfl | (simp only [List.length_drop, List.length_take]; rfl)) ?_; (with_reducible refine (colonnadelaw08_num.calls t136 t143 _ A20.out).mono ?_); rintro e w' ⟨rfl, ⟨nd, rfl⟩⟩; refine ⟨_, rfl, ?_⟩; obtain ⟨Ao33, co33, eo33⟩ := Kd.R_slice HO138.out; subst eo33; obtain ⟨Ao34, co34, eo34⟩ := Kd.R_slice HO134.out; subst eo34) | (go_at_call 17; (with_reducible refine (colonnaderef08_SameInts.calls k1 _ _ t135 _ _ t131 false _ ?side1 ?side2 ?side3 ?side4 A22.out).mono ?_); (case side1 => repeat (first | exact (Kd.R_reads' HO138.out).2.2 | (with_reducible refine Kd.C_alloc ?_ _) | (with_reducible refine Kd.C_drewN ?_ _) | (with_reducible refine Kd.C_drew ?_))); (case side2 => exact (Kd.R_reads' HO138.out).2.1); (case side3 => repeat (first | exact (Kd.R_reads' HO134.out).2.2 | (with_reducible refine Kd.C_alloc ?_ _) | (with_reducible refine Kd.C_drewN ?_ _) | (with_reducible refine Kd.C_drew ?_))); (case side4 => exact (Kd.R_reads' HO134.out).2.1); rintro e w' ⟨rfl, ⟨nd, rfl⟩⟩))
                go_meet
                case rel => exact ⟨_, (true), (by first | rfl | (simp; done) | (simp [*]; done)), H', ⟨by have := HK1.out; first | omega | exact Nat.le_refl _⟩, ⟨by (with_reducible repeat (first | apply XLent.LR_alloc | apply XLent.LR_drewN | apply XLent.LR_drew)); exact XLent.LR_mono HO_7.out (fun _ hk => trivial)⟩, ⟨by repeat (first | (with_reducible first | exact HB.out | apply below_alloc | apply pw_below_drewN | apply below_drew1) | exact HB.out)⟩⟩
            · rw [if_neg c21] at H
              have c21b0 : (t143 == t132) = false := beq_eq_false_iff_ne.mpr c21
              have c21b1 : (t143 != t132) = true := bne_iff_ne.mpr c21
              (first | rw [c21b0] | (simp only [i64_w, i32_w]; rw [c21b0]) | skip)
              have H' := Aside0.mk H
              clear H
              go_wp2_with (first | ((with_reducible refine gate_callee (f := 16) rfl ?_); refine goesL_ (some 53) rfl rfl Try.func16 (by kernel_rfl) rfl #[.int .i64 t136] rfl (by (try simp only [List.map_toArray, List.map_cons, List.map_nil]); first | done | rfl | (simp only [List.length_drop, List.length_take]; rfl)) ?_; (with_reducible refine (colonnadelaw08_num.calls t136 t143 _ A20.out).mono ?_); rintro e w' ⟨rfl, ⟨nd, rfl⟩⟩; refine ⟨_, rfl, ?_⟩))
              go_meet
              case rel => exact ⟨_, (true), (by first | rfl | (simp; done) | (simp [*]; done)), H', ⟨by have := HK1.out; first | omega | exact Nat.le_refl _⟩, ⟨by (with_reducible repeat (first | apply XLent.LR_alloc | apply XLent.LR_drewN | apply XLent.LR_drew)); exact XLent.LR_mono HO_7.out (fun _ hk => trivial)⟩, ⟨by repeat (first | (with_reducible first | exact HB.out | apply below_alloc | apply pw_below_drewN | apply below_drew1) | exact HB.out)⟩⟩
          case rest =>
            clear HC12
            try clear c1
            try clear c2
            try clear p2
            try clear c4
            try clear c6
            try clear c6b0
            try clear c7
            try clear c16
            try clear c19
            try clear c20
            try clear c21
            try clear c21b0
            try clear c21b1
            try clear c22
            try clear c23
            try clear c24
            try clear c24b0
            try clear c24b1
            try clear c25
            try clear c25b0
            try clear c25b1
            try clear c25b2
            try clear p2
            obtain ⟨kq, x77_11, rfl, HA, HJ11, HO_7, HB⟩ := hcut
            cases kq with
            | zero => exact absurd HA.out (by simp [colonnadelaw08_PlainInts.j1])
            | succ kj11 =>
              have H := HA.out
              clear HA
              simp only [colonnadelaw08_PlainInts.j1] at H
              by_cases c35 : x77_11 = true
              · subst c35
                have H1 : (some false) = some r := by rw [if_pos rfl] at H; exact H
                clear H
                have H := H1
                clear H1
                obtain rfl := Option.some.inj H
                go_wp2
                go_ret
                exact ⟨by first | rfl | (simp [errW_none, errW_some] <;> rfl) | (simp [*, errW_none, errW_some] <;> rfl), by repeat (first | (with_reducible first | exact HB.out | apply below_alloc | apply pw_below_drewN | apply below_drew1) | exact HB.out)⟩
              · replace c35 := Bool.eq_false_iff.mpr c35
                subst c35
                have H1 : (colonnadelaw08_PlainInts.l1 kj11 a1 a2 x7_1 x8_1 0) = some r := by rw [if_neg (show ¬ (false = true) by decide)] at H; exact H
                clear H
                have H := H1
                clear H1
                have H' := Aside0.mk H
                clear H
                go_wp2
                (try simp only [add_plain])
                go_loopg [18] kj11 (fun kq v18 w' => ∃ (x7_3 : List Int) (x18_3 : Int), v18 = .int .i64 x18_3 ∧ Aside0 (colonnadelaw08_PlainInts.l1 kq a1 a2 x7_3 x8_1 x18_3 = some r) ∧ Aside0 (kq ≤ kj11) ∧ Aside0 (XLent.LR w' w.heap.size (fun _ => True) (.slice Ao16 x7_1.length co16) x7_3) ∧ Aside0 (Below w.heap.size w w'))
                case atStart => exact ⟨(x7_1), (0), (by first | rfl | (simp; done) | (simp [*]; done)), H', ⟨Nat.le_refl _⟩, ⟨by (with_reducible repeat (first | apply XLent.LR_alloc | apply XLent.LR_drewN | apply XLent.LR_drew)); exact HO_7.out⟩, ⟨by repeat (first | (with_reducible first | exact HB.out | apply below_alloc | apply pw_below_drewN | apply below_drew1) | exact HB.out)⟩⟩
                case round =>
                  clear H'
                  try clear c1
                  try clear c2
                  try clear p2
                  try clear c3
                  try clear c4
                  try clear c6
                  try clear c6b0
                  try clear c7
                  try clear c16
                  try clear c19
                  try clear c20
                  try clear c21
                  try clear c21b0
                  try clear c21b1
                  try clear c22
                  try clear c23
                  try clear c24
                  try clear c24b0
                  try clear c24b1
                  try clear c25
                  try clear c25b0
                  try clear c25b1
                  try clear c25b2
                  try clear c35
                  try clear p2
                  obtain ⟨x7_3, x18_3, rfl, HA, HK3, HO_7, HB⟩ := hrel
                  have hl7_3 := (Kd.R_reads' HO_7.out.r).1
                  rw [hl7_3] at HO_7
                  (try simp only [hl7_3])
                  cases gk with
                  | zero => exact absurd HA.out (by simp [colonnadelaw08_PlainInts.l1])
                  | succ k3 =>
                    have H := HA.out
                    clear HA
                    simp only [colonnadelaw08_PlainInts.l1] at H
                    by_cases c36 : x18_3 < (x7_3.length : Int)
                    · rw [if_pos c36] at H
                      have c36b0 : decide (x18_3 < (x7_3.length : Int)) = true := decide_eq_true c36
                      (try (have c36b0z_ := c36b0; simp only [hl7_3] at c36b0z_))
                      clear c36
                      by_cases c37 : 0 ≤ x18_3
                      · rw [if_pos c37] at H
                        have c37b0 : decide (0 ≤ x18_3) = true := decide_eq_true c37
                        clear c37
                        obtain ⟨y147, hy147⟩ : ∃ y_ : List Int, y_ = (x7_3.set (x18_3 : Int).toNat (((rd x7_3 x18_3) + 3) % 256)) := ⟨_, rfl⟩
                        replace H : (colonnadelaw08_PlainInts.l1 k3 a1 a2 y147 x8_1 (wrap64 (x18_3 + 1))) = some r := by first | (rw [hy147]; with_reducible exact H) | (have H2_ := (Option.bind_some _ _).symm.trans H; rw [hy147]; with_reducible exact H2_) | (have H2_ := (Option.bind_some _ _).symm.trans H; with_reducible exact H2_) | with_reducible exact H | (rw [hy147]; exact H) | exact H
                        have Ny147 := Aside0.mk hy147
                        clear hy147
                        have H' := Aside0.mk H
                        clear H
                        have p146 : 0 ≤ (x18_3 : Int) := of_decide_eq_true (by first | (with_reducible assumption) | assumption)
                        have q146 : x18_3 < (x7_3.length : Int) := of_decide_eq_true (by first | (with_reducible assumption) | assumption)
                        obtain ⟨ad146, e146, hx146_0⟩ := Kd.at_int (Kd.R_reads' HO_7.out.r).2.2 x18_3 p146 q146
                        cases e146
                        replace p146 := eq_true p146
                        replace q146 := eq_true q146
                        have p38 : 0 ≤ (x18_3 : Int) := of_decide_eq_true (by first | (with_reducible assumption) | assumption)
                        have q38 : (x18_3 : Int) < ((x7_3.length : Int) : Int) := of_decide_eq_true (by first | (with_reducible assumption) | assumption)
                        obtain ⟨go38, co38, eo38, gb38, gl38, cl38, HG38⟩ := Kd.R_form HO_7.out.r (by omega)
                        (first | cases eo38 | (injection eo38 with ea_ en_ ec_; (first | subst ea_ | (injection ea_ with ea_; subst ea_)); subst ec_; clear en_))
                        have GB38 := Aside0.mk gb38
                        have GG38 := Aside0.mk HG38
                        clear gb38 gl38 HG38
                        (first | simp only [add_plain] at hx146_0 | skip)
                        obtain ⟨hx38_0, hf38_0⟩ := Kd.R_celln 0 HO_7.out.r (x18_3 : Int) p38 q38
                        replace p38 := eq_true p38
                        replace q38 := eq_true q38
                        have HP39 := XLent.LR_putg HO_7.out (x18_3 : Int) (((rd x7_3 x18_3) + 3) % 256) (by first | (have h1_ := of_eq_true p38; have h2_ := of_eq_true q38; omega) | (have h1_ := p38; have h2_ := q38; omega))
                        go_wp2_with (first | ((with_reducible refine gate_store (t := 5) (p := 91) rfl ?_); refine store_event (t := 5) (p := 91) (v := ?vo_w40) (w1 := (wr.setCell ⟨go38, (x18_3 : Int).toNat, none⟩ (.int .u8 (((rd x7_3 x18_3) + 3) % 256)))) ?hg ?ho ?hn ?hr ?_; (case ho => rfl); (case hg => rfl); (case hn => rfl); (case hr => first | (go_simp; done) | (go_simp; rfl)); intro w40 hw; have hg : wr.grownBy w40 (some go38) := (by rw [hw]; exact HP39.2); have hp_ : XLent.LR w40 w.heap.size (fun _ => True) (.slice (some ⟨go38, 0, none⟩) x7_3.length co16) y147 := (by rw [hw, Ny147.out]; exact HP39.1); clear HP39; have n0_ := Aside0.mk (hp_); have n1_ := Aside0.mk ((by rw [hw]; exact below_set (HB.out) GB38.out : Below w.heap.size w w40)); clear HO_7; clear HB; have HO_7 := n0_; have HB := n1_; clear n0_ n1_; clear hg hw hp_))
                        (try simp only [← hl7_3])
                        go_roundg k3
                        case measure => have := HK1.out; have := HJ11.out; have := HK3.out; omega
                        case rel => exact ⟨(y147), (wrap64 (x18_3 + 1)), (by first | rfl | (simp; done) | (simp [*]; done)), H', ⟨by have := HK1.out; have := HJ11.out; have := HK3.out; omega⟩, ⟨by (try simp only [hl7_3]); (with_reducible repeat (first | apply XLent.LR_alloc | apply XLent.LR_drewN | apply XLent.LR_drew)); exact HO_7.out⟩, ⟨by repeat (first | (with_reducible first | exact HB.out | apply below_alloc | apply pw_below_drewN | apply below_drew1) | exact HB.out)⟩⟩
                      · rw [if_neg c37] at H
                        exact absurd H (by simp)
                    · rw [if_neg c36] at H
                      have c36b0 : decide (x18_3 < (x7_3.length : Int)) = false := decide_eq_false c36
                      (try (have c36b0z_ := c36b0; simp only [hl7_3] at c36b0z_))
                      clear c36
                      have H' := Aside0.mk H
                      clear H
                      go_wp2
                      (try simp only [← hl7_3])
                      go_roundg k3
                      case measure => have := HK1.out; have := HJ11.out; have := HK3.out; omega
                      case rel => exact ⟨(x7_3), (wrap64 (x8_1 + 1)), (by first | rfl | (simp; done) | (simp [*]; done)), H', ⟨by have := HK1.out; have := HJ11.out; have := HK3.out; omega⟩, ⟨by (try simp only [hl7_3]); (with_reducible repeat (first | apply XLent.LR_alloc | apply XLent.LR_drewN | apply XLent.LR_drew)); exact HO_7.out⟩, ⟨by repeat (first | (with_reducible first | exact HB.out | apply below_alloc | apply pw_below_drewN | apply below_drew1) | exact HB.out)⟩⟩
        · rw [if_neg c7] at H
          exact absurd H (by simp)
      · rw [if_neg c6] at H
        have c6b0 : decide (x8_1 < 2) = false := decide_eq_false c6
        clear c6
        obtain rfl := Option.some.inj H
        go_wp2
        go_ret
        exact ⟨by first | rfl | (simp [errW_none, errW_some] <;> rfl) | (simp [*, errW_none, errW_some] <;> rfl), by repeat (first | (with_reducible first | exact HB.out | apply below_alloc | apply pw_below_drewN | apply below_drew1) | exact HB.out)⟩

/-- THE ONE PURE STATEMENT of colonnadelaw08_PlainInts: yours. -/
def colonnadelaw08_PlainInts.Pure : Prop := ∀ (l0 : List Int) (a1 : Int) (a2 : Int), l0.length ≤ maxLen → l0.length * 1 ≤ 140737488351232 → (∀ x ∈ l0, (Lit.int .u8 x).wf = true) → (Lit.int .i64 a1).wf = true → (Lit.int .i64 a2).wf = true → ∃ k, colonnadelaw08_PlainInts.f k l0 a1 a2 = some true
theorem colonnadelaw08_PlainInts.walk (P : colonnadelaw08_PlainInts.Pure) (a0 : Option Addr) (len0 cap0 : Nat) (z0 : List Int) (a1 : Int) (a2 : Int) (w : World) (w0 : (a0 = none ∧ len0 = 0 ∧ cap0 = 0 ∧ z0 = []) ∨ ∃ x, a0 = some x ∧ len0 ≤ cap0 ∧ cap0 ≤ maxLen ∧ z0.length = cap0 ∧ (∀ i, i < z0.length → w.cell? (x.add i) = some (.int .u8 (z0.getD i 0))) ∧ ∀ n ∈ z0, (Lit.int .u8 n).wf = true) (y0 : len0 * 1 ≤ 140737488351232) (w1 : (Lit.int .i64 a1).wf = true) (w2 : (Lit.int .i64 a2).wf = true) :
    Calls Try.prog 4 #[.slice a0 len0 cap0, .int .i64 a1, .int .i64 a2] w fun e w' => e = .returned (.bool true) ∧ Below w.heap.size w w' := by
  obtain ⟨l0, rfl, hr0, hm0, hw0, hc0⟩ := ReadsInt.ofRowC w0
  obtain ⟨k, h⟩ := P l0 a1 a2 hm0 y0 hw0 w1 w2
  refine (colonnadelaw08_PlainInts.calls k _ _ l0 a1 a2 true w (Kd.C_of_reads (d := (0 : Int)) (h1 := fun _ => rfl) hr0) hc0 h).mono ?_
  rintro e w' ⟨rfl, hd⟩
  exact ⟨rfl, hd⟩

end Go.Proofs.Ytkepimkabfoapab.PPlainInts
-- LENT DONE
