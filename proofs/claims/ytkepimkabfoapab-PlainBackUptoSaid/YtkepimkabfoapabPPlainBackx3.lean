-- Written by xprint.py, this session's own program over the kit's print; Lean checks it.
import Derived.Test.YtkepimkabfoapabPPlainBackx0
import Derived.Test.YtkepimkabfoapabPPlainBackx1
import Derived.Test.YtkepimkabfoapabPPlainBackx2
namespace Go.Proofs.Ytkepimkabfoapab.PPlainBack
open Go.RowKit Go.Proofs.YtkepimkabfoapabW.PrintWords Go.Proofs.YtkepimkabfoapabW.PrintLast Go.Proofs.YtkepimkabfoapabW.PrintMore
attribute [local go_sem] max2_int min2_int max_two min_two max_three min_three max_four min_four   -- for this text's walks alone
set_option linter.unusedVariables false
set_option linter.unusedSimpArgs false

/-! ### colonnadelaw08_short: function 30 -/
def colonnadelaw08_short.l0 : Nat → List ByteArray → List ByteArray → Int → Int → Option (List ByteArray)
  | 0, _, _, _, _ => none
  | k + 1, x0, x3, x4, x5 => if x5 < (x0.length : Int) then (if 0 ≤ x5 then (if ((rdOf ByteArray.empty x0 x5).size : Int) ≤ 65535 then (if (wrap64 (x4 + ((rdOf ByteArray.empty x0 x5).size : Int))) ≤ 1073741824 then (if (x3.length : Int) < 1048576 then (if x3.length < 8796093022208 then (colonnadelaw08_short.l0 k x0 (x3 ++ [rdOf ByteArray.empty x0 x5]) (wrap64 (x4 + ((rdOf ByteArray.empty x0 x5).size : Int))) (wrap64 (x5 + 1))) else (none)) else (colonnadelaw08_short.l0 k x0 x3 (wrap64 (x4 + ((rdOf ByteArray.empty x0 x5).size : Int))) (wrap64 (x5 + 1)))) else (colonnadelaw08_short.l0 k x0 x3 (wrap64 (x4 + ((rdOf ByteArray.empty x0 x5).size : Int))) (wrap64 (x5 + 1)))) else (colonnadelaw08_short.l0 k x0 x3 (wrap64 (x4 + ((rdOf ByteArray.empty x0 x5).size : Int))) (wrap64 (x5 + 1)))) else (none)) else (some x3)
def colonnadelaw08_short.f (k : Nat) (l0 : List ByteArray) : Option (List ByteArray) := colonnadelaw08_short.l0 k l0 ([] : List ByteArray) 0 0
theorem colonnadelaw08_short.mono_l : ∀ k, (∀ y0 y1 y2 y3, LeO (colonnadelaw08_short.l0 k y0 y1 y2 y3) (colonnadelaw08_short.l0 (k + 1) y0 y1 y2 y3))
  | 0 => fun _ _ _ _ r h => by simp [colonnadelaw08_short.l0] at h
  | k + 1 => by
    have ih0 := colonnadelaw08_short.mono_l k
    · intro y0 y1 y2 y3
      unfold colonnadelaw08_short.l0
      repeat' first
      | (with_reducible exact ih0 _ _ _ _)
      | (with_reducible exact LeO.refl _)
      | (with_reducible exact LeO.none _)
      | (with_reducible refine LeO.ite ?_ ?_)
      | (with_reducible refine LeO.bind ?_ (fun _ => ?_))
      | exact ih0 _ _ _ _
      | exact LeO.none _
      | refine LeO.ite ?_ ?_
      | refine LeO.bind ?_ (fun _ => ?_)
theorem colonnadelaw08_short.mono : ∀ a0 k, LeO (colonnadelaw08_short.f k a0) (colonnadelaw08_short.f (k + 1) a0) := by
  intro a0 k
  have ih0 := colonnadelaw08_short.mono_l k
  unfold colonnadelaw08_short.f
  repeat' first
      | (with_reducible exact ih0 _ _ _ _)
      | (with_reducible exact LeO.refl _)
      | (with_reducible exact LeO.none _)
      | (with_reducible refine LeO.ite ?_ ?_)
      | (with_reducible refine LeO.bind ?_ (fun _ => ?_))
      | exact ih0 _ _ _ _
      | exact LeO.none _
      | refine LeO.ite ?_ ?_
      | refine LeO.bind ?_ (fun _ => ?_)
set_option maxHeartbeats 8000000 in
set_option maxRecDepth 100000 in
theorem colonnadelaw08_short.calls (k : Nat) (A0 : Option Addr) (c0 : Nat) (l0 : List ByteArray) (r : List ByteArray) (w : World) (hr0 : Kd.C Kd.string w A0 l0.length l0) (hc0 : l0.length ≤ c0) (h : colonnadelaw08_short.f k l0 = some r) :
    Calls Try.prog 30 #[.slice A0 l0.length c0] w fun e w' => ∃ v0_ : Value, e = .returned (v0_) ∧ Kd.R Kd.string 9 w' w.heap.size (fun _ => True) v0_ r ∧ Below w.heap.size w w' := by
  have HR0 := Aside0.mk hr0
  have HC0 := Aside0.mk hc0
  clear hr0 hc0
  have HB := Aside0.mk (Below.refl w.heap.size w)
  have H : (colonnadelaw08_short.l0 k l0 ([] : List ByteArray) 0 0) = some r := h
  clear h
  have H' := Aside0.mk H
  clear H
  go_enter Try.func30, Try.ntmps30
  go_wp2
  (try simp only [add_plain])
  go_loopg [3, 4, 5] k (fun kq v3 v4 v5 w' => ∃ (x3_1 : List ByteArray) (x4_1 : Int) (x5_1 : Int), v4 = .int .i64 x4_1 ∧ v5 = .int .i64 x5_1 ∧ Aside0 (colonnadelaw08_short.l0 kq l0 x3_1 x4_1 x5_1 = some r) ∧ Aside0 (kq ≤ k) ∧ Aside0 (Kd.R Kd.string 9 w' w.heap.size (fun _ => True) v3 x3_1) ∧ Aside0 (Below w.heap.size w w'))
  case atStart => exact ⟨(([] : List ByteArray)), (0), (0), (by first | rfl | (simp; done) | (simp [*]; done)), (by first | rfl | (simp; done) | (simp [*]; done)), H', ⟨Nat.le_refl _⟩, ⟨by first | exact Kd.R_nil _ _ _ _ _ | exact Kd.N_nil _ _ _ _ _ | exact Kd.V_nil _ _ _ _ _ | exact Kd.Q_nil _ _ _ _ _ | exact Kd.S_nil _ _ _ _ _⟩, ⟨by repeat (first | (with_reducible first | exact HB.out | apply below_alloc | apply pw_below_drewN | apply below_drew1) | exact HB.out)⟩⟩
  case round =>
    clear H'
    obtain ⟨x3_1, x4_1, x5_1, rfl, rfl, HA, HK1, HO_3, HB⟩ := hrel
    cases gk with
    | zero => exact absurd HA.out (by simp [colonnadelaw08_short.l0])
    | succ k1 =>
      have H := HA.out
      clear HA
      simp only [colonnadelaw08_short.l0] at H
      by_cases c2 : x5_1 < (l0.length : Int)
      · rw [if_pos c2] at H
        have c2b0 : decide (x5_1 < (l0.length : Int)) = true := decide_eq_true c2
        clear c2
        by_cases c3 : 0 ≤ x5_1
        · rw [if_pos c3] at H
          have c3b0 : decide (0 ≤ x5_1) = true := decide_eq_true c3
          clear c3
          by_cases c4 : ((rdOf ByteArray.empty l0 x5_1).size : Int) ≤ 65535
          · rw [if_pos c4] at H
            have c4b0 : decide (((rdOf ByteArray.empty l0 x5_1).size : Int) ≤ 65535) = true := decide_eq_true c4
            have c4b1 : decide ((rdOf ByteArray.empty l0 x5_1).size ≤ 65535) = true := decide_eq_true (by omega)
            clear c4
            by_cases c5 : (wrap64 (x4_1 + ((rdOf ByteArray.empty l0 x5_1).size : Int))) ≤ 1073741824
            · rw [if_pos c5] at H
              have c5b0 : decide ((wrap64 (x4_1 + ((rdOf ByteArray.empty l0 x5_1).size : Int))) ≤ 1073741824) = true := decide_eq_true c5
              clear c5
              by_cases c6 : (x3_1.length : Int) < 1048576
              · rw [if_pos c6] at H
                have c6b0 : decide ((x3_1.length : Int) < 1048576) = true := decide_eq_true c6
                have c6b1 : decide (x3_1.length < 1048576) = true := decide_eq_true (by omega)
                clear c6
                by_cases c7 : x3_1.length < 8796093022208
                · rw [if_pos c7] at H
                  have LMc7 := Aside0.mk c7
                  clear c7
                  obtain ⟨y169, hy169⟩ : ∃ y_ : List ByteArray, y_ = (x3_1 ++ [rdOf ByteArray.empty l0 x5_1]) := ⟨_, rfl⟩
                  replace H : (colonnadelaw08_short.l0 k1 l0 y169 (wrap64 (x4_1 + ((rdOf ByteArray.empty l0 x5_1).size : Int))) (wrap64 (x5_1 + 1))) = some r := by first | (rw [hy169]; with_reducible exact H) | (have H2_ := (Option.bind_some _ _).symm.trans H; rw [hy169]; with_reducible exact H2_) | (have H2_ := (Option.bind_some _ _).symm.trans H; with_reducible exact H2_) | with_reducible exact H | (rw [hy169]; exact H) | exact H
                  have Ny169 := Aside0.mk hy169
                  clear hy169
                  have H' := Aside0.mk H
                  clear H
                  have p166 : 0 ≤ (x5_1 : Int) := of_decide_eq_true (by first | (with_reducible assumption) | assumption)
                  have q166 : x5_1 < (l0.length : Int) := of_decide_eq_true (by first | (with_reducible assumption) | assumption)
                  obtain ⟨ad166, e166, hx166_0⟩ := Kd.at_string HR0.out x5_1 p166 q166
                  cases e166
                  replace hx166_0 := (HB.out.cell (World.block_lt_of_cell? w _ hx166_0)).trans hx166_0
                  replace p166 := eq_true p166
                  replace q166 := eq_true q166
                  have p167 : 0 ≤ (x5_1 : Int) := of_decide_eq_true (by first | (with_reducible assumption) | assumption)
                  have q167 : x5_1 < (l0.length : Int) := of_decide_eq_true (by first | (with_reducible assumption) | assumption)
                  obtain ⟨ad167, e167, hx167_0⟩ := Kd.at_string HR0.out x5_1 p167 q167
                  obtain rfl : ad166 = ad167 := (by injection e167)
                  replace hx167_0 := (HB.out.cell (World.block_lt_of_cell? w _ hx167_0)).trans hx167_0
                  replace p167 := eq_true p167
                  replace q167 := eq_true q167
                  obtain ⟨Ao8, co8, eo8⟩ := Kd.R_slice HO_3.out
                  subst eo8
                  have p168 : 0 ≤ (x5_1 : Int) := of_decide_eq_true (by first | (with_reducible assumption) | assumption)
                  have q168 : x5_1 < (l0.length : Int) := of_decide_eq_true (by first | (with_reducible assumption) | assumption)
                  obtain ⟨ad168, e168, hx168_0⟩ := Kd.at_string HR0.out x5_1 p168 q168
                  obtain rfl : ad166 = ad168 := (by injection e168)
                  replace hx168_0 := (HB.out.cell (World.block_lt_of_cell? w _ hx168_0)).trans hx168_0
                  replace p168 := eq_true p168
                  replace q168 := eq_true q168
                  go_wp2_with (first | ((with_reducible refine gate_builtin (b := .append) (xs := #[.tmp 34, .tmp 39]) rfl ?_); (try (refine gate_guard (by rfl) ?_; dsimp only)); at_builtin; refine Kd.R_append Kd.string (w0 := w) w.heap.size rfl (.tmp 34) (.tmp 39) 23 9 (.string ⟨#[]⟩) 16 rfl Try.underlying23 info9 rfl (by decide) (by omega) (.slice Ao8 x3_1.length co8) x3_1 (rdOf ByteArray.empty l0 x5_1) [.string (rdOf ByteArray.empty l0 x5_1)] (fun _ => True) (fun _ => False) rfl rfl ?aP (fun _ hk => hk.elim) ?aF ?aO ?aB ?aS ?aL ?_; (case aP => exact rfl); (case aB => exact (by repeat (first | (with_reducible first | exact HB.out | apply below_alloc | apply pw_below_drewN | apply below_drew1) | exact HB.out))); (case aF => exact (fun _ _ => trivial)); (case aO => exact (by (with_reducible repeat (first | apply Kd.R_alloc | apply Kd.R_drewN | apply Kd.R_drew)); exact HO_3.out)); (case aS => exact (below_size (by repeat (first | (with_reducible first | exact HB.out | apply below_alloc | apply pw_below_drewN | apply below_drew1) | exact HB.out)))); (case aL => have := LMc7.out; omega); intro v170 w9 ho hb hg hat; rw [← Ny169.out] at ho; have n0_ := Aside0.mk (hb); have n1_ := Aside0.mk (ho); clear HB; clear HO_3; have HB := n0_; have HO171 := n1_; clear n0_ n1_; clear ho hb hg hat))
                  go_roundg k1
                  case measure => have := HK1.out; omega
                  case rel => exact ⟨(y169), (wrap64 (x4_1 + ((rdOf ByteArray.empty l0 x5_1).size : Int))), (wrap64 (x5_1 + 1)), (by first | rfl | (simp; done) | (simp [*]; done)), (by first | rfl | (simp; done) | (simp [*]; done)), H', ⟨by have := HK1.out; omega⟩, ⟨by (with_reducible repeat (first | apply Kd.R_alloc | apply Kd.R_drewN | apply Kd.R_drew)); exact HO171.out⟩, ⟨by repeat (first | (with_reducible first | exact HB.out | apply below_alloc | apply pw_below_drewN | apply below_drew1) | exact HB.out)⟩⟩
                · rw [if_neg c7] at H
                  exact absurd H (by simp)
              · rw [if_neg c6] at H
                have c6b0 : decide ((x3_1.length : Int) < 1048576) = false := decide_eq_false c6
                have c6b1 : decide (x3_1.length < 1048576) = false := decide_eq_false (by omega)
                clear c6
                have H' := Aside0.mk H
                clear H
                have p166 : 0 ≤ (x5_1 : Int) := of_decide_eq_true (by first | (with_reducible assumption) | assumption)
                have q166 : x5_1 < (l0.length : Int) := of_decide_eq_true (by first | (with_reducible assumption) | assumption)
                obtain ⟨ad166, e166, hx166_0⟩ := Kd.at_string HR0.out x5_1 p166 q166
                cases e166
                replace hx166_0 := (HB.out.cell (World.block_lt_of_cell? w _ hx166_0)).trans hx166_0
                replace p166 := eq_true p166
                replace q166 := eq_true q166
                have p167 : 0 ≤ (x5_1 : Int) := of_decide_eq_true (by first | (with_reducible assumption) | assumption)
                have q167 : x5_1 < (l0.length : Int) := of_decide_eq_true (by first | (with_reducible assumption) | assumption)
                obtain ⟨ad167, e167, hx167_0⟩ := Kd.at_string HR0.out x5_1 p167 q167
                obtain rfl : ad166 = ad167 := (by injection e167)
                replace hx167_0 := (HB.out.cell (World.block_lt_of_cell? w _ hx167_0)).trans hx167_0
                replace p167 := eq_true p167
                replace q167 := eq_true q167
                obtain ⟨Ao10, co10, eo10⟩ := Kd.R_slice HO_3.out
                subst eo10
                go_wp2
                go_roundg k1
                case measure => have := HK1.out; omega
                case rel => exact ⟨(x3_1), (wrap64 (x4_1 + ((rdOf ByteArray.empty l0 x5_1).size : Int))), (wrap64 (x5_1 + 1)), (by first | rfl | (simp; done) | (simp [*]; done)), (by first | rfl | (simp; done) | (simp [*]; done)), H', ⟨by have := HK1.out; omega⟩, ⟨by (with_reducible repeat (first | apply Kd.R_alloc | apply Kd.R_drewN | apply Kd.R_drew)); exact HO_3.out⟩, ⟨by repeat (first | (with_reducible first | exact HB.out | apply below_alloc | apply pw_below_drewN | apply below_drew1) | exact HB.out)⟩⟩
            · rw [if_neg c5] at H
              have c5b0 : decide ((wrap64 (x4_1 + ((rdOf ByteArray.empty l0 x5_1).size : Int))) ≤ 1073741824) = false := decide_eq_false c5
              clear c5
              have H' := Aside0.mk H
              clear H
              have p166 : 0 ≤ (x5_1 : Int) := of_decide_eq_true (by first | (with_reducible assumption) | assumption)
              have q166 : x5_1 < (l0.length : Int) := of_decide_eq_true (by first | (with_reducible assumption) | assumption)
              obtain ⟨ad166, e166, hx166_0⟩ := Kd.at_string HR0.out x5_1 p166 q166
              cases e166
              replace hx166_0 := (HB.out.cell (World.block_lt_of_cell? w _ hx166_0)).trans hx166_0
              replace p166 := eq_true p166
              replace q166 := eq_true q166
              have p167 : 0 ≤ (x5_1 : Int) := of_decide_eq_true (by first | (with_reducible assumption) | assumption)
              have q167 : x5_1 < (l0.length : Int) := of_decide_eq_true (by first | (with_reducible assumption) | assumption)
              obtain ⟨ad167, e167, hx167_0⟩ := Kd.at_string HR0.out x5_1 p167 q167
              obtain rfl : ad166 = ad167 := (by injection e167)
              replace hx167_0 := (HB.out.cell (World.block_lt_of_cell? w _ hx167_0)).trans hx167_0
              replace p167 := eq_true p167
              replace q167 := eq_true q167
              go_wp2
              go_roundg k1
              case measure => have := HK1.out; omega
              case rel => exact ⟨(x3_1), (wrap64 (x4_1 + ((rdOf ByteArray.empty l0 x5_1).size : Int))), (wrap64 (x5_1 + 1)), (by first | rfl | (simp; done) | (simp [*]; done)), (by first | rfl | (simp; done) | (simp [*]; done)), H', ⟨by have := HK1.out; omega⟩, ⟨by (with_reducible repeat (first | apply Kd.R_alloc | apply Kd.R_drewN | apply Kd.R_drew)); exact HO_3.out⟩, ⟨by repeat (first | (with_reducible first | exact HB.out | apply below_alloc | apply pw_below_drewN | apply below_drew1) | exact HB.out)⟩⟩
          · rw [if_neg c4] at H
            have c4b0 : decide (((rdOf ByteArray.empty l0 x5_1).size : Int) ≤ 65535) = false := decide_eq_false c4
            have c4b1 : decide ((rdOf ByteArray.empty l0 x5_1).size ≤ 65535) = false := decide_eq_false (by omega)
            clear c4
            have H' := Aside0.mk H
            clear H
            have p166 : 0 ≤ (x5_1 : Int) := of_decide_eq_true (by first | (with_reducible assumption) | assumption)
            have q166 : x5_1 < (l0.length : Int) := of_decide_eq_true (by first | (with_reducible assumption) | assumption)
            obtain ⟨ad166, e166, hx166_0⟩ := Kd.at_string HR0.out x5_1 p166 q166
            cases e166
            replace hx166_0 := (HB.out.cell (World.block_lt_of_cell? w _ hx166_0)).trans hx166_0
            replace p166 := eq_true p166
            replace q166 := eq_true q166
            have p167 : 0 ≤ (x5_1 : Int) := of_decide_eq_true (by first | (with_reducible assumption) | assumption)
            have q167 : x5_1 < (l0.length : Int) := of_decide_eq_true (by first | (with_reducible assumption) | assumption)
            obtain ⟨ad167, e167, hx167_0⟩ := Kd.at_string HR0.out x5_1 p167 q167
            obtain rfl : ad166 = ad167 := (by injection e167)
            replace hx167_0 := (HB.out.cell (World.block_lt_of_cell? w _ hx167_0)).trans hx167_0
            replace p167 := eq_true p167
            replace q167 := eq_true q167
            go_wp2
            go_roundg k1
            case measure => have := HK1.out; omega
            case rel => exact ⟨(x3_1), (wrap64 (x4_1 + ((rdOf ByteArray.empty l0 x5_1).size : Int))), (wrap64 (x5_1 + 1)), (by first | rfl | (simp; done) | (simp [*]; done)), (by first | rfl | (simp; done) | (simp [*]; done)), H', ⟨by have := HK1.out; omega⟩, ⟨by (with_reducible repeat (first | apply Kd.R_alloc | apply Kd.R_drewN | apply Kd.R_drew)); exact HO_3.out⟩, ⟨by repeat (first | (with_reducible first | exact HB.out | apply below_alloc | apply pw_below_drewN | apply below_drew1) | exact HB.out)⟩⟩
        · rw [if_neg c3] at H
          exact absurd H (by simp)
      · rw [if_neg c2] at H
        have c2b0 : decide (x5_1 < (l0.length : Int)) = false := decide_eq_false c2
        clear c2
        obtain rfl := Option.some.inj H
        go_wp2
        go_ret
        exact ⟨_, by first | rfl | (simp [errW_none, errW_some] <;> rfl) | (simp [*, errW_none, errW_some] <;> rfl), by (with_reducible repeat (first | apply Kd.R_alloc | apply Kd.R_drewN | apply Kd.R_drew)); exact HO_3.out, by repeat (first | (with_reducible first | exact HB.out | apply below_alloc | apply pw_below_drewN | apply below_drew1) | exact HB.out)⟩

/-! ### colonnadelaw08_PlainBack: function 6 -/
mutual
def colonnadelaw08_PlainBack.j0 : Nat → List Int → List ByteArray → List Int → List Int → Bool → Option (Bool)
  | 0, _, _, _, _, _ => none
  | k + 1, x0, x6, x7, x8, x79 => if x79 = true then (some false) else (colonnadelaw08_PlainBack.l0 k x0 x6 x7 x8 0)
def colonnadelaw08_PlainBack.l0 : Nat → List Int → List ByteArray → List Int → List Int → Int → Option (Bool)
  | 0, _, _, _, _, _ => none
  | k + 1, x0, x6, x7, x8, x14 => if x14 < (x0.length : Int) then ((plain_IntAt.f k x7 x14).bind fun bt197 => (if bt197.2 = true then (if 0 ≤ x14 then (if bt197.1 = (rd x0 x14) then (colonnadelaw08_PlainBack.l0 k x0 x6 x7 x8 (wrap64 (x14 + 1))) else (some false)) else (none)) else (some false))) else (colonnadelaw08_PlainBack.l1 k x0 x6 x7 x8 0)
def colonnadelaw08_PlainBack.l1 : Nat → List Int → List ByteArray → List Int → List Int → Int → Option (Bool)
  | 0, _, _, _, _, _ => none
  | k + 1, x0, x6, x7, x8, x17 => if x17 < (x6.length : Int) then ((plain_TextAt.f k x8 (x6.length : Int) x17).bind fun bt200 => (if bt200.2 = true then (if 0 ≤ x17 then (if bt200.1.toList = (rdOf ByteArray.empty x6 x17).toList then (colonnadelaw08_PlainBack.l1 k x0 x6 x7 x8 (wrap64 (x17 + 1))) else (some false)) else (none)) else (some false))) else ((plain_IntAt.f k x7 (x0.length : Int)).bind fun bt203 => ((plain_TextAt.f k x8 (x6.length : Int) (x6.length : Int)).bind fun bt205 => (if bt203.2 = true then (some false) else (some (!bt205.2)))))
end
def colonnadelaw08_PlainBack.f (k : Nat) (l0 : List Int) (l1 : List ByteArray) : Option (Bool) := (colonnadelaw08_awake.f k).bind fun t172 => (if t172 = true then (if 0 ≤ (mn (l0.length : Int) 1048576) then (if (mn (l0.length : Int) 1048576) ≤ (l0.length : Int) then ((colonnadelaw08_short.f k l1).bind fun t174 => ((plain_PutInts.f (l0.take ((mn (l0.length : Int) 1048576) : Int).toNat)).bind fun t177 => ((plain_PutTexts.f t174).bind fun bt180 => ((plain_Ints.f k t177 ((l0.take ((mn (l0.length : Int) 1048576) : Int).toNat).length : Int)).bind fun bt184 => ((plain_Texts.f k bt180.1 (t174.length : Int)).bind fun bt188 => ((colonnadelaw08_num.f bt180.2).bind fun t192 => (if t192 = 0 then ((colonnadelaw08_num.f bt184.2).bind fun t193 => (if t193 = 0 then ((colonnadelaw08_num.f bt188.2).bind fun t194 => (if t194 = 0 then ((colonnaderef08_SameInts.f k bt184.1 (l0.take ((mn (l0.length : Int) 1048576) : Int).toNat)).bind fun t195 => (if t195 = true then ((colonnaderef08_SameTexts.f k bt188.1 t174).bind fun t196 => (colonnadelaw08_PlainBack.j0 k (l0.take ((mn (l0.length : Int) 1048576) : Int).toNat) t174 t177 bt180.1 (!t196))) else (colonnadelaw08_PlainBack.j0 k (l0.take ((mn (l0.length : Int) 1048576) : Int).toNat) t174 t177 bt180.1 true))) else (colonnadelaw08_PlainBack.j0 k (l0.take ((mn (l0.length : Int) 1048576) : Int).toNat) t174 t177 bt180.1 true))) else (colonnadelaw08_PlainBack.j0 k (l0.take ((mn (l0.length : Int) 1048576) : Int).toNat) t174 t177 bt180.1 true))) else (colonnadelaw08_PlainBack.j0 k (l0.take ((mn (l0.length : Int) 1048576) : Int).toNat) t174 t177 bt180.1 true)))))))) else (none)) else (none)) else (some false))
theorem colonnadelaw08_PlainBack.mono_l : ∀ k, (∀ y0 y1 y2 y3 y4, LeO (colonnadelaw08_PlainBack.j0 k y0 y1 y2 y3 y4) (colonnadelaw08_PlainBack.j0 (k + 1) y0 y1 y2 y3 y4)) ∧ (∀ y0 y1 y2 y3 y4, LeO (colonnadelaw08_PlainBack.l0 k y0 y1 y2 y3 y4) (colonnadelaw08_PlainBack.l0 (k + 1) y0 y1 y2 y3 y4)) ∧ (∀ y0 y1 y2 y3 y4, LeO (colonnadelaw08_PlainBack.l1 k y0 y1 y2 y3 y4) (colonnadelaw08_PlainBack.l1 (k + 1) y0 y1 y2 y3 y4))
  | 0 => ⟨fun _ _ _ _ _ r h => by simp [colonnadelaw08_PlainBack.j0] at h, fun _ _ _ _ _ r h => by simp [colonnadelaw08_PlainBack.l0] at h, fun _ _ _ _ _ r h => by simp [colonnadelaw08_PlainBack.l1] at h⟩
  | k + 1 => by
    obtain ⟨ih0, ih1, ih2⟩ := colonnadelaw08_PlainBack.mono_l k
    refine ⟨?_, ?_, ?_⟩
    · intro y0 y1 y2 y3 y4
      unfold colonnadelaw08_PlainBack.j0
      repeat' first
      | (with_reducible exact ih0 _ _ _ _ _)
      | (with_reducible exact ih1 _ _ _ _ _)
      | (with_reducible exact ih2 _ _ _ _ _)
      | (with_reducible exact colonnadelaw08_awake.mono _)
      | (with_reducible exact colonnadelaw08_short.mono _ _)
      | (with_reducible exact colonnaderef08_SameInts.mono _ _ _)
      | (with_reducible exact colonnaderef08_SameTexts.mono _ _ _)
      | (with_reducible exact plain_IntAt.mono _ _ _)
      | (with_reducible exact plain_Ints.mono _ _ _)
      | (with_reducible exact plain_TextAt.mono _ _ _ _)
      | (with_reducible exact plain_Texts.mono _ _ _)
      | (with_reducible exact LeO.refl _)
      | (with_reducible exact LeO.none _)
      | (with_reducible refine LeO.ite ?_ ?_)
      | (with_reducible refine LeO.bind ?_ (fun _ => ?_))
      | exact ih0 _ _ _ _ _
      | exact ih1 _ _ _ _ _
      | exact ih2 _ _ _ _ _
      | exact colonnadelaw08_awake.mono _
      | exact colonnadelaw08_short.mono _ _
      | exact colonnaderef08_SameInts.mono _ _ _
      | exact colonnaderef08_SameTexts.mono _ _ _
      | exact plain_IntAt.mono _ _ _
      | exact plain_Ints.mono _ _ _
      | exact plain_TextAt.mono _ _ _ _
      | exact plain_Texts.mono _ _ _
      | exact LeO.none _
      | refine LeO.ite ?_ ?_
      | refine LeO.bind ?_ (fun _ => ?_)
    · intro y0 y1 y2 y3 y4
      unfold colonnadelaw08_PlainBack.l0
      repeat' first
      | (with_reducible exact ih0 _ _ _ _ _)
      | (with_reducible exact ih1 _ _ _ _ _)
      | (with_reducible exact ih2 _ _ _ _ _)
      | (with_reducible exact colonnadelaw08_awake.mono _)
      | (with_reducible exact colonnadelaw08_short.mono _ _)
      | (with_reducible exact colonnaderef08_SameInts.mono _ _ _)
      | (with_reducible exact colonnaderef08_SameTexts.mono _ _ _)
      | (with_reducible exact plain_IntAt.mono _ _ _)
      | (with_reducible exact plain_Ints.mono _ _ _)
      | (with_reducible exact plain_TextAt.mono _ _ _ _)
      | (with_reducible exact plain_Texts.mono _ _ _)
      | (with_reducible exact LeO.refl _)
      | (with_reducible exact LeO.none _)
      | (with_reducible refine LeO.ite ?_ ?_)
      | (with_reducible refine LeO.bind ?_ (fun _ => ?_))
      | exact ih0 _ _ _ _ _
      | exact ih1 _ _ _ _ _
      | exact ih2 _ _ _ _ _
      | exact colonnadelaw08_awake.mono _
      | exact colonnadelaw08_short.mono _ _
      | exact colonnaderef08_SameInts.mono _ _ _
      | exact colonnaderef08_SameTexts.mono _ _ _
      | exact plain_IntAt.mono _ _ _
      | exact plain_Ints.mono _ _ _
      | exact plain_TextAt.mono _ _ _ _
      | exact plain_Texts.mono _ _ _
      | exact LeO.none _
      | refine LeO.ite ?_ ?_
      | refine LeO.bind ?_ (fun _ => ?_)
    · intro y0 y1 y2 y3 y4
      unfold colonnadelaw08_PlainBack.l1
      repeat' first
      | (with_reducible exact ih0 _ _ _ _ _)
      | (with_reducible exact ih1 _ _ _ _ _)
      | (with_reducible exact ih2 _ _ _ _ _)
      | (with_reducible exact colonnadelaw08_awake.mono _)
      | (with_reducible exact colonnadelaw08_short.mono _ _)
      | (with_reducible exact colonnaderef08_SameInts.mono _ _ _)
      | (with_reducible exact colonnaderef08_SameTexts.mono _ _ _)
      | (with_reducible exact plain_IntAt.mono _ _ _)
      | (with_reducible exact plain_Ints.mono _ _ _)
      | (with_reducible exact plain_TextAt.mono _ _ _ _)
      | (with_reducible exact plain_Texts.mono _ _ _)
      | (with_reducible exact LeO.refl _)
      | (with_reducible exact LeO.none _)
      | (with_reducible refine LeO.ite ?_ ?_)
      | (with_reducible refine LeO.bind ?_ (fun _ => ?_))
      | exact ih0 _ _ _ _ _
      | exact ih1 _ _ _ _ _
      | exact ih2 _ _ _ _ _
      | exact colonnadelaw08_awake.mono _
      | exact colonnadelaw08_short.mono _ _
      | exact colonnaderef08_SameInts.mono _ _ _
      | exact colonnaderef08_SameTexts.mono _ _ _
      | exact plain_IntAt.mono _ _ _
      | exact plain_Ints.mono _ _ _
      | exact plain_TextAt.mono _ _ _ _
      | exact plain_Texts.mono _ _ _
      | exact LeO.none _
      | refine LeO.ite ?_ ?_
      | refine LeO.bind ?_ (fun _ => ?_)
theorem colonnadelaw08_PlainBack.mono : ∀ a0 a1 k, LeO (colonnadelaw08_PlainBack.f k a0 a1) (colonnadelaw08_PlainBack.f (k + 1) a0 a1) := by
  intro a0 a1 k
  obtain ⟨ih0, ih1, ih2⟩ := colonnadelaw08_PlainBack.mono_l k
  unfold colonnadelaw08_PlainBack.f
  repeat' first
      | (with_reducible exact ih0 _ _ _ _ _)
      | (with_reducible exact ih1 _ _ _ _ _)
      | (with_reducible exact ih2 _ _ _ _ _)
      | (with_reducible exact colonnadelaw08_awake.mono _)
      | (with_reducible exact colonnadelaw08_short.mono _ _)
      | (with_reducible exact colonnaderef08_SameInts.mono _ _ _)
      | (with_reducible exact colonnaderef08_SameTexts.mono _ _ _)
      | (with_reducible exact plain_IntAt.mono _ _ _)
      | (with_reducible exact plain_Ints.mono _ _ _)
      | (with_reducible exact plain_TextAt.mono _ _ _ _)
      | (with_reducible exact plain_Texts.mono _ _ _)
      | (with_reducible exact LeO.refl _)
      | (with_reducible exact LeO.none _)
      | (with_reducible refine LeO.ite ?_ ?_)
      | (with_reducible refine LeO.bind ?_ (fun _ => ?_))
      | exact ih0 _ _ _ _ _
      | exact ih1 _ _ _ _ _
      | exact ih2 _ _ _ _ _
      | exact colonnadelaw08_awake.mono _
      | exact colonnadelaw08_short.mono _ _
      | exact colonnaderef08_SameInts.mono _ _ _
      | exact colonnaderef08_SameTexts.mono _ _ _
      | exact plain_IntAt.mono _ _ _
      | exact plain_Ints.mono _ _ _
      | exact plain_TextAt.mono _ _ _ _
      | exact plain_Texts.mono _ _ _
      | exact LeO.none _
      | refine LeO.ite ?_ ?_
      | refine LeO.bind ?_ (fun _ => ?_)
set_option maxHeartbeats 8000000 in
set_option maxRecDepth 100000 in
theorem colonnadelaw08_PlainBack.calls (k : Nat) (A0 : Option Addr) (c0 : Nat) (l0 : List Int) (A1 : Option Addr) (c1 : Nat) (l1 : List ByteArray) (r : Bool) (w : World) (hr0 : Kd.C (Kd.int .i64) w A0 l0.length l0) (hc0 : l0.length ≤ c0) (hr1 : Kd.C Kd.string w A1 l1.length l1) (hc1 : l1.length ≤ c1) (h : colonnadelaw08_PlainBack.f k l0 l1 = some r) :
    Calls Try.prog 6 #[.slice A0 l0.length c0, .slice A1 l1.length c1] w fun e w' => e = .returned (.bool r) ∧ Below w.heap.size w w' := by
  have HR0 := Aside0.mk hr0
  have HC0 := Aside0.mk hc0
  clear hr0 hc0
  have HR1 := Aside0.mk hr1
  have HC1 := Aside0.mk hc1
  clear hr1 hc1
  have HB := Aside0.mk (Below.refl w.heap.size w)
  have H : ((colonnadelaw08_awake.f k).bind fun t172 => (if t172 = true then (if 0 ≤ (mn (l0.length : Int) 1048576) then (if (mn (l0.length : Int) 1048576) ≤ (l0.length : Int) then ((colonnadelaw08_short.f k l1).bind fun t174 => ((plain_PutInts.f (l0.take ((mn (l0.length : Int) 1048576) : Int).toNat)).bind fun t177 => ((plain_PutTexts.f t174).bind fun bt180 => ((plain_Ints.f k t177 ((l0.take ((mn (l0.length : Int) 1048576) : Int).toNat).length : Int)).bind fun bt184 => ((plain_Texts.f k bt180.1 (t174.length : Int)).bind fun bt188 => ((colonnadelaw08_num.f bt180.2).bind fun t192 => (if t192 = 0 then ((colonnadelaw08_num.f bt184.2).bind fun t193 => (if t193 = 0 then ((colonnadelaw08_num.f bt188.2).bind fun t194 => (if t194 = 0 then ((colonnaderef08_SameInts.f k bt184.1 (l0.take ((mn (l0.length : Int) 1048576) : Int).toNat)).bind fun t195 => (if t195 = true then ((colonnaderef08_SameTexts.f k bt188.1 t174).bind fun t196 => (colonnadelaw08_PlainBack.j0 k (l0.take ((mn (l0.length : Int) 1048576) : Int).toNat) t174 t177 bt180.1 (!t196))) else (colonnadelaw08_PlainBack.j0 k (l0.take ((mn (l0.length : Int) 1048576) : Int).toNat) t174 t177 bt180.1 true))) else (colonnadelaw08_PlainBack.j0 k (l0.take ((mn (l0.length : Int) 1048576) : Int).toNat) t174 t177 bt180.1 true))) else (colonnadelaw08_PlainBack.j0 k (l0.take ((mn (l0.length : Int) 1048576) : Int).toNat) t174 t177 bt180.1 true))) else (colonnadelaw08_PlainBack.j0 k (l0.take ((mn (l0.length : Int) 1048576) : Int).toNat) t174 t177 bt180.1 true)))))))) else (none)) else (none)) else (some false))) = some r := h
  clear h
  replace H := Option.bind_eq_some_iff.mp H
  obtain ⟨t172, A30, H⟩ := H
  replace H : (if t172 = true then (if 0 ≤ (mn (l0.length : Int) 1048576) then (if (mn (l0.length : Int) 1048576) ≤ (l0.length : Int) then ((colonnadelaw08_short.f k l1).bind fun t174 => ((plain_PutInts.f (l0.take ((mn (l0.length : Int) 1048576) : Int).toNat)).bind fun t177 => ((plain_PutTexts.f t174).bind fun bt180 => ((plain_Ints.f k t177 ((l0.take ((mn (l0.length : Int) 1048576) : Int).toNat).length : Int)).bind fun bt184 => ((plain_Texts.f k bt180.1 (t174.length : Int)).bind fun bt188 => ((colonnadelaw08_num.f bt180.2).bind fun t192 => (if t192 = 0 then ((colonnadelaw08_num.f bt184.2).bind fun t193 => (if t193 = 0 then ((colonnadelaw08_num.f bt188.2).bind fun t194 => (if t194 = 0 then ((colonnaderef08_SameInts.f k bt184.1 (l0.take ((mn (l0.length : Int) 1048576) : Int).toNat)).bind fun t195 => (if t195 = true then ((colonnaderef08_SameTexts.f k bt188.1 t174).bind fun t196 => (colonnadelaw08_PlainBack.j0 k (l0.take ((mn (l0.length : Int) 1048576) : Int).toNat) t174 t177 bt180.1 (!t196))) else (colonnadelaw08_PlainBack.j0 k (l0.take ((mn (l0.length : Int) 1048576) : Int).toNat) t174 t177 bt180.1 true))) else (colonnadelaw08_PlainBack.j0 k (l0.take ((mn (l0.length : Int) 1048576) : Int).toNat) t174 t177 bt180.1 true))) else (colonnadelaw08_PlainBack.j0 k (l0.take ((mn (l0.length : Int) 1048576) : Int).toNat) t174 t177 bt180.1 true))) else (colonnadelaw08_PlainBack.j0 k (l0.take ((mn (l0.length : Int) 1048576) : Int).toNat) t174 t177 bt180.1 true)))))))) else (none)) else (none)) else (some false)) = some r := H
  have A3 := Aside0.mk A30
  clear A30
  by_cases c4 : t172 = true
  · subst c4
    have H1 : (if 0 ≤ (mn (l0.length : Int) 1048576) then (if (mn (l0.length : Int) 1048576) ≤ (l0.length : Int) then ((colonnadelaw08_short.f k l1).bind fun t174 => ((plain_PutInts.f (l0.take ((mn (l0.length : Int) 1048576) : Int).toNat)).bind fun t177 => ((plain_PutTexts.f t174).bind fun bt180 => ((plain_Ints.f k t177 ((l0.take ((mn (l0.length : Int) 1048576) : Int).toNat).length : Int)).bind fun bt184 => ((plain_Texts.f k bt180.1 (t174.length : Int)).bind fun bt188 => ((colonnadelaw08_num.f bt180.2).bind fun t192 => (if t192 = 0 then ((colonnadelaw08_num.f bt184.2).bind fun t193 => (if t193 = 0 then ((colonnadelaw08_num.f bt188.2).bind fun t194 => (if t194 = 0 then ((colonnaderef08_SameInts.f k bt184.1 (l0.take ((mn (l0.length : Int) 1048576) : Int).toNat)).bind fun t195 => (if t195 = true then ((colonnaderef08_SameTexts.f k bt188.1 t174).bind fun t196 => (colonnadelaw08_PlainBack.j0 k (l0.take ((mn (l0.length : Int) 1048576) : Int).toNat) t174 t177 bt180.1 (!t196))) else (colonnadelaw08_PlainBack.j0 k (l0.take ((mn (l0.length : Int) 1048576) : Int).toNat) t174 t177 bt180.1 true))) else (colonnadelaw08_PlainBack.j0 k (l0.take ((mn (l0.length : Int) 1048576) : Int).toNat) t174 t177 bt180.1 true))) else (colonnadelaw08_PlainBack.j0 k (l0.take ((mn (l0.length : Int) 1048576) : Int).toNat) t174 t177 bt180.1 true))) else (colonnadelaw08_PlainBack.j0 k (l0.take ((mn (l0.length : Int) 1048576) : Int).toNat) t174 t177 bt180.1 true)))))))) else (none)) else (none)) = some r := by rw [if_pos rfl] at H; exact H
    clear H
    have H := H1
    clear H1
    obtain ⟨ji5, hji5⟩ : ∃ j_ : Int, (mn (l0.length : Int) 1048576) = j_ := ⟨_, rfl⟩
    replace H : (if 0 ≤ (ji5) then (if (ji5) ≤ (l0.length : Int) then ((colonnadelaw08_short.f k l1).bind fun t174 => ((plain_PutInts.f (l0.take ((ji5) : Int).toNat)).bind fun t177 => ((plain_PutTexts.f t174).bind fun bt180 => ((plain_Ints.f k t177 ((l0.take ((ji5) : Int).toNat).length : Int)).bind fun bt184 => ((plain_Texts.f k bt180.1 (t174.length : Int)).bind fun bt188 => ((colonnadelaw08_num.f bt180.2).bind fun t192 => (if t192 = 0 then ((colonnadelaw08_num.f bt184.2).bind fun t193 => (if t193 = 0 then ((colonnadelaw08_num.f bt188.2).bind fun t194 => (if t194 = 0 then ((colonnaderef08_SameInts.f k bt184.1 (l0.take ((ji5) : Int).toNat)).bind fun t195 => (if t195 = true then ((colonnaderef08_SameTexts.f k bt188.1 t174).bind fun t196 => (colonnadelaw08_PlainBack.j0 k (l0.take ((ji5) : Int).toNat) t174 t177 bt180.1 (!t196))) else (colonnadelaw08_PlainBack.j0 k (l0.take ((ji5) : Int).toNat) t174 t177 bt180.1 true))) else (colonnadelaw08_PlainBack.j0 k (l0.take ((ji5) : Int).toNat) t174 t177 bt180.1 true))) else (colonnadelaw08_PlainBack.j0 k (l0.take ((ji5) : Int).toNat) t174 t177 bt180.1 true))) else (colonnadelaw08_PlainBack.j0 k (l0.take ((ji5) : Int).toNat) t174 t177 bt180.1 true)))))))) else (none)) else (none)) = some r := by first | (rw [hji5] at H; exact H) | (simp only [hji5] at H ⊢; exact H)
    (try rw [hji5] at A3)
    (try (have hji5h : ji5 ≤ 1048576 := by (rw [← hji5]; unfold mn; (repeat' split) <;> omega)))
    (try (have hji5g : ji5 ≤ 64 := by omega))
    (try (have hji5l : 0 ≤ ji5 := by (rw [← hji5]; unfold mn; (repeat' split) <;> omega)))
    (try (have hji5m : 0 ≤ ji5 := by omega))
    have hji5_ : (if 1048576 < (l0.length : Int) then 1048576 else (l0.length : Int)) = ji5 := hji5
    by_cases c6 : 0 ≤ (ji5)
    · rw [if_pos c6] at H
      have c6b0 := eq_true c6
      have c6b1 : decide (0 ≤ (ji5)) = true := decide_eq_true c6
      clear c6
      by_cases c7 : (ji5) ≤ (l0.length : Int)
      · rw [if_pos c7] at H
        have c7b0 := eq_true c7
        have c7b1 : decide ((ji5) ≤ (l0.length : Int)) = true := decide_eq_true c7
        clear c7
        -- CUT LETTER
        obtain ⟨l0zji5_, hll0zji5_⟩ : ∃ z_, l0.take ((ji5) : Int).toNat = z_ := ⟨_, rfl⟩
        rw [hll0zji5_] at H
        have hnl0zji5_ : ji5 = (l0zji5_.length : Int) := by rw [← hll0zji5_, List.length_take]; omega
        subst hnl0zji5_
        replace H := Option.bind_eq_some_iff.mp H
        obtain ⟨t174, A80, H⟩ := H
        replace H : ((plain_PutInts.f l0zji5_).bind fun t177 => ((plain_PutTexts.f t174).bind fun bt180 => ((plain_Ints.f k t177 (l0zji5_.length : Int)).bind fun bt184 => ((plain_Texts.f k bt180.1 (t174.length : Int)).bind fun bt188 => ((colonnadelaw08_num.f bt180.2).bind fun t192 => (if t192 = 0 then ((colonnadelaw08_num.f bt184.2).bind fun t193 => (if t193 = 0 then ((colonnadelaw08_num.f bt188.2).bind fun t194 => (if t194 = 0 then ((colonnaderef08_SameInts.f k bt184.1 l0zji5_).bind fun t195 => (if t195 = true then ((colonnaderef08_SameTexts.f k bt188.1 t174).bind fun t196 => (colonnadelaw08_PlainBack.j0 k l0zji5_ t174 t177 bt180.1 (!t196))) else (colonnadelaw08_PlainBack.j0 k l0zji5_ t174 t177 bt180.1 true))) else (colonnadelaw08_PlainBack.j0 k l0zji5_ t174 t177 bt180.1 true))) else (colonnadelaw08_PlainBack.j0 k l0zji5_ t174 t177 bt180.1 true))) else (colonnadelaw08_PlainBack.j0 k l0zji5_ t174 t177 bt180.1 true))))))) = some r := H
        have A8 := Aside0.mk A80
        clear A80
        replace H := Option.bind_eq_some_iff.mp H
        obtain ⟨t177, A90, H⟩ := H
        replace H : ((plain_PutTexts.f t174).bind fun bt180 => ((plain_Ints.f k t177 (l0zji5_.length : Int)).bind fun bt184 => ((plain_Texts.f k bt180.1 (t174.length : Int)).bind fun bt188 => ((colonnadelaw08_num.f bt180.2).bind fun t192 => (if t192 = 0 then ((colonnadelaw08_num.f bt184.2).bind fun t193 => (if t193 = 0 then ((colonnadelaw08_num.f bt188.2).bind fun t194 => (if t194 = 0 then ((colonnaderef08_SameInts.f k bt184.1 l0zji5_).bind fun t195 => (if t195 = true then ((colonnaderef08_SameTexts.f k bt188.1 t174).bind fun t196 => (colonnadelaw08_PlainBack.j0 k l0zji5_ t174 t177 bt180.1 (!t196))) else (colonnadelaw08_PlainBack.j0 k l0zji5_ t174 t177 bt180.1 true))) else (colonnadelaw08_PlainBack.j0 k l0zji5_ t174 t177 bt180.1 true))) else (colonnadelaw08_PlainBack.j0 k l0zji5_ t174 t177 bt180.1 true))) else (colonnadelaw08_PlainBack.j0 k l0zji5_ t174 t177 bt180.1 true)))))) = some r := H
        have A9 := Aside0.mk A90
        clear A90
        replace H := Option.bind_eq_some_iff.mp H
        obtain ⟨⟨t180, t181⟩, A100, H⟩ := H
        replace H : ((plain_Ints.f k t177 (l0zji5_.length : Int)).bind fun bt184 => ((plain_Texts.f k t180 (t174.length : Int)).bind fun bt188 => ((colonnadelaw08_num.f t181).bind fun t192 => (if t192 = 0 then ((colonnadelaw08_num.f bt184.2).bind fun t193 => (if t193 = 0 then ((colonnadelaw08_num.f bt188.2).bind fun t194 => (if t194 = 0 then ((colonnaderef08_SameInts.f k bt184.1 l0zji5_).bind fun t195 => (if t195 = true then ((colonnaderef08_SameTexts.f k bt188.1 t174).bind fun t196 => (colonnadelaw08_PlainBack.j0 k l0zji5_ t174 t177 t180 (!t196))) else (colonnadelaw08_PlainBack.j0 k l0zji5_ t174 t177 t180 true))) else (colonnadelaw08_PlainBack.j0 k l0zji5_ t174 t177 t180 true))) else (colonnadelaw08_PlainBack.j0 k l0zji5_ t174 t177 t180 true))) else (colonnadelaw08_PlainBack.j0 k l0zji5_ t174 t177 t180 true))))) = some r := H
        have A10 := Aside0.mk A100
        clear A100
        replace H := Option.bind_eq_some_iff.mp H
        obtain ⟨⟨t184, t185⟩, A110, H⟩ := H
        replace H : ((plain_Texts.f k t180 (t174.length : Int)).bind fun bt188 => ((colonnadelaw08_num.f t181).bind fun t192 => (if t192 = 0 then ((colonnadelaw08_num.f t185).bind fun t193 => (if t193 = 0 then ((colonnadelaw08_num.f bt188.2).bind fun t194 => (if t194 = 0 then ((colonnaderef08_SameInts.f k t184 l0zji5_).bind fun t195 => (if t195 = true then ((colonnaderef08_SameTexts.f k bt188.1 t174).bind fun t196 => (colonnadelaw08_PlainBack.j0 k l0zji5_ t174 t177 t180 (!t196))) else (colonnadelaw08_PlainBack.j0 k l0zji5_ t174 t177 t180 true))) else (colonnadelaw08_PlainBack.j0 k l0zji5_ t174 t177 t180 true))) else (colonnadelaw08_PlainBack.j0 k l0zji5_ t174 t177 t180 true))) else (colonnadelaw08_PlainBack.j0 k l0zji5_ t174 t177 t180 true)))) = some r := H
        have A11 := Aside0.mk A110
        clear A110
        replace H := Option.bind_eq_some_iff.mp H
        obtain ⟨⟨t188, t189⟩, A120, H⟩ := H
        replace H : ((colonnadelaw08_num.f t181).bind fun t192 => (if t192 = 0 then ((colonnadelaw08_num.f t185).bind fun t193 => (if t193 = 0 then ((colonnadelaw08_num.f t189).bind fun t194 => (if t194 = 0 then ((colonnaderef08_SameInts.f k t184 l0zji5_).bind fun t195 => (if t195 = true then ((colonnaderef08_SameTexts.f k t188 t174).bind fun t196 => (colonnadelaw08_PlainBack.j0 k l0zji5_ t174 t177 t180 (!t196))) else (colonnadelaw08_PlainBack.j0 k l0zji5_ t174 t177 t180 true))) else (colonnadelaw08_PlainBack.j0 k l0zji5_ t174 t177 t180 true))) else (colonnadelaw08_PlainBack.j0 k l0zji5_ t174 t177 t180 true))) else (colonnadelaw08_PlainBack.j0 k l0zji5_ t174 t177 t180 true))) = some r := H
        have A12 := Aside0.mk A120
        clear A120
        have HC13 := Aside0.mk H
        clear H
        go_enter Try.func6, Try.ntmps6
        go_upto_region 10 with (first | ((with_reducible refine gate_callee (f := 29) rfl ?_); refine goesL_ (some 24) rfl rfl Try.func29 (by kernel_rfl) rfl #[] rfl (by (try simp only [List.map_toArray, List.map_cons, List.map_nil]); first | done | rfl | (simp only [List.length_drop, List.length_take]; rfl)) ?_; (with_reducible refine (colonnadelaw08_awake.calls k  true _ A3.out).mono ?_); rintro e w14 ⟨rfl, hb⟩; refine ⟨_, rfl, ?_⟩; have n0_ := Aside0.mk (below_step (by repeat (first | (with_reducible first | exact HB.out | apply below_alloc | apply pw_below_drewN | apply below_drew1) | exact HB.out)) hb); clear HB; have HB := n0_; clear n0_; (try clear hb); (try clear hb2); (try clear hk); (try clear hi); obtain ⟨i015, hi015, _, hsz15, _⟩ := info_parts info2; obtain ⟨hcut15, hA15, hC15⟩ := print_take_of (P := Try.prog) (Value.int .i64) 0 22 2 .i64 Try.underlying22 hi015 hsz15 A0 c0 l0 ((l0zji5_.length : Int)) (of_decide_eq_true (by first | (with_reducible assumption) | assumption)) (of_decide_eq_true (by first | (with_reducible assumption) | assumption)) HC0.out; rw [hll0zji5_] at hcut15 hA15 hC15; have HR173 := Aside0.mk (Kd.C_of_reads (h1 := fun _ => rfl) (hA15 _ (Kd.reads_of_C HR0.out))); have HC173 := Aside0.mk hC15; clear hA15 hC15 hi015 hsz15) | ((with_reducible refine gate_callee (f := 30) rfl ?_); refine goesL_ (some 33) rfl rfl Try.func30 (by kernel_rfl) rfl #[.slice A1 l1.length c1] rfl (by (try simp only [List.map_toArray, List.map_cons, List.map_nil]); first | done | rfl | (simp only [List.length_drop, List.length_take]; rfl)) ?_; (with_reducible refine (colonnadelaw08_short.calls k _ _ l1 t174 _ ?side1 ?side2 A8.out).mono ?_); (case side1 => repeat (first | exact (Kd.C_below HR1.out HB.out) | (with_reducible refine Kd.C_alloc ?_ _) | (with_reducible refine Kd.C_drewN ?_ _) | (with_reducible refine Kd.C_drew ?_))); (case side2 => exact HC1.out); rintro e w16 ⟨v175, rfl, ho0, hb⟩; refine ⟨_, rfl, ?_⟩; have n0_ := Aside0.mk (Kd.R_lower ho0 (below_size (by repeat (first | (with_reducible first | exact HB.out | apply below_alloc | apply pw_below_drewN | apply below_drew1) | exact HB.out)))); have n1_ := Aside0.mk (below_step (by repeat (first | (with_reducible first | exact HB.out | apply below_alloc | apply pw_below_drewN | apply below_drew1) | exact HB.out)) hb); clear HB; have HO176 := n0_; have HB := n1_; clear n0_ n1_; (try clear hb); (try clear hb2); (try clear hk); (try clear hi); (try clear ho0)) | ((with_reducible refine gate_callee (f := 13) rfl ?_); refine goesL_ (some 35) rfl rfl Try.func13 (by kernel_rfl) rfl #[.slice A0 l0zji5_.length c0] rfl (by (try simp only [List.map_toArray, List.map_cons, List.map_nil]); first | done | (rw [show l0zji5_.length = ((l0zji5_.length : Int)).toNat from (by rw [List.length_take]; have h_ : (((l0zji5_.length : Int)) : Int) ≤ (l0.length : Int) := of_decide_eq_true (by first | (with_reducible assumption) | assumption); omega)] <;> rfl) | (simp only [hji5]; rfl) | rfl | (simp only [List.length_drop, List.length_take]; rfl)) ?_; (with_reducible refine (plain_PutInts.calls _ _ l0zji5_ t177 _ ?side1 ?side2 A9.out).mono ?_); (case side1 => repeat (first | exact (Kd.C_below HR173.out HB.out) | (with_reducible refine Kd.C_alloc ?_ _) | (with_reducible refine Kd.C_drewN ?_ _) | (with_reducible refine Kd.C_drew ?_))); (case side2 => exact HC173.out); rintro e w17 ⟨v178, rfl, ho0, hb⟩; refine ⟨_, rfl, ?_⟩; have n0_ := Aside0.mk (Kd.R_below (by (with_reducible repeat (first | apply Kd.R_alloc | apply Kd.R_drewN | apply Kd.R_drew)); exact HO176.out) hb); have n1_ := Aside0.mk (Kd.R_lower ho0 (below_size (by repeat (first | (with_reducible first | exact HB.out | apply below_alloc | apply pw_below_drewN | apply below_drew1) | exact HB.out)))); have n2_ := Aside0.mk (below_step (by repeat (first | (with_reducible first | exact HB.out | apply below_alloc | apply pw_below_drewN | apply below_drew1) | exact HB.out)) hb); clear HO176; clear HB; have HO176 := n0_; have HO179 := n1_; have HB := n2_; clear n0_ n1_ n2_; (try clear hb); (try clear hb2); (try clear hk); (try clear hi); (try clear ho0); obtain ⟨Ao18, co18, eo18⟩ := Kd.R_slice HO176.out; subst eo18) | ((with_reducible refine gate_callee (f := 14) rfl ?_); refine goesL_ (some 38) rfl rfl Try.func14 (by kernel_rfl) rfl #[.slice Ao18 t174.length co18] rfl (by (try simp only [List.map_toArray, List.map_cons, List.map_nil]); first | done | rfl | (simp only [List.length_drop, List.length_take]; rfl)) ?_; (with_reducible refine (plain_PutTexts.calls _ _ t174 t180 t181 _ ?side1 ?side2 A10.out).mono ?_); (case side1 => repeat (first | exact (Kd.R_reads' HO176.out).2.2 | (with_reducible refine Kd.C_alloc ?_ _) | (with_reducible refine Kd.C_drewN ?_ _) | (with_reducible refine Kd.C_drew ?_))); (case side2 => exact (Kd.R_reads' HO176.out).2.1); rintro e w19 ⟨v182, rfl, ho0, hb⟩; refine ⟨_, rfl, ?_⟩; have n0_ := Aside0.mk (Kd.R_below (by (with_reducible repeat (first | apply Kd.R_alloc | apply Kd.R_drewN | apply Kd.R_drew)); exact HO176.out) hb); have n1_ := Aside0.mk (Kd.R_elder' (by (with_reducible repeat (first | apply Kd.R_alloc | apply Kd.R_drewN | apply Kd.R_drew)); exact HO179.out) (Kd.R_base ho0) hb); have n2_ := Aside0.mk (Kd.R_lower (Kd.R_new' ho0 (Kd.R_lt (by (with_reducible repeat (first | apply Kd.R_alloc | apply Kd.R_drewN | apply Kd.R_drew)); exact HO179.out))) (below_size (by repeat (first | (with_reducible first | exact HB.out | apply below_alloc | apply pw_below_drewN | apply below_drew1) | exact HB.out)))); have n3_ := Aside0.mk (below_step (by repeat (first | (with_reducible first | exact HB.out | apply below_alloc | apply pw_below_drewN | apply below_drew1) | exact HB.out)) hb); clear HO176; clear HO179; clear HB; have HO176 := n0_; have HO179 := n1_; have HO183 := n2_; have HB := n3_; clear n0_ n1_ n2_ n3_; (try clear hb); (try clear hb2); (try clear hk); (try clear hi); (try clear ho0); obtain ⟨Ao20, co20, eo20⟩ := Kd.R_slice HO179.out; subst eo20) | ((with_reducible refine gate_callee (f := 21) rfl ?_); refine goesL_ (some 45) rfl rfl Try.func21 (by kernel_rfl) rfl #[.slice Ao20 t177.length co20, .int .i64 (l0zji5_.length : Int)] rfl (by (try simp only [List.map_toArray, List.map_cons, List.map_nil]); first | done | (simp only [hji5]; rfl) | rfl | (simp only [List.length_drop, List.length_take]; rfl)) ?_; (with_reducible refine (plain_Ints.calls k _ _ t177 (l0zji5_.length : Int) t184 t185 _ ?side1 ?side2 A11.out).mono ?_); (case side1 => repeat (first | exact (Kd.R_reads' HO179.out).2.2 | (with_reducible refine Kd.C_alloc ?_ _) | (with_reducible refine Kd.C_drewN ?_ _) | (with_reducible refine Kd.C_drew ?_))); (case side2 => exact (Kd.R_reads' HO179.out).2.1); rintro e w21 ⟨v186, rfl, ho0, hb⟩; refine ⟨_, rfl, ?_⟩; have n0_ := Aside0.mk (Kd.R_below (by (with_reducible repeat (first | apply Kd.R_alloc | apply Kd.R_drewN | apply Kd.R_drew)); exact HO176.out) hb); have n1_ := Aside0.mk (Kd.R_below (by (with_reducible repeat (first | apply Kd.R_alloc | apply Kd.R_drewN | apply Kd.R_drew)); exact HO179.out) hb); have n2_ := Aside0.mk (Kd.R_below (by (with_reducible repeat (first | apply Kd.R_alloc | apply Kd.R_drewN | apply Kd.R_drew)); exact HO183.out) hb); have n3_ := Aside0.mk (Kd.R_lower ho0 (below_size (by repeat (first | (with_reducible first | exact HB.out | apply below_alloc | apply pw_below_drewN | apply below_drew1) | exact HB.out)))); have n4_ := Aside0.mk (below_step (by repeat (first | (with_reducible first | exact HB.out | apply below_alloc | apply pw_below_drewN | apply below_drew1) | exact HB.out)) hb); clear HO176; clear HO179; clear HO183; clear HB; have HO176 := n0_; have HO179 := n1_; have HO183 := n2_; have HO187 := n3_; have HB := n4_; clear n0_ n1_ n2_ n3_ n4_; (try clear hb); (try clear hb2); (try clear hk); (try clear hi); (try clear ho0); obtain ⟨Ao22, co22, eo22⟩ := Kd.R_slice HO183.out; subst eo22) | ((with_reducible refine gate_callee (f := 26) rfl ?_); refine goesL_ (some 52) rfl rfl Try.func26 (by kernel_rfl) rfl #[.slice Ao22 t180.length co22, .int .i64 (t174.length : Int)] rfl (by (try simp only [List.map_toArray, List.map_cons, List.map_nil]); first | done | rfl | (simp only [List.length_drop, List.length_take]; rfl)) ?_; (with_reducible refine (plain_Texts.calls k _ _ t180 (t174.length : Int) t188 t189 _ ?side1 ?side2 A12.out).mono ?_); (case side1 => repeat (first | exact (Kd.R_reads' HO183.out).2.2 | (with_reducible refine Kd.C_alloc ?_ _) | (with_reducible refine Kd.C_drewN ?_ _) | (with_reducible refine Kd.C_drew ?_))); (case side2 => exact (Kd.R_reads' HO183.out).2.1); rintro e w23 ⟨v190, rfl, ho0, hb⟩; refine ⟨_, rfl, ?_⟩; have n0_ := Aside0.mk (Kd.R_elder' (by (with_reducible repeat (first | apply Kd.R_alloc | apply Kd.R_drewN | apply Kd.R_drew)); exact HO176.out) (Kd.R_base ho0) hb); have n1_ := Aside0.mk (Kd.R_below (by (with_reducible repeat (first | apply Kd.R_alloc | apply Kd.R_drewN | apply Kd.R_drew)); exact HO179.out) hb); have n2_ := Aside0.mk (Kd.R_below (by (with_reducible repeat (first | apply Kd.R_alloc | apply Kd.R_drewN | apply Kd.R_drew)); exact HO183.out) hb); have n3_ := Aside0.mk (Kd.R_below (by (with_reducible repeat (first | apply Kd.R_alloc | apply Kd.R_drewN | apply Kd.R_drew)); exact HO187.out) hb); have n4_ := Aside0.mk (Kd.R_lower (Kd.R_new' ho0 (Kd.R_lt (by (with_reducible repeat (first | apply Kd.R_alloc | apply Kd.R_drewN | apply Kd.R_drew)); exact HO176.out))) (below_size (by repeat (first | (with_reducible first | exact HB.out | apply below_alloc | apply pw_below_drewN | apply below_drew1) | exact HB.out)))); have n5_ := Aside0.mk (below_step (by repeat (first | (with_reducible first | exact HB.out | apply below_alloc | apply pw_below_drewN | apply below_drew1) | exact HB.out)) hb); clear HO176; clear HO179; clear HO183; clear HO187; clear HB; have HO176 := n0_; have HO179 := n1_; have HO183 := n2_; have HO187 := n3_; have HO191 := n4_; have HB := n5_; clear n0_ n1_ n2_ n3_ n4_ n5_; (try clear hb); (try clear hb2); (try clear hk); (try clear hi); (try clear ho0)))
        (try simp only [Act.put, List.setIfInBounds_toArray, List.set_cons_zero, List.set_cons_succ])
        go_cut [79] (fun v79 wc => ∃ (kq : Nat) (x79_12 : Bool), v79 = .bool x79_12 ∧ Aside0 (colonnadelaw08_PlainBack.j0 kq l0zji5_ t174 t177 t180 x79_12 = some r) ∧ Aside0 (kq ≤ k) ∧ Aside0 (Kd.R Kd.string 9 wc w.heap.size (fun _ => True) (.slice Ao18 t174.length co18) t174) ∧ Aside0 (Kd.R (Kd.int .u8) 5 wc w.heap.size (fun k_ => some k_ ≠ ((.slice Ao22 t180.length co22) : Value).ownBlock) (.slice Ao20 t177.length co20) t177) ∧ Aside0 (Kd.R (Kd.int .u8) 5 wc w.heap.size (fun k_ => some k_ ≠ ((.slice Ao20 t177.length co20) : Value).ownBlock) (.slice Ao22 t180.length co22) t180) ∧ Aside0 (Below w.heap.size w wc))
        case first =>
          have H := HC13.out
          clear HC13
          replace H := Option.bind_eq_some_iff.mp H
          obtain ⟨t192, A240, H⟩ := H
          replace H : (if t192 = 0 then ((colonnadelaw08_num.f t185).bind fun t193 => (if t193 = 0 then ((colonnadelaw08_num.f t189).bind fun t194 => (if t194 = 0 then ((colonnaderef08_SameInts.f k t184 l0zji5_).bind fun t195 => (if t195 = true then ((colonnaderef08_SameTexts.f k t188 t174).bind fun t196 => (colonnadelaw08_PlainBack.j0 k l0zji5_ t174 t177 t180 (!t196))) else (colonnadelaw08_PlainBack.j0 k l0zji5_ t174 t177 t180 true))) else (colonnadelaw08_PlainBack.j0 k l0zji5_ t174 t177 t180 true))) else (colonnadelaw08_PlainBack.j0 k l0zji5_ t174 t177 t180 true))) else (colonnadelaw08_PlainBack.j0 k l0zji5_ t174 t177 t180 true)) = some r := H
          have A24 := Aside0.mk A240
          clear A240
          by_cases c25 : t192 = 0
          · rw [if_pos c25] at H
            have c25b0 : (t192 == 0) = true := beq_iff_eq.mpr c25
            have c25b1 : (t192 != 0) = false := bne_eq_false_iff_eq.mpr c25
            clear c25
            (first | rw [c25b0] | (simp only [i64_w, i32_w]; rw [c25b0]) | skip)
            replace H := Option.bind_eq_some_iff.mp H
            obtain ⟨t193, A260, H⟩ := H
            replace H : (if t193 = 0 then ((colonnadelaw08_num.f t189).bind fun t194 => (if t194 = 0 then ((colonnaderef08_SameInts.f k t184 l0zji5_).bind fun t195 => (if t195 = true then ((colonnaderef08_SameTexts.f k t188 t174).bind fun t196 => (colonnadelaw08_PlainBack.j0 k l0zji5_ t174 t177 t180 (!t196))) else (colonnadelaw08_PlainBack.j0 k l0zji5_ t174 t177 t180 true))) else (colonnadelaw08_PlainBack.j0 k l0zji5_ t174 t177 t180 true))) else (colonnadelaw08_PlainBack.j0 k l0zji5_ t174 t177 t180 true)) = some r := H
            have A26 := Aside0.mk A260
            clear A260
            by_cases c27 : t193 = 0
            · rw [if_pos c27] at H
              have c27b0 : (t193 == 0) = true := beq_iff_eq.mpr c27
              have c27b1 : (t193 != 0) = false := bne_eq_false_iff_eq.mpr c27
              clear c27
              replace H := Option.bind_eq_some_iff.mp H
              obtain ⟨t194, A280, H⟩ := H
              replace H : (if t194 = 0 then ((colonnaderef08_SameInts.f k t184 l0zji5_).bind fun t195 => (if t195 = true then ((colonnaderef08_SameTexts.f k t188 t174).bind fun t196 => (colonnadelaw08_PlainBack.j0 k l0zji5_ t174 t177 t180 (!t196))) else (colonnadelaw08_PlainBack.j0 k l0zji5_ t174 t177 t180 true))) else (colonnadelaw08_PlainBack.j0 k l0zji5_ t174 t177 t180 true)) = some r := H
              have A28 := Aside0.mk A280
              clear A280
              by_cases c29 : t194 = 0
              · rw [if_pos c29] at H
                have c29b0 : (t194 == 0) = true := beq_iff_eq.mpr c29
                have c29b1 : (t194 != 0) = false := bne_eq_false_iff_eq.mpr c29
                clear c29
                replace H := Option.bind_eq_some_iff.mp H
                obtain ⟨t195, A300, H⟩ := H
                replace H : (if t195 = true then ((colonnaderef08_SameTexts.f k t188 t174).bind fun t196 => (colonnadelaw08_PlainBack.j0 k l0zji5_ t174 t177 t180 (!t196))) else (colonnadelaw08_PlainBack.j0 k l0zji5_ t174 t177 t180 true)) = some r := H
                have A30 := Aside0.mk A300
                clear A300
                by_cases c31 : t195 = true
                · subst c31
                  have H1 : ((colonnaderef08_SameTexts.f k t188 t174).bind fun t196 => (colonnadelaw08_PlainBack.j0 k l0zji5_ t174 t177 t180 (!t196))) = some r := by rw [if_pos rfl] at H; exact H
                  clear H
                  have H := H1
                  clear H1
                  replace H := Option.bind_eq_some_iff.mp H
                  obtain ⟨t196, A320, H⟩ := H
                  replace H : (colonnadelaw08_PlainBack.j0 k l0zji5_ t174 t177 t180 (!t196)) = some r := H
                  have A32 := Aside0.mk A320
                  clear A320
                  have H' := Aside0.mk H
                  clear H
                  go_wp2_with (first | ((with_reducible refine gate_callee (f := 16) rfl ?_); refine goesL_ (some 56) rfl rfl Try.func16 (by kernel_rfl) rfl #[.int .i64 t181] rfl (by (try simp only [List.map_toArray, List.map_cons, List.map_nil]); first | done | rfl | (simp only [List.length_drop, List.length_take]; rfl)) ?_; (with_reducible refine (colonnadelaw08_num.calls t181 t192 _ A24.out).mono ?_); rintro e w' ⟨rfl, ⟨nd, rfl⟩⟩; refine ⟨_, rfl, ?_⟩) | (go_at_call 16; (with_reducible refine (colonnadelaw08_num.calls t185 t193 _ A26.out).mono ?_); rintro e w' ⟨rfl, ⟨nd, rfl⟩⟩) | (go_at_call 16; (with_reducible refine (colonnadelaw08_num.calls t189 t194 _ A28.out).mono ?_); rintro e w' ⟨rfl, ⟨nd, rfl⟩⟩; obtain ⟨Ao33, co33, eo33⟩ := Kd.R_slice HO187.out; subst eo33) | (go_at_call 17; (with_reducible refine (colonnaderef08_SameInts.calls k _ _ t184 _ _ l0zji5_ true _ ?side1 ?side2 ?side3 ?side4 A30.out).mono ?_); (case side1 => repeat (first | exact (Kd.R_reads' HO187.out).2.2 | (with_reducible refine Kd.C_alloc ?_ _) | (with_reducible refine Kd.C_drewN ?_ _) | (with_reducible refine Kd.C_drew ?_))); (case side2 => exact (Kd.R_reads' HO187.out).2.1); (case side3 => repeat (first | exact (Kd.C_below HR173.out (by repeat (first | (with_reducible first | exact HB.out | apply below_alloc | apply pw_below_drewN | apply below_drew1) | exact HB.out))) | (with_reducible refine Kd.C_alloc ?_ _) | (with_reducible refine Kd.C_drewN ?_ _) | (with_reducible refine Kd.C_drew ?_))); (case side4 => exact HC173.out); rintro e w' ⟨rfl, ⟨nd, rfl⟩⟩; obtain ⟨Ao34, co34, eo34⟩ := Kd.R_slice HO191.out; subst eo34) | (go_at_call 18; (with_reducible refine (colonnaderef08_SameTexts.calls k _ _ t188 _ _ t174 t196 _ ?side1 ?side2 ?side3 ?side4 A32.out).mono ?_); (case side1 => repeat (first | exact (Kd.R_reads' HO191.out).2.2 | (with_reducible refine Kd.C_alloc ?_ _) | (with_reducible refine Kd.C_drewN ?_ _) | (with_reducible refine Kd.C_drew ?_))); (case side2 => exact (Kd.R_reads' HO191.out).2.1); (case side3 => repeat (first | exact (Kd.R_reads' HO176.out).2.2 | (with_reducible refine Kd.C_alloc ?_ _) | (with_reducible refine Kd.C_drewN ?_ _) | (with_reducible refine Kd.C_drew ?_))); (case side4 => exact (Kd.R_reads' HO176.out).2.1); rintro e w' ⟨rfl, ⟨nd, rfl⟩⟩))
                  go_meet
                  case rel => exact ⟨_, (!t196), (by first | rfl | (simp; done) | (simp [*]; done)), H', ⟨by first | omega | exact Nat.le_refl _⟩, ⟨by (with_reducible repeat (first | apply Kd.R_alloc | apply Kd.R_drewN | apply Kd.R_drew)); exact Kd.R_mono HO176.out (fun _ hk => trivial)⟩, ⟨by (with_reducible repeat (first | apply Kd.R_alloc | apply Kd.R_drewN | apply Kd.R_drew)); exact Kd.R_mono HO179.out (fun _ hk => hk.2)⟩, ⟨by (with_reducible repeat (first | apply Kd.R_alloc | apply Kd.R_drewN | apply Kd.R_drew)); exact Kd.R_mono HO183.out (fun _ hk => hk.2)⟩, ⟨by repeat (first | (with_reducible first | exact HB.out | apply below_alloc | apply pw_below_drewN | apply below_drew1) | exact HB.out)⟩⟩
                · replace c31 := Bool.eq_false_iff.mpr c31
                  subst c31
                  have H1 : (colonnadelaw08_PlainBack.j0 k l0zji5_ t174 t177 t180 true) = some r := by rw [if_neg (show ¬ (false = true) by decide)] at H; exact H
                  clear H
                  have H := H1
                  clear H1
                  have H' := Aside0.mk H
                  clear H
                  go_wp2_with (first | ((with_reducible refine gate_callee (f := 16) rfl ?_); refine goesL_ (some 56) rfl rfl Try.func16 (by kernel_rfl) rfl #[.int .i64 t181] rfl (by (try simp only [List.map_toArray, List.map_cons, List.map_nil]); first | done | rfl | (simp only [List.length_drop, List.length_take]; rfl)) ?_; (with_reducible refine (colonnadelaw08_num.calls t181 t192 _ A24.out).mono ?_); rintro e w' ⟨rfl, ⟨nd, rfl⟩⟩; refine ⟨_, rfl, ?_⟩) | (go_at_call 16; (with_reducible refine (colonnadelaw08_num.calls t185 t193 _ A26.out).mono ?_); rintro e w' ⟨rfl, ⟨nd, rfl⟩⟩) | (go_at_call 16; (with_reducible refine (colonnadelaw08_num.calls t189 t194 _ A28.out).mono ?_); rintro e w' ⟨rfl, ⟨nd, rfl⟩⟩; obtain ⟨Ao35, co35, eo35⟩ := Kd.R_slice HO187.out; subst eo35) | (go_at_call 17; (with_reducible refine (colonnaderef08_SameInts.calls k _ _ t184 _ _ l0zji5_ false _ ?side1 ?side2 ?side3 ?side4 A30.out).mono ?_); (case side1 => repeat (first | exact (Kd.R_reads' HO187.out).2.2 | (with_reducible refine Kd.C_alloc ?_ _) | (with_reducible refine Kd.C_drewN ?_ _) | (with_reducible refine Kd.C_drew ?_))); (case side2 => exact (Kd.R_reads' HO187.out).2.1); (case side3 => repeat (first | exact (Kd.C_below HR173.out (by repeat (first | (with_reducible first | exact HB.out | apply below_alloc | apply pw_below_drewN | apply below_drew1) | exact HB.out))) | (with_reducible refine Kd.C_alloc ?_ _) | (with_reducible refine Kd.C_drewN ?_ _) | (with_reducible refine Kd.C_drew ?_))); (case side4 => exact HC173.out); rintro e w' ⟨rfl, ⟨nd, rfl⟩⟩))
                  go_meet
                  case rel => exact ⟨_, (true), (by first | rfl | (simp; done) | (simp [*]; done)), H', ⟨by first | omega | exact Nat.le_refl _⟩, ⟨by (with_reducible repeat (first | apply Kd.R_alloc | apply Kd.R_drewN | apply Kd.R_drew)); exact Kd.R_mono HO176.out (fun _ hk => trivial)⟩, ⟨by (with_reducible repeat (first | apply Kd.R_alloc | apply Kd.R_drewN | apply Kd.R_drew)); exact Kd.R_mono HO179.out (fun _ hk => hk.2)⟩, ⟨by (with_reducible repeat (first | apply Kd.R_alloc | apply Kd.R_drewN | apply Kd.R_drew)); exact Kd.R_mono HO183.out (fun _ hk => hk.2)⟩, ⟨by repeat (first | (with_reducible first | exact HB.out | apply below_alloc | apply pw_below_drewN | apply below_drew1) | exact HB.out)⟩⟩
              · rw [if_neg c29] at H
                have c29b0 : (t194 == 0) = false := beq_eq_false_iff_ne.mpr c29
                have c29b1 : (t194 != 0) = true := bne_iff_ne.mpr c29
                have H' := Aside0.mk H
                clear H
                go_wp2_with (first | ((with_reducible refine gate_callee (f := 16) rfl ?_); refine goesL_ (some 56) rfl rfl Try.func16 (by kernel_rfl) rfl #[.int .i64 t181] rfl (by (try simp only [List.map_toArray, List.map_cons, List.map_nil]); first | done | rfl | (simp only [List.length_drop, List.length_take]; rfl)) ?_; (with_reducible refine (colonnadelaw08_num.calls t181 t192 _ A24.out).mono ?_); rintro e w' ⟨rfl, ⟨nd, rfl⟩⟩; refine ⟨_, rfl, ?_⟩) | (go_at_call 16; (with_reducible refine (colonnadelaw08_num.calls t185 t193 _ A26.out).mono ?_); rintro e w' ⟨rfl, ⟨nd, rfl⟩⟩) | (go_at_call 16; (with_reducible refine (colonnadelaw08_num.calls t189 t194 _ A28.out).mono ?_); rintro e w' ⟨rfl, ⟨nd, rfl⟩⟩))
                go_meet
                case rel => exact ⟨_, (true), (by first | rfl | (simp; done) | (simp [*]; done)), H', ⟨by first | omega | exact Nat.le_refl _⟩, ⟨by (with_reducible repeat (first | apply Kd.R_alloc | apply Kd.R_drewN | apply Kd.R_drew)); exact Kd.R_mono HO176.out (fun _ hk => trivial)⟩, ⟨by (with_reducible repeat (first | apply Kd.R_alloc | apply Kd.R_drewN | apply Kd.R_drew)); exact Kd.R_mono HO179.out (fun _ hk => hk.2)⟩, ⟨by (with_reducible repeat (first | apply Kd.R_alloc | apply Kd.R_drewN | apply Kd.R_drew)); exact Kd.R_mono HO183.out (fun _ hk => hk.2)⟩, ⟨by repeat (first | (with_reducible first | exact HB.out | apply below_alloc | apply pw_below_drewN | apply below_drew1) | exact HB.out)⟩⟩
            · rw [if_neg c27] at H
              have c27b0 : (t193 == 0) = false := beq_eq_false_iff_ne.mpr c27
              have c27b1 : (t193 != 0) = true := bne_iff_ne.mpr c27
              have H' := Aside0.mk H
              clear H
              go_wp2_with (first | ((with_reducible refine gate_callee (f := 16) rfl ?_); refine goesL_ (some 56) rfl rfl Try.func16 (by kernel_rfl) rfl #[.int .i64 t181] rfl (by (try simp only [List.map_toArray, List.map_cons, List.map_nil]); first | done | rfl | (simp only [List.length_drop, List.length_take]; rfl)) ?_; (with_reducible refine (colonnadelaw08_num.calls t181 t192 _ A24.out).mono ?_); rintro e w' ⟨rfl, ⟨nd, rfl⟩⟩; refine ⟨_, rfl, ?_⟩) | (go_at_call 16; (with_reducible refine (colonnadelaw08_num.calls t185 t193 _ A26.out).mono ?_); rintro e w' ⟨rfl, ⟨nd, rfl⟩⟩))
              go_meet
              case rel => exact ⟨_, (true), (by first | rfl | (simp; done) | (simp [*]; done)), H', ⟨by first | omega | exact Nat.le_refl _⟩, ⟨by (with_reducible repeat (first | apply Kd.R_alloc | apply Kd.R_drewN | apply Kd.R_drew)); exact Kd.R_mono HO176.out (fun _ hk => trivial)⟩, ⟨by (with_reducible repeat (first | apply Kd.R_alloc | apply Kd.R_drewN | apply Kd.R_drew)); exact Kd.R_mono HO179.out (fun _ hk => hk.2)⟩, ⟨by (with_reducible repeat (first | apply Kd.R_alloc | apply Kd.R_drewN | apply Kd.R_drew)); exact Kd.R_mono HO183.out (fun _ hk => hk.2)⟩, ⟨by repeat (first | (with_reducible first | exact HB.out | apply below_alloc | apply pw_below_drewN | apply below_drew1) | exact HB.out)⟩⟩
          · rw [if_neg c25] at H
            have c25b0 : (t192 == 0) = false := beq_eq_false_iff_ne.mpr c25
            have c25b1 : (t192 != 0) = true := bne_iff_ne.mpr c25
            (first | rw [c25b0] | (simp only [i64_w, i32_w]; rw [c25b0]) | skip)
            have H' := Aside0.mk H
            clear H
            go_wp2_with (first | ((with_reducible refine gate_callee (f := 16) rfl ?_); refine goesL_ (some 56) rfl rfl Try.func16 (by kernel_rfl) rfl #[.int .i64 t181] rfl (by (try simp only [List.map_toArray, List.map_cons, List.map_nil]); first | done | rfl | (simp only [List.length_drop, List.length_take]; rfl)) ?_; (with_reducible refine (colonnadelaw08_num.calls t181 t192 _ A24.out).mono ?_); rintro e w' ⟨rfl, ⟨nd, rfl⟩⟩; refine ⟨_, rfl, ?_⟩))
            go_meet
            case rel => exact ⟨_, (true), (by first | rfl | (simp; done) | (simp [*]; done)), H', ⟨by first | omega | exact Nat.le_refl _⟩, ⟨by (with_reducible repeat (first | apply Kd.R_alloc | apply Kd.R_drewN | apply Kd.R_drew)); exact Kd.R_mono HO176.out (fun _ hk => trivial)⟩, ⟨by (with_reducible repeat (first | apply Kd.R_alloc | apply Kd.R_drewN | apply Kd.R_drew)); exact Kd.R_mono HO179.out (fun _ hk => hk.2)⟩, ⟨by (with_reducible repeat (first | apply Kd.R_alloc | apply Kd.R_drewN | apply Kd.R_drew)); exact Kd.R_mono HO183.out (fun _ hk => hk.2)⟩, ⟨by repeat (first | (with_reducible first | exact HB.out | apply below_alloc | apply pw_below_drewN | apply below_drew1) | exact HB.out)⟩⟩
        case rest =>
          clear HC13
          try clear c1
          try clear c2
          try clear p2
          try clear c3
          try clear c4
          try clear c6
          try clear c6b0
          try clear c6b1
          try clear c7
          try clear c7b0
          try clear c7b1
          try clear c13
          try clear c14
          try clear c16
          try clear c21
          try clear c25
          try clear c25b0
          try clear c25b1
          try clear c26
          try clear c27
          try clear c27b0
          try clear c27b1
          try clear c29
          try clear c29b0
          try clear c29b1
          try clear c30
          try clear c31
          obtain ⟨kq, x79_12, rfl, HA, HJ12, HO_6, HO_7, HO_8, HB⟩ := hcut
          cases kq with
          | zero => exact absurd HA.out (by simp [colonnadelaw08_PlainBack.j0])
          | succ kj12 =>
            have H := HA.out
            clear HA
            simp only [colonnadelaw08_PlainBack.j0] at H
            by_cases c36 : x79_12 = true
            · subst c36
              have H1 : (some false) = some r := by rw [if_pos rfl] at H; exact H
              clear H
              have H := H1
              clear H1
              obtain rfl := Option.some.inj H
              go_wp2
              go_ret
              exact ⟨by first | rfl | (simp [errW_none, errW_some] <;> rfl) | (simp only [← hji5]; first | rfl | (simp [errW_none, errW_some] <;> rfl)) | (simp [*, errW_none, errW_some] <;> rfl), by repeat (first | (with_reducible first | exact HB.out | apply below_alloc | apply pw_below_drewN | apply below_drew1) | exact HB.out)⟩
            · replace c36 := Bool.eq_false_iff.mpr c36
              subst c36
              have H1 : (colonnadelaw08_PlainBack.l0 kj12 l0zji5_ t174 t177 t180 0) = some r := by rw [if_neg (show ¬ (false = true) by decide)] at H; exact H
              clear H
              have H := H1
              clear H1
              have H' := Aside0.mk H
              clear H
              go_wp2
              (try simp only [add_plain])
              go_loopg [14] kj12 (fun kq v14 w' => ∃ (x14_2 : Int), v14 = .int .i64 x14_2 ∧ Aside0 (colonnadelaw08_PlainBack.l0 kq l0zji5_ t174 t177 t180 x14_2 = some r) ∧ Aside0 (kq ≤ kj12) ∧ Aside0 (Kd.R Kd.string 9 w' w.heap.size (fun _ => True) (.slice Ao18 t174.length co18) t174) ∧ Aside0 (Kd.R (Kd.int .u8) 5 w' w.heap.size (fun k_ => some k_ ≠ ((.slice Ao22 t180.length co22) : Value).ownBlock) (.slice Ao20 t177.length co20) t177) ∧ Aside0 (Kd.R (Kd.int .u8) 5 w' w.heap.size (fun k_ => some k_ ≠ ((.slice Ao20 t177.length co20) : Value).ownBlock) (.slice Ao22 t180.length co22) t180) ∧ Aside0 (Below w.heap.size w w'))
              case atStart => exact ⟨(0), (by first | rfl | (simp; done) | (simp [*]; done)), H', ⟨Nat.le_refl _⟩, ⟨by (with_reducible repeat (first | apply Kd.R_alloc | apply Kd.R_drewN | apply Kd.R_drew)); exact HO_6.out⟩, ⟨by (with_reducible repeat (first | apply Kd.R_alloc | apply Kd.R_drewN | apply Kd.R_drew)); exact HO_7.out⟩, ⟨by (with_reducible repeat (first | apply Kd.R_alloc | apply Kd.R_drewN | apply Kd.R_drew)); exact HO_8.out⟩, ⟨by repeat (first | (with_reducible first | exact HB.out | apply below_alloc | apply pw_below_drewN | apply below_drew1) | exact HB.out)⟩⟩
              case round =>
                clear H'
                try clear c1
                try clear c2
                try clear p2
                try clear c3
                try clear c4
                try clear c6
                try clear c6b0
                try clear c6b1
                try clear c7
                try clear c7b0
                try clear c7b1
                try clear c13
                try clear c14
                try clear c16
                try clear c21
                try clear c25
                try clear c25b0
                try clear c25b1
                try clear c26
                try clear c27
                try clear c27b0
                try clear c27b1
                try clear c29
                try clear c29b0
                try clear c29b1
                try clear c30
                try clear c31
                try clear c36
                try clear p2
                obtain ⟨x14_2, rfl, HA, HK2, HO_6, HO_7, HO_8, HB⟩ := hrel
                cases gk with
                | zero => exact absurd HA.out (by simp [colonnadelaw08_PlainBack.l0])
                | succ k2 =>
                  have H := HA.out
                  clear HA
                  simp only [colonnadelaw08_PlainBack.l0] at H
                  by_cases c37 : x14_2 < (l0zji5_.length : Int)
                  · rw [if_pos c37] at H
                    have c37b0 : decide (x14_2 < (l0zji5_.length : Int)) = true := decide_eq_true c37
                    (try (have c37b0y_ := c37b0; simp only [List.length_drop, List.length_take] at c37b0y_))
                    clear c37
                    replace H := Option.bind_eq_some_iff.mp H
                    obtain ⟨⟨t197, t198⟩, A380, H⟩ := H
                    replace H : (if t198 = true then (if 0 ≤ x14_2 then (if t197 = (rd l0zji5_ x14_2) then (colonnadelaw08_PlainBack.l0 k2 l0zji5_ t174 t177 t180 (wrap64 (x14_2 + 1))) else (some false)) else (none)) else (some false)) = some r := H
                    have A38 := Aside0.mk A380
                    clear A380
                    by_cases c39 : t198 = true
                    · subst c39
                      have H1 : (if 0 ≤ x14_2 then (if t197 = (rd l0zji5_ x14_2) then (colonnadelaw08_PlainBack.l0 k2 l0zji5_ t174 t177 t180 (wrap64 (x14_2 + 1))) else (some false)) else (none)) = some r := by rw [if_pos rfl] at H; exact H
                      clear H
                      have H := H1
                      clear H1
                      by_cases c40 : 0 ≤ x14_2
                      · rw [if_pos c40] at H
                        have c40b0 : decide (0 ≤ x14_2) = true := decide_eq_true c40
                        clear c40
                        by_cases c41 : t197 = (rd l0zji5_ x14_2)
                        · rw [if_pos c41] at H
                          have c41b0 : (t197 == (rd l0zji5_ x14_2)) = true := beq_iff_eq.mpr c41
                          have c41b1 : (t197 != (rd l0zji5_ x14_2)) = false := bne_eq_false_iff_eq.mpr c41
                          clear c41
                          have H' := Aside0.mk H
                          clear H
                          go_wp2_with (first | ((with_reducible refine gate_callee (f := 23) rfl ?_); refine goesL_ (some 89) rfl rfl Try.func23 (by kernel_rfl) rfl #[.slice Ao20 t177.length co20, .int .i64 x14_2] rfl (by (try simp only [List.map_toArray, List.map_cons, List.map_nil]); first | done | rfl | (simp only [List.length_drop, List.length_take]; rfl)) ?_; (with_reducible refine (plain_IntAt.calls k2 _ _ t177 x14_2 t197 true _ ?side1 ?side2 A38.out).mono ?_); (case side1 => repeat (first | exact (Kd.R_reads' HO_7.out).2.2 | (with_reducible refine Kd.C_alloc ?_ _) | (with_reducible refine Kd.C_drewN ?_ _) | (with_reducible refine Kd.C_drew ?_))); (case side2 => exact (Kd.R_reads' HO_7.out).2.1); rintro e w' ⟨rfl, ⟨nd, rfl⟩⟩; refine ⟨_, rfl, ?_⟩; have p199 : 0 ≤ (x14_2 : Int) := of_decide_eq_true (by first | (with_reducible assumption) | assumption); have q199 : x14_2 < (l0zji5_.length : Int) := of_decide_eq_true (by first | (with_reducible assumption) | assumption); obtain ⟨ad199, e199, hx199_0⟩ := Kd.at_int HR173.out x14_2 p199 q199; cases e199; replace hx199_0 := (HB.out.cell (World.block_lt_of_cell? w _ hx199_0)).trans hx199_0; replace p199 := eq_true p199; replace q199 := eq_true q199))
                          go_roundg k2
                          case measure => have := HJ12.out; have := HK2.out; omega
                          case rel => exact ⟨(wrap64 (x14_2 + 1)), (by first | rfl | (simp; done) | (simp [*]; done)), H', ⟨by have := HJ12.out; have := HK2.out; omega⟩, ⟨by (with_reducible repeat (first | apply Kd.R_alloc | apply Kd.R_drewN | apply Kd.R_drew)); exact HO_6.out⟩, ⟨by (with_reducible repeat (first | apply Kd.R_alloc | apply Kd.R_drewN | apply Kd.R_drew)); exact HO_7.out⟩, ⟨by (with_reducible repeat (first | apply Kd.R_alloc | apply Kd.R_drewN | apply Kd.R_drew)); exact HO_8.out⟩, ⟨by repeat (first | (with_reducible first | exact HB.out | apply below_alloc | apply pw_below_drewN | apply below_drew1) | exact HB.out)⟩⟩
                        · rw [if_neg c41] at H
                          have c41b0 : (t197 == (rd l0zji5_ x14_2)) = false := beq_eq_false_iff_ne.mpr c41
                          have c41b1 : (t197 != (rd l0zji5_ x14_2)) = true := bne_iff_ne.mpr c41
                          obtain rfl := Option.some.inj H
                          go_wp2_with (first | ((with_reducible refine gate_callee (f := 23) rfl ?_); refine goesL_ (some 89) rfl rfl Try.func23 (by kernel_rfl) rfl #[.slice Ao20 t177.length co20, .int .i64 x14_2] rfl (by (try simp only [List.map_toArray, List.map_cons, List.map_nil]); first | done | rfl | (simp only [List.length_drop, List.length_take]; rfl)) ?_; (with_reducible refine (plain_IntAt.calls k2 _ _ t177 x14_2 t197 true _ ?side1 ?side2 A38.out).mono ?_); (case side1 => repeat (first | exact (Kd.R_reads' HO_7.out).2.2 | (with_reducible refine Kd.C_alloc ?_ _) | (with_reducible refine Kd.C_drewN ?_ _) | (with_reducible refine Kd.C_drew ?_))); (case side2 => exact (Kd.R_reads' HO_7.out).2.1); rintro e w' ⟨rfl, ⟨nd, rfl⟩⟩; refine ⟨_, rfl, ?_⟩; have p199 : 0 ≤ (x14_2 : Int) := of_decide_eq_true (by first | (with_reducible assumption) | assumption); have q199 : x14_2 < (l0zji5_.length : Int) := of_decide_eq_true (by first | (with_reducible assumption) | assumption); obtain ⟨ad199, e199, hx199_0⟩ := Kd.at_int HR173.out x14_2 p199 q199; cases e199; replace hx199_0 := (HB.out.cell (World.block_lt_of_cell? w _ hx199_0)).trans hx199_0; replace p199 := eq_true p199; replace q199 := eq_true q199))
                          go_ret
                          exact ⟨by first | rfl | (simp [errW_none, errW_some] <;> rfl) | (simp only [← hji5]; first | rfl | (simp [errW_none, errW_some] <;> rfl)) | (simp [*, errW_none, errW_some] <;> rfl), by repeat (first | (with_reducible first | exact HB.out | apply below_alloc | apply pw_below_drewN | apply below_drew1) | exact HB.out)⟩
                      · rw [if_neg c40] at H
                        exact absurd H (by simp)
                    · replace c39 := Bool.eq_false_iff.mpr c39
                      subst c39
                      have H1 : (some false) = some r := by rw [if_neg (show ¬ (false = true) by decide)] at H; exact H
                      clear H
                      have H := H1
                      clear H1
                      obtain rfl := Option.some.inj H
                      go_wp2_with (first | ((with_reducible refine gate_callee (f := 23) rfl ?_); refine goesL_ (some 89) rfl rfl Try.func23 (by kernel_rfl) rfl #[.slice Ao20 t177.length co20, .int .i64 x14_2] rfl (by (try simp only [List.map_toArray, List.map_cons, List.map_nil]); first | done | rfl | (simp only [List.length_drop, List.length_take]; rfl)) ?_; (with_reducible refine (plain_IntAt.calls k2 _ _ t177 x14_2 t197 false _ ?side1 ?side2 A38.out).mono ?_); (case side1 => repeat (first | exact (Kd.R_reads' HO_7.out).2.2 | (with_reducible refine Kd.C_alloc ?_ _) | (with_reducible refine Kd.C_drewN ?_ _) | (with_reducible refine Kd.C_drew ?_))); (case side2 => exact (Kd.R_reads' HO_7.out).2.1); rintro e w' ⟨rfl, ⟨nd, rfl⟩⟩; refine ⟨_, rfl, ?_⟩))
                      go_ret
                      exact ⟨by first | rfl | (simp [errW_none, errW_some] <;> rfl) | (simp only [← hji5]; first | rfl | (simp [errW_none, errW_some] <;> rfl)) | (simp [*, errW_none, errW_some] <;> rfl), by repeat (first | (with_reducible first | exact HB.out | apply below_alloc | apply pw_below_drewN | apply below_drew1) | exact HB.out)⟩
                  · rw [if_neg c37] at H
                    have c37b0 : decide (x14_2 < (l0zji5_.length : Int)) = false := decide_eq_false c37
                    (try (have c37b0y_ := c37b0; simp only [List.length_drop, List.length_take] at c37b0y_))
                    clear c37
                    have H' := Aside0.mk H
                    clear H
                    go_wp2
                    (try simp only [add_plain])
                    go_loopg [17] k2 (fun kq v17 w' => ∃ (x17_3 : Int), v17 = .int .i64 x17_3 ∧ Aside0 (colonnadelaw08_PlainBack.l1 kq l0zji5_ t174 t177 t180 x17_3 = some r) ∧ Aside0 (kq ≤ k2) ∧ Aside0 (Kd.R Kd.string 9 w' w.heap.size (fun _ => True) (.slice Ao18 t174.length co18) t174) ∧ Aside0 (Kd.R (Kd.int .u8) 5 w' w.heap.size (fun k_ => some k_ ≠ ((.slice Ao22 t180.length co22) : Value).ownBlock) (.slice Ao20 t177.length co20) t177) ∧ Aside0 (Kd.R (Kd.int .u8) 5 w' w.heap.size (fun k_ => some k_ ≠ ((.slice Ao20 t177.length co20) : Value).ownBlock) (.slice Ao22 t180.length co22) t180) ∧ Aside0 (Below w.heap.size w w'))
                    case atStart => exact ⟨(0), (by first | rfl | (simp; done) | (simp [*]; done)), H', ⟨Nat.le_refl _⟩, ⟨by (with_reducible repeat (first | apply Kd.R_alloc | apply Kd.R_drewN | apply Kd.R_drew)); exact HO_6.out⟩, ⟨by (with_reducible repeat (first | apply Kd.R_alloc | apply Kd.R_drewN | apply Kd.R_drew)); exact HO_7.out⟩, ⟨by (with_reducible repeat (first | apply Kd.R_alloc | apply Kd.R_drewN | apply Kd.R_drew)); exact HO_8.out⟩, ⟨by repeat (first | (with_reducible first | exact HB.out | apply below_alloc | apply pw_below_drewN | apply below_drew1) | exact HB.out)⟩⟩
                    case round =>
                      clear H'
                      try clear c1
                      try clear p1
                      try clear q1
                      try clear hx1
                      try clear c2
                      try clear p2
                      try clear c3
                      try clear c4
                      try clear c6
                      try clear c6b0
                      try clear c6b1
                      try clear p6
                      try clear c7
                      try clear c7b0
                      try clear c7b1
                      try clear c13
                      try clear c14
                      try clear c16
                      try clear p19
                      try clear q19
                      try clear hx19
                      try clear c21
                      try clear c23
                      try clear c25
                      try clear c25b0
                      try clear c25b1
                      try clear c26
                      try clear c27
                      try clear c27b0
                      try clear c27b1
                      try clear c29
                      try clear c29b0
                      try clear c29b1
                      try clear c30
                      try clear c31
                      try clear c36
                      try clear c37
                      try clear c37b0
                      try clear c39
                      try clear c40
                      try clear c40b0
                      try clear c41
                      try clear c41b0
                      try clear c41b1
                      try clear hx199_0
                      try clear p199
                      try clear p2
                      try clear q199
                      obtain ⟨x17_3, rfl, HA, HK3, HO_6, HO_7, HO_8, HB⟩ := hrel
                      cases gk with
                      | zero => exact absurd HA.out (by simp [colonnadelaw08_PlainBack.l1])
                      | succ k3 =>
                        have H := HA.out
                        clear HA
                        simp only [colonnadelaw08_PlainBack.l1] at H
                        by_cases c42 : x17_3 < (t174.length : Int)
                        · rw [if_pos c42] at H
                          have c42b0 : decide (x17_3 < (t174.length : Int)) = true := decide_eq_true c42
                          clear c42
                          replace H := Option.bind_eq_some_iff.mp H
                          obtain ⟨⟨t200, t201⟩, A430, H⟩ := H
                          replace H : (if t201 = true then (if 0 ≤ x17_3 then (if t200.toList = (rdOf ByteArray.empty t174 x17_3).toList then (colonnadelaw08_PlainBack.l1 k3 l0zji5_ t174 t177 t180 (wrap64 (x17_3 + 1))) else (some false)) else (none)) else (some false)) = some r := H
                          have A43 := Aside0.mk A430
                          clear A430
                          by_cases c44 : t201 = true
                          · subst c44
                            have H1 : (if 0 ≤ x17_3 then (if t200.toList = (rdOf ByteArray.empty t174 x17_3).toList then (colonnadelaw08_PlainBack.l1 k3 l0zji5_ t174 t177 t180 (wrap64 (x17_3 + 1))) else (some false)) else (none)) = some r := by rw [if_pos rfl] at H; exact H
                            clear H
                            have H := H1
                            clear H1
                            by_cases c45 : 0 ≤ x17_3
                            · rw [if_pos c45] at H
                              have c45b0 : decide (0 ≤ x17_3) = true := decide_eq_true c45
                              clear c45
                              by_cases c46 : t200.toList = (rdOf ByteArray.empty t174 x17_3).toList
                              · rw [if_pos c46] at H
                                have c46b0 : (t200.toList == (rdOf ByteArray.empty t174 x17_3).toList) = true := beq_iff_eq.mpr c46
                                have c46b1 : (t200.toList != (rdOf ByteArray.empty t174 x17_3).toList) = false := bne_eq_false_iff_eq.mpr c46
                                clear c46
                                have H' := Aside0.mk H
                                clear H
                                go_wp2_with (first | ((with_reducible refine gate_callee (f := 28) rfl ?_); refine goesL_ (some 113) rfl rfl Try.func28 (by kernel_rfl) rfl #[.slice Ao22 t180.length co22, .int .i64 (t174.length : Int), .int .i64 x17_3] rfl (by (try simp only [List.map_toArray, List.map_cons, List.map_nil]); first | done | rfl | (simp only [List.length_drop, List.length_take]; rfl)) ?_; (with_reducible refine (plain_TextAt.calls k3 _ _ t180 (t174.length : Int) x17_3 t200 true _ ?side1 ?side2 A43.out).mono ?_); (case side1 => repeat (first | exact (Kd.R_reads' HO_8.out).2.2 | (with_reducible refine Kd.C_alloc ?_ _) | (with_reducible refine Kd.C_drewN ?_ _) | (with_reducible refine Kd.C_drew ?_))); (case side2 => exact (Kd.R_reads' HO_8.out).2.1); rintro e w' ⟨rfl, ⟨nd, rfl⟩⟩; refine ⟨_, rfl, ?_⟩; have p202 : 0 ≤ (x17_3 : Int) := of_decide_eq_true (by first | (with_reducible assumption) | assumption); have q202 : x17_3 < (t174.length : Int) := of_decide_eq_true (by first | (with_reducible assumption) | assumption); obtain ⟨ad202, e202, hx202_0⟩ := Kd.at_string (Kd.R_reads' HO_6.out).2.2 x17_3 p202 q202; cases e202; replace p202 := eq_true p202; replace q202 := eq_true q202))
                                go_roundg k3
                                case measure => have := HJ12.out; have := HK2.out; have := HK3.out; omega
                                case rel => exact ⟨(wrap64 (x17_3 + 1)), (by first | rfl | (simp; done) | (simp [*]; done)), H', ⟨by have := HJ12.out; have := HK2.out; have := HK3.out; omega⟩, ⟨by (with_reducible repeat (first | apply Kd.R_alloc | apply Kd.R_drewN | apply Kd.R_drew)); exact HO_6.out⟩, ⟨by (with_reducible repeat (first | apply Kd.R_alloc | apply Kd.R_drewN | apply Kd.R_drew)); exact HO_7.out⟩, ⟨by (with_reducible repeat (first | apply Kd.R_alloc | apply Kd.R_drewN | apply Kd.R_drew)); exact HO_8.out⟩, ⟨by repeat (first | (with_reducible first | exact HB.out | apply below_alloc | apply pw_below_drewN | apply below_drew1) | exact HB.out)⟩⟩
                              · rw [if_neg c46] at H
                                have c46b0 : (t200.toList == (rdOf ByteArray.empty t174 x17_3).toList) = false := beq_eq_false_iff_ne.mpr c46
                                have c46b1 : (t200.toList != (rdOf ByteArray.empty t174 x17_3).toList) = true := bne_iff_ne.mpr c46
                                obtain rfl := Option.some.inj H
                                go_wp2_with (first | ((with_reducible refine gate_callee (f := 28) rfl ?_); refine goesL_ (some 113) rfl rfl Try.func28 (by kernel_rfl) rfl #[.slice Ao22 t180.length co22, .int .i64 (t174.length : Int), .int .i64 x17_3] rfl (by (try simp only [List.map_toArray, List.map_cons, List.map_nil]); first | done | rfl | (simp only [List.length_drop, List.length_take]; rfl)) ?_; (with_reducible refine (plain_TextAt.calls k3 _ _ t180 (t174.length : Int) x17_3 t200 true _ ?side1 ?side2 A43.out).mono ?_); (case side1 => repeat (first | exact (Kd.R_reads' HO_8.out).2.2 | (with_reducible refine Kd.C_alloc ?_ _) | (with_reducible refine Kd.C_drewN ?_ _) | (with_reducible refine Kd.C_drew ?_))); (case side2 => exact (Kd.R_reads' HO_8.out).2.1); rintro e w' ⟨rfl, ⟨nd, rfl⟩⟩; refine ⟨_, rfl, ?_⟩; have p202 : 0 ≤ (x17_3 : Int) := of_decide_eq_true (by first | (with_reducible assumption) | assumption); have q202 : x17_3 < (t174.length : Int) := of_decide_eq_true (by first | (with_reducible assumption) | assumption); obtain ⟨ad202, e202, hx202_0⟩ := Kd.at_string (Kd.R_reads' HO_6.out).2.2 x17_3 p202 q202; cases e202; replace p202 := eq_true p202; replace q202 := eq_true q202))
                                go_ret
                                exact ⟨by first | rfl | (simp [errW_none, errW_some] <;> rfl) | (simp only [← hji5]; first | rfl | (simp [errW_none, errW_some] <;> rfl)) | (simp [*, errW_none, errW_some] <;> rfl), by repeat (first | (with_reducible first | exact HB.out | apply below_alloc | apply pw_below_drewN | apply below_drew1) | exact HB.out)⟩
                            · rw [if_neg c45] at H
                              exact absurd H (by simp)
                          · replace c44 := Bool.eq_false_iff.mpr c44
                            subst c44
                            have H1 : (some false) = some r := by rw [if_neg (show ¬ (false = true) by decide)] at H; exact H
                            clear H
                            have H := H1
                            clear H1
                            obtain rfl := Option.some.inj H
                            go_wp2_with (first | ((with_reducible refine gate_callee (f := 28) rfl ?_); refine goesL_ (some 113) rfl rfl Try.func28 (by kernel_rfl) rfl #[.slice Ao22 t180.length co22, .int .i64 (t174.length : Int), .int .i64 x17_3] rfl (by (try simp only [List.map_toArray, List.map_cons, List.map_nil]); first | done | rfl | (simp only [List.length_drop, List.length_take]; rfl)) ?_; (with_reducible refine (plain_TextAt.calls k3 _ _ t180 (t174.length : Int) x17_3 t200 false _ ?side1 ?side2 A43.out).mono ?_); (case side1 => repeat (first | exact (Kd.R_reads' HO_8.out).2.2 | (with_reducible refine Kd.C_alloc ?_ _) | (with_reducible refine Kd.C_drewN ?_ _) | (with_reducible refine Kd.C_drew ?_))); (case side2 => exact (Kd.R_reads' HO_8.out).2.1); rintro e w' ⟨rfl, ⟨nd, rfl⟩⟩; refine ⟨_, rfl, ?_⟩))
                            go_ret
                            exact ⟨by first | rfl | (simp [errW_none, errW_some] <;> rfl) | (simp only [← hji5]; first | rfl | (simp [errW_none, errW_some] <;> rfl)) | (simp [*, errW_none, errW_some] <;> rfl), by repeat (first | (with_reducible first | exact HB.out | apply below_alloc | apply pw_below_drewN | apply below_drew1) | exact HB.out)⟩
                        · rw [if_neg c42] at H
                          have c42b0 : decide (x17_3 < (t174.length : Int)) = false := decide_eq_false c42
                          clear c42
                          replace H := Option.bind_eq_some_iff.mp H
                          obtain ⟨⟨t203, t204⟩, A470, H⟩ := H
                          replace H : ((plain_TextAt.f k3 t180 (t174.length : Int) (t174.length : Int)).bind fun bt205 => (if t204 = true then (some false) else (some (!bt205.2)))) = some r := H
                          have A47 := Aside0.mk A470
                          clear A470
                          replace H := Option.bind_eq_some_iff.mp H
                          obtain ⟨⟨t205, t206⟩, A480, H⟩ := H
                          replace H : (if t204 = true then (some false) else (some (!t206))) = some r := H
                          have A48 := Aside0.mk A480
                          clear A480
                          by_cases c49 : t204 = true
                          · subst c49
                            have H1 : (some false) = some r := by rw [if_pos rfl] at H; exact H
                            clear H
                            have H := H1
                            clear H1
                            obtain rfl := Option.some.inj H
                            go_wp2_with (first | ((with_reducible refine gate_callee (f := 23) rfl ?_); refine goesL_ (some 130) rfl rfl Try.func23 (by kernel_rfl) rfl #[.slice Ao20 t177.length co20, .int .i64 (l0zji5_.length : Int)] rfl (by (try simp only [List.map_toArray, List.map_cons, List.map_nil]); first | done | (simp only [hji5]; rfl) | rfl | (simp only [List.length_drop, List.length_take]; rfl)) ?_; (with_reducible refine (plain_IntAt.calls k3 _ _ t177 (l0zji5_.length : Int) t203 true _ ?side1 ?side2 A47.out).mono ?_); (case side1 => repeat (first | exact (Kd.R_reads' HO_7.out).2.2 | (with_reducible refine Kd.C_alloc ?_ _) | (with_reducible refine Kd.C_drewN ?_ _) | (with_reducible refine Kd.C_drew ?_))); (case side2 => exact (Kd.R_reads' HO_7.out).2.1); rintro e w' ⟨rfl, ⟨nd, rfl⟩⟩; refine ⟨_, rfl, ?_⟩) | ((with_reducible refine gate_callee (f := 28) rfl ?_); refine goesL_ (some 139) rfl rfl Try.func28 (by kernel_rfl) rfl #[.slice Ao22 t180.length co22, .int .i64 (t174.length : Int), .int .i64 (t174.length : Int)] rfl (by (try simp only [List.map_toArray, List.map_cons, List.map_nil]); first | done | rfl | (simp only [List.length_drop, List.length_take]; rfl)) ?_; (with_reducible refine (plain_TextAt.calls k3 _ _ t180 (t174.length : Int) (t174.length : Int) t205 t206 _ ?side1 ?side2 A48.out).mono ?_); (case side1 => repeat (first | exact (Kd.R_reads' HO_8.out).2.2 | (with_reducible refine Kd.C_alloc ?_ _) | (with_reducible refine Kd.C_drewN ?_ _) | (with_reducible refine Kd.C_drew ?_))); (case side2 => exact (Kd.R_reads' HO_8.out).2.1); rintro e w' ⟨rfl, ⟨nd, rfl⟩⟩; refine ⟨_, rfl, ?_⟩))
                            go_ret
                            exact ⟨by first | rfl | (simp [errW_none, errW_some] <;> rfl) | (simp only [← hji5]; first | rfl | (simp [errW_none, errW_some] <;> rfl)) | (simp [*, errW_none, errW_some] <;> rfl), by repeat (first | (with_reducible first | exact HB.out | apply below_alloc | apply pw_below_drewN | apply below_drew1) | exact HB.out)⟩
                          · replace c49 := Bool.eq_false_iff.mpr c49
                            subst c49
                            have H1 : (some (!t206)) = some r := by rw [if_neg (show ¬ (false = true) by decide)] at H; exact H
                            clear H
                            have H := H1
                            clear H1
                            obtain rfl := Option.some.inj H
                            go_wp2_with (first | ((with_reducible refine gate_callee (f := 23) rfl ?_); refine goesL_ (some 130) rfl rfl Try.func23 (by kernel_rfl) rfl #[.slice Ao20 t177.length co20, .int .i64 (l0zji5_.length : Int)] rfl (by (try simp only [List.map_toArray, List.map_cons, List.map_nil]); first | done | (simp only [hji5]; rfl) | rfl | (simp only [List.length_drop, List.length_take]; rfl)) ?_; (with_reducible refine (plain_IntAt.calls k3 _ _ t177 (l0zji5_.length : Int) t203 false _ ?side1 ?side2 A47.out).mono ?_); (case side1 => repeat (first | exact (Kd.R_reads' HO_7.out).2.2 | (with_reducible refine Kd.C_alloc ?_ _) | (with_reducible refine Kd.C_drewN ?_ _) | (with_reducible refine Kd.C_drew ?_))); (case side2 => exact (Kd.R_reads' HO_7.out).2.1); rintro e w' ⟨rfl, ⟨nd, rfl⟩⟩; refine ⟨_, rfl, ?_⟩) | ((with_reducible refine gate_callee (f := 28) rfl ?_); refine goesL_ (some 139) rfl rfl Try.func28 (by kernel_rfl) rfl #[.slice Ao22 t180.length co22, .int .i64 (t174.length : Int), .int .i64 (t174.length : Int)] rfl (by (try simp only [List.map_toArray, List.map_cons, List.map_nil]); first | done | rfl | (simp only [List.length_drop, List.length_take]; rfl)) ?_; (with_reducible refine (plain_TextAt.calls k3 _ _ t180 (t174.length : Int) (t174.length : Int) t205 t206 _ ?side1 ?side2 A48.out).mono ?_); (case side1 => repeat (first | exact (Kd.R_reads' HO_8.out).2.2 | (with_reducible refine Kd.C_alloc ?_ _) | (with_reducible refine Kd.C_drewN ?_ _) | (with_reducible refine Kd.C_drew ?_))); (case side2 => exact (Kd.R_reads' HO_8.out).2.1); rintro e w' ⟨rfl, ⟨nd, rfl⟩⟩; refine ⟨_, rfl, ?_⟩))
                            go_ret
                            exact ⟨by first | rfl | (simp [errW_none, errW_some] <;> rfl) | (simp only [← hji5]; first | rfl | (simp [errW_none, errW_some] <;> rfl)) | (simp [*, errW_none, errW_some] <;> rfl), by repeat (first | (with_reducible first | exact HB.out | apply below_alloc | apply pw_below_drewN | apply below_drew1) | exact HB.out)⟩
      · rw [if_neg c7] at H
        exact absurd H (by simp)
    · rw [if_neg c6] at H
      exact absurd H (by simp)
  · replace c4 := Bool.eq_false_iff.mpr c4
    subst c4
    have H1 : (some false) = some r := by rw [if_neg (show ¬ (false = true) by decide)] at H; exact H
    clear H
    have H := H1
    clear H1
    obtain rfl := Option.some.inj H
    go_enter Try.func6, Try.ntmps6
    go_wp2_with (first | ((with_reducible refine gate_callee (f := 29) rfl ?_); refine goesL_ (some 24) rfl rfl Try.func29 (by kernel_rfl) rfl #[] rfl (by (try simp only [List.map_toArray, List.map_cons, List.map_nil]); first | done | rfl | (simp only [List.length_drop, List.length_take]; rfl)) ?_; (with_reducible refine (colonnadelaw08_awake.calls k  false _ A3.out).mono ?_); rintro e w50 ⟨rfl, hb⟩; refine ⟨_, rfl, ?_⟩; have n0_ := Aside0.mk (below_step (by repeat (first | (with_reducible first | exact HB.out | apply below_alloc | apply pw_below_drewN | apply below_drew1) | exact HB.out)) hb); clear HB; have HB := n0_; clear n0_; (try clear hb); (try clear hb2); (try clear hk); (try clear hi)))
    go_ret
    exact ⟨by first | rfl | (simp [errW_none, errW_some] <;> rfl) | (simp [*, errW_none, errW_some] <;> rfl), by repeat (first | (with_reducible first | exact HB.out | apply below_alloc | apply pw_below_drewN | apply below_drew1) | exact HB.out)⟩

end Go.Proofs.Ytkepimkabfoapab.PPlainBack
