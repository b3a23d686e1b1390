/- Bytes lent: a slice of one's own with marks in the room behind it (bytesLent), and the look at them (bytesKept), each for every input. -/
import Derived.Test.YtkepimkabfoapabProg
import Derived.Test.YtkepimkabfoapabWMore
import Derived.Test.YtkepimkabfoapabWLast
import Derived.Below
import Derived.Deep.Draws
import Derived.Deep.AppendLies
import Derived.Maps.AppendAt
import Derived.OwnWalk
import Derived.Laws.BytesArg
import Derived.Laws.MakeOwn
import Derived.Laws.OwnMore
import Derived.Deep.OwnRows
import Derived.Tactics
import Derived.Lib.ConvBytes
import Derived.Laws.Slices
import Derived.WalkKit
import Derived.KernelRfl
import Derived.RowKit3
import Derived.Deep.LoopGhost
import Derived.Deep.QuietTactic
import Derived.BigQuiet
import Derived.WideLaws
import Derived.Laws.Rows
import Derived.ArgAppend
import Derived.OrdersHeld
import Derived.RowKit
import Derived.Lib.Bytes
namespace Go.Proofs.Ytkepimkabfoapab.XLent
open Go.RowKit Go.Proofs.YtkepimkabfoapabW.PrintWords Go.Proofs.YtkepimkabfoapabW.PrintLast Go.Proofs.YtkepimkabfoapabW.PrintMore
attribute [local go_sem] max2_int min2_int max_two min_two max_three min_three max_four min_four   -- for this text's walks alone
set_option linter.unusedVariables false
set_option linter.unusedSimpArgs false
theorem info5 : (Try.prog.info? 5).map (fun i => (i.zero, i.size, i.bytes)) = some (some (.int .u8 0), 1, 1) := by kernel_rfl
def lentL : Nat → List Int → List Int → Int → Option (List Int)
  | 0, _, _, _ => none
  | k + 1, x0, x3, x4 => if x4 < 66 then (if x3.length < 140737488355328 then (lentL k x0 (x3 ++ [(wrap64 (150 + x4)) % 256]) (wrap64 (x4 + 1))) else (none)) else (if 0 ≤ (x0.length : Int) then (if (x0.length : Int) ≤ (x3.length : Int) then (some x3) else (none)) else (none))
def lentF (k : Nat) (l0 : List Int) : Option (List Int) := (some (([] : List Int) : List Int)).bind fun y103 => (if y103.length + l0.length < 140737488355328 then (lentL k l0 (y103 ++ l0) 0) else (none))
def mark (i : Nat) : Int := (150 + (i : Int)) % 256
def marks : List Int := (List.range 66).map mark
theorem marks_length : marks.length = 66 := rfl
theorem lentL_eq (l : List Int) (hl : l.length < 140737488355228) : ∀ m i, i + m = 66 → lentL (m + 1) l (l ++ (List.range i).map mark) (i : Int) = some (l ++ marks)
  | 0, i, hi => by
    obtain rfl : i = 66 := by omega
    rw [Nat.zero_add, lentL, if_neg (by omega), if_pos (by omega), if_pos (by rw [List.length_append]; omega)]; rfl
  | m + 1, i, hi => by
    have h1 : wrap64 (150 + (i : Int)) % 256 = mark i := by unfold mark wrap64; omega
    have h2 : wrap64 ((i : Int) + 1) = ((i + 1 : Nat) : Int) := by unfold wrap64; omega
    rw [lentL, if_pos (by omega), if_pos (by rw [List.length_append, List.length_map, List.length_range]; omega), h1, h2, List.append_assoc, show (List.range i).map mark ++ [mark i] = (List.range (i + 1)).map mark from by rw [List.range_succ, List.map_append]; rfl]
    exact lentL_eq l hl m (i + 1) (by omega)
theorem lentF_eq (l : List Int) (hl : l.length < 140737488355228) : lentF 67 l = some (l ++ marks) := by
  have h := lentL_eq l hl 66 0 (by omega)
  rw [lentF, Option.bind_some, if_pos (by rw [List.length_nil]; omega), List.nil_append]
  rw [show (List.range 0).map mark = [] from rfl, List.append_nil] at h
  exact h
/-- a slice of one's own, marks in the room behind it -/
def LR (w : World) (base : Nat) (ok : Nat → Prop) (v : Value) (xs : List Int) : Prop :=
  ∃ g co, v = .slice (some ⟨g, 0, none⟩) xs.length co ∧ Kd.R (Kd.int .u8) 5 w base ok (.slice (some ⟨g, 0, none⟩) (xs.length + 66) co) (xs ++ marks)
theorem LR.r {w : World} {base : Nat} {ok : Nat → Prop} {v : Value} {xs : List Int} (h : LR w base ok v xs) : Kd.R (Kd.int .u8) 5 w base ok v xs := by
  obtain ⟨g, co, rfl, hr⟩ := h
  have h2 := Kd.R_take (m := xs.length) hr (by rw [List.length_append]; omega)
  rw [List.take_left] at h2
  exact h2
section
variable {w w1 : World} {base : Nat} {ok ok' : Nat → Prop} {v u : Value} {xs : List Int}
theorem LR_mono (h : LR w base ok v xs) (hok : ∀ k, ok k → ok' k) : LR w base ok' v xs := by obtain ⟨g, co, e, hr⟩ := h; exact ⟨g, co, e, Kd.R_mono hr hok⟩
theorem LR_below (h : LR w base ok v xs) (hb : Below w.heap.size w w1) : LR w1 base ok v xs := by obtain ⟨g, co, e, hr⟩ := h; exact ⟨g, co, e, Kd.R_below hr hb⟩
theorem LR_lower {base' : Nat} (h : LR w base ok v xs) (hb : base' ≤ base) : LR w base' ok v xs := by obtain ⟨g, co, e, hr⟩ := h; exact ⟨g, co, e, Kd.R_lower hr hb⟩
theorem LR_elder' (h : LR w base ok u xs) (hbase : ∀ k, v.ownBlock = some k → w.heap.size ≤ k) (hb : Below w.heap.size w w1) : LR w1 base (fun k => ok k ∧ some k ≠ v.ownBlock) u xs := by obtain ⟨g, co, e, hr⟩ := h; exact ⟨g, co, e, Kd.R_elder' hr hbase hb⟩
theorem LR_over' {e' : Nat} (h : LR w base ok u xs) (hty : ∀ k, v.ownBlock = some k → ∃ cells, w.heap[k]? = some (.cells cells e' (0, 0))) (ht : ∀ q, q ∈ 5 :: (Kd.int .u8).E → q ≠ e') (hg : w.grownBy w1 v.ownBlock) : LR w1 base ok u xs := by obtain ⟨g, co, e, hr⟩ := h; exact ⟨g, co, e, Kd.R_over' hr hty ht hg⟩
theorem LR_grown (h : LR w base ok v xs) {row : Option Nat} (hg : w.grownBy w1 row) (hok : ∀ k, ok k → some k ≠ row) : LR w1 base ok v xs := by obtain ⟨g, co, e, hr⟩ := h; exact ⟨g, co, e, Kd.R_grown hr hg hok⟩
theorem LR_after {v1 : Value} (h : LR w base (fun k => ok k ∧ some k ≠ v.ownBlock) u xs) (hg : w.grownBy w1 v.ownBlock) (hat : v1.ownBlock = v.ownBlock ∨ ∃ b, v1.ownBlock = some b ∧ w.heap.size ≤ b) : LR w1 base (fun k => ok k ∧ some k ≠ v1.ownBlock) u xs := by obtain ⟨g, co, e, hr⟩ := h; exact ⟨g, co, e, Kd.R_after hr hg hat⟩
theorem LR_alloc (h : LR w base ok v xs) (o : Obj) : LR (w.alloc o) base ok v xs := by obtain ⟨g, co, e, hr⟩ := h; exact ⟨g, co, e, Kd.R_alloc hr o⟩
theorem LR_drew (h : LR w base ok v xs) : LR w.drew base ok v xs := by obtain ⟨g, co, e, hr⟩ := h; exact ⟨g, co, e, Kd.R_drew hr⟩
theorem LR_drewN (h : LR w base ok v xs) (m : Nat) : LR (w.drewN m) base ok v xs := by obtain ⟨g, co, e, hr⟩ := h; exact ⟨g, co, e, Kd.R_drewN hr m⟩
theorem LR_putg {g n cap : Nat} (h : LR w base ok (.slice (some ⟨g, 0, none⟩) n cap) xs) (i : Int) (x : Int) (hi : i.toNat < xs.length) :
    LR (w.setCell ⟨g, i.toNat, none⟩ (.int .u8 x)) base ok (.slice (some ⟨g, 0, none⟩) n cap) (xs.set i.toNat x) ∧ w.grownBy (w.setCell ⟨g, i.toNat, none⟩ (.int .u8 x)) (some g) := by
  obtain ⟨g', co, e, hr⟩ := h
  injection e with e1 e2 e3
  injection e1 with e1
  injection e1 with e1
  subst e1 e2 e3
  have hp := Kd.R_putg hr i x
  rw [List.set_append_left _ _ hi] at hp
  exact ⟨⟨g, cap, by rw [List.length_set], by rw [List.length_set]; exact hp.1⟩, hp.2⟩
/-- the same, as it is read -/
def LK (w : World) (A : Option Addr) (c : Nat) (xs : List Int) : Prop := Kd.C (Kd.int .u8) w A (xs ++ marks).length (xs ++ marks) ∧ xs.length + 66 ≤ c
theorem LR.k {A : Option Addr} {n c : Nat} (h : LR w base ok (.slice A n c) xs) : LK w A c xs := by
  obtain ⟨g', co, e, hr⟩ := h
  injection e with e1 e2 e3
  subst e1 e2 e3
  obtain ⟨_, h2, h3⟩ := Kd.R_reads' hr
  exact ⟨h3, h2⟩
theorem LK_alloc {A : Option Addr} {c : Nat} (h : LK w A c xs) (o : Obj) : LK (w.alloc o) A c xs := ⟨Kd.C_alloc h.1 o, h.2⟩
theorem LK_drewN {A : Option Addr} {c : Nat} (h : LK w A c xs) (m : Nat) : LK (w.drewN m) A c xs := ⟨Kd.C_drewN h.1 m, h.2⟩
theorem LK_drew {A : Option Addr} {c : Nat} (h : LK w A c xs) : LK w.drew A c xs := ⟨Kd.C_drew h.1, h.2⟩
end
set_option maxHeartbeats 8000000 in
set_option maxRecDepth 100000 in
theorem lentRaw (k : Nat) (A0 : Option Addr) (c0 : Nat) (l0 : List Int) (r : List Int) (w : World) (hr0 : Kd.C (Kd.int .u8) w A0 l0.length l0) (hc0 : l0.length ≤ c0) (h : lentF k l0 = some r) :
    Calls Try.prog 19 #[.slice A0 l0.length c0] w fun e w' => ∃ (A : Option Addr) (co : Nat), e = .returned (.slice A l0.length co) ∧ Kd.R (Kd.int .u8) 5 w' w.heap.size (fun _ => True) (.slice A r.length co) r ∧ Below w.heap.size w w' := by
  have HR0 := Aside0.mk hr0
  have HC0 := Aside0.mk hc0
  clear hr0 hc0
  have HB := Aside0.mk (Below.refl w.heap.size w)
  have H : ((some (([] : List Int) : List Int)).bind fun y103 => (if y103.length + l0.length < 140737488355328 then (lentL k l0 (y103 ++ l0) 0) else (none))) = some r := h
  clear h
  obtain ⟨y103, hy103⟩ : ∃ y_ : List Int, y_ = (([] : List Int)) := ⟨_, rfl⟩
  replace H : (if y103.length + l0.length < 140737488355328 then (lentL k l0 (y103 ++ l0) 0) else (none)) = some r := by first | (rw [hy103]; with_reducible exact H) | (have H2_ := (Option.bind_some _ _).symm.trans H; rw [hy103]; with_reducible exact H2_) | (have H2_ := (Option.bind_some _ _).symm.trans H; with_reducible exact H2_) | with_reducible exact H | (rw [hy103]; exact H) | exact H
  have Ny103 := Aside0.mk hy103
  clear hy103
  by_cases c2 : y103.length + l0.length < 140737488355328
  · rw [if_pos c2] at H
    have LMc2 := Aside0.mk c2
    clear c2
    obtain ⟨y106, hy106⟩ : ∃ y_ : List Int, y_ = (y103 ++ l0) := ⟨_, rfl⟩
    replace H : (lentL k l0 y106 0) = some r := by first | (rw [hy106]; with_reducible exact H) | (have H2_ := (Option.bind_some _ _).symm.trans H; rw [hy106]; with_reducible exact H2_) | (have H2_ := (Option.bind_some _ _).symm.trans H; with_reducible exact H2_) | with_reducible exact H | (rw [hy106]; exact H) | exact H
    have Ny106 := Aside0.mk hy106
    clear hy106
    have H' := Aside0.mk H
    clear H
    go_enter Try.func19, Try.ntmps19
    go_wp2_with (first | ((with_reducible refine gate_dst (N := 5) rfl ?_); refine Kd.R_lit (Kd.int .u8) _ 5 ?hg (N := 5) ?hd (xs := ([] : List Int)) (inner := []) (ok := fun _ => True) (okp := fun _ => True) ?hr ?hp (fun _ hk => hk) trivial (Below.refl _ _) (Nat.le_refl _) (by simp) ?_; (case hd => rfl); (case hg => rfl); (case hr => first | (go_simp; done) | (go_simp; rfl)); (case hp => exact (Reps.none _ _)); intro v104 w3 ho4 hb hg_ hnew_; clear hg_ hnew_; (first | rw [← Ny103.out] at ho4 | (simp only [Int.reduceToNat] at ho4; rw [← Ny103.out] at ho4)); have n0_ := Aside0.mk (Kd.R_lower ho4 (below_size (by repeat (first | (with_reducible first | exact HB.out | apply below_alloc | apply pw_below_drewN | apply below_drew1) | exact HB.out)))); have n1_ := Aside0.mk (below_step (by repeat (first | (with_reducible first | exact HB.out | apply below_alloc | apply pw_below_drewN | apply below_drew1) | exact HB.out)) hb); clear HB; have HO105 := n0_; have HB := n1_; clear n0_ n1_; clear hb ho4) | ((with_reducible refine gate_builtin (b := .append) (xs := #[.tmp 5, .tmp 6]) rfl ?_); at_builtin; refine Kd.R_append_rows (Kd.int .u8) (w0 := w) w.heap.size rfl (.tmp 5) (.tmp 6) 24 5 (.int .u8 0) 1 rfl Try.underlying24 info5 rfl (by decide) (by omega) v104 y103 l0 _ _ _ (fun _ => True) (fun _ => False) rfl rfl ?aO ?aR (fun _ _ h => h) (fun _ h => h.elim) ?aF ?aB ?aS ?aL ?_; (case aR => repeat (first | exact (Kd.C_below HR0.out HB.out) | (with_reducible refine Kd.C_alloc ?_ _) | (with_reducible refine Kd.C_drewN ?_ _) | (with_reducible refine Kd.C_drew ?_))); (case aB => exact (by repeat (first | (with_reducible first | exact HB.out | apply below_alloc | apply pw_below_drewN | apply below_drew1) | exact HB.out))); (case aF => exact (fun _ _ => trivial)); (case aO => exact (by (with_reducible repeat (first | apply Kd.R_alloc | apply Kd.R_drewN | apply Kd.R_drew)); exact HO105.out)); (case aS => exact (below_size (by repeat (first | (with_reducible first | exact HB.out | apply below_alloc | apply pw_below_drewN | apply below_drew1) | exact HB.out)))); (case aL => have := LMc2.out; omega); intro v107 w5 ho hb hg hat; rw [← Ny106.out] at ho; have n0_ := Aside0.mk (hb); have n1_ := Aside0.mk (ho); clear HB; clear HO105; have HB := n0_; have HO108 := n1_; clear n0_ n1_; clear ho hb hg hat))
    go_loopg [3, 4] k (fun kq v3 v4 w' => ∃ (x3_1 : List Int) (x4_1 : Int), v4 = .int .i64 x4_1 ∧ Aside0 (lentL kq l0 x3_1 x4_1 = some r) ∧ Aside0 (kq ≤ k) ∧ Aside0 (Kd.R (Kd.int .u8) 5 w' w.heap.size (fun _ => True) v3 x3_1) ∧ Aside0 (Below w.heap.size w w'))
    case atStart => exact ⟨(y106), (0), (by first | rfl | (simp; done) | (simp [*]; done)), H', ⟨Nat.le_refl _⟩, ⟨by (with_reducible repeat (first | apply Kd.R_alloc | apply Kd.R_drewN | apply Kd.R_drew)); exact HO108.out⟩, ⟨by repeat (first | (with_reducible first | exact HB.out | apply below_alloc | apply pw_below_drewN | apply below_drew1) | exact HB.out)⟩⟩
    case round =>
      clear H'
      obtain ⟨x3_1, x4_1, rfl, HA, HK1, HO_3, HB⟩ := hrel
      cases gk with
      | zero => exact absurd HA.out (by simp [lentL])
      | succ k1 =>
        have H := HA.out
        clear HA
        simp only [lentL] at H
        by_cases c6 : x4_1 < 66
        · rw [if_pos c6] at H
          have c6b0 : decide (x4_1 < 66) = true := decide_eq_true c6
          clear c6
          by_cases c7 : x3_1.length < 140737488355328
          · rw [if_pos c7] at H
            have LMc7 := Aside0.mk c7
            clear c7
            obtain ⟨y109, hy109⟩ : ∃ y_ : List Int, y_ = (x3_1 ++ [(wrap64 (150 + x4_1)) % 256]) := ⟨_, rfl⟩
            replace H : (lentL k1 l0 y109 (wrap64 (x4_1 + 1))) = some r := by first | (rw [hy109]; with_reducible exact H) | (have H2_ := (Option.bind_some _ _).symm.trans H; rw [hy109]; with_reducible exact H2_) | (have H2_ := (Option.bind_some _ _).symm.trans H; with_reducible exact H2_) | with_reducible exact H | (rw [hy109]; exact H) | exact H
            have Ny109 := Aside0.mk hy109
            clear hy109
            have H' := Aside0.mk H
            clear H
            go_wp2_with (first | ((with_reducible refine gate_builtin (b := .append) (xs := #[.tmp 12, .tmp 16]) rfl ?_); at_builtin; refine Kd.R_append (Kd.int .u8) (w0 := w) w.heap.size rfl (.tmp 12) (.tmp 16) 24 5 (.int .u8 0) 1 rfl Try.underlying24 info5 rfl (by decide) (by omega) u3 x3_1 ((wrap64 (150 + x4_1)) % 256) [.int .u8 ((wrap64 (150 + x4_1)) % 256)] (fun _ => True) (fun _ => False) rfl rfl ?aP (fun _ hk => hk.elim) ?aF ?aO ?aB ?aS ?aL ?_; (case aP => exact rfl); (case aB => exact (by repeat (first | (with_reducible first | exact HB.out | apply below_alloc | apply pw_below_drewN | apply below_drew1) | exact HB.out))); (case aF => exact (fun _ _ => trivial)); (case aO => exact (by (with_reducible repeat (first | apply Kd.R_alloc | apply Kd.R_drewN | apply Kd.R_drew)); exact HO_3.out)); (case aS => exact (below_size (by repeat (first | (with_reducible first | exact HB.out | apply below_alloc | apply pw_below_drewN | apply below_drew1) | exact HB.out)))); (case aL => have := LMc7.out; omega); intro v110 w8 ho hb hg hat; rw [← Ny109.out] at ho; have n0_ := Aside0.mk (hb); have n1_ := Aside0.mk (ho); clear HB; clear HO_3; have HB := n0_; have HO111 := n1_; clear n0_ n1_; clear ho hb hg hat))
            go_roundg k1
            case measure => have := HK1.out; omega
            case rel => exact ⟨(y109), (wrap64 (x4_1 + 1)), (by first | rfl | (simp; done) | (simp [*]; done)), H', ⟨by have := HK1.out; omega⟩, ⟨by (with_reducible repeat (first | apply Kd.R_alloc | apply Kd.R_drewN | apply Kd.R_drew)); exact HO111.out⟩, ⟨by repeat (first | (with_reducible first | exact HB.out | apply below_alloc | apply pw_below_drewN | apply below_drew1) | exact HB.out)⟩⟩
          · rw [if_neg c7] at H
            exact absurd H (by simp)
        · rw [if_neg c6] at H
          have c6b0 : decide (x4_1 < 66) = false := decide_eq_false c6
          clear c6
          by_cases c9 : 0 ≤ (l0.length : Int)
          · rw [if_pos c9] at H
            have c9b0 := eq_true c9
            have c9b1 : decide (0 ≤ (l0.length : Int)) = true := decide_eq_true c9
            clear c9
            by_cases c10 : (l0.length : Int) ≤ (x3_1.length : Int)
            · rw [if_pos c10] at H
              have c10b0 := eq_true c10
              have c10b1 : decide ((l0.length : Int) ≤ (x3_1.length : Int)) = true := decide_eq_true c10
              clear c10
              obtain rfl := Option.some.inj H
              obtain ⟨Ao11, co11, eo11⟩ := Kd.R_slice HO_3.out
              subst eo11
              have q12 : ((l0.length : Int) : Int) ≤ ((x3_1.length : Int) : Int) := of_decide_eq_true (by first | (with_reducible assumption) | assumption)
              obtain ⟨i012, hi012, _, hsz12, _⟩ := info_parts info5
              have hcut12 := cut_to (P := Try.prog) 24 5 .i64 Try.underlying24 hi012 Ao11 x3_1.length co11 (l0.length : Int) (of_decide_eq_true (by first | (with_reducible assumption) | assumption)) q12 (Kd.R_reads' HO_3.out).2.1
              rw [Int.toNat_natCast] at hcut12
              clear hi012 hsz12
              replace q12 := eq_true q12
              go_wp2
              go_ret
              exact ⟨_, _, by first | rfl | (simp; done), by (with_reducible repeat (first | apply Kd.R_alloc | apply Kd.R_drewN | apply Kd.R_drew)); exact HO_3.out, by repeat (first | (with_reducible first | exact HB.out | apply below_alloc | apply pw_below_drewN | apply below_drew1) | exact HB.out)⟩
            · rw [if_neg c10] at H
              exact absurd H (by simp)
          · rw [if_neg c9] at H
            exact absurd H (by simp)
  · rw [if_neg c2] at H
    exact absurd H (by simp)
set_option maxHeartbeats 8000000 in
set_option maxRecDepth 100000 in
theorem lent_calls (A0 : Option Addr) (c0 : Nat) (l0 : List Int) (w : World) (hr0 : Kd.C (Kd.int .u8) w A0 l0.length l0) (hc0 : l0.length ≤ c0) (hl : l0.length < 140737488355228) :
    Calls Try.prog 19 #[.slice A0 l0.length c0] w fun e w' => ∃ v0_ : Value, e = .returned v0_ ∧ LR w' w.heap.size (fun _ => True) v0_ l0 ∧ Below w.heap.size w w' := by
  refine (lentRaw 67 A0 c0 l0 _ w hr0 hc0 (lentF_eq l0 hl)).mono ?_
  rintro e w' ⟨A, co, rfl, hr, hb⟩
  have hlen : (l0 ++ marks).length = l0.length + 66 := by rw [List.length_append, marks_length]
  obtain ⟨g, cap, he, _, _, _⟩ := Kd.R_form hr (by rw [hlen]; omega)
  injection he with h1 h2 h3
  subst h1 h3
  rw [hlen] at hr
  exact ⟨_, rfl, ⟨g, co, rfl, hr⟩, hb⟩
theorem rd_marks (l : List Int) (i : Nat) (hi : i < 66) : rd (l ++ marks) ((l.length + i : Nat) : Int) = mark i := by
  unfold rd
  rw [Int.toNat_natCast, List.getD_eq_getElem?_getD, List.getElem?_append_right (by omega), Nat.add_sub_cancel_left]
  simp [marks, hi]
set_option maxHeartbeats 8000000 in
set_option maxRecDepth 100000 in
theorem kept_calls (A0 : Option Addr) (c0 : Nat) (l0 : List Int) (A1 : Option Addr) (c1 : Nat) (l1 : List Int) (w : World) (hr0 : LK w A0 c0 l0) (hr1 : Kd.C (Kd.int .u8) w A1 l1.length l1) (hc1 : l1.length ≤ c1) (hl : l0.length < 140737488355228) :
    Calls Try.prog 24 #[.slice A0 l0.length c0, .slice A1 l1.length c1] w fun e w' => e = .returned (.bool ((strOfNums l0).toList == (strOfNums l1).toList)) ∧ Drawn0 w w' := by
  have HL := Aside0.mk hr0.1
  have hcap := hr0.2
  have hs := Kd.C_take (m := l0.length) hr0.1 (by rw [List.length_append]; omega)
  rw [List.take_left] at hs
  have HR0 := Aside0.mk hs
  clear hs
  have HR1 := Aside0.mk hr1
  have HC1 := Aside0.mk hc1
  clear hr0 hr1 hc1
  by_cases c3 : (strOfNums l0).toList = (strOfNums l1).toList
  · have c3b0 : ((strOfNums l0).toList == (strOfNums l1).toList) = true := beq_iff_eq.mpr c3
    have c3b1 : ((strOfNums l0).toList != (strOfNums l1).toList) = false := bne_eq_false_iff_eq.mpr c3
    have hlen : l1.length = l0.length := by
      have h := congrArg List.length c3
      rw [Lib.strOfNums_toList, Lib.strOfNums_toList, Lib.bytesOf_length, Lib.bytesOf_length] at h
      exact h.symm
    clear c3
    have hcv7 := Kd.C_string (P := Try.prog) (A := A0) (c := c0) Try.underlying24 Try.underlying5 Try.underlying9 HR0.out
    have hcv8 := Kd.C_string (P := Try.prog) (A := A1) (c := c1) Try.underlying24 Try.underlying5 Try.underlying9 HR1.out
    have hw4 : IntKind.i64.wrap ((l1.length : Int) + 66) = ((l0.length + 66 : Nat) : Int) := by rw [i64_w, hlen]; unfold wrap64; omega
    have hw0 : (0 : Int) ≤ ((l0.length + 66 : Nat) : Int) := by omega
    have hw5 : ((l0.length + 66 : Nat) : Int) ≤ (c0 : Int) := by omega
    have HLEN := Aside0.mk hlen
    clear hlen
    rw [c3b0]
    go_enter Try.func24, Try.ntmps24
    go_wp2
    go_loopg [6] 67 (fun kq v6 w' => ∃ i : Nat, i ≤ 66 ∧ Aside0 (kq + i = 67) ∧ v6 = .int .i64 (i : Int) ∧ Drawn0 w w')
    case atStart => exact ⟨0, by omega, ⟨by omega⟩, rfl, by repeat (first | exact Drawn0.refl _ | apply Drawn0.step)⟩
    case round =>
      obtain ⟨i, hi, HK1, rfl, ⟨m1, rfl⟩⟩ := hrel
      by_cases hlt : i < 66
      · have hd1 : decide ((i : Int) < 66) = true := decide_eq_true (by omega)
        obtain ⟨k1, rfl⟩ : ∃ k1, gk = k1 + 1 := ⟨gk - 1, by have := HK1.out; omega⟩
        have hwi : IntKind.i64.wrap ((l1.length : Int) + (i : Int)) = ((l0.length + i : Nat) : Int) := by rw [i64_w, HLEN.out]; unfold wrap64; omega
        have p1 : (0 : Int) ≤ ((l0.length + i : Nat) : Int) := by omega
        obtain ⟨ad, e0, hx0⟩ := Kd.at_int HL.out ((l0.length + i : Nat) : Int) p1 (by rw [List.length_append, marks_length]; omega)
        cases e0
        rw [rd_marks l0 i hlt, Int.toNat_natCast] at hx0
        have hm : mark i = 150 + (i : Int) := by unfold mark; omega
        rw [hm] at hx0
        have hb0 : (150 + (i : Int) == 150 + (i : Int)) = true := beq_self_eq_true _
        have hb1 : (150 + (i : Int) != 150 + (i : Int)) = false := bne_self_eq_false _
        go_wp2
        go_roundg k1
        case measure => have := HK1.out; omega
        case rel => exact ⟨i + 1, by omega, ⟨by have := HK1.out; omega⟩, congrArg (Value.int .i64) (by omega), by repeat (first | exact Drawn0.refl _ | apply Drawn0.step)⟩
      · obtain rfl : i = 66 := by omega
        go_wp2
        go_ret
        exact ⟨rfl, by repeat (first | exact Drawn0.refl _ | apply Drawn0.step)⟩
  · have c3b0 : ((strOfNums l0).toList == (strOfNums l1).toList) = false := beq_eq_false_iff_ne.mpr c3
    have c3b1 : ((strOfNums l0).toList != (strOfNums l1).toList) = true := bne_iff_ne.mpr c3
    rw [c3b0]
    have hcv15 := Kd.C_string (P := Try.prog) (A := A0) (c := c0) Try.underlying24 Try.underlying5 Try.underlying9 HR0.out
    have hcv16 := Kd.C_string (P := Try.prog) (A := A1) (c := c1) Try.underlying24 Try.underlying5 Try.underlying9 HR1.out
    go_enter Try.func24, Try.ntmps24
    go_wp2
    go_ret
    exact ⟨rfl, by repeat (first | exact Drawn0.refl _ | apply Drawn0.step)⟩
end Go.Proofs.Ytkepimkabfoapab.XLent
