-- Written by xprint.py, this session's own program over the kit's print; Lean checks it.
import Derived.Test.YthikgpfehebkgaaPPruneAlgebrax0
import Derived.Test.YthikgpfehebkgaaPPruneAlgebrax2
import Derived.Test.YthikgpfehebkgaaPPruneAlgebrax3
import Derived.Test.YthikgpfehebkgaaPPruneAlgebrax5
import Derived.Test.YthikgpfehebkgaaPPruneAlgebrax7
import Derived.Test.YthikgpfehebkgaaPPruneAlgebrax9
namespace Go.Proofs.Ythikgpfehebkgaa.PPruneAlgebra
open Go.RowKit Go.Proofs.YthikgpfehebkgaaW.PrintWords Go.Proofs.YthikgpfehebkgaaW.PrintLast Go.Proofs.YthikgpfehebkgaaW.PrintMore
attribute [local go_sem] XFloat.run_store_float max2_int min2_int max_two min_two max_three min_three max_four min_four   -- for this text's walks alone
set_option linter.unusedVariables false
set_option linter.unusedSimpArgs false

attribute [local go_sem high] eqA32
-- NOT PRINTED: function 39 (prune_known_says_3)

/-! ### bloom_fit: function 62 -/
-- bloom_fit: not asked here
/-! ### bloom_counts: function 63 -/
-- bloom_counts: not asked here
/-! ### check_Places: function 65 -/
-- check_Places: not asked here
/-! ### check_Hash: function 66 -/
-- check_Hash: not asked here
/-! ### bloom_places: function 64 -/
-- bloom_places: not asked here
/-! ### bloom_Has: function 60 -/
-- bloom_Has: not asked here
/-! ### prune_known_has: function 52 -/
/-- blocks that stand as they were laid, through calls that only make memory -/
structure XHeld.H (w W : World) (l : List (Nat × Obj)) : Prop where
  below : Below w.heap.size w W
  blk : ∀ p ∈ l, W.heap[p.1]? = some p.2
theorem XHeld.H.nil (w : World) : XHeld.H w w [] := ⟨Below.refl _ _, by simp⟩
theorem XHeld.H.step {w W W' : World} {l : List (Nat × Obj)} (h : XHeld.H w W l) (hb : Below W.heap.size W W') : XHeld.H w W' l :=
  ⟨below_then h.below h.below.size hb, fun p hp => blk_below (h.blk p hp) hb⟩
theorem XHeld.H.alloc {w W : World} {l : List (Nat × Obj)} (h : XHeld.H w W l) (o : Obj) : XHeld.H w (W.alloc o) ((W.heap.size, o) :: l) :=
  ⟨below_alloc h.below o, fun p hp => by
    rcases List.mem_cons.mp hp with rfl | hp
    · exact blk_new W o
    · exact blk_alloc (h.blk p hp) o⟩
theorem XHeld.H.drewN {w W : World} {l : List (Nat × Obj)} (h : XHeld.H w W l) (n : Nat) : XHeld.H w (W.drewN n) l := ⟨pw_below_drewN h.below n, h.blk⟩
theorem XHeld.H.drew {w W : World} {l : List (Nat × Obj)} (h : XHeld.H w W l) : XHeld.H w W.drew l := ⟨below_drew1 h.below, h.blk⟩
theorem XHeld.H.get {w W : World} {l : List (Nat × Obj)} (h : XHeld.H w W l) (i : Nat) {g : Nat} {o : Obj} (hi : l[i]? = some (g, o)) : W.heap[g]? = some o := h.blk _ (List.mem_of_getElem? hi)
theorem XHeld.H.at {w W : World} {l : List (Nat × Obj)} (h : XHeld.H w W l) (i j : Nat) {g t : Nat} {cs : Array Value} {v : Value} (hi : l[i]? = some (g, .cells cs t (0, 0))) (hj : cs[j]? = some v) : W.cell? ⟨g, j, none⟩ = some v := (blk_cell (h.get i hi) j).trans hj
def prune_known_has.f (k : Nat) (a0_0 : Int) (a0_1 : Int) (a0_2 : Int) (a0_3 : Nat) (a0_4 : ByteArray) (a0_5 : Int) (a0_6 : Int) (a0_7 : Nat) (a0_8 : ByteArray) (l0_9 : List Int) (a0_10 : Bool) (a0_11 : Bool) (a1_0 : Int) (a1_1 : Int) (a1_2 : Nat) (a1_3 : ByteArray) : Option (Bool) :=
  if a0_11 = true then none else if a0_10 = true then ((value_Compare.f k a1_0 a1_1 a1_2 a1_3 a0_1 a0_2 a0_3 a0_4).bind fun t1 => (if t1 < 0 then (some false) else ((value_Compare.f k a1_0 a1_1 a1_2 a1_3 a0_5 a0_6 a0_7 a0_8).bind fun t2 => (if t2 > 0 then (some false) else (some true))))) else some true
theorem prune_known_has.mono : ∀ a0 a1 a2 a3 a4 a5 a6 a7 a8 a9 a10 a11 b0 b1 b2 b3 k, LeO (prune_known_has.f k a0 a1 a2 a3 a4 a5 a6 a7 a8 a9 a10 a11 b0 b1 b2 b3) (prune_known_has.f (k + 1) a0 a1 a2 a3 a4 a5 a6 a7 a8 a9 a10 a11 b0 b1 b2 b3) := by
  intro a0 a1 a2 a3 a4 a5 a6 a7 a8 a9 a10 a11 b0 b1 b2 b3 k
  unfold prune_known_has.f
  exact LeO.ite (LeO.none _) (LeO.ite (LeO.bind (value_Compare.mono _ _ _ _ _ _ _ _ _) fun _ => LeO.ite (LeO.refl _) (LeO.bind (value_Compare.mono _ _ _ _ _ _ _ _ _) fun _ => LeO.refl _)) (LeO.refl _))
set_option maxHeartbeats 4000000 in
set_option maxRecDepth 100000 in
theorem prune_known_has.calls (k : Nat) (a0_0 : Int) (a0_1 : Int) (a0_2 : Int) (a0_3 : Nat) (a0_4 : ByteArray) (a0_5 : Int) (a0_6 : Int) (a0_7 : Nat) (a0_8 : ByteArray) (A0_9 : Option Addr) (c0_9 : Nat) (l0_9 : List Int) (a0_10 : Bool) (a0_11 : Bool) (a1_0 : Int) (a1_1 : Int) (a1_2 : Nat) (a1_3 : ByteArray) (r : Bool) (w : World) (hr0_9 : Kd.C (Kd.int .u8) w A0_9 l0_9.length l0_9) (hc0_9 : l0_9.length ≤ c0_9) (h : prune_known_has.f k a0_0 a0_1 a0_2 a0_3 a0_4 a0_5 a0_6 a0_7 a0_8 l0_9 a0_10 a0_11 a1_0 a1_1 a1_2 a1_3 = some r) :
    Calls Try.prog 52 #[.agg #[.int .i64 a0_0, .int .i64 a0_1, .int .i64 a0_2, .float .f64 a0_3, .string a0_4, .int .i64 a0_5, .int .i64 a0_6, .float .f64 a0_7, .string a0_8, .slice A0_9 l0_9.length c0_9, .bool a0_10, .bool a0_11], .agg #[.int .i64 a1_0, .int .i64 a1_1, .float .f64 a1_2, .string a1_3]] w fun e w' => e = .returned (.bool r) ∧ Below w.heap.size w w' := by
  clear hr0_9 hc0_9
  unfold prune_known_has.f at h
  cases a0_11 with
  | true => exact absurd h (by simp)
  | false =>
    rw [if_neg (by decide)] at h
    cases a0_10 with
    | false =>
      obtain rfl := Option.some.inj h
      clear h
      go_enter Try.func52, Try.ntmps52
      go_wp2_with fail
      go_ret
      exact ⟨rfl, below_alloc (below_alloc (Below.refl _ _) _) _⟩
    | true =>
      rw [if_pos rfl] at h
      obtain ⟨t1, e1, h⟩ := Option.bind_eq_some_iff.mp h
      have HE1 := Aside0.mk e1
      have HH := Aside0.mk (((XHeld.H.nil w).alloc (.cells #[.int .i64 a0_0, .int .i64 a0_1, .int .i64 a0_2, .float .f64 a0_3, .string a0_4, .int .i64 a0_5, .int .i64 a0_6, .float .f64 a0_7, .string a0_8, .slice A0_9 l0_9.length c0_9, .bool true, .bool false] 60 (0, 0))).alloc (.cells #[.int .i64 a1_0, .int .i64 a1_1, .float .f64 a1_2, .string a1_3] 32 (0, 0)))
      simp only [World.size_alloc] at HH
      clear e1
      go_enter Try.func52, Try.ntmps52
      go_wp2_with fail
      refine (value_Compare.calls k _ _ _ _ _ _ _ _ t1 _ HE1.out).mono ?_
      rintro e w1 ⟨rfl, hb⟩
      have HH1 := Aside0.mk (HH.out.step hb)
      clear hb HH
      by_cases h1 : t1 < 0
      · rw [if_pos h1] at h
        obtain rfl := Option.some.inj h
        have h1b : decide (t1 < 0) = true := decide_eq_true h1
        clear h
        go_wp2_with fail
        go_ret
        exact ⟨rfl, HH1.out.below⟩
      · rw [if_neg h1] at h
        have h1b : decide (t1 < 0) = false := decide_eq_false h1
        obtain ⟨t2, e2, h⟩ := Option.bind_eq_some_iff.mp h
        have HE2 := Aside0.mk e2
        clear e2
        have q0 := HH1.out.at 0 0 rfl rfl
        have q1 := HH1.out.at 0 1 rfl rfl
        have q2 := HH1.out.at 0 2 rfl rfl
        have q3 := HH1.out.at 0 3 rfl rfl
        have k5 := HH1.out.at 1 5 rfl rfl
        have k6 := HH1.out.at 1 6 rfl rfl
        have k7 := HH1.out.at 1 7 rfl rfl
        have k8 := HH1.out.at 1 8 rfl rfl
        go_wp2_with fail
        refine (value_Compare.calls k _ _ _ _ _ _ _ _ t2 _ HE2.out).mono ?_
        rintro e w2 ⟨rfl, hb⟩
        have HH2 := Aside0.mk (HH1.out.step hb)
        clear hb HH1 q0 q1 q2 q3 k5 k6 k7 k8
        by_cases h2 : t2 > 0
        · rw [if_pos h2] at h
          obtain rfl := Option.some.inj h
          have h2b : decide (t2 > 0) = true := decide_eq_true h2
          clear h
          go_wp2_with fail
          go_ret
          exact ⟨rfl, HH2.out.below⟩
        · rw [if_neg h2] at h
          have h2b : decide (t2 > 0) = false := decide_eq_false h2
          obtain rfl := Option.some.inj h
          have k11 := HH2.out.at 1 11 rfl rfl
          clear h
          go_wp2_with fail
          go_ret
          exact ⟨rfl, HH2.out.below⟩

/-! ### prune_known_alone: function 53 -/
def prune_known_alone.f (a0_0 : Int) (a0_1 : Int) (a0_2 : Int) (a0_3 : Nat) (a0_4 : ByteArray) (a0_5 : Int) (a0_6 : Int) (a0_7 : Nat) (a0_8 : ByteArray) (l0_9 : List Int) (a0_10 : Bool) (a0_11 : Bool) (a1_0 : Int) (a1_1 : Int) (a1_2 : Nat) (a1_3 : ByteArray) : Option (Bool) := if a0_10 = true then (if (a0_1 == a1_0 && (a0_2 == a1_1 && ((FloatKind.f64.format.order a0_3 a1_2 == some .eq) && (a0_4.toList == a1_3.toList)))) = true then (some (a0_5 == a1_0 && (a0_6 == a1_1 && ((FloatKind.f64.format.order a0_7 a1_2 == some .eq) && (a0_8.toList == a1_3.toList))))) else (some false)) else (some false)
set_option maxHeartbeats 8000000 in
set_option maxRecDepth 100000 in
theorem prune_known_alone.calls (a0_0 : Int) (a0_1 : Int) (a0_2 : Int) (a0_3 : Nat) (a0_4 : ByteArray) (a0_5 : Int) (a0_6 : Int) (a0_7 : Nat) (a0_8 : ByteArray) (A0_9 : Option Addr) (c0_9 : Nat) (l0_9 : List Int) (a0_10 : Bool) (a0_11 : Bool) (a1_0 : Int) (a1_1 : Int) (a1_2 : Nat) (a1_3 : ByteArray) (r : Bool) (w : World) (hr0_9 : Kd.C (Kd.int .u8) w A0_9 l0_9.length l0_9) (hc0_9 : l0_9.length ≤ c0_9) (h : prune_known_alone.f a0_0 a0_1 a0_2 a0_3 a0_4 a0_5 a0_6 a0_7 a0_8 l0_9 a0_10 a0_11 a1_0 a1_1 a1_2 a1_3 = some r) :
    Calls Try.prog 53 #[.agg #[.int .i64 a0_0, .int .i64 a0_1, .int .i64 a0_2, .float .f64 a0_3, .string a0_4, .int .i64 a0_5, .int .i64 a0_6, .float .f64 a0_7, .string a0_8, .slice A0_9 l0_9.length c0_9, .bool a0_10, .bool a0_11], .agg #[.int .i64 a1_0, .int .i64 a1_1, .float .f64 a1_2, .string a1_3]] w fun e w' => e = .returned (.bool r) ∧ Below w.heap.size w w' := by
  have hu60 := Try.underlying60
  have hu32 := Try.underlying32
  have HR0_9 := Aside0.mk hr0_9
  have HC0_9 := Aside0.mk hc0_9
  clear hr0_9 hc0_9
  have HB := Aside0.mk (Below.refl w.heap.size w)
  have H : (if a0_10 = true then (if (a0_1 == a1_0 && (a0_2 == a1_1 && ((FloatKind.f64.format.order a0_3 a1_2 == some .eq) && (a0_4.toList == a1_3.toList)))) = true then (some (a0_5 == a1_0 && (a0_6 == a1_1 && ((FloatKind.f64.format.order a0_7 a1_2 == some .eq) && (a0_8.toList == a1_3.toList))))) else (some false)) else (some false)) = some r := h
  clear h
  by_cases c3 : a0_10 = true
  · subst c3
    have H1 : (if (a0_1 == a1_0 && (a0_2 == a1_1 && ((FloatKind.f64.format.order a0_3 a1_2 == some .eq) && (a0_4.toList == a1_3.toList)))) = true then (some (a0_5 == a1_0 && (a0_6 == a1_1 && ((FloatKind.f64.format.order a0_7 a1_2 == some .eq) && (a0_8.toList == a1_3.toList))))) else (some false)) = some r := by rw [if_pos rfl] at H; exact H
    clear H
    have H := H1
    clear H1
    by_cases c4 : (a0_1 == a1_0 && (a0_2 == a1_1 && ((FloatKind.f64.format.order a0_3 a1_2 == some .eq) && (a0_4.toList == a1_3.toList)))) = true
    · rw [if_pos c4] at H
      have c4b0 : (a0_1 == a1_0 && (a0_2 == a1_1 && ((FloatKind.f64.format.order a0_3 a1_2 == some .eq) && (a0_4.toList == a1_3.toList)))) = true := c4
      (try (have c4b1 : decide (a0_1 = a1_0 && (a0_2 == a1_1 && ((FloatKind.f64.format.order a0_3 a1_2 == some .eq) && (a0_4.toList == a1_3.toList)))) = true := by simpa using c4))
      (try (have c4b2 : (a0_1 == a1_0 && (a0_2 == a1_1 && ((FloatKind.f64.format.order a0_3 a1_2 == some .eq) && (a0_4.toList == a1_3.toList)))) = true := by simpa using c4))
      clear c4
      obtain rfl := Option.some.inj H
      go_enter Try.func53, Try.ntmps53
      go_wp2_with (first | ((with_reducible refine gate_dst (N := 2) rfl ?_); refine box_event ?hg (N := 2) ?hd (cs := #[.int .i64 a0_0, .int .i64 a0_1, .int .i64 a0_2, .float .f64 a0_3, .string a0_4, .int .i64 a0_5, .int .i64 a0_6, .float .f64 a0_7, .string a0_8, .slice A0_9 l0_9.length c0_9, .bool true, .bool a0_11]) (t := 60) ?hr ?_; (case hd => rfl); (case hg => rfl); (case hr => first | (go_simp; done) | (go_simp; rfl)); intro gb170 hg w5 hbox hb; have n0_ := Aside0.mk (below_step (by repeat (first | (with_reducible first | exact HB.out | apply below_alloc | apply pw_below_drewN | apply below_drew1) | exact HB.out)) hb); have n1_ := Aside0.mk (hbox); have n2_ := Aside0.mk ((by rw [hg]; exact (below_size (by repeat (first | (with_reducible first | exact HB.out | apply below_alloc | apply pw_below_drewN | apply below_drew1) | exact HB.out))) : w.heap.size ≤ gb170)); have n3_ := Aside0.mk ((by rw [hg]; exact (below_size (by repeat (first | (with_reducible first | exact HB.out | apply below_alloc | apply pw_below_drewN | apply below_drew1) | exact HB.out))) : w.heap.size ≤ gb170)); clear HB; have HB := n0_; have BK170 := n1_; have GW170 := n2_; have GE170 := n3_; clear n0_ n1_ n2_ n3_; clear hb hbox hg) | ((with_reducible refine gate_dst (N := 3) rfl ?_); refine box_event ?hg (N := 3) ?hd (cs := #[.int .i64 a1_0, .int .i64 a1_1, .float .f64 a1_2, .string a1_3]) (t := 32) ?hr ?_; (case hd => rfl); (case hg => rfl); (case hr => first | (go_simp; done) | (go_simp; rfl)); intro gb171 hg w6 hbox hb; have n0_ := Aside0.mk (blk_below (g := gb170) (o := .cells #[.int .i64 a0_0, .int .i64 a0_1, .int .i64 a0_2, .float .f64 a0_3, .string a0_4, .int .i64 a0_5, .int .i64 a0_6, .float .f64 a0_7, .string a0_8, .slice A0_9 l0_9.length c0_9, .bool true, .bool a0_11] 60 (0, 0)) (by (with_reducible repeat (first | refine blk_drewN ?_ _ | refine blk_drew ?_ | refine blk_alloc ?_ _)); exact BK170.out) hb); have n1_ := Aside0.mk (below_step (by repeat (first | (with_reducible first | exact HB.out | apply below_alloc | apply pw_below_drewN | apply below_drew1 | refine below_set ?_ GE170.out) | exact HB.out)) hb); have n2_ := Aside0.mk (hbox); have n3_ := Aside0.mk ((by rw [hg]; exact (below_size (by repeat (first | (with_reducible first | exact HB.out | apply below_alloc | apply pw_below_drewN | apply below_drew1 | refine below_set ?_ GE170.out) | exact HB.out))) : w.heap.size ≤ gb171)); have n4_ := Aside0.mk ((by rw [hg]; exact (below_size (by repeat (first | (with_reducible first | exact HB.out | apply below_alloc | apply pw_below_drewN | apply below_drew1 | refine below_set ?_ GE170.out) | exact HB.out))) : w.heap.size ≤ gb171)); have n5_ := Aside0.mk ((by rw [hg]; exact Nat.ne_of_lt (blk_lt (g := gb170) (o := .cells #[.int .i64 a0_0, .int .i64 a0_1, .int .i64 a0_2, .float .f64 a0_3, .string a0_4, .int .i64 a0_5, .int .i64 a0_6, .float .f64 a0_7, .string a0_8, .slice A0_9 l0_9.length c0_9, .bool true, .bool a0_11] 60 (0, 0)) (by (with_reducible repeat (first | refine blk_drewN ?_ _ | refine blk_drew ?_ | refine blk_alloc ?_ _)); exact BK170.out)) : gb170 ≠ gb171)); have n6_ := Aside0.mk ((by rw [hg]; exact Nat.ne_of_gt (blk_lt (g := gb170) (o := .cells #[.int .i64 a0_0, .int .i64 a0_1, .int .i64 a0_2, .float .f64 a0_3, .string a0_4, .int .i64 a0_5, .int .i64 a0_6, .float .f64 a0_7, .string a0_8, .slice A0_9 l0_9.length c0_9, .bool true, .bool a0_11] 60 (0, 0)) (by (with_reducible repeat (first | refine blk_drewN ?_ _ | refine blk_drew ?_ | refine blk_alloc ?_ _)); exact BK170.out)) : gb171 ≠ gb170)); clear BK170; clear HB; have BK170 := n0_; have HB := n1_; have BK171 := n2_; have GW171 := n3_; have GE171 := n4_; have NB170_171 := n5_; have NB171_170 := n6_; clear n0_ n1_ n2_ n3_ n4_ n5_ n6_; clear hb hbox hg; have hnb7 := NB170_171.out; have hnc7 := NB171_170.out; have hcz8_0 : w6.cell? ⟨gb170, 0, none⟩ = some (.int .i64 a0_0) := (blk_cell BK170.out 0).trans rfl; have hcz8_1 : w6.cell? ⟨gb170, 1, none⟩ = some (.int .i64 a0_1) := (blk_cell BK170.out 1).trans rfl; have hcz8_2 : w6.cell? ⟨gb170, 2, none⟩ = some (.int .i64 a0_2) := (blk_cell BK170.out 2).trans rfl; have hcz8_3 : w6.cell? ⟨gb170, 3, none⟩ = some (.float .f64 a0_3) := (blk_cell BK170.out 3).trans rfl; have hcz8_4 : w6.cell? ⟨gb170, 4, none⟩ = some (.string a0_4) := (blk_cell BK170.out 4).trans rfl; have hcz8_5 : w6.cell? ⟨gb170, 5, none⟩ = some (.int .i64 a0_5) := (blk_cell BK170.out 5).trans rfl; have hcz8_6 : w6.cell? ⟨gb170, 6, none⟩ = some (.int .i64 a0_6) := (blk_cell BK170.out 6).trans rfl; have hcz8_7 : w6.cell? ⟨gb170, 7, none⟩ = some (.float .f64 a0_7) := (blk_cell BK170.out 7).trans rfl; have hcz8_8 : w6.cell? ⟨gb170, 8, none⟩ = some (.string a0_8) := (blk_cell BK170.out 8).trans rfl; have hcz8_9 : w6.cell? ⟨gb170, 9, none⟩ = some (.slice A0_9 l0_9.length c0_9) := (blk_cell BK170.out 9).trans rfl; have hcz8_10 : w6.cell? ⟨gb170, 10, none⟩ = some (.bool true) := (blk_cell BK170.out 10).trans rfl; have hcz8_11 : w6.cell? ⟨gb170, 11, none⟩ = some (.bool a0_11) := (blk_cell BK170.out 11).trans rfl; have hfz8_0 := blk_frozen BK170.out 0; have hfz8_1 := blk_frozen BK170.out 1; have hfz8_2 := blk_frozen BK170.out 2; have hfz8_3 := blk_frozen BK170.out 3; have hfz8_4 := blk_frozen BK170.out 4; have hfz8_5 := blk_frozen BK170.out 5; have hfz8_6 := blk_frozen BK170.out 6; have hfz8_7 := blk_frozen BK170.out 7; have hfz8_8 := blk_frozen BK170.out 8; have hfz8_9 := blk_frozen BK170.out 9; have hfz8_10 := blk_frozen BK170.out 10; have hfz8_11 := blk_frozen BK170.out 11; have hcz9_0 : w6.cell? ⟨gb171, 0, none⟩ = some (.int .i64 a1_0) := (blk_cell BK171.out 0).trans rfl; have hcz9_1 : w6.cell? ⟨gb171, 1, none⟩ = some (.int .i64 a1_1) := (blk_cell BK171.out 1).trans rfl; have hcz9_2 : w6.cell? ⟨gb171, 2, none⟩ = some (.float .f64 a1_2) := (blk_cell BK171.out 2).trans rfl; have hcz9_3 : w6.cell? ⟨gb171, 3, none⟩ = some (.string a1_3) := (blk_cell BK171.out 3).trans rfl; have hfz9_0 := blk_frozen BK171.out 0; have hfz9_1 := blk_frozen BK171.out 1; have hfz9_2 := blk_frozen BK171.out 2; have hfz9_3 := blk_frozen BK171.out 3))
      go_ret
      exact ⟨by first | rfl | (simp [errW_none, errW_some] <;> rfl) | (simp [*, errW_none, errW_some] <;> rfl), by repeat (first | (with_reducible first | exact HB.out | apply below_alloc | apply pw_below_drewN | apply below_drew1 | refine below_set ?_ GE170.out | refine below_set ?_ GE171.out) | exact HB.out)⟩
    · rw [if_neg c4] at H
      have c4b0 : (a0_1 == a1_0 && (a0_2 == a1_1 && ((FloatKind.f64.format.order a0_3 a1_2 == some .eq) && (a0_4.toList == a1_3.toList)))) = false := by simpa using c4
      (try (have c4b1 : decide (a0_1 = a1_0 && (a0_2 == a1_1 && ((FloatKind.f64.format.order a0_3 a1_2 == some .eq) && (a0_4.toList == a1_3.toList)))) = false := by simpa using c4))
      (try (have c4b2 : (a0_1 == a1_0 && (a0_2 == a1_1 && ((FloatKind.f64.format.order a0_3 a1_2 == some .eq) && (a0_4.toList == a1_3.toList)))) = false := by simpa using c4))
      (try (have c4b3 : ¬ (a0_1 = a1_0 && (a0_2 == a1_1 && ((FloatKind.f64.format.order a0_3 a1_2 == some .eq) && (a0_4.toList == a1_3.toList)))) := by simpa using c4))
      clear c4
      obtain rfl := Option.some.inj H
      go_enter Try.func53, Try.ntmps53
      go_wp2_with (first | ((with_reducible refine gate_dst (N := 2) rfl ?_); refine box_event ?hg (N := 2) ?hd (cs := #[.int .i64 a0_0, .int .i64 a0_1, .int .i64 a0_2, .float .f64 a0_3, .string a0_4, .int .i64 a0_5, .int .i64 a0_6, .float .f64 a0_7, .string a0_8, .slice A0_9 l0_9.length c0_9, .bool true, .bool a0_11]) (t := 60) ?hr ?_; (case hd => rfl); (case hg => rfl); (case hr => first | (go_simp; done) | (go_simp; rfl)); intro gb170 hg w10 hbox hb; have n0_ := Aside0.mk (below_step (by repeat (first | (with_reducible first | exact HB.out | apply below_alloc | apply pw_below_drewN | apply below_drew1) | exact HB.out)) hb); have n1_ := Aside0.mk (hbox); have n2_ := Aside0.mk ((by rw [hg]; exact (below_size (by repeat (first | (with_reducible first | exact HB.out | apply below_alloc | apply pw_below_drewN | apply below_drew1) | exact HB.out))) : w.heap.size ≤ gb170)); have n3_ := Aside0.mk ((by rw [hg]; exact (below_size (by repeat (first | (with_reducible first | exact HB.out | apply below_alloc | apply pw_below_drewN | apply below_drew1) | exact HB.out))) : w.heap.size ≤ gb170)); clear HB; have HB := n0_; have BK170 := n1_; have GW170 := n2_; have GE170 := n3_; clear n0_ n1_ n2_ n3_; clear hb hbox hg) | ((with_reducible refine gate_dst (N := 3) rfl ?_); refine box_event ?hg (N := 3) ?hd (cs := #[.int .i64 a1_0, .int .i64 a1_1, .float .f64 a1_2, .string a1_3]) (t := 32) ?hr ?_; (case hd => rfl); (case hg => rfl); (case hr => first | (go_simp; done) | (go_simp; rfl)); intro gb171 hg w11 hbox hb; have n0_ := Aside0.mk (blk_below (g := gb170) (o := .cells #[.int .i64 a0_0, .int .i64 a0_1, .int .i64 a0_2, .float .f64 a0_3, .string a0_4, .int .i64 a0_5, .int .i64 a0_6, .float .f64 a0_7, .string a0_8, .slice A0_9 l0_9.length c0_9, .bool true, .bool a0_11] 60 (0, 0)) (by (with_reducible repeat (first | refine blk_drewN ?_ _ | refine blk_drew ?_ | refine blk_alloc ?_ _)); exact BK170.out) hb); have n1_ := Aside0.mk (below_step (by repeat (first | (with_reducible first | exact HB.out | apply below_alloc | apply pw_below_drewN | apply below_drew1 | refine below_set ?_ GE170.out) | exact HB.out)) hb); have n2_ := Aside0.mk (hbox); have n3_ := Aside0.mk ((by rw [hg]; exact (below_size (by repeat (first | (with_reducible first | exact HB.out | apply below_alloc | apply pw_below_drewN | apply below_drew1 | refine below_set ?_ GE170.out) | exact HB.out))) : w.heap.size ≤ gb171)); have n4_ := Aside0.mk ((by rw [hg]; exact (below_size (by repeat (first | (with_reducible first | exact HB.out | apply below_alloc | apply pw_below_drewN | apply below_drew1 | refine below_set ?_ GE170.out) | exact HB.out))) : w.heap.size ≤ gb171)); have n5_ := Aside0.mk ((by rw [hg]; exact Nat.ne_of_lt (blk_lt (g := gb170) (o := .cells #[.int .i64 a0_0, .int .i64 a0_1, .int .i64 a0_2, .float .f64 a0_3, .string a0_4, .int .i64 a0_5, .int .i64 a0_6, .float .f64 a0_7, .string a0_8, .slice A0_9 l0_9.length c0_9, .bool true, .bool a0_11] 60 (0, 0)) (by (with_reducible repeat (first | refine blk_drewN ?_ _ | refine blk_drew ?_ | refine blk_alloc ?_ _)); exact BK170.out)) : gb170 ≠ gb171)); have n6_ := Aside0.mk ((by rw [hg]; exact Nat.ne_of_gt (blk_lt (g := gb170) (o := .cells #[.int .i64 a0_0, .int .i64 a0_1, .int .i64 a0_2, .float .f64 a0_3, .string a0_4, .int .i64 a0_5, .int .i64 a0_6, .float .f64 a0_7, .string a0_8, .slice A0_9 l0_9.length c0_9, .bool true, .bool a0_11] 60 (0, 0)) (by (with_reducible repeat (first | refine blk_drewN ?_ _ | refine blk_drew ?_ | refine blk_alloc ?_ _)); exact BK170.out)) : gb171 ≠ gb170)); clear BK170; clear HB; have BK170 := n0_; have HB := n1_; have BK171 := n2_; have GW171 := n3_; have GE171 := n4_; have NB170_171 := n5_; have NB171_170 := n6_; clear n0_ n1_ n2_ n3_ n4_ n5_ n6_; clear hb hbox hg; have hnb12 := NB170_171.out; have hnc12 := NB171_170.out; have hcz13_0 : w11.cell? ⟨gb170, 0, none⟩ = some (.int .i64 a0_0) := (blk_cell BK170.out 0).trans rfl; have hcz13_1 : w11.cell? ⟨gb170, 1, none⟩ = some (.int .i64 a0_1) := (blk_cell BK170.out 1).trans rfl; have hcz13_2 : w11.cell? ⟨gb170, 2, none⟩ = some (.int .i64 a0_2) := (blk_cell BK170.out 2).trans rfl; have hcz13_3 : w11.cell? ⟨gb170, 3, none⟩ = some (.float .f64 a0_3) := (blk_cell BK170.out 3).trans rfl; have hcz13_4 : w11.cell? ⟨gb170, 4, none⟩ = some (.string a0_4) := (blk_cell BK170.out 4).trans rfl; have hcz13_5 : w11.cell? ⟨gb170, 5, none⟩ = some (.int .i64 a0_5) := (blk_cell BK170.out 5).trans rfl; have hcz13_6 : w11.cell? ⟨gb170, 6, none⟩ = some (.int .i64 a0_6) := (blk_cell BK170.out 6).trans rfl; have hcz13_7 : w11.cell? ⟨gb170, 7, none⟩ = some (.float .f64 a0_7) := (blk_cell BK170.out 7).trans rfl; have hcz13_8 : w11.cell? ⟨gb170, 8, none⟩ = some (.string a0_8) := (blk_cell BK170.out 8).trans rfl; have hcz13_9 : w11.cell? ⟨gb170, 9, none⟩ = some (.slice A0_9 l0_9.length c0_9) := (blk_cell BK170.out 9).trans rfl; have hcz13_10 : w11.cell? ⟨gb170, 10, none⟩ = some (.bool true) := (blk_cell BK170.out 10).trans rfl; have hcz13_11 : w11.cell? ⟨gb170, 11, none⟩ = some (.bool a0_11) := (blk_cell BK170.out 11).trans rfl; have hfz13_0 := blk_frozen BK170.out 0; have hfz13_1 := blk_frozen BK170.out 1; have hfz13_2 := blk_frozen BK170.out 2; have hfz13_3 := blk_frozen BK170.out 3; have hfz13_4 := blk_frozen BK170.out 4; have hfz13_5 := blk_frozen BK170.out 5; have hfz13_6 := blk_frozen BK170.out 6; have hfz13_7 := blk_frozen BK170.out 7; have hfz13_8 := blk_frozen BK170.out 8; have hfz13_9 := blk_frozen BK170.out 9; have hfz13_10 := blk_frozen BK170.out 10; have hfz13_11 := blk_frozen BK170.out 11; have hcz14_0 : w11.cell? ⟨gb171, 0, none⟩ = some (.int .i64 a1_0) := (blk_cell BK171.out 0).trans rfl; have hcz14_1 : w11.cell? ⟨gb171, 1, none⟩ = some (.int .i64 a1_1) := (blk_cell BK171.out 1).trans rfl; have hcz14_2 : w11.cell? ⟨gb171, 2, none⟩ = some (.float .f64 a1_2) := (blk_cell BK171.out 2).trans rfl; have hcz14_3 : w11.cell? ⟨gb171, 3, none⟩ = some (.string a1_3) := (blk_cell BK171.out 3).trans rfl; have hfz14_0 := blk_frozen BK171.out 0; have hfz14_1 := blk_frozen BK171.out 1; have hfz14_2 := blk_frozen BK171.out 2; have hfz14_3 := blk_frozen BK171.out 3))
      go_ret
      exact ⟨by first | rfl | (simp [errW_none, errW_some] <;> rfl) | (simp [*, errW_none, errW_some] <;> rfl), by repeat (first | (with_reducible first | exact HB.out | apply below_alloc | apply pw_below_drewN | apply below_drew1 | refine below_set ?_ GE170.out | refine below_set ?_ GE171.out) | exact HB.out)⟩
  · replace c3 := Bool.eq_false_iff.mpr c3
    subst c3
    have H1 : (some false) = some r := by rw [if_neg (show ¬ (false = true) by decide)] at H; exact H
    clear H
    have H := H1
    clear H1
    obtain rfl := Option.some.inj H
    go_enter Try.func53, Try.ntmps53
    go_wp2_with (first | ((with_reducible refine gate_dst (N := 2) rfl ?_); refine box_event ?hg (N := 2) ?hd (cs := #[.int .i64 a0_0, .int .i64 a0_1, .int .i64 a0_2, .float .f64 a0_3, .string a0_4, .int .i64 a0_5, .int .i64 a0_6, .float .f64 a0_7, .string a0_8, .slice A0_9 l0_9.length c0_9, .bool false, .bool a0_11]) (t := 60) ?hr ?_; (case hd => rfl); (case hg => rfl); (case hr => first | (go_simp; done) | (go_simp; rfl)); intro gb170 hg w15 hbox hb; have n0_ := Aside0.mk (below_step (by repeat (first | (with_reducible first | exact HB.out | apply below_alloc | apply pw_below_drewN | apply below_drew1) | exact HB.out)) hb); have n1_ := Aside0.mk (hbox); have n2_ := Aside0.mk ((by rw [hg]; exact (below_size (by repeat (first | (with_reducible first | exact HB.out | apply below_alloc | apply pw_below_drewN | apply below_drew1) | exact HB.out))) : w.heap.size ≤ gb170)); have n3_ := Aside0.mk ((by rw [hg]; exact (below_size (by repeat (first | (with_reducible first | exact HB.out | apply below_alloc | apply pw_below_drewN | apply below_drew1) | exact HB.out))) : w.heap.size ≤ gb170)); clear HB; have HB := n0_; have BK170 := n1_; have GW170 := n2_; have GE170 := n3_; clear n0_ n1_ n2_ n3_; clear hb hbox hg) | ((with_reducible refine gate_dst (N := 3) rfl ?_); refine box_event ?hg (N := 3) ?hd (cs := #[.int .i64 a1_0, .int .i64 a1_1, .float .f64 a1_2, .string a1_3]) (t := 32) ?hr ?_; (case hd => rfl); (case hg => rfl); (case hr => first | (go_simp; done) | (go_simp; rfl)); intro gb171 hg w16 hbox hb; have n0_ := Aside0.mk (blk_below (g := gb170) (o := .cells #[.int .i64 a0_0, .int .i64 a0_1, .int .i64 a0_2, .float .f64 a0_3, .string a0_4, .int .i64 a0_5, .int .i64 a0_6, .float .f64 a0_7, .string a0_8, .slice A0_9 l0_9.length c0_9, .bool false, .bool a0_11] 60 (0, 0)) (by (with_reducible repeat (first | refine blk_drewN ?_ _ | refine blk_drew ?_ | refine blk_alloc ?_ _)); exact BK170.out) hb); have n1_ := Aside0.mk (below_step (by repeat (first | (with_reducible first | exact HB.out | apply below_alloc | apply pw_below_drewN | apply below_drew1 | refine below_set ?_ GE170.out) | exact HB.out)) hb); have n2_ := Aside0.mk (hbox); have n3_ := Aside0.mk ((by rw [hg]; exact (below_size (by repeat (first | (with_reducible first | exact HB.out | apply below_alloc | apply pw_below_drewN | apply below_drew1 | refine below_set ?_ GE170.out) | exact HB.out))) : w.heap.size ≤ gb171)); have n4_ := Aside0.mk ((by rw [hg]; exact (below_size (by repeat (first | (with_reducible first | exact HB.out | apply below_alloc | apply pw_below_drewN | apply below_drew1 | refine below_set ?_ GE170.out) | exact HB.out))) : w.heap.size ≤ gb171)); have n5_ := Aside0.mk ((by rw [hg]; exact Nat.ne_of_lt (blk_lt (g := gb170) (o := .cells #[.int .i64 a0_0, .int .i64 a0_1, .int .i64 a0_2, .float .f64 a0_3, .string a0_4, .int .i64 a0_5, .int .i64 a0_6, .float .f64 a0_7, .string a0_8, .slice A0_9 l0_9.length c0_9, .bool false, .bool a0_11] 60 (0, 0)) (by (with_reducible repeat (first | refine blk_drewN ?_ _ | refine blk_drew ?_ | refine blk_alloc ?_ _)); exact BK170.out)) : gb170 ≠ gb171)); have n6_ := Aside0.mk ((by rw [hg]; exact Nat.ne_of_gt (blk_lt (g := gb170) (o := .cells #[.int .i64 a0_0, .int .i64 a0_1, .int .i64 a0_2, .float .f64 a0_3, .string a0_4, .int .i64 a0_5, .int .i64 a0_6, .float .f64 a0_7, .string a0_8, .slice A0_9 l0_9.length c0_9, .bool false, .bool a0_11] 60 (0, 0)) (by (with_reducible repeat (first | refine blk_drewN ?_ _ | refine blk_drew ?_ | refine blk_alloc ?_ _)); exact BK170.out)) : gb171 ≠ gb170)); clear BK170; clear HB; have BK170 := n0_; have HB := n1_; have BK171 := n2_; have GW171 := n3_; have GE171 := n4_; have NB170_171 := n5_; have NB171_170 := n6_; clear n0_ n1_ n2_ n3_ n4_ n5_ n6_; clear hb hbox hg; have hnb17 := NB170_171.out; have hnc17 := NB171_170.out; have hcz18_0 : w16.cell? ⟨gb170, 0, none⟩ = some (.int .i64 a0_0) := (blk_cell BK170.out 0).trans rfl; have hcz18_1 : w16.cell? ⟨gb170, 1, none⟩ = some (.int .i64 a0_1) := (blk_cell BK170.out 1).trans rfl; have hcz18_2 : w16.cell? ⟨gb170, 2, none⟩ = some (.int .i64 a0_2) := (blk_cell BK170.out 2).trans rfl; have hcz18_3 : w16.cell? ⟨gb170, 3, none⟩ = some (.float .f64 a0_3) := (blk_cell BK170.out 3).trans rfl; have hcz18_4 : w16.cell? ⟨gb170, 4, none⟩ = some (.string a0_4) := (blk_cell BK170.out 4).trans rfl; have hcz18_5 : w16.cell? ⟨gb170, 5, none⟩ = some (.int .i64 a0_5) := (blk_cell BK170.out 5).trans rfl; have hcz18_6 : w16.cell? ⟨gb170, 6, none⟩ = some (.int .i64 a0_6) := (blk_cell BK170.out 6).trans rfl; have hcz18_7 : w16.cell? ⟨gb170, 7, none⟩ = some (.float .f64 a0_7) := (blk_cell BK170.out 7).trans rfl; have hcz18_8 : w16.cell? ⟨gb170, 8, none⟩ = some (.string a0_8) := (blk_cell BK170.out 8).trans rfl; have hcz18_9 : w16.cell? ⟨gb170, 9, none⟩ = some (.slice A0_9 l0_9.length c0_9) := (blk_cell BK170.out 9).trans rfl; have hcz18_10 : w16.cell? ⟨gb170, 10, none⟩ = some (.bool false) := (blk_cell BK170.out 10).trans rfl; have hcz18_11 : w16.cell? ⟨gb170, 11, none⟩ = some (.bool a0_11) := (blk_cell BK170.out 11).trans rfl; have hfz18_0 := blk_frozen BK170.out 0; have hfz18_1 := blk_frozen BK170.out 1; have hfz18_2 := blk_frozen BK170.out 2; have hfz18_3 := blk_frozen BK170.out 3; have hfz18_4 := blk_frozen BK170.out 4; have hfz18_5 := blk_frozen BK170.out 5; have hfz18_6 := blk_frozen BK170.out 6; have hfz18_7 := blk_frozen BK170.out 7; have hfz18_8 := blk_frozen BK170.out 8; have hfz18_9 := blk_frozen BK170.out 9; have hfz18_10 := blk_frozen BK170.out 10; have hfz18_11 := blk_frozen BK170.out 11))
    go_ret
    exact ⟨by first | rfl | (simp [errW_none, errW_some] <;> rfl) | (simp [*, errW_none, errW_some] <;> rfl), by repeat (first | (with_reducible first | exact HB.out | apply below_alloc | apply pw_below_drewN | apply below_drew1 | refine below_set ?_ GE170.out | refine below_set ?_ GE171.out) | exact HB.out)⟩

/-! ### prune_known_among: function 41 -/
-- prune_known_among: not asked here
/-! ### prune_known_says: function 25 -/
theorem XKnown.kcells {W : World} {g : Nat} {z0 m0 m1 : Int} {m2 : Nat} {m3 : ByteArray} {x0 x1 : Int} {x2 : Nat} {x3 : ByteArray} {AB : Option Addr} {cb : Nat} {lb : List Int} {kz kb : Bool} (h : W.heap[g]? = some (.cells #[.int .i64 z0, .int .i64 m0, .int .i64 m1, .float .f64 m2, .string m3, .int .i64 x0, .int .i64 x1, .float .f64 x2, .string x3, .slice AB lb.length cb, .bool kz, .bool kb] 60 (0, 0))) : W.cell? ⟨g, 0, none⟩ = some (.int .i64 z0) ∧ W.cell? ⟨g, 1, none⟩ = some (.int .i64 m0) ∧ W.cell? ⟨g, 2, none⟩ = some (.int .i64 m1) ∧ W.cell? ⟨g, 3, none⟩ = some (.float .f64 m2) ∧ W.cell? ⟨g, 4, none⟩ = some (.string m3) ∧ W.cell? ⟨g, 5, none⟩ = some (.int .i64 x0) ∧ W.cell? ⟨g, 6, none⟩ = some (.int .i64 x1) ∧ W.cell? ⟨g, 7, none⟩ = some (.float .f64 x2) ∧ W.cell? ⟨g, 8, none⟩ = some (.string x3) ∧ W.cell? ⟨g, 9, none⟩ = some (.slice AB lb.length cb) ∧ W.cell? ⟨g, 10, none⟩ = some (.bool kz) ∧ W.cell? ⟨g, 11, none⟩ = some (.bool kb) :=
  ⟨blk_cell h 0, blk_cell h 1, blk_cell h 2, blk_cell h 3, blk_cell h 4, blk_cell h 5, blk_cell h 6, blk_cell h 7, blk_cell h 8, blk_cell h 9, blk_cell h 10, blk_cell h 11⟩
set_option maxHeartbeats 4000000 in
set_option maxRecDepth 100000 in
theorem XKnown.among (K : Nat) (z0 m0 m1 : Int) (m2 : Nat) (m3 : ByteArray) (x0 x1 : Int) (x2 : Nat) (x3 : ByteArray) (AB : Option Addr) (cb : Nat) (lb : List Int) (kz kb : Bool) (A : Option Addr) (c : Nat) (l : List S32) (H O : S32 → Bool) (w : World) (hrb : Kd.C (Kd.int .u8) w AB lb.length lb) (hcb : lb.length ≤ cb) (hrl : Kd.C k32 w A l.length l) (hcl : l.length ≤ c)
    (hH : ∀ x ∈ l, prune_known_has.f K z0 m0 m1 m2 m3 x0 x1 x2 x3 lb kz kb x.f0 x.f1 x.f2 x.f3 = some (H x)) (hO : ∀ x ∈ l, prune_known_alone.f z0 m0 m1 m2 m3 x0 x1 x2 x3 lb kz kb x.f0 x.f1 x.f2 x.f3 = some (O x)) :
    Calls Try.prog 41 #[.agg #[.int .i64 z0, .int .i64 m0, .int .i64 m1, .float .f64 m2, .string m3, .int .i64 x0, .int .i64 x1, .float .f64 x2, .string x3, .slice AB lb.length cb, .bool kz, .bool kb], .slice A l.length c] w fun e w' => e = .returned (.tuple #[.bool (l.any H), .bool (!l.any O)]) ∧ Below w.heap.size w w' := by
  have HRB := Aside0.mk hrb
  have HRL := Aside0.mk hrl
  have HH := Aside0.mk hH
  have HO := Aside0.mk hO
  clear hrb hrl hH hO
  go_enter Try.func41, Try.ntmps41
  go_wp2_with fail
  refine wp_region_held_drew (S := (fun w' => w'.cell? ⟨w.heap.size, 0, none⟩ = some (.int .i64 z0) ∧ w'.cell? ⟨w.heap.size, 1, none⟩ = some (.int .i64 m0) ∧ w'.cell? ⟨w.heap.size, 2, none⟩ = some (.int .i64 m1) ∧ w'.cell? ⟨w.heap.size, 3, none⟩ = some (.float .f64 m2) ∧ w'.cell? ⟨w.heap.size, 4, none⟩ = some (.string m3) ∧ w'.cell? ⟨w.heap.size, 5, none⟩ = some (.int .i64 x0) ∧ w'.cell? ⟨w.heap.size, 6, none⟩ = some (.int .i64 x1) ∧ w'.cell? ⟨w.heap.size, 7, none⟩ = some (.float .f64 x2) ∧ w'.cell? ⟨w.heap.size, 8, none⟩ = some (.string x3) ∧ w'.cell? ⟨w.heap.size, 9, none⟩ = some (.slice AB lb.length cb) ∧ w'.cell? ⟨w.heap.size, 10, none⟩ = some (.bool kz) ∧ w'.cell? ⟨w.heap.size, 11, none⟩ = some (.bool kb))) (by kernel_rfl) (XKnown.kcells (blk_drew (blk_new w _))) (fun hHeld => ?_)
  refine wpAnyH_take (i := 0) (oi := ⟨some 6, _, _, _, _, _⟩) (v := ?v_1) rfl (by kernel_rfl) (by kernel_rfl) (by kernel_rfl) (fun _ _ _ h => h) (Or.inl ⟨by rfl, ?y_1⟩) (by assumption) ?n_1
  case y_1 => (intro w_ hSw; (try dsimp only at hSw); go_simp; try (with_reducible rfl))
  try simp only [Act.put, List.setIfInBounds_toArray, List.set_cons_zero, List.set_cons_succ]
  refine wpAnyH_take (i := 1) (oi := ⟨some 7, _, _, _, _, _⟩) (v := ?v_2) rfl (by kernel_rfl) (by kernel_rfl) (by kernel_rfl) (fun _ _ _ h => h) (Or.inl ⟨by rfl, ?y_2⟩) (by assumption) ?n_2
  case y_2 => (intro w_ hSw; (try dsimp only at hSw); go_simp; try (with_reducible rfl))
  try simp only [Act.put, List.setIfInBounds_toArray, List.set_cons_zero, List.set_cons_succ]
  refine wpAnyH_take (i := 2) (oi := ⟨some 8, _, _, _, _, _⟩) (v := ?v_3) rfl (by kernel_rfl) (by kernel_rfl) (by kernel_rfl) (fun _ _ _ h => h) (Or.inl ⟨by rfl, ?y_3⟩) (by assumption) ?n_3
  case y_3 => (intro w_ hSw; (try dsimp only at hSw); go_simp; try (with_reducible rfl))
  try simp only [Act.put, List.setIfInBounds_toArray, List.set_cons_zero, List.set_cons_succ]
  refine wpAnyH_take (i := 4) (oi := ⟨some 10, _, _, _, _, _⟩) (v := ?v_4) rfl (by kernel_rfl) (by kernel_rfl) (by kernel_rfl) (fun _ _ _ h => h) (Or.inl ⟨by rfl, ?y_4⟩) (by assumption) ?n_4
  case y_4 => (intro w_ hSw; (try dsimp only at hSw); go_simp; try (with_reducible rfl))
  try simp only [Act.put, List.setIfInBounds_toArray, List.set_cons_zero, List.set_cons_succ]
  refine wpAnyH_take (i := 5) (oi := ⟨some 11, _, _, _, _, _⟩) (v := ?v_5) rfl (by kernel_rfl) (by kernel_rfl) (by kernel_rfl) (fun _ _ _ h => h) (Or.inl ⟨by rfl, ?y_5⟩) (by assumption) ?n_5
  case y_5 => (intro w_ hSw; (try dsimp only at hSw); go_simp; try (with_reducible rfl))
  try simp only [Act.put, List.setIfInBounds_toArray, List.set_cons_zero, List.set_cons_succ]
  refine wpAnyH_take (i := 6) (oi := ⟨some 12, _, _, _, _, _⟩) (v := ?v_6) rfl (by kernel_rfl) (by kernel_rfl) (by kernel_rfl) (fun _ _ _ h => h) (Or.inl ⟨by rfl, ?y_6⟩) (by assumption) ?n_6
  case y_6 => (intro w_ hSw; (try dsimp only at hSw); go_simp; try (with_reducible rfl))
  try simp only [Act.put, List.setIfInBounds_toArray, List.set_cons_zero, List.set_cons_succ]
  refine wpAnyH_ready (rs := [3]) (by kernel_rfl) (by simp) ?_
  refine AllReadyH.cons (o := ⟨some 9, _, _, _, _, _⟩) rfl (fun K_ hK_ => ?_) AllReadyH.nil
  go_simp
  have HB0 := Aside0.mk (below_drew1 (below_alloc (Below.refl w.heap.size w) (.cells #[.int .i64 z0, .int .i64 m0, .int .i64 m1, .float .f64 m2, .string m3, .int .i64 x0, .int .i64 x1, .float .f64 x2, .string x3, .slice AB lb.length cb, .bool kz, .bool kb] 60)))
  have HK0 : Aside0 ((w.alloc (.cells #[.int .i64 z0, .int .i64 m0, .int .i64 m1, .float .f64 m2, .string m3, .int .i64 x0, .int .i64 x1, .float .f64 x2, .string x3, .slice AB lb.length cb, .bool kz, .bool kb] 60)).drew.heap[w.heap.size]? = some (.cells #[.int .i64 z0, .int .i64 m0, .int .i64 m1, .float .f64 m2, .string m3, .int .i64 x0, .int .i64 x1, .float .f64 x2, .string x3, .slice AB lb.length cb, .bool kz, .bool kb] 60 (0, 0))) := ⟨blk_drew (blk_new w _)⟩
  refine (XIdx.contains 52 #[.agg #[.int .i64 z0, .int .i64 m0, .int .i64 m1, .float .f64 m2, .string m3, .int .i64 x0, .int .i64 x1, .float .f64 x2, .string x3, .slice AB lb.length cb, .bool kz, .bool kb]] #[] H (enters_of Try.func52 (by kernel_rfl) rfl) A c l _ (Kd.C_below HRL.out HB0.out) hcl ⟨fun x hx W hb => by
    exact prune_known_has.calls K z0 m0 m1 m2 m3 x0 x1 x2 x3 AB cb lb kz kb x.f0 x.f1 x.f2 x.f3 _ W (Kd.C_below (Kd.C_below HRB.out HB0.out) hb) hcb (HH.out x hx)⟩).mono ?_
  rintro e w1 ⟨rfl, hb⟩
  have HB1 := Aside0.mk (below_then HB0.out HB0.out.size hb)
  have HK1 := Aside0.mk (blk_below HK0.out hb)
  clear hb
  refine hK_.out _ _ (XKnown.kcells HK1.out) (fun hHeld => ?_)
  clear hK_ K_
  try simp only [Act.put, List.setIfInBounds_toArray, List.set_cons_zero, List.set_cons_succ]
  refine wpAnyH_ready (rs := [7]) (by kernel_rfl) (by simp) ?_
  refine AllReadyH.cons (o := ⟨some 13, _, _, _, _, _⟩) rfl (fun K_ hK_ => ?_) AllReadyH.nil
  go_simp
  refine (XIdx.contains 53 #[.agg #[.int .i64 z0, .int .i64 m0, .int .i64 m1, .float .f64 m2, .string m3, .int .i64 x0, .int .i64 x1, .float .f64 x2, .string x3, .slice AB lb.length cb, .bool kz, .bool kb]] #[] O (enters_of Try.func53 (by kernel_rfl) rfl) A c l _ (Kd.C_below HRL.out HB1.out) hcl ⟨fun x hx W hb => by
    exact prune_known_alone.calls z0 m0 m1 m2 m3 x0 x1 x2 x3 AB cb lb kz kb x.f0 x.f1 x.f2 x.f3 _ W (Kd.C_below (Kd.C_below HRB.out HB1.out) hb) hcb (HO.out x hx)⟩).mono ?_
  rintro e w2 ⟨rfl, hb⟩
  have HB2 := Aside0.mk (below_then HB1.out HB1.out.size hb)
  have HK2 := Aside0.mk (blk_below HK1.out hb)
  clear hb
  refine hK_.out _ _ (XKnown.kcells HK2.out) (fun hHeld => ?_)
  clear hK_ K_
  try simp only [Act.put, List.setIfInBounds_toArray, List.set_cons_zero, List.set_cons_succ]
  refine wpAnyH_take (i := 8) (oi := ⟨some 14, _, _, _, _, _⟩) (v := ?v_7) rfl (by kernel_rfl) (by kernel_rfl) (by kernel_rfl) (fun _ _ _ h => h) (Or.inl ⟨by rfl, ?y_7⟩) (by assumption) ?n_7
  case y_7 => (intro w_ hSw; (try dsimp only at hSw); go_simp; try (with_reducible rfl))
  try simp only [Act.put, List.setIfInBounds_toArray, List.set_cons_zero, List.set_cons_succ]
  refine wpAnyH_take (i := 9) (oi := ⟨some 4, _, _, _, _, _⟩) (v := ?v_8) rfl (by kernel_rfl) (by kernel_rfl) (by kernel_rfl) (fun _ _ _ h => h) (Or.inl ⟨by rfl, ?y_8⟩) (by assumption) ?n_8
  case y_8 => (intro w_ hSw; (try dsimp only at hSw); go_simp; try (with_reducible rfl))
  try simp only [Act.put, List.setIfInBounds_toArray, List.set_cons_zero, List.set_cons_succ]
  refine wpAnyH_take (i := 10) (oi := ⟨some 5, _, _, _, _, _⟩) (v := ?v_9) rfl (by kernel_rfl) (by kernel_rfl) (by kernel_rfl) (fun _ _ _ h => h) (Or.inl ⟨by rfl, ?y_9⟩) (by assumption) ?n_9
  case y_9 => (intro w_ hSw; (try dsimp only at hSw); go_simp; try (with_reducible rfl))
  try simp only [Act.put, List.setIfInBounds_toArray, List.set_cons_zero, List.set_cons_succ]
  refine wpAnyH_done (by kernel_rfl) ?_ _
  go_wp2_with fail
  go_ret2
  exact ⟨rfl, HB2.out⟩
theorem XKnown.oneV {W : World} {g : Nat} {v0 v1 : Int} {v2 : Nat} {v3 : ByteArray} {t : Nat} (h : W.heap[g]? = some (.cells #[.int .i64 v0, .int .i64 v1, .float .f64 v2, .string v3] t (0, 0))) : Kd.C k32 W (some ⟨g, 0, none⟩) 1 [⟨v0, v1, v2, v3⟩] :=
  ⟨rfl, by decide, fun _ => ⟨_, rfl, fun j p hj => by
    match j, hj with
    | 0, hj =>
      obtain rfl := Option.some.inj hj
      refine ⟨_, rfl, k32_mk W ⟨v0, v1, v2, v3⟩, fun i u hu => ?_⟩
      rw [add_plain, blk_cell h, ← hu]
      simp only [Nat.zero_mul, Nat.zero_add, List.getElem?_toArray]
    | j + 1, hj => simp at hj⟩⟩
theorem XKnown.oneC {W : World} {g : Nat} {v0 : ByteArray} {v1 : Int} {v2 : Bool} {t : Nat} (h : W.heap[g]? = some (.cells #[.string v0, .int .i64 v1, .bool v2] t (0, 0))) : Kd.C k29 W (some ⟨g, 0, none⟩) 1 [⟨v0, v1, v2⟩] :=
  ⟨rfl, by decide, fun _ => ⟨_, rfl, fun j p hj => by
    match j, hj with
    | 0, hj =>
      obtain rfl := Option.some.inj hj
      refine ⟨_, rfl, k29_mk W ⟨v0, v1, v2⟩, fun i u hu => ?_⟩
      rw [add_plain, blk_cell h, ← hu]
      simp only [Nat.zero_mul, Nat.zero_add, List.getElem?_toArray]
    | j + 1, hj => simp at hj⟩⟩
set_option maxHeartbeats 4000000 in
set_option maxRecDepth 100000 in
theorem XKnown.says_eq (K : Nat) (z0 m0 m1 : Int) (m2 : Nat) (m3 : ByteArray) (x0 x1 : Int) (x2 : Nat) (x3 : ByteArray) (AB : Option Addr) (cb : Nat) (lb : List Int) (kz kb : Bool) (p1 : ByteArray) (v0 v1 : Int) (v2 : Nat) (v3 : ByteArray) (A7 : Option Addr) (n7 c7 : Nat) (A8 : Option Addr) (n8 c8 : Nat) (h o : Bool) (w : World) (hrb : Kd.C (Kd.int .u8) w AB lb.length lb) (hcb : lb.length ≤ cb)
    (hH : prune_known_has.f K z0 m0 m1 m2 m3 x0 x1 x2 x3 lb kz kb v0 v1 v2 v3 = some h) (hO : prune_known_alone.f z0 m0 m1 m2 m3 x0 x1 x2 x3 lb kz kb v0 v1 v2 v3 = some o) :
    Calls Try.prog 25 #[.agg #[.int .i64 z0, .int .i64 m0, .int .i64 m1, .float .f64 m2, .string m3, .int .i64 x0, .int .i64 x1, .float .f64 x2, .string x3, .slice AB lb.length cb, .bool kz, .bool kb], .agg #[.int .i64 1, .string p1, .int .i64 1, .int .i64 v0, .int .i64 v1, .float .f64 v2, .string v3, .slice A7 n7 c7, .slice A8 n8 c8]] w fun e w' => e = .returned (.tuple #[.bool h, .bool (!o)]) ∧ Below w.heap.size w w' := by
  have HRB := Aside0.mk hrb
  have HH := Aside0.mk hH
  have HO := Aside0.mk hO
  clear hrb hH hO
  have hal : ∀ o1 o2 o3, Below w.heap.size w (((w.alloc o1).alloc o2).alloc o3) := fun o1 o2 o3 => below_alloc (below_alloc (below_alloc (Below.refl _ _) _) _) _
  have HAL := Aside0.mk hal
  clear hal
  go_enter Try.func25, Try.ntmps25
  go_wp2_with fail
  refine (XKnown.among K z0 m0 m1 m2 m3 x0 x1 x2 x3 AB cb lb kz kb (some ⟨w.heap.size + 1 + 1, 0, none⟩) 1 [⟨v0, v1, v2, v3⟩] (fun _ => h) (fun _ => o) _ (Kd.C_below HRB.out (HAL.out _ _ _)) hcb (XKnown.oneV (by simpa using blk_new ((w.alloc _).alloc _) (.cells #[.int .i64 v0, .int .i64 v1, .float .f64 v2, .string v3] 32))) (Nat.le_refl _) (fun x hx => by obtain rfl := List.mem_singleton.mp hx; exact HH.out) (fun x hx => by obtain rfl := List.mem_singleton.mp hx; exact HO.out)).mono ?_
  rintro e w1 ⟨rfl, hb⟩
  have HB := Aside0.mk (below_then (HAL.out _ _ _) (HAL.out _ _ _).size hb)
  clear hb
  simp only [List.any_cons, List.any_nil, Bool.or_false]
  go_wp2_with fail
  go_ret2
  exact ⟨rfl, HB.out⟩
def prune_known_says.f (k : Nat) (a0_0 : Int) (a0_1 : Int) (a0_2 : Int) (a0_3 : Nat) (a0_4 : ByteArray) (a0_5 : Int) (a0_6 : Int) (a0_7 : Nat) (a0_8 : ByteArray) (l0_9 : List Int) (a0_10 : Bool) (a0_11 : Bool) (a1_0 : Int) (a1_1 : ByteArray) (a1_2 : Int) (a1_3 : Int) (a1_4 : Int) (a1_5 : Nat) (a1_6 : ByteArray) (l1_7 : List (S32)) (l1_8 : List (S39)) : Option (Bool × Bool) := if a1_0 = 1 then (if a1_2 = 1 then ((prune_known_has.f k a0_0 a0_1 a0_2 a0_3 a0_4 a0_5 a0_6 a0_7 a0_8 l0_9 a0_10 a0_11 a1_3 a1_4 a1_5 a1_6).bind fun h => ((prune_known_alone.f a0_0 a0_1 a0_2 a0_3 a0_4 a0_5 a0_6 a0_7 a0_8 l0_9 a0_10 a0_11 a1_3 a1_4 a1_5 a1_6).bind fun o => (some (h, !o)))) else none) else none
theorem prune_known_says.mono : ∀ a0_0 a0_1 a0_2 a0_3 a0_4 a0_5 a0_6 a0_7 a0_8 l0_9 a0_10 a0_11 a1_0 a1_1 a1_2 a1_3 a1_4 a1_5 a1_6 l1_7 l1_8 k, LeO (prune_known_says.f k a0_0 a0_1 a0_2 a0_3 a0_4 a0_5 a0_6 a0_7 a0_8 l0_9 a0_10 a0_11 a1_0 a1_1 a1_2 a1_3 a1_4 a1_5 a1_6 l1_7 l1_8) (prune_known_says.f (k + 1) a0_0 a0_1 a0_2 a0_3 a0_4 a0_5 a0_6 a0_7 a0_8 l0_9 a0_10 a0_11 a1_0 a1_1 a1_2 a1_3 a1_4 a1_5 a1_6 l1_7 l1_8) := by
  intro a0_0 a0_1 a0_2 a0_3 a0_4 a0_5 a0_6 a0_7 a0_8 l0_9 a0_10 a0_11 a1_0 a1_1 a1_2 a1_3 a1_4 a1_5 a1_6 l1_7 l1_8 k
  unfold prune_known_says.f
  refine LeO.ite (LeO.ite (LeO.bind (prune_known_has.mono _ _ _ _ _ _ _ _ _ _ _ _ _ _ _ _ _) fun _ => LeO.refl _) (LeO.none _)) (LeO.none _)
theorem prune_known_says.calls (k : Nat) (a0_0 : Int) (a0_1 : Int) (a0_2 : Int) (a0_3 : Nat) (a0_4 : ByteArray) (a0_5 : Int) (a0_6 : Int) (a0_7 : Nat) (a0_8 : ByteArray) (A0_9 : Option Addr) (c0_9 : Nat) (l0_9 : List Int) (a0_10 : Bool) (a0_11 : Bool) (a1_0 : Int) (a1_1 : ByteArray) (a1_2 : Int) (a1_3 : Int) (a1_4 : Int) (a1_5 : Nat) (a1_6 : ByteArray) (A1_7 : Option Addr) (c1_7 : Nat) (l1_7 : List (S32)) (A1_8 : Option Addr) (c1_8 : Nat) (l1_8 : List (S39)) (r1 : Bool) (r2 : Bool) (w : World) (hr0_9 : Kd.C (Kd.int .u8) w A0_9 l0_9.length l0_9) (hc0_9 : l0_9.length ≤ c0_9) (hr1_7 : Kd.C k32 w A1_7 l1_7.length l1_7) (hc1_7 : l1_7.length ≤ c1_7) (hr1_8 : Kd.C k39 w A1_8 l1_8.length l1_8) (hc1_8 : l1_8.length ≤ c1_8) (h : prune_known_says.f k a0_0 a0_1 a0_2 a0_3 a0_4 a0_5 a0_6 a0_7 a0_8 l0_9 a0_10 a0_11 a1_0 a1_1 a1_2 a1_3 a1_4 a1_5 a1_6 l1_7 l1_8 = some (r1, r2)) :
    Calls Try.prog 25 #[.agg #[.int .i64 a0_0, .int .i64 a0_1, .int .i64 a0_2, .float .f64 a0_3, .string a0_4, .int .i64 a0_5, .int .i64 a0_6, .float .f64 a0_7, .string a0_8, .slice A0_9 l0_9.length c0_9, .bool a0_10, .bool a0_11], .agg #[.int .i64 a1_0, .string a1_1, .int .i64 a1_2, .int .i64 a1_3, .int .i64 a1_4, .float .f64 a1_5, .string a1_6, .slice A1_7 l1_7.length c1_7, .slice A1_8 l1_8.length c1_8]] w fun e w' => e = .returned (.tuple #[.bool r1, .bool r2]) ∧ Below w.heap.size w w' := by
  unfold prune_known_says.f at h
  split at h
  · rename_i h1
    split at h
    · rename_i h2
      obtain ⟨hh, e1, h⟩ := Option.bind_eq_some_iff.mp h
      obtain ⟨oo, e2, h⟩ := Option.bind_eq_some_iff.mp h
      obtain ⟨rfl, rfl⟩ := Prod.mk.inj (Option.some.inj h)
      subst h1 h2
      exact XKnown.says_eq k a0_0 a0_1 a0_2 a0_3 a0_4 a0_5 a0_6 a0_7 a0_8 A0_9 c0_9 l0_9 a0_10 a0_11 a1_1 a1_3 a1_4 a1_5 a1_6 A1_7 l1_7.length c1_7 A1_8 l1_8.length c1_8 hh oo w hr0_9 hc0_9 e1 e2
    · cases h
  · cases h

/-! ### prune_truths: function 13 -/
theorem XTruths.three {W : World} {g : Nat} {a b c : Value} {t : Nat} (h : W.heap[g]? = some (.cells #[a, b, c] t (0, 0))) : W.cell? ⟨g, 0, none⟩ = some a ∧ W.cell? ⟨g, 1, none⟩ = some b ∧ W.cell? ⟨g, 2, none⟩ = some c ∧ W.frozen? ⟨g, 0, none⟩ = false ∧ W.frozen? ⟨g, 1, none⟩ = false ∧ W.frozen? ⟨g, 2, none⟩ = false :=
  ⟨blk_cell h 0, blk_cell h 1, blk_cell h 2, blk_frozen h 0, blk_frozen h 1, blk_frozen h 2⟩
def XTruths.truth (rows : Int) (null : Bool) (z0 : Int) (kz : Bool) (p0 : Int) (sy sn : Bool) : S23 :=
  if rows = 0 then ⟨false, false, false⟩ else
  if p0 = 4 then ⟨if kz then decide (z0 < rows) else true, if kz then decide (z0 > 0) else null, false⟩ else
  if (if kz then decide (z0 < rows) else true) = true then ⟨sn, sy, if kz then decide (z0 > 0) else null⟩ else ⟨false, false, if kz then decide (z0 > 0) else null⟩
set_option maxHeartbeats 4000000 in
set_option maxRecDepth 100000 in
theorem XTruths.truths (n0 : ByteArray) (ty : Int) (null : Bool) (rows : Int) (z0 m0 m1 : Int) (m2 : Nat) (m3 : ByteArray) (x0 x1 : Int) (x2 : Nat) (x3 : ByteArray) (AB : Option Addr) (cb : Nat) (lb : List Int) (p0 p2 : Int) (p1 : ByteArray) (v0 v1 : Int) (v2 : Nat) (v3 : ByteArray) (A7 : Option Addr) (n7 c7 : Nat) (A8 : Option Addr) (n8 c8 : Nat) (kz kb rr : Bool) (wk : Int) (sy sn : Bool) (w : World)
    (hs : rows ≠ 0 → p0 ≠ 4 → (if kz then decide (z0 < rows) else true) = true → ∀ W, Below w.heap.size w W → Calls Try.prog 25 #[.agg #[.int .i64 z0, .int .i64 m0, .int .i64 m1, .float .f64 m2, .string m3, .int .i64 x0, .int .i64 x1, .float .f64 x2, .string x3, .slice AB lb.length cb, .bool kz, .bool kb], .agg #[.int .i64 p0, .string p1, .int .i64 p2, .int .i64 v0, .int .i64 v1, .float .f64 v2, .string v3, .slice A7 n7 c7, .slice A8 n8 c8]] W fun e w' => e = .returned (.tuple #[.bool sy, .bool sn]) ∧ Below W.heap.size W w') :
    Calls Try.prog 13 #[.agg #[.string n0, .int .i64 ty, .bool null], .int .i64 rows, .agg #[.int .i64 z0, .int .i64 m0, .int .i64 m1, .float .f64 m2, .string m3, .int .i64 x0, .int .i64 x1, .float .f64 x2, .string x3, .slice AB lb.length cb], .agg #[.int .i64 p0, .string p1, .int .i64 p2, .int .i64 v0, .int .i64 v1, .float .f64 v2, .string v3, .slice A7 n7 c7, .slice A8 n8 c8], .agg #[.bool kz, .bool kb, .bool rr, .int .i64 wk]] w
      fun e w' => e = .returned (.agg #[.bool (XTruths.truth rows null z0 kz p0 sy sn).f0, .bool (XTruths.truth rows null z0 kz p0 sy sn).f1, .bool (XTruths.truth rows null z0 kz p0 sy sn).f2]) ∧ Below w.heap.size w w' := by
  have HSA := Aside0.mk hs
  clear hs
  have hbel : ∀ o1 o2 o3 o4 o5 o6 o7, Below w.heap.size w (((((((w.alloc o1).alloc o2).alloc o3).alloc o4).alloc o5).alloc o6).alloc o7) := fun _ _ _ _ _ _ _ => below_alloc (below_alloc (below_alloc (below_alloc (below_alloc (below_alloc (below_alloc (Below.refl _ _) _) _) _) _) _) _) _
  have hbel6 : ∀ o1 o2 o3 o4 o5 o6, Below w.heap.size w ((((((w.alloc o1).alloc o2).alloc o3).alloc o4).alloc o5).alloc o6) := fun _ _ _ _ _ _ => below_alloc (below_alloc (below_alloc (below_alloc (below_alloc (below_alloc (Below.refl _ _) _) _) _) _) _) _
  have hbel5 : ∀ o1 o2 o3 o4 o5, Below w.heap.size w (((((w.alloc o1).alloc o2).alloc o3).alloc o4).alloc o5) := fun _ _ _ _ _ => below_alloc (below_alloc (below_alloc (below_alloc (below_alloc (Below.refl _ _) _) _) _) _) _
  have HBEL := Aside0.mk hbel
  have HBEL6 := Aside0.mk hbel6
  have HBEL5 := Aside0.mk hbel5
  have hnew : ∀ o1 o2 o3 o4 o5, (((((w.alloc o1).alloc o2).alloc o3).alloc o4).alloc o5).heap[w.heap.size + 1 + 1 + 1 + 1]? = some o5 := fun o1 o2 o3 o4 o5 => by simpa using blk_new ((((w.alloc o1).alloc o2).alloc o3).alloc o4) o5
  have HNEW := Aside0.mk hnew
  have hnew7 : ∀ o1 o2 o3 o4 o5 o6 o7, (((((((w.alloc o1).alloc o2).alloc o3).alloc o4).alloc o5).alloc o6).alloc o7).heap[w.heap.size + 1 + 1 + 1 + 1 + 1 + 1]? = some o7 := fun o1 o2 o3 o4 o5 o6 o7 => by simpa using blk_new ((((((w.alloc o1).alloc o2).alloc o3).alloc o4).alloc o5).alloc o6) o7
  have hnew7d : ∀ o1 o2 o3 o4 o5 o6 nq o7, (((((((w.alloc o1).alloc o2).alloc o3).alloc o4).alloc o5).alloc o6).drewN nq |>.alloc o7).heap[w.heap.size + 1 + 1 + 1 + 1 + 1 + 1]? = some o7 := fun o1 o2 o3 o4 o5 o6 nq o7 => by
    have h := blk_new (((((((w.alloc o1).alloc o2).alloc o3).alloc o4).alloc o5).alloc o6).drewN nq) o7
    have e : (((((((w.alloc o1).alloc o2).alloc o3).alloc o4).alloc o5).alloc o6).drewN nq).heap.size = w.heap.size + 1 + 1 + 1 + 1 + 1 + 1 := by
      show ((((((w.alloc o1).alloc o2).alloc o3).alloc o4).alloc o5).alloc o6).heap.size = _
      simp
    rwa [e] at h
  have HNEW7 := Aside0.mk hnew7
  have HNEW7D := Aside0.mk hnew7d
  clear hnew7 hnew7d
  clear hbel hbel6 hbel5 hnew
  by_cases hrows : rows = 0
  · subst hrows
    clear HSA
    go_enter Try.func13, Try.ntmps13
    go_wp2_with fail
    refine bodyPost_ret (results_cell_row rfl _ _ (w.heap.size + 1 + 1 + 1 + 1) 23 #[_, _, _] (0, 0) _ rfl (HNEW.out _ _ _ _ _) Try.underlying23 rfl (by kernel_rfl)) rfl ?_
    exact ⟨rfl, HBEL5.out _ _ _ _ _⟩
  · have hrb : (rows == 0) = false := by simpa using hrows
    cases kz with
    | false =>
      go_enter Try.func13, Try.ntmps13
      by_cases h4 : p0 = 4
      · subst h4
        clear HSA
        go_wp2_with fail
        refine bodyPost_ret (results_cell_row rfl _ _ (w.heap.size + 1 + 1 + 1 + 1) 23 #[_, _, _] (0, 0) _ rfl (blk_alloc (HNEW.out _ _ _ _ _) _) Try.underlying23 rfl (by kernel_rfl)) rfl ?_
        exact ⟨by simp [XTruths.truth, hrows], HBEL6.out _ _ _ _ _ _⟩
      · have h4b : (p0 == 4) = false := by simpa using h4
        go_wp2_with fail
        refine (HSA.out hrows h4 rfl _ (HBEL.out _ _ _ _ _ _ _)).mono ?_
        rintro e w1 ⟨rfl, hb⟩
        have HB := Aside0.mk (below_then (HBEL.out _ _ _ _ _ _ _) (Below.size (HBEL.out _ _ _ _ _ _ _)) hb)
        have hr := blk_below (blk_alloc (blk_alloc (HNEW.out _ _ _ _ _) _) _) hb
        have hq := blk_below (HNEW7.out _ _ _ _ _ _ _) hb
        have HRR := Aside0.mk hr
        have ⟨c0, c1, c2, c3, c4, c5⟩ := XTruths.three hr
        have ⟨d0, d1, d2, d3, d4, d5⟩ := XTruths.three hq
        clear hb HSA hr hq
        go_wp2_with fail
        refine bodyPost_ret (results_cell_row rfl _ _ (w.heap.size + 1 + 1 + 1 + 1) 23 #[_, _, _] (0, 0) _ rfl (by refine XAnd.put3 (u := .bool false) (v := .bool false) (z := .bool false) ?_; refine blk_far ?_ (by simp) _; refine blk_far ?_ (by simp) _; exact HRR.out) Try.underlying23 rfl (by kernel_rfl)) rfl ?_
        exact ⟨by simp [XTruths.truth, hrows, h4], by refine below_set ?_ (by omega); refine below_set ?_ (by omega); refine below_set ?_ (by omega); refine below_set ?_ (by omega); refine below_set ?_ (by omega); exact HB.out⟩
    | true =>
      go_enter Try.func13, Try.ntmps13
      by_cases h4 : p0 = 4
      · subst h4
        clear HSA
        go_wp2_with fail
        go_quiet (fail)
        go_wp2_with fail
        refine bodyPost_ret (results_cell_row rfl _ _ (w.heap.size + 1 + 1 + 1 + 1) 23 #[_, _, _] (0, 0) _ rfl (by refine XAnd.put3 (u := .bool false) (v := .bool false) (z := .bool false) ?_; refine blk_drewN ?_ _; refine blk_alloc ?_ _; exact HNEW.out _ _ _ _ _) Try.underlying23 rfl (by kernel_rfl)) rfl ?_
        exact ⟨by simp [XTruths.truth, hrows], by refine below_set ?_ (by omega); refine below_set ?_ (by omega); refine below_set ?_ (by omega); refine pw_below_drewN ?_ _; exact HBEL6.out _ _ _ _ _ _⟩
      · have h4b : (p0 == 4) = false := by simpa using h4
        by_cases hz : z0 < rows
        · have hzb : decide (z0 < rows) = true := decide_eq_true hz
          go_wp2_with fail
          go_quiet (fail)
          go_wp2_with fail
          refine (HSA.out hrows h4 hzb _ (below_alloc (pw_below_drewN (HBEL6.out _ _ _ _ _ _) _) _)).mono ?_
          rintro e w1 ⟨rfl, hb⟩
          have HB := Aside0.mk (below_then (below_alloc (pw_below_drewN (HBEL6.out _ _ _ _ _ _) _) _) (Below.size (below_alloc (pw_below_drewN (HBEL6.out _ _ _ _ _ _) _) _)) hb)
          have hr := blk_below (blk_alloc (blk_drewN (blk_alloc (HNEW.out _ _ _ _ _) _) _) _) hb
          have hq := blk_below (HNEW7D.out _ _ _ _ _ _ _ _) hb
          have HRR := Aside0.mk hr
          have ⟨c0, c1, c2, c3, c4, c5⟩ := XTruths.three hr
          have ⟨d0, d1, d2, d3, d4, d5⟩ := XTruths.three hq
          clear hb HSA hr hq
          go_wp2_with fail
          refine bodyPost_ret (results_cell_row rfl _ _ (w.heap.size + 1 + 1 + 1 + 1) 23 #[_, _, _] (0, 0) _ rfl (by refine XAnd.put3 (u := .bool false) (v := .bool false) (z := .bool false) ?_; refine blk_far ?_ (by simp) _; refine blk_far ?_ (by simp) _; exact HRR.out) Try.underlying23 rfl (by kernel_rfl)) rfl ?_
          exact ⟨by simp [XTruths.truth, hrows, h4, hz], by refine below_set ?_ (by omega); refine below_set ?_ (by omega); refine below_set ?_ (by omega); refine below_set ?_ (by omega); refine below_set ?_ (by omega); exact HB.out⟩
        · have hzb : decide (z0 < rows) = false := decide_eq_false hz
          go_wp2_with fail
          go_quiet (fail)
          go_wp2_with fail
          refine bodyPost_ret (results_cell_row rfl _ _ (w.heap.size + 1 + 1 + 1 + 1) 23 #[_, _, _] (0, 0) _ rfl (by refine blk_alloc ?_ _; refine XAnd.put3 (u := .bool false) (v := .bool false) (z := .bool false) ?_; refine blk_drewN ?_ _; refine blk_alloc ?_ _; exact HNEW.out _ _ _ _ _) Try.underlying23 rfl (by kernel_rfl)) rfl ?_
          exact ⟨by simp [XTruths.truth, hrows, h4, eq_false (show ¬ z0 < rows from by omega)], by refine below_alloc ?_ _; refine below_set ?_ (by omega); refine below_set ?_ (by omega); refine below_set ?_ (by omega); refine pw_below_drewN ?_ _; exact HBEL6.out _ _ _ _ _ _⟩
def prune_truths.f (k : Nat) (a0_0 : ByteArray) (a0_1 : Int) (a0_2 : Bool) (a1 : Int) (a2_0 : Int) (a2_1 : Int) (a2_2 : Int) (a2_3 : Nat) (a2_4 : ByteArray) (a2_5 : Int) (a2_6 : Int) (a2_7 : Nat) (a2_8 : ByteArray) (l2_9 : List Int) (a3_0 : Int) (a3_1 : ByteArray) (a3_2 : Int) (a3_3 : Int) (a3_4 : Int) (a3_5 : Nat) (a3_6 : ByteArray) (l3_7 : List (S32)) (l3_8 : List (S39)) (a4_0 : Bool) (a4_1 : Bool) (a4_2 : Bool) (a4_3 : Int) : Option (Bool × Bool × Bool) :=
  if a1 ≠ 0 ∧ a3_0 ≠ 4 ∧ (if a4_0 then decide (a2_0 < a1) else true) = true then ((prune_known_says.f k a2_0 a2_1 a2_2 a2_3 a2_4 a2_5 a2_6 a2_7 a2_8 l2_9 a4_0 a4_1 a3_0 a3_1 a3_2 a3_3 a3_4 a3_5 a3_6 l3_7 l3_8).bind fun s => some ((XTruths.truth a1 a0_2 a2_0 a4_0 a3_0 (s.1) (s.2)).f0, (XTruths.truth a1 a0_2 a2_0 a4_0 a3_0 (s.1) (s.2)).f1, (XTruths.truth a1 a0_2 a2_0 a4_0 a3_0 (s.1) (s.2)).f2)) else some ((XTruths.truth a1 a0_2 a2_0 a4_0 a3_0 (false) (false)).f0, (XTruths.truth a1 a0_2 a2_0 a4_0 a3_0 (false) (false)).f1, (XTruths.truth a1 a0_2 a2_0 a4_0 a3_0 (false) (false)).f2)
theorem prune_truths.mono : ∀ a0_0 a0_1 a0_2 a1 a2_0 a2_1 a2_2 a2_3 a2_4 a2_5 a2_6 a2_7 a2_8 l2_9 a3_0 a3_1 a3_2 a3_3 a3_4 a3_5 a3_6 l3_7 l3_8 a4_0 a4_1 a4_2 a4_3 k, LeO (prune_truths.f k a0_0 a0_1 a0_2 a1 a2_0 a2_1 a2_2 a2_3 a2_4 a2_5 a2_6 a2_7 a2_8 l2_9 a3_0 a3_1 a3_2 a3_3 a3_4 a3_5 a3_6 l3_7 l3_8 a4_0 a4_1 a4_2 a4_3) (prune_truths.f (k + 1) a0_0 a0_1 a0_2 a1 a2_0 a2_1 a2_2 a2_3 a2_4 a2_5 a2_6 a2_7 a2_8 l2_9 a3_0 a3_1 a3_2 a3_3 a3_4 a3_5 a3_6 l3_7 l3_8 a4_0 a4_1 a4_2 a4_3) := by
  intro a0_0 a0_1 a0_2 a1 a2_0 a2_1 a2_2 a2_3 a2_4 a2_5 a2_6 a2_7 a2_8 l2_9 a3_0 a3_1 a3_2 a3_3 a3_4 a3_5 a3_6 l3_7 l3_8 a4_0 a4_1 a4_2 a4_3 k
  unfold prune_truths.f
  exact LeO.ite (LeO.bind (prune_known_says.mono _ _ _ _ _ _ _ _ _ _ _ _ _ _ _ _ _ _ _ _ _ _) fun _ => LeO.refl _) (LeO.refl _)
theorem prune_truths.calls (k : Nat) (a0_0 : ByteArray) (a0_1 : Int) (a0_2 : Bool) (a1 : Int) (a2_0 : Int) (a2_1 : Int) (a2_2 : Int) (a2_3 : Nat) (a2_4 : ByteArray) (a2_5 : Int) (a2_6 : Int) (a2_7 : Nat) (a2_8 : ByteArray) (A2_9 : Option Addr) (c2_9 : Nat) (l2_9 : List Int) (a3_0 : Int) (a3_1 : ByteArray) (a3_2 : Int) (a3_3 : Int) (a3_4 : Int) (a3_5 : Nat) (a3_6 : ByteArray) (A3_7 : Option Addr) (c3_7 : Nat) (l3_7 : List (S32)) (A3_8 : Option Addr) (c3_8 : Nat) (l3_8 : List (S39)) (a4_0 : Bool) (a4_1 : Bool) (a4_2 : Bool) (a4_3 : Int) (r1 : Bool) (r2 : Bool) (r3 : Bool) (w : World) (hr2_9 : Kd.C (Kd.int .u8) w A2_9 l2_9.length l2_9) (hc2_9 : l2_9.length ≤ c2_9) (hr3_7 : Kd.C k32 w A3_7 l3_7.length l3_7) (hc3_7 : l3_7.length ≤ c3_7) (hr3_8 : Kd.C k39 w A3_8 l3_8.length l3_8) (hc3_8 : l3_8.length ≤ c3_8) (h : prune_truths.f k a0_0 a0_1 a0_2 a1 a2_0 a2_1 a2_2 a2_3 a2_4 a2_5 a2_6 a2_7 a2_8 l2_9 a3_0 a3_1 a3_2 a3_3 a3_4 a3_5 a3_6 l3_7 l3_8 a4_0 a4_1 a4_2 a4_3 = some (r1, r2, r3)) :
    Calls Try.prog 13 #[.agg #[.string a0_0, .int .i64 a0_1, .bool a0_2], .int .i64 a1, .agg #[.int .i64 a2_0, .int .i64 a2_1, .int .i64 a2_2, .float .f64 a2_3, .string a2_4, .int .i64 a2_5, .int .i64 a2_6, .float .f64 a2_7, .string a2_8, .slice A2_9 l2_9.length c2_9], .agg #[.int .i64 a3_0, .string a3_1, .int .i64 a3_2, .int .i64 a3_3, .int .i64 a3_4, .float .f64 a3_5, .string a3_6, .slice A3_7 l3_7.length c3_7, .slice A3_8 l3_8.length c3_8], .agg #[.bool a4_0, .bool a4_1, .bool a4_2, .int .i64 a4_3]] w fun e w' => e = .returned (.agg #[.bool r1, .bool r2, .bool r3]) ∧ Below w.heap.size w w' := by
  unfold prune_truths.f at h
  by_cases hc : a1 ≠ 0 ∧ a3_0 ≠ 4 ∧ (if a4_0 then decide (a2_0 < a1) else true) = true
  · rw [if_pos hc] at h
    obtain ⟨s, hs, h⟩ := Option.bind_eq_some_iff.mp h
    obtain ⟨h1, h23⟩ := Prod.mk.inj (Option.some.inj h)
    obtain ⟨h2, h3⟩ := Prod.mk.inj h23
    subst h1 h2 h3
    exact XTruths.truths a0_0 a0_1 a0_2 a1 a2_0 a2_1 a2_2 a2_3 a2_4 a2_5 a2_6 a2_7 a2_8 A2_9 c2_9 l2_9 a3_0 a3_2 a3_1 a3_3 a3_4 a3_5 a3_6 A3_7 l3_7.length c3_7 A3_8 l3_8.length c3_8 a4_0 a4_1 a4_2 a4_3 s.1 s.2 w fun _ _ _ W hb =>
      prune_known_says.calls k a2_0 a2_1 a2_2 a2_3 a2_4 a2_5 a2_6 a2_7 a2_8 A2_9 c2_9 l2_9 a4_0 a4_1 a3_0 a3_1 a3_2 a3_3 a3_4 a3_5 a3_6 A3_7 c3_7 l3_7 A3_8 c3_8 l3_8 s.1 s.2 W (Kd.C_below hr2_9 hb) hc2_9 (Kd.C_below hr3_7 hb) hc3_7 (Kd.C_below hr3_8 hb) hc3_8 hs
  · rw [if_neg hc] at h
    obtain ⟨h1, h23⟩ := Prod.mk.inj (Option.some.inj h)
    obtain ⟨h2, h3⟩ := Prod.mk.inj h23
    subst h1 h2 h3
    exact XTruths.truths a0_0 a0_1 a0_2 a1 a2_0 a2_1 a2_2 a2_3 a2_4 a2_5 a2_6 a2_7 a2_8 A2_9 c2_9 l2_9 a3_0 a3_2 a3_1 a3_3 a3_4 a3_5 a3_6 A3_7 l3_7.length c3_7 A3_8 l3_8.length c3_8 a4_0 a4_1 a4_2 a4_3 false false w fun g1 g2 g3 => absurd ⟨g1, g2, g3⟩ hc

/-! ### prune_Atom: function 8 -/
def prune_Atom.j0 : Nat → Int → Bool → ByteArray → Int → Bool → Int → Int → Int → Nat → ByteArray → Int → Int → Nat → ByteArray → List Int → Int → ByteArray → Int → Int → Int → Nat → ByteArray → List (S32) → List (S39) → Bool → Bool → Bool → Int → Option (Bool × Bool × Bool × Int)
  | 0, _, _, _, _, _, _, _, _, _, _, _, _, _, _, _, _, _, _, _, _, _, _, _, _, _, _, _, _ => none
  | k + 1, x1, x20, x173000, x173001, x173002, x174000, x174001, x174002, x174003, x174004, x174005, x174006, x174007, x174008, x174009, x175000, x175001, x175002, x175003, x175004, x175005, x175006, x175007, x175008, x176000, x176001, x176002, x176003 => if x20 = true then (some (false, false, false, 150)) else ((zone_May.f k x173000 x173001 x173002 x1 x174000 x174001 x174002 x174003 x174004 x174005 x174006 x174007 x174008 x174009).bind fun t177 => (if t177 = true then ((atom_Check.f k (([(⟨x173000, x173001, x173002⟩ : S29)] : List (S29))) x175000 x175001 x175002 x175003 x175004 x175005 x175006 x175007 x175008).bind fun t181 => (if t181 = 0 then ((prune_truths.f k x173000 x173001 x173002 x1 x174000 x174001 x174002 x174003 x174004 x174005 x174006 x174007 x174008 x174009 x175000 x175001 x175002 x175003 x175004 x175005 x175006 x175007 x175008 x176000 x176001 x176002 x176003).bind fun bt182 => (some (bt182.1, bt182.2.1, bt182.2.2, 0))) else (some (false, false, false, t181)))) else (some (false, false, false, 140))))
def prune_Atom.f (k : Nat) (a0_0 : ByteArray) (a0_1 : Int) (a0_2 : Bool) (a1 : Int) (a2_0 : Int) (a2_1 : Int) (a2_2 : Int) (a2_3 : Nat) (a2_4 : ByteArray) (a2_5 : Int) (a2_6 : Int) (a2_7 : Nat) (a2_8 : ByteArray) (l2_9 : List Int) (a3_0 : Int) (a3_1 : ByteArray) (a3_2 : Int) (a3_3 : Int) (a3_4 : Int) (a3_5 : Nat) (a3_6 : ByteArray) (l3_7 : List (S32)) (l3_8 : List (S39)) (a4_0 : Bool) (a4_1 : Bool) (a4_2 : Bool) (a4_3 : Int) : Option (Bool × Bool × Bool × Int) := if a0_1 = 1 then (prune_Atom.j0 k a1 false a0_0 a0_1 a0_2 a2_0 a2_1 a2_2 a2_3 a2_4 a2_5 a2_6 a2_7 a2_8 l2_9 a3_0 a3_1 a3_2 a3_3 a3_4 a3_5 a3_6 l3_7 l3_8 a4_0 a4_1 a4_2 a4_3) else (prune_Atom.j0 k a1 (a0_1 != 2) a0_0 a0_1 a0_2 a2_0 a2_1 a2_2 a2_3 a2_4 a2_5 a2_6 a2_7 a2_8 l2_9 a3_0 a3_1 a3_2 a3_3 a3_4 a3_5 a3_6 l3_7 l3_8 a4_0 a4_1 a4_2 a4_3)
theorem prune_Atom.mono_l : ∀ k, (∀ y0 y1 y2 y3 y4 y5 y6 y7 y8 y9 y10 y11 y12 y13 y14 y15 y16 y17 y18 y19 y20 y21 y22 y23 y24 y25 y26 y27, LeO (prune_Atom.j0 k y0 y1 y2 y3 y4 y5 y6 y7 y8 y9 y10 y11 y12 y13 y14 y15 y16 y17 y18 y19 y20 y21 y22 y23 y24 y25 y26 y27) (prune_Atom.j0 (k + 1) y0 y1 y2 y3 y4 y5 y6 y7 y8 y9 y10 y11 y12 y13 y14 y15 y16 y17 y18 y19 y20 y21 y22 y23 y24 y25 y26 y27))
  | 0 => fun _ _ _ _ _ _ _ _ _ _ _ _ _ _ _ _ _ _ _ _ _ _ _ _ _ _ _ _ r h => by simp [prune_Atom.j0] at h
  | k + 1 => by
    have ih0 := prune_Atom.mono_l k
    · intro y0 y1 y2 y3 y4 y5 y6 y7 y8 y9 y10 y11 y12 y13 y14 y15 y16 y17 y18 y19 y20 y21 y22 y23 y24 y25 y26 y27
      unfold prune_Atom.j0
      repeat' first
      | (with_reducible exact ih0 _ _ _ _ _ _ _ _ _ _ _ _ _ _ _ _ _ _ _ _ _ _ _ _ _ _ _ _)
      | (with_reducible exact atom_Check.mono _ _ _ _ _ _ _ _ _ _ _)
      | (with_reducible exact prune_truths.mono _ _ _ _ _ _ _ _ _ _ _ _ _ _ _ _ _ _ _ _ _ _ _ _ _ _ _ _)
      | (with_reducible exact zone_May.mono _ _ _ _ _ _ _ _ _ _ _ _ _ _ _)
      | (with_reducible exact LeO.refl _)
      | (with_reducible exact LeO.none _)
      | (with_reducible refine LeO.ite ?_ ?_)
      | (with_reducible refine LeO.bind ?_ (fun _ => ?_))
      | exact ih0 _ _ _ _ _ _ _ _ _ _ _ _ _ _ _ _ _ _ _ _ _ _ _ _ _ _ _ _
      | exact atom_Check.mono _ _ _ _ _ _ _ _ _ _ _
      | exact prune_truths.mono _ _ _ _ _ _ _ _ _ _ _ _ _ _ _ _ _ _ _ _ _ _ _ _ _ _ _ _
      | exact zone_May.mono _ _ _ _ _ _ _ _ _ _ _ _ _ _ _
      | exact LeO.none _
      | refine LeO.ite ?_ ?_
      | refine LeO.bind ?_ (fun _ => ?_)
theorem prune_Atom.mono : ∀ a0 a1 a2 a3 a4 a5 a6 a7 a8 a9 a10 a11 a12 a13 a14 a15 a16 a17 a18 a19 a20 a21 a22 a23 a24 a25 a26 k, LeO (prune_Atom.f k a0 a1 a2 a3 a4 a5 a6 a7 a8 a9 a10 a11 a12 a13 a14 a15 a16 a17 a18 a19 a20 a21 a22 a23 a24 a25 a26) (prune_Atom.f (k + 1) a0 a1 a2 a3 a4 a5 a6 a7 a8 a9 a10 a11 a12 a13 a14 a15 a16 a17 a18 a19 a20 a21 a22 a23 a24 a25 a26) := by
  intro a0 a1 a2 a3 a4 a5 a6 a7 a8 a9 a10 a11 a12 a13 a14 a15 a16 a17 a18 a19 a20 a21 a22 a23 a24 a25 a26 k
  have ih0 := prune_Atom.mono_l k
  unfold prune_Atom.f
  repeat' first
      | (with_reducible exact ih0 _ _ _ _ _ _ _ _ _ _ _ _ _ _ _ _ _ _ _ _ _ _ _ _ _ _ _ _)
      | (with_reducible exact atom_Check.mono _ _ _ _ _ _ _ _ _ _ _)
      | (with_reducible exact prune_truths.mono _ _ _ _ _ _ _ _ _ _ _ _ _ _ _ _ _ _ _ _ _ _ _ _ _ _ _ _)
      | (with_reducible exact zone_May.mono _ _ _ _ _ _ _ _ _ _ _ _ _ _ _)
      | (with_reducible exact LeO.refl _)
      | (with_reducible exact LeO.none _)
      | (with_reducible refine LeO.ite ?_ ?_)
      | (with_reducible refine LeO.bind ?_ (fun _ => ?_))
      | exact ih0 _ _ _ _ _ _ _ _ _ _ _ _ _ _ _ _ _ _ _ _ _ _ _ _ _ _ _ _
      | exact atom_Check.mono _ _ _ _ _ _ _ _ _ _ _
      | exact prune_truths.mono _ _ _ _ _ _ _ _ _ _ _ _ _ _ _ _ _ _ _ _ _ _ _ _ _ _ _ _
      | exact zone_May.mono _ _ _ _ _ _ _ _ _ _ _ _ _ _ _
      | exact LeO.none _
      | refine LeO.ite ?_ ?_
      | refine LeO.bind ?_ (fun _ => ?_)
set_option maxHeartbeats 8000000 in
set_option maxRecDepth 100000 in
theorem prune_Atom.calls (k : Nat) (a0_0 : ByteArray) (a0_1 : Int) (a0_2 : Bool) (a1 : Int) (a2_0 : Int) (a2_1 : Int) (a2_2 : Int) (a2_3 : Nat) (a2_4 : ByteArray) (a2_5 : Int) (a2_6 : Int) (a2_7 : Nat) (a2_8 : ByteArray) (A2_9 : Option Addr) (c2_9 : Nat) (l2_9 : List Int) (a3_0 : Int) (a3_1 : ByteArray) (a3_2 : Int) (a3_3 : Int) (a3_4 : Int) (a3_5 : Nat) (a3_6 : ByteArray) (A3_7 : Option Addr) (c3_7 : Nat) (l3_7 : List (S32)) (A3_8 : Option Addr) (c3_8 : Nat) (l3_8 : List (S39)) (a4_0 : Bool) (a4_1 : Bool) (a4_2 : Bool) (a4_3 : Int) (r1 : Bool) (r2 : Bool) (r3 : Bool) (r4 : Int) (w : World) (hr2_9 : Kd.C (Kd.int .u8) w A2_9 l2_9.length l2_9) (hc2_9 : l2_9.length ≤ c2_9) (hr3_7 : Kd.C k32 w A3_7 l3_7.length l3_7) (hc3_7 : l3_7.length ≤ c3_7) (hr3_8 : Kd.C k39 w A3_8 l3_8.length l3_8) (hc3_8 : l3_8.length ≤ c3_8) (h : prune_Atom.f k a0_0 a0_1 a0_2 a1 a2_0 a2_1 a2_2 a2_3 a2_4 a2_5 a2_6 a2_7 a2_8 l2_9 a3_0 a3_1 a3_2 a3_3 a3_4 a3_5 a3_6 l3_7 l3_8 a4_0 a4_1 a4_2 a4_3 = some (r1, r2, r3, r4)) :
    Calls Try.prog 8 #[.agg #[.string a0_0, .int .i64 a0_1, .bool a0_2], .int .i64 a1, .agg #[.int .i64 a2_0, .int .i64 a2_1, .int .i64 a2_2, .float .f64 a2_3, .string a2_4, .int .i64 a2_5, .int .i64 a2_6, .float .f64 a2_7, .string a2_8, .slice A2_9 l2_9.length c2_9], .agg #[.int .i64 a3_0, .string a3_1, .int .i64 a3_2, .int .i64 a3_3, .int .i64 a3_4, .float .f64 a3_5, .string a3_6, .slice A3_7 l3_7.length c3_7, .slice A3_8 l3_8.length c3_8], .agg #[.bool a4_0, .bool a4_1, .bool a4_2, .int .i64 a4_3]] w fun e w' => e = .returned (.tuple #[.agg #[.bool r1, .bool r2, .bool r3], .int .i64 r4]) ∧ Below w.heap.size w w' := by
  have hu29 := Try.underlying29
  have hu35 := Try.underlying35
  have hu39 := Try.underlying39
  have hu44 := Try.underlying44
  have hu23 := Try.underlying23
  have HR2_9 := Aside0.mk hr2_9
  have HC2_9 := Aside0.mk hc2_9
  clear hr2_9 hc2_9
  have HR3_7 := Aside0.mk hr3_7
  have HC3_7 := Aside0.mk hc3_7
  clear hr3_7 hc3_7
  have HR3_8 := Aside0.mk hr3_8
  have HC3_8 := Aside0.mk hc3_8
  clear hr3_8 hc3_8
  have HB := Aside0.mk (Below.refl w.heap.size w)
  have H : (if a0_1 = 1 then (prune_Atom.j0 k a1 false a0_0 a0_1 a0_2 a2_0 a2_1 a2_2 a2_3 a2_4 a2_5 a2_6 a2_7 a2_8 l2_9 a3_0 a3_1 a3_2 a3_3 a3_4 a3_5 a3_6 l3_7 l3_8 a4_0 a4_1 a4_2 a4_3) else (prune_Atom.j0 k a1 (a0_1 != 2) a0_0 a0_1 a0_2 a2_0 a2_1 a2_2 a2_3 a2_4 a2_5 a2_6 a2_7 a2_8 l2_9 a3_0 a3_1 a3_2 a3_3 a3_4 a3_5 a3_6 l3_7 l3_8 a4_0 a4_1 a4_2 a4_3)) = some (r1, r2, r3, r4) := h
  clear h
  have HC6 := Aside0.mk H
  clear H
  go_enter Try.func8, Try.ntmps8
  go_upto_region 1 with (first | ((with_reducible refine gate_dst (N := 5) rfl ?_); refine box_event ?hg (N := 5) ?hd (cs := #[.string a0_0, .int .i64 a0_1, .bool a0_2]) (t := 29) ?hr ?_; (case hd => rfl); (case hg => rfl); (case hr => first | (go_simp; done) | (go_simp; rfl)); intro gb172 hg w7 hbox hb; have n0_ := Aside0.mk (below_step (by repeat (first | (with_reducible first | exact HB.out | apply below_alloc | apply pw_below_drewN | apply below_drew1) | exact HB.out)) hb); have n1_ := Aside0.mk (hbox); have n2_ := Aside0.mk ((by rw [hg]; exact (below_size (by repeat (first | (with_reducible first | exact HB.out | apply below_alloc | apply pw_below_drewN | apply below_drew1) | exact HB.out))) : w.heap.size ≤ gb172)); have n3_ := Aside0.mk ((by rw [hg]; exact (below_size (by repeat (first | (with_reducible first | exact HB.out | apply below_alloc | apply pw_below_drewN | apply below_drew1) | exact HB.out))) : w.heap.size ≤ gb172)); clear HB; have HB := n0_; have BK172 := n1_; have GW172 := n2_; have GE172 := n3_; clear n0_ n1_ n2_ n3_; clear hb hbox hg) | ((with_reducible refine gate_dst (N := 7) rfl ?_); refine box_event ?hg (N := 7) ?hd (cs := #[.int .i64 a2_0, .int .i64 a2_1, .int .i64 a2_2, .float .f64 a2_3, .string a2_4, .int .i64 a2_5, .int .i64 a2_6, .float .f64 a2_7, .string a2_8, .slice A2_9 l2_9.length c2_9]) (t := 35) ?hr ?_; (case hd => rfl); (case hg => rfl); (case hr => first | (go_simp; done) | (go_simp; rfl)); intro gb173 hg w8 hbox hb; have n0_ := Aside0.mk (blk_below (g := gb172) (o := .cells #[.string a0_0, .int .i64 a0_1, .bool a0_2] 29 (0, 0)) (by (with_reducible repeat (first | refine blk_drewN ?_ _ | refine blk_drew ?_ | refine blk_alloc ?_ _)); exact BK172.out) hb); have n1_ := Aside0.mk (below_step (by repeat (first | (with_reducible first | exact HB.out | apply below_alloc | apply pw_below_drewN | apply below_drew1 | refine below_set ?_ GE172.out) | exact HB.out)) hb); have n2_ := Aside0.mk (hbox); have n3_ := Aside0.mk ((by rw [hg]; exact (below_size (by repeat (first | (with_reducible first | exact HB.out | apply below_alloc | apply pw_below_drewN | apply below_drew1 | refine below_set ?_ GE172.out) | exact HB.out))) : w.heap.size ≤ gb173)); have n4_ := Aside0.mk ((by rw [hg]; exact (below_size (by repeat (first | (with_reducible first | exact HB.out | apply below_alloc | apply pw_below_drewN | apply below_drew1 | refine below_set ?_ GE172.out) | exact HB.out))) : w.heap.size ≤ gb173)); have n5_ := Aside0.mk ((by rw [hg]; exact Nat.ne_of_lt (blk_lt (g := gb172) (o := .cells #[.string a0_0, .int .i64 a0_1, .bool a0_2] 29 (0, 0)) (by (with_reducible repeat (first | refine blk_drewN ?_ _ | refine blk_drew ?_ | refine blk_alloc ?_ _)); exact BK172.out)) : gb172 ≠ gb173)); have n6_ := Aside0.mk ((by rw [hg]; exact Nat.ne_of_gt (blk_lt (g := gb172) (o := .cells #[.string a0_0, .int .i64 a0_1, .bool a0_2] 29 (0, 0)) (by (with_reducible repeat (first | refine blk_drewN ?_ _ | refine blk_drew ?_ | refine blk_alloc ?_ _)); exact BK172.out)) : gb173 ≠ gb172)); clear BK172; clear HB; have BK172 := n0_; have HB := n1_; have BK173 := n2_; have GW173 := n3_; have GE173 := n4_; have NB172_173 := n5_; have NB173_172 := n6_; clear n0_ n1_ n2_ n3_ n4_ n5_ n6_; clear hb hbox hg) | ((with_reducible refine gate_dst (N := 8) rfl ?_); refine box_event ?hg (N := 8) ?hd (cs := #[.int .i64 a3_0, .string a3_1, .int .i64 a3_2, .int .i64 a3_3, .int .i64 a3_4, .float .f64 a3_5, .string a3_6, .slice A3_7 l3_7.length c3_7, .slice A3_8 l3_8.length c3_8]) (t := 39) ?hr ?_; (case hd => rfl); (case hg => rfl); (case hr => first | (go_simp; done) | (go_simp; rfl)); intro gb174 hg w9 hbox hb; have n0_ := Aside0.mk (blk_below (g := gb172) (o := .cells #[.string a0_0, .int .i64 a0_1, .bool a0_2] 29 (0, 0)) (by (with_reducible repeat (first | refine blk_drewN ?_ _ | refine blk_drew ?_ | refine blk_alloc ?_ _)); exact BK172.out) hb); have n1_ := Aside0.mk (blk_below (g := gb173) (o := .cells #[.int .i64 a2_0, .int .i64 a2_1, .int .i64 a2_2, .float .f64 a2_3, .string a2_4, .int .i64 a2_5, .int .i64 a2_6, .float .f64 a2_7, .string a2_8, .slice A2_9 l2_9.length c2_9] 35 (0, 0)) (by (with_reducible repeat (first | refine blk_drewN ?_ _ | refine blk_drew ?_ | refine blk_alloc ?_ _)); exact BK173.out) hb); have n2_ := Aside0.mk (below_step (by repeat (first | (with_reducible first | exact HB.out | apply below_alloc | apply pw_below_drewN | apply below_drew1 | refine below_set ?_ GE172.out | refine below_set ?_ GE173.out) | exact HB.out)) hb); have n3_ := Aside0.mk (hbox); have n4_ := Aside0.mk ((by rw [hg]; exact (below_size (by repeat (first | (with_reducible first | exact HB.out | apply below_alloc | apply pw_below_drewN | apply below_drew1 | refine below_set ?_ GE172.out | refine below_set ?_ GE173.out) | exact HB.out))) : w.heap.size ≤ gb174)); have n5_ := Aside0.mk ((by rw [hg]; exact (below_size (by repeat (first | (with_reducible first | exact HB.out | apply below_alloc | apply pw_below_drewN | apply below_drew1 | refine below_set ?_ GE172.out | refine below_set ?_ GE173.out) | exact HB.out))) : w.heap.size ≤ gb174)); have n6_ := Aside0.mk ((by rw [hg]; exact Nat.ne_of_lt (blk_lt (g := gb172) (o := .cells #[.string a0_0, .int .i64 a0_1, .bool a0_2] 29 (0, 0)) (by (with_reducible repeat (first | refine blk_drewN ?_ _ | refine blk_drew ?_ | refine blk_alloc ?_ _)); exact BK172.out)) : gb172 ≠ gb174)); have n7_ := Aside0.mk ((by rw [hg]; exact Nat.ne_of_gt (blk_lt (g := gb172) (o := .cells #[.string a0_0, .int .i64 a0_1, .bool a0_2] 29 (0, 0)) (by (with_reducible repeat (first | refine blk_drewN ?_ _ | refine blk_drew ?_ | refine blk_alloc ?_ _)); exact BK172.out)) : gb174 ≠ gb172)); have n8_ := Aside0.mk ((by rw [hg]; exact Nat.ne_of_lt (blk_lt (g := gb173) (o := .cells #[.int .i64 a2_0, .int .i64 a2_1, .int .i64 a2_2, .float .f64 a2_3, .string a2_4, .int .i64 a2_5, .int .i64 a2_6, .float .f64 a2_7, .string a2_8, .slice A2_9 l2_9.length c2_9] 35 (0, 0)) (by (with_reducible repeat (first | refine blk_drewN ?_ _ | refine blk_drew ?_ | refine blk_alloc ?_ _)); exact BK173.out)) : gb173 ≠ gb174)); have n9_ := Aside0.mk ((by rw [hg]; exact Nat.ne_of_gt (blk_lt (g := gb173) (o := .cells #[.int .i64 a2_0, .int .i64 a2_1, .int .i64 a2_2, .float .f64 a2_3, .string a2_4, .int .i64 a2_5, .int .i64 a2_6, .float .f64 a2_7, .string a2_8, .slice A2_9 l2_9.length c2_9] 35 (0, 0)) (by (with_reducible repeat (first | refine blk_drewN ?_ _ | refine blk_drew ?_ | refine blk_alloc ?_ _)); exact BK173.out)) : gb174 ≠ gb173)); clear BK172; clear BK173; clear HB; have BK172 := n0_; have BK173 := n1_; have HB := n2_; have BK174 := n3_; have GW174 := n4_; have GE174 := n5_; have NB172_174 := n6_; have NB174_172 := n7_; have NB173_174 := n8_; have NB174_173 := n9_; clear n0_ n1_ n2_ n3_ n4_ n5_ n6_ n7_ n8_ n9_; clear hb hbox hg) | ((with_reducible refine gate_dst (N := 9) rfl ?_); refine box_event ?hg (N := 9) ?hd (cs := #[.bool a4_0, .bool a4_1, .bool a4_2, .int .i64 a4_3]) (t := 44) ?hr ?_; (case hd => rfl); (case hg => rfl); (case hr => first | (go_simp; done) | (go_simp; rfl)); intro gb175 hg w10 hbox hb; have n0_ := Aside0.mk (blk_below (g := gb172) (o := .cells #[.string a0_0, .int .i64 a0_1, .bool a0_2] 29 (0, 0)) (by (with_reducible repeat (first | refine blk_drewN ?_ _ | refine blk_drew ?_ | refine blk_alloc ?_ _)); exact BK172.out) hb); have n1_ := Aside0.mk (blk_below (g := gb173) (o := .cells #[.int .i64 a2_0, .int .i64 a2_1, .int .i64 a2_2, .float .f64 a2_3, .string a2_4, .int .i64 a2_5, .int .i64 a2_6, .float .f64 a2_7, .string a2_8, .slice A2_9 l2_9.length c2_9] 35 (0, 0)) (by (with_reducible repeat (first | refine blk_drewN ?_ _ | refine blk_drew ?_ | refine blk_alloc ?_ _)); exact BK173.out) hb); have n2_ := Aside0.mk (blk_below (g := gb174) (o := .cells #[.int .i64 a3_0, .string a3_1, .int .i64 a3_2, .int .i64 a3_3, .int .i64 a3_4, .float .f64 a3_5, .string a3_6, .slice A3_7 l3_7.length c3_7, .slice A3_8 l3_8.length c3_8] 39 (0, 0)) (by (with_reducible repeat (first | refine blk_drewN ?_ _ | refine blk_drew ?_ | refine blk_alloc ?_ _)); exact BK174.out) hb); have n3_ := Aside0.mk (below_step (by repeat (first | (with_reducible first | exact HB.out | apply below_alloc | apply pw_below_drewN | apply below_drew1 | refine below_set ?_ GE172.out | refine below_set ?_ GE173.out | refine below_set ?_ GE174.out) | exact HB.out)) hb); have n4_ := Aside0.mk (hbox); have n5_ := Aside0.mk ((by rw [hg]; exact (below_size (by repeat (first | (with_reducible first | exact HB.out | apply below_alloc | apply pw_below_drewN | apply below_drew1 | refine below_set ?_ GE172.out | refine below_set ?_ GE173.out | refine below_set ?_ GE174.out) | exact HB.out))) : w.heap.size ≤ gb175)); have n6_ := Aside0.mk ((by rw [hg]; exact (below_size (by repeat (first | (with_reducible first | exact HB.out | apply below_alloc | apply pw_below_drewN | apply below_drew1 | refine below_set ?_ GE172.out | refine below_set ?_ GE173.out | refine below_set ?_ GE174.out) | exact HB.out))) : w.heap.size ≤ gb175)); have n7_ := Aside0.mk ((by rw [hg]; exact Nat.ne_of_lt (blk_lt (g := gb172) (o := .cells #[.string a0_0, .int .i64 a0_1, .bool a0_2] 29 (0, 0)) (by (with_reducible repeat (first | refine blk_drewN ?_ _ | refine blk_drew ?_ | refine blk_alloc ?_ _)); exact BK172.out)) : gb172 ≠ gb175)); have n8_ := Aside0.mk ((by rw [hg]; exact Nat.ne_of_gt (blk_lt (g := gb172) (o := .cells #[.string a0_0, .int .i64 a0_1, .bool a0_2] 29 (0, 0)) (by (with_reducible repeat (first | refine blk_drewN ?_ _ | refine blk_drew ?_ | refine blk_alloc ?_ _)); exact BK172.out)) : gb175 ≠ gb172)); have n9_ := Aside0.mk ((by rw [hg]; exact Nat.ne_of_lt (blk_lt (g := gb173) (o := .cells #[.int .i64 a2_0, .int .i64 a2_1, .int .i64 a2_2, .float .f64 a2_3, .string a2_4, .int .i64 a2_5, .int .i64 a2_6, .float .f64 a2_7, .string a2_8, .slice A2_9 l2_9.length c2_9] 35 (0, 0)) (by (with_reducible repeat (first | refine blk_drewN ?_ _ | refine blk_drew ?_ | refine blk_alloc ?_ _)); exact BK173.out)) : gb173 ≠ gb175)); have n10_ := Aside0.mk ((by rw [hg]; exact Nat.ne_of_gt (blk_lt (g := gb173) (o := .cells #[.int .i64 a2_0, .int .i64 a2_1, .int .i64 a2_2, .float .f64 a2_3, .string a2_4, .int .i64 a2_5, .int .i64 a2_6, .float .f64 a2_7, .string a2_8, .slice A2_9 l2_9.length c2_9] 35 (0, 0)) (by (with_reducible repeat (first | refine blk_drewN ?_ _ | refine blk_drew ?_ | refine blk_alloc ?_ _)); exact BK173.out)) : gb175 ≠ gb173)); have n11_ := Aside0.mk ((by rw [hg]; exact Nat.ne_of_lt (blk_lt (g := gb174) (o := .cells #[.int .i64 a3_0, .string a3_1, .int .i64 a3_2, .int .i64 a3_3, .int .i64 a3_4, .float .f64 a3_5, .string a3_6, .slice A3_7 l3_7.length c3_7, .slice A3_8 l3_8.length c3_8] 39 (0, 0)) (by (with_reducible repeat (first | refine blk_drewN ?_ _ | refine blk_drew ?_ | refine blk_alloc ?_ _)); exact BK174.out)) : gb174 ≠ gb175)); have n12_ := Aside0.mk ((by rw [hg]; exact Nat.ne_of_gt (blk_lt (g := gb174) (o := .cells #[.int .i64 a3_0, .string a3_1, .int .i64 a3_2, .int .i64 a3_3, .int .i64 a3_4, .float .f64 a3_5, .string a3_6, .slice A3_7 l3_7.length c3_7, .slice A3_8 l3_8.length c3_8] 39 (0, 0)) (by (with_reducible repeat (first | refine blk_drewN ?_ _ | refine blk_drew ?_ | refine blk_alloc ?_ _)); exact BK174.out)) : gb175 ≠ gb174)); clear BK172; clear BK173; clear BK174; clear HB; have BK172 := n0_; have BK173 := n1_; have BK174 := n2_; have HB := n3_; have BK175 := n4_; have GW175 := n5_; have GE175 := n6_; have NB172_175 := n7_; have NB175_172 := n8_; have NB173_175 := n9_; have NB175_173 := n10_; have NB174_175 := n11_; have NB175_174 := n12_; clear n0_ n1_ n2_ n3_ n4_ n5_ n6_ n7_ n8_ n9_ n10_ n11_ n12_; clear hb hbox hg) | ((with_reducible refine gate_dst (N := 10) rfl ?_); refine box_event ?hg (N := 10) ?hd (cs := #[.bool false, .bool false, .bool false]) (t := 23) ?hr ?_; (case hd => rfl); (case hg => rfl); (case hr => first | (go_simp; done) | (go_simp; rfl)); intro gb176 hg w11 hbox hb; have n0_ := Aside0.mk (blk_below (g := gb172) (o := .cells #[.string a0_0, .int .i64 a0_1, .bool a0_2] 29 (0, 0)) (by (with_reducible repeat (first | refine blk_drewN ?_ _ | refine blk_drew ?_ | refine blk_alloc ?_ _)); exact BK172.out) hb); have n1_ := Aside0.mk (blk_below (g := gb173) (o := .cells #[.int .i64 a2_0, .int .i64 a2_1, .int .i64 a2_2, .float .f64 a2_3, .string a2_4, .int .i64 a2_5, .int .i64 a2_6, .float .f64 a2_7, .string a2_8, .slice A2_9 l2_9.length c2_9] 35 (0, 0)) (by (with_reducible repeat (first | refine blk_drewN ?_ _ | refine blk_drew ?_ | refine blk_alloc ?_ _)); exact BK173.out) hb); have n2_ := Aside0.mk (blk_below (g := gb174) (o := .cells #[.int .i64 a3_0, .string a3_1, .int .i64 a3_2, .int .i64 a3_3, .int .i64 a3_4, .float .f64 a3_5, .string a3_6, .slice A3_7 l3_7.length c3_7, .slice A3_8 l3_8.length c3_8] 39 (0, 0)) (by (with_reducible repeat (first | refine blk_drewN ?_ _ | refine blk_drew ?_ | refine blk_alloc ?_ _)); exact BK174.out) hb); have n3_ := Aside0.mk (blk_below (g := gb175) (o := .cells #[.bool a4_0, .bool a4_1, .bool a4_2, .int .i64 a4_3] 44 (0, 0)) (by (with_reducible repeat (first | refine blk_drewN ?_ _ | refine blk_drew ?_ | refine blk_alloc ?_ _)); exact BK175.out) hb); have n4_ := Aside0.mk (below_step (by repeat (first | (with_reducible first | exact HB.out | apply below_alloc | apply pw_below_drewN | apply below_drew1 | refine below_set ?_ GE172.out | refine below_set ?_ GE173.out | refine below_set ?_ GE174.out | refine below_set ?_ GE175.out) | exact HB.out)) hb); have n5_ := Aside0.mk (hbox); have n6_ := Aside0.mk ((by rw [hg]; exact (below_size (by repeat (first | (with_reducible first | exact HB.out | apply below_alloc | apply pw_below_drewN | apply below_drew1 | refine below_set ?_ GE172.out | refine below_set ?_ GE173.out | refine below_set ?_ GE174.out | refine below_set ?_ GE175.out) | exact HB.out))) : w.heap.size ≤ gb176)); have n7_ := Aside0.mk ((by rw [hg]; exact (below_size (by repeat (first | (with_reducible first | exact HB.out | apply below_alloc | apply pw_below_drewN | apply below_drew1 | refine below_set ?_ GE172.out | refine below_set ?_ GE173.out | refine below_set ?_ GE174.out | refine below_set ?_ GE175.out) | exact HB.out))) : w.heap.size ≤ gb176)); have n8_ := Aside0.mk ((by rw [hg]; exact Nat.ne_of_lt (blk_lt (g := gb172) (o := .cells #[.string a0_0, .int .i64 a0_1, .bool a0_2] 29 (0, 0)) (by (with_reducible repeat (first | refine blk_drewN ?_ _ | refine blk_drew ?_ | refine blk_alloc ?_ _)); exact BK172.out)) : gb172 ≠ gb176)); have n9_ := Aside0.mk ((by rw [hg]; exact Nat.ne_of_gt (blk_lt (g := gb172) (o := .cells #[.string a0_0, .int .i64 a0_1, .bool a0_2] 29 (0, 0)) (by (with_reducible repeat (first | refine blk_drewN ?_ _ | refine blk_drew ?_ | refine blk_alloc ?_ _)); exact BK172.out)) : gb176 ≠ gb172)); have n10_ := Aside0.mk ((by rw [hg]; exact Nat.ne_of_lt (blk_lt (g := gb173) (o := .cells #[.int .i64 a2_0, .int .i64 a2_1, .int .i64 a2_2, .float .f64 a2_3, .string a2_4, .int .i64 a2_5, .int .i64 a2_6, .float .f64 a2_7, .string a2_8, .slice A2_9 l2_9.length c2_9] 35 (0, 0)) (by (with_reducible repeat (first | refine blk_drewN ?_ _ | refine blk_drew ?_ | refine blk_alloc ?_ _)); exact BK173.out)) : gb173 ≠ gb176)); have n11_ := Aside0.mk ((by rw [hg]; exact Nat.ne_of_gt (blk_lt (g := gb173) (o := .cells #[.int .i64 a2_0, .int .i64 a2_1, .int .i64 a2_2, .float .f64 a2_3, .string a2_4, .int .i64 a2_5, .int .i64 a2_6, .float .f64 a2_7, .string a2_8, .slice A2_9 l2_9.length c2_9] 35 (0, 0)) (by (with_reducible repeat (first | refine blk_drewN ?_ _ | refine blk_drew ?_ | refine blk_alloc ?_ _)); exact BK173.out)) : gb176 ≠ gb173)); have n12_ := Aside0.mk ((by rw [hg]; exact Nat.ne_of_lt (blk_lt (g := gb174) (o := .cells #[.int .i64 a3_0, .string a3_1, .int .i64 a3_2, .int .i64 a3_3, .int .i64 a3_4, .float .f64 a3_5, .string a3_6, .slice A3_7 l3_7.length c3_7, .slice A3_8 l3_8.length c3_8] 39 (0, 0)) (by (with_reducible repeat (first | refine blk_drewN ?_ _ | refine blk_drew ?_ | refine blk_alloc ?_ _)); exact BK174.out)) : gb174 ≠ gb176)); have n13_ := Aside0.mk ((by rw [hg]; exact Nat.ne_of_gt (blk_lt (g := gb174) (o := .cells #[.int .i64 a3_0, .string a3_1, .int .i64 a3_2, .int .i64 a3_3, .int .i64 a3_4, .float .f64 a3_5, .string a3_6, .slice A3_7 l3_7.length c3_7, .slice A3_8 l3_8.length c3_8] 39 (0, 0)) (by (with_reducible repeat (first | refine blk_drewN ?_ _ | refine blk_drew ?_ | refine blk_alloc ?_ _)); exact BK174.out)) : gb176 ≠ gb174)); have n14_ := Aside0.mk ((by rw [hg]; exact Nat.ne_of_lt (blk_lt (g := gb175) (o := .cells #[.bool a4_0, .bool a4_1, .bool a4_2, .int .i64 a4_3] 44 (0, 0)) (by (with_reducible repeat (first | refine blk_drewN ?_ _ | refine blk_drew ?_ | refine blk_alloc ?_ _)); exact BK175.out)) : gb175 ≠ gb176)); have n15_ := Aside0.mk ((by rw [hg]; exact Nat.ne_of_gt (blk_lt (g := gb175) (o := .cells #[.bool a4_0, .bool a4_1, .bool a4_2, .int .i64 a4_3] 44 (0, 0)) (by (with_reducible repeat (first | refine blk_drewN ?_ _ | refine blk_drew ?_ | refine blk_alloc ?_ _)); exact BK175.out)) : gb176 ≠ gb175)); clear BK172; clear BK173; clear BK174; clear BK175; clear HB; have BK172 := n0_; have BK173 := n1_; have BK174 := n2_; have BK175 := n3_; have HB := n4_; have BK176 := n5_; have GW176 := n6_; have GE176 := n7_; have NB172_176 := n8_; have NB176_172 := n9_; have NB173_176 := n10_; have NB176_173 := n11_; have NB174_176 := n12_; have NB176_174 := n13_; have NB175_176 := n14_; have NB176_175 := n15_; clear n0_ n1_ n2_ n3_ n4_ n5_ n6_ n7_ n8_ n9_ n10_ n11_ n12_ n13_ n14_ n15_; clear hb hbox hg))
  (try simp only [Act.put, List.setIfInBounds_toArray, List.set_cons_zero, List.set_cons_succ])
  go_cut [20] (fun v20 wc => ∃ (kq : Nat) (x20_5 : Bool), v20 = .bool x20_5 ∧ Aside0 (prune_Atom.j0 kq a1 x20_5 a0_0 a0_1 a0_2 a2_0 a2_1 a2_2 a2_3 a2_4 a2_5 a2_6 a2_7 a2_8 l2_9 a3_0 a3_1 a3_2 a3_3 a3_4 a3_5 a3_6 l3_7 l3_8 a4_0 a4_1 a4_2 a4_3 = some (r1, r2, r3, r4)) ∧ Aside0 (kq ≤ k) ∧ Aside0 (wc.heap[gb172]? = some (.cells #[.string a0_0, .int .i64 a0_1, .bool a0_2] 29 (0, 0))) ∧ Aside0 (wc.heap[gb173]? = some (.cells #[.int .i64 a2_0, .int .i64 a2_1, .int .i64 a2_2, .float .f64 a2_3, .string a2_4, .int .i64 a2_5, .int .i64 a2_6, .float .f64 a2_7, .string a2_8, (.slice A2_9 l2_9.length c2_9)] 35 (0, 0))) ∧ Aside0 (wc.heap[gb174]? = some (.cells #[.int .i64 a3_0, .string a3_1, .int .i64 a3_2, .int .i64 a3_3, .int .i64 a3_4, .float .f64 a3_5, .string a3_6, (.slice A3_7 l3_7.length c3_7), (.slice A3_8 l3_8.length c3_8)] 39 (0, 0))) ∧ Aside0 (wc.heap[gb175]? = some (.cells #[.bool a4_0, .bool a4_1, .bool a4_2, .int .i64 a4_3] 44 (0, 0))) ∧ Aside0 (wc.heap[gb176]? = some (.cells #[.bool false, .bool false, .bool false] 23 (0, 0))) ∧ Aside0 (Below w.heap.size w wc))
  case first =>
    have H := HC6.out
    clear HC6
    by_cases c12 : a0_1 = 1
    · rw [if_pos c12] at H
      have c12b0 : (a0_1 == 1) = true := beq_iff_eq.mpr c12
      have c12b1 : (a0_1 != 1) = false := bne_eq_false_iff_eq.mpr c12
      clear c12
      (first | rw [c12b0] | (simp only [i64_w, i32_w]; rw [c12b0]) | skip)
      have H' := Aside0.mk H
      clear H
      have hnb13 := NB172_173.out
      have hnc13 := NB173_172.out
      have hnb14 := NB172_174.out
      have hnc14 := NB174_172.out
      have hnb15 := NB172_175.out
      have hnc15 := NB175_172.out
      have hnb16 := NB172_176.out
      have hnc16 := NB176_172.out
      have hcz17_0 : w11.cell? ⟨gb172, 0, none⟩ = some (.string a0_0) := (blk_cell BK172.out 0).trans rfl
      have hcz17_1 : w11.cell? ⟨gb172, 1, none⟩ = some (.int .i64 a0_1) := (blk_cell BK172.out 1).trans rfl
      have hcz17_2 : w11.cell? ⟨gb172, 2, none⟩ = some (.bool a0_2) := (blk_cell BK172.out 2).trans rfl
      have hfz17_0 := blk_frozen BK172.out 0
      have hfz17_1 := blk_frozen BK172.out 1
      have hfz17_2 := blk_frozen BK172.out 2
      go_wp2
      go_meet
      case rel => exact ⟨_, (false), (by first | rfl | (simp; done) | (simp [*]; done)), H', ⟨by first | omega | exact Nat.le_refl _⟩, ⟨by (with_reducible repeat (first | refine blk_drewN ?_ _ | refine blk_drew ?_ | refine blk_alloc ?_ _)); exact BK172.out⟩, ⟨by (with_reducible repeat (first | refine blk_drewN ?_ _ | refine blk_drew ?_ | refine blk_alloc ?_ _)); exact BK173.out⟩, ⟨by (with_reducible repeat (first | refine blk_drewN ?_ _ | refine blk_drew ?_ | refine blk_alloc ?_ _)); exact BK174.out⟩, ⟨by (with_reducible repeat (first | refine blk_drewN ?_ _ | refine blk_drew ?_ | refine blk_alloc ?_ _)); exact BK175.out⟩, ⟨by (with_reducible repeat (first | refine blk_drewN ?_ _ | refine blk_drew ?_ | refine blk_alloc ?_ _)); exact BK176.out⟩, ⟨by repeat (first | (with_reducible first | exact HB.out | apply below_alloc | apply pw_below_drewN | apply below_drew1 | refine below_set ?_ GE172.out | refine below_set ?_ GE173.out | refine below_set ?_ GE174.out | refine below_set ?_ GE175.out | refine below_set ?_ GE176.out) | exact HB.out)⟩⟩
    · rw [if_neg c12] at H
      have c12b0 : (a0_1 == 1) = false := beq_eq_false_iff_ne.mpr c12
      have c12b1 : (a0_1 != 1) = true := bne_iff_ne.mpr c12
      (first | rw [c12b0] | (simp only [i64_w, i32_w]; rw [c12b0]) | skip)
      have H' := Aside0.mk H
      clear H
      have hnb18 := NB172_173.out
      have hnc18 := NB173_172.out
      have hnb19 := NB172_174.out
      have hnc19 := NB174_172.out
      have hnb20 := NB172_175.out
      have hnc20 := NB175_172.out
      have hnb21 := NB172_176.out
      have hnc21 := NB176_172.out
      have hcz22_0 : w11.cell? ⟨gb172, 0, none⟩ = some (.string a0_0) := (blk_cell BK172.out 0).trans rfl
      have hcz22_1 : w11.cell? ⟨gb172, 1, none⟩ = some (.int .i64 a0_1) := (blk_cell BK172.out 1).trans rfl
      have hcz22_2 : w11.cell? ⟨gb172, 2, none⟩ = some (.bool a0_2) := (blk_cell BK172.out 2).trans rfl
      have hfz22_0 := blk_frozen BK172.out 0
      have hfz22_1 := blk_frozen BK172.out 1
      have hfz22_2 := blk_frozen BK172.out 2
      go_wp2
      go_meet
      case rel => exact ⟨_, ((a0_1 != 2)), (by first | rfl | (simp; done) | (simp [*]; done)), H', ⟨by first | omega | exact Nat.le_refl _⟩, ⟨by (with_reducible repeat (first | refine blk_drewN ?_ _ | refine blk_drew ?_ | refine blk_alloc ?_ _)); exact BK172.out⟩, ⟨by (with_reducible repeat (first | refine blk_drewN ?_ _ | refine blk_drew ?_ | refine blk_alloc ?_ _)); exact BK173.out⟩, ⟨by (with_reducible repeat (first | refine blk_drewN ?_ _ | refine blk_drew ?_ | refine blk_alloc ?_ _)); exact BK174.out⟩, ⟨by (with_reducible repeat (first | refine blk_drewN ?_ _ | refine blk_drew ?_ | refine blk_alloc ?_ _)); exact BK175.out⟩, ⟨by (with_reducible repeat (first | refine blk_drewN ?_ _ | refine blk_drew ?_ | refine blk_alloc ?_ _)); exact BK176.out⟩, ⟨by repeat (first | (with_reducible first | exact HB.out | apply below_alloc | apply pw_below_drewN | apply below_drew1 | refine below_set ?_ GE172.out | refine below_set ?_ GE173.out | refine below_set ?_ GE174.out | refine below_set ?_ GE175.out | refine below_set ?_ GE176.out) | exact HB.out)⟩⟩
  case rest =>
    clear HC6
    try clear c1
    try clear c2
    try clear p2
    try clear c3
    try clear c8
    try clear c12
    try clear c12b0
    try clear c12b1
    try clear c13
    try clear c14
    try clear c15
    try clear c16
    try clear c18
    try clear c19
    try clear c20
    try clear c21
    try clear hcz17_0
    try clear hcz17_1
    try clear hcz17_2
    try clear hcz22_0
    try clear hcz22_1
    try clear hcz22_2
    try clear hfz17_0
    try clear hfz17_1
    try clear hfz17_2
    try clear hfz22_0
    try clear hfz22_1
    try clear hfz22_2
    obtain ⟨kq, x20_5, rfl, HA, HJ5, BK172, BK173, BK174, BK175, BK176, HB⟩ := hcut
    cases kq with
    | zero => exact absurd HA.out (by simp [prune_Atom.j0])
    | succ kj5 =>
      have H := HA.out
      clear HA
      simp only [prune_Atom.j0] at H
      by_cases c23 : x20_5 = true
      · subst c23
        have H1 : (some (false, false, false, 150)) = some (r1, r2, r3, r4) := by rw [if_pos rfl] at H; exact H
        clear H
        have H := H1
        clear H1
        simp only [Option.some.injEq, Prod.mk.injEq] at H
        obtain ⟨rfl, rfl, rfl, rfl⟩ := H
        have hnb24 := NB176_172.out
        have hnc24 := NB172_176.out
        have hnb25 := NB176_173.out
        have hnc25 := NB173_176.out
        have hnb26 := NB176_174.out
        have hnc26 := NB174_176.out
        have hnb27 := NB176_175.out
        have hnc27 := NB175_176.out
        have hcz28_0 : wc.cell? ⟨gb176, 0, none⟩ = some (.bool false) := (blk_cell BK176.out 0).trans rfl
        have hcz28_1 : wc.cell? ⟨gb176, 1, none⟩ = some (.bool false) := (blk_cell BK176.out 1).trans rfl
        have hcz28_2 : wc.cell? ⟨gb176, 2, none⟩ = some (.bool false) := (blk_cell BK176.out 2).trans rfl
        have hfz28_0 := blk_frozen BK176.out 0
        have hfz28_1 := blk_frozen BK176.out 1
        have hfz28_2 := blk_frozen BK176.out 2
        go_wp2
        refine bodyPost_ret (results_ct rfl _ _ gb176 23 #[.bool false, .bool false, .bool false] (0, 0) _ rfl (by (with_reducible repeat (first | refine blk_drewN ?_ _ | refine blk_drew ?_ | refine blk_alloc ?_ _)); refine blk_put (cs := #[.bool false, .bool false, .bool false]) ?_ 2 _ rfl; (with_reducible repeat (first | refine blk_drewN ?_ _ | refine blk_drew ?_ | refine blk_alloc ?_ _)); refine blk_put (cs := #[.bool false, .bool false, .bool false]) ?_ 1 _ rfl; (with_reducible repeat (first | refine blk_drewN ?_ _ | refine blk_drew ?_ | refine blk_alloc ?_ _)); refine blk_put (cs := #[.bool false, .bool false, .bool false]) ?_ 0 _ rfl; (with_reducible repeat (first | refine blk_drewN ?_ _ | refine blk_drew ?_ | refine blk_alloc ?_ _)); exact BK176.out) Try.underlying23 rfl (by kernel_rfl)) rfl ?_
        exact ⟨by first | rfl | (simp [errW_none, errW_some] <;> rfl) | (simp [*, errW_none, errW_some] <;> rfl), by repeat (first | (with_reducible first | exact HB.out | apply below_alloc | apply pw_below_drewN | apply below_drew1 | refine below_set ?_ GE172.out | refine below_set ?_ GE173.out | refine below_set ?_ GE174.out | refine below_set ?_ GE175.out | refine below_set ?_ GE176.out) | exact HB.out)⟩
      · replace c23 := Bool.eq_false_iff.mpr c23
        subst c23
        have H1 : ((zone_May.f kj5 a0_0 a0_1 a0_2 a1 a2_0 a2_1 a2_2 a2_3 a2_4 a2_5 a2_6 a2_7 a2_8 l2_9).bind fun t177 => (if t177 = true then ((atom_Check.f kj5 (([(⟨a0_0, a0_1, a0_2⟩ : S29)] : List (S29))) a3_0 a3_1 a3_2 a3_3 a3_4 a3_5 a3_6 l3_7 l3_8).bind fun t181 => (if t181 = 0 then ((prune_truths.f kj5 a0_0 a0_1 a0_2 a1 a2_0 a2_1 a2_2 a2_3 a2_4 a2_5 a2_6 a2_7 a2_8 l2_9 a3_0 a3_1 a3_2 a3_3 a3_4 a3_5 a3_6 l3_7 l3_8 a4_0 a4_1 a4_2 a4_3).bind fun bt182 => (some (bt182.1, bt182.2.1, bt182.2.2, 0))) else (some (false, false, false, t181)))) else (some (false, false, false, 140)))) = some (r1, r2, r3, r4) := by rw [if_neg (show ¬ (false = true) by decide)] at H; exact H
        clear H
        have H := H1
        clear H1
        replace H := Option.bind_eq_some_iff.mp H
        obtain ⟨t177, A290, H⟩ := H
        replace H : (if t177 = true then ((atom_Check.f kj5 (([(⟨a0_0, a0_1, a0_2⟩ : S29)] : List (S29))) a3_0 a3_1 a3_2 a3_3 a3_4 a3_5 a3_6 l3_7 l3_8).bind fun t181 => (if t181 = 0 then ((prune_truths.f kj5 a0_0 a0_1 a0_2 a1 a2_0 a2_1 a2_2 a2_3 a2_4 a2_5 a2_6 a2_7 a2_8 l2_9 a3_0 a3_1 a3_2 a3_3 a3_4 a3_5 a3_6 l3_7 l3_8 a4_0 a4_1 a4_2 a4_3).bind fun bt182 => (some (bt182.1, bt182.2.1, bt182.2.2, 0))) else (some (false, false, false, t181)))) else (some (false, false, false, 140))) = some (r1, r2, r3, r4) := H
        have A29 := Aside0.mk A290
        clear A290
        by_cases c30 : t177 = true
        · subst c30
          have H1 : ((atom_Check.f kj5 (([(⟨a0_0, a0_1, a0_2⟩ : S29)] : List (S29))) a3_0 a3_1 a3_2 a3_3 a3_4 a3_5 a3_6 l3_7 l3_8).bind fun t181 => (if t181 = 0 then ((prune_truths.f kj5 a0_0 a0_1 a0_2 a1 a2_0 a2_1 a2_2 a2_3 a2_4 a2_5 a2_6 a2_7 a2_8 l2_9 a3_0 a3_1 a3_2 a3_3 a3_4 a3_5 a3_6 l3_7 l3_8 a4_0 a4_1 a4_2 a4_3).bind fun bt182 => (some (bt182.1, bt182.2.1, bt182.2.2, 0))) else (some (false, false, false, t181)))) = some (r1, r2, r3, r4) := by rw [if_pos rfl] at H; exact H
          clear H
          have H := H1
          clear H1
          obtain ⟨y178, hy178⟩ : ∃ y_ : List (S29), y_ = (([(⟨a0_0, a0_1, a0_2⟩ : S29)] : List (S29))) := ⟨_, rfl⟩
          replace H : ((atom_Check.f kj5 y178 a3_0 a3_1 a3_2 a3_3 a3_4 a3_5 a3_6 l3_7 l3_8).bind fun t181 => (if t181 = 0 then ((prune_truths.f kj5 a0_0 a0_1 a0_2 a1 a2_0 a2_1 a2_2 a2_3 a2_4 a2_5 a2_6 a2_7 a2_8 l2_9 a3_0 a3_1 a3_2 a3_3 a3_4 a3_5 a3_6 l3_7 l3_8 a4_0 a4_1 a4_2 a4_3).bind fun bt182 => (some (bt182.1, bt182.2.1, bt182.2.2, 0))) else (some (false, false, false, t181)))) = some (r1, r2, r3, r4) := by first | (rw [hy178]; with_reducible exact H) | (have H2_ := (Option.bind_some _ _).symm.trans H; rw [hy178]; with_reducible exact H2_) | (have H2_ := (Option.bind_some _ _).symm.trans H; with_reducible exact H2_) | with_reducible exact H | (rw [hy178]; exact H) | exact H
          have Ny178 := Aside0.mk hy178
          clear hy178
          replace H := Option.bind_eq_some_iff.mp H
          obtain ⟨t181, A310, H⟩ := H
          replace H : (if t181 = 0 then ((prune_truths.f kj5 a0_0 a0_1 a0_2 a1 a2_0 a2_1 a2_2 a2_3 a2_4 a2_5 a2_6 a2_7 a2_8 l2_9 a3_0 a3_1 a3_2 a3_3 a3_4 a3_5 a3_6 l3_7 l3_8 a4_0 a4_1 a4_2 a4_3).bind fun bt182 => (some (bt182.1, bt182.2.1, bt182.2.2, 0))) else (some (false, false, false, t181))) = some (r1, r2, r3, r4) := H
          have A31 := Aside0.mk A310
          clear A310
          by_cases c32 : t181 = 0
          · rw [if_pos c32] at H
            have c32b0 : (t181 == 0) = true := beq_iff_eq.mpr c32
            have c32b1 : (t181 != 0) = false := bne_eq_false_iff_eq.mpr c32
            clear c32
            replace H := Option.bind_eq_some_iff.mp H
            obtain ⟨⟨t182, t183, t184⟩, A330, H⟩ := H
            replace H : (some (t182, t183, t184, 0)) = some (r1, r2, r3, r4) := H
            have A33 := Aside0.mk A330
            clear A330
            simp only [Option.some.injEq, Prod.mk.injEq] at H
            obtain ⟨rfl, rfl, rfl, rfl⟩ := H
            have hnb34 := NB172_173.out
            have hnc34 := NB173_172.out
            have hnb35 := NB172_174.out
            have hnc35 := NB174_172.out
            have hnb36 := NB172_175.out
            have hnc36 := NB175_172.out
            have hnb37 := NB172_176.out
            have hnc37 := NB176_172.out
            have hcz38_0 : wc.cell? ⟨gb172, 0, none⟩ = some (.string a0_0) := (blk_cell BK172.out 0).trans rfl
            have hcz38_1 : wc.cell? ⟨gb172, 1, none⟩ = some (.int .i64 a0_1) := (blk_cell BK172.out 1).trans rfl
            have hcz38_2 : wc.cell? ⟨gb172, 2, none⟩ = some (.bool a0_2) := (blk_cell BK172.out 2).trans rfl
            have hfz38_0 := blk_frozen BK172.out 0
            have hfz38_1 := blk_frozen BK172.out 1
            have hfz38_2 := blk_frozen BK172.out 2
            have hnb39 := NB173_174.out
            have hnc39 := NB174_173.out
            have hnb40 := NB173_175.out
            have hnc40 := NB175_173.out
            have hnb41 := NB173_176.out
            have hnc41 := NB176_173.out
            have hcz42_0 : wc.cell? ⟨gb173, 0, none⟩ = some (.int .i64 a2_0) := (blk_cell BK173.out 0).trans rfl
            have hcz42_1 : wc.cell? ⟨gb173, 1, none⟩ = some (.int .i64 a2_1) := (blk_cell BK173.out 1).trans rfl
            have hcz42_2 : wc.cell? ⟨gb173, 2, none⟩ = some (.int .i64 a2_2) := (blk_cell BK173.out 2).trans rfl
            have hcz42_3 : wc.cell? ⟨gb173, 3, none⟩ = some (.float .f64 a2_3) := (blk_cell BK173.out 3).trans rfl
            have hcz42_4 : wc.cell? ⟨gb173, 4, none⟩ = some (.string a2_4) := (blk_cell BK173.out 4).trans rfl
            have hcz42_5 : wc.cell? ⟨gb173, 5, none⟩ = some (.int .i64 a2_5) := (blk_cell BK173.out 5).trans rfl
            have hcz42_6 : wc.cell? ⟨gb173, 6, none⟩ = some (.int .i64 a2_6) := (blk_cell BK173.out 6).trans rfl
            have hcz42_7 : wc.cell? ⟨gb173, 7, none⟩ = some (.float .f64 a2_7) := (blk_cell BK173.out 7).trans rfl
            have hcz42_8 : wc.cell? ⟨gb173, 8, none⟩ = some (.string a2_8) := (blk_cell BK173.out 8).trans rfl
            have hcz42_9 : wc.cell? ⟨gb173, 9, none⟩ = some (.slice A2_9 l2_9.length c2_9) := (blk_cell BK173.out 9).trans rfl
            have hfz42_0 := blk_frozen BK173.out 0
            have hfz42_1 := blk_frozen BK173.out 1
            have hfz42_2 := blk_frozen BK173.out 2
            have hfz42_3 := blk_frozen BK173.out 3
            have hfz42_4 := blk_frozen BK173.out 4
            have hfz42_5 := blk_frozen BK173.out 5
            have hfz42_6 := blk_frozen BK173.out 6
            have hfz42_7 := blk_frozen BK173.out 7
            have hfz42_8 := blk_frozen BK173.out 8
            have hfz42_9 := blk_frozen BK173.out 9
            go_wp2_with (first | ((with_reducible refine gate_callee (f := 11) rfl ?_); refine goesL_ (some 25) rfl rfl Try.func11 (by kernel_rfl) rfl #[.agg #[.string a0_0, .int .i64 a0_1, .bool a0_2], .int .i64 a1, .agg #[.int .i64 a2_0, .int .i64 a2_1, .int .i64 a2_2, .float .f64 a2_3, .string a2_4, .int .i64 a2_5, .int .i64 a2_6, .float .f64 a2_7, .string a2_8, .slice A2_9 l2_9.length c2_9]] rfl (by (try simp only [List.map_toArray, List.map_cons, List.map_nil]); first | done | rfl | (simp only [List.length_drop, List.length_take]; rfl)) ?_; (with_reducible refine (zone_May.calls kj5 a0_0 a0_1 a0_2 a1 a2_0 a2_1 a2_2 a2_3 a2_4 a2_5 a2_6 a2_7 a2_8 _ _ l2_9 true _ ?side1 ?side2 A29.out).mono ?_); (case side1 => repeat (first | exact (Kd.C_below HR2_9.out HB.out) | (with_reducible refine Kd.C_alloc ?_ _) | (with_reducible refine Kd.C_drewN ?_ _) | (with_reducible refine Kd.C_drew ?_))); (case side2 => exact HC2_9.out); rintro e w43 ⟨rfl, hb⟩; refine ⟨_, rfl, ?_⟩; have n0_ := Aside0.mk (blk_below (g := gb172) (o := .cells #[.string a0_0, .int .i64 a0_1, .bool a0_2] 29 (0, 0)) (by (with_reducible repeat (first | refine blk_drewN ?_ _ | refine blk_drew ?_ | refine blk_alloc ?_ _)); exact BK172.out) hb); have n1_ := Aside0.mk (blk_below (g := gb173) (o := .cells #[.int .i64 a2_0, .int .i64 a2_1, .int .i64 a2_2, .float .f64 a2_3, .string a2_4, .int .i64 a2_5, .int .i64 a2_6, .float .f64 a2_7, .string a2_8, .slice A2_9 l2_9.length c2_9] 35 (0, 0)) (by (with_reducible repeat (first | refine blk_drewN ?_ _ | refine blk_drew ?_ | refine blk_alloc ?_ _)); exact BK173.out) hb); have n2_ := Aside0.mk (blk_below (g := gb174) (o := .cells #[.int .i64 a3_0, .string a3_1, .int .i64 a3_2, .int .i64 a3_3, .int .i64 a3_4, .float .f64 a3_5, .string a3_6, .slice A3_7 l3_7.length c3_7, .slice A3_8 l3_8.length c3_8] 39 (0, 0)) (by (with_reducible repeat (first | refine blk_drewN ?_ _ | refine blk_drew ?_ | refine blk_alloc ?_ _)); exact BK174.out) hb); have n3_ := Aside0.mk (blk_below (g := gb175) (o := .cells #[.bool a4_0, .bool a4_1, .bool a4_2, .int .i64 a4_3] 44 (0, 0)) (by (with_reducible repeat (first | refine blk_drewN ?_ _ | refine blk_drew ?_ | refine blk_alloc ?_ _)); exact BK175.out) hb); have n4_ := Aside0.mk (blk_below (g := gb176) (o := .cells #[.bool false, .bool false, .bool false] 23 (0, 0)) (by (with_reducible repeat (first | refine blk_drewN ?_ _ | refine blk_drew ?_ | refine blk_alloc ?_ _)); exact BK176.out) hb); have n5_ := Aside0.mk (below_step (by repeat (first | (with_reducible first | exact HB.out | apply below_alloc | apply pw_below_drewN | apply below_drew1 | refine below_set ?_ GE172.out | refine below_set ?_ GE173.out | refine below_set ?_ GE174.out | refine below_set ?_ GE175.out | refine below_set ?_ GE176.out) | exact HB.out)) hb); clear BK172; clear BK173; clear BK174; clear BK175; clear BK176; clear HB; have BK172 := n0_; have BK173 := n1_; have BK174 := n2_; have BK175 := n3_; have BK176 := n4_; have HB := n5_; clear n0_ n1_ n2_ n3_ n4_ n5_; (try clear hb); (try clear hb2); (try clear hk); (try clear hi); have hcz44_0 : w43.cell? ⟨gb172, 0, none⟩ = some (.string a0_0) := (blk_cell BK172.out 0).trans rfl; have hcz44_1 : w43.cell? ⟨gb172, 1, none⟩ = some (.int .i64 a0_1) := (blk_cell BK172.out 1).trans rfl; have hcz44_2 : w43.cell? ⟨gb172, 2, none⟩ = some (.bool a0_2) := (blk_cell BK172.out 2).trans rfl; have hfz44_0 := blk_frozen BK172.out 0; have hfz44_1 := blk_frozen BK172.out 1; have hfz44_2 := blk_frozen BK172.out 2) | ((with_reducible refine gate_dst (N := 29) rfl ?_); refine Kd.R_lit k29 _ 29 ?hg (N := 29) ?hd (xs := ([(⟨a0_0, a0_1, a0_2⟩ : S29)] : List (S29))) (inner := [.string a0_0, .int .i64 a0_1, .bool a0_2]) (ok := fun _ => True) (okp := fun _ => True) ?hr ?hp (fun _ hk => hk) trivial (Below.refl _ _) (Nat.le_refl _) (by simp) ?_; (case hd => rfl); (case hg => rfl); (case hr => first | (go_simp; done) | (go_simp; rfl)); (case hp => exact (Reps.c3 (show Kd.M k29 _ _ _ (⟨a0_0, a0_1, a0_2⟩ : S29) [.string a0_0, .int .i64 a0_1, .bool a0_2] from (k29_mkM _ _ _ (⟨a0_0, a0_1, a0_2⟩ : S29) )) (Reps.none _ _))); intro v179 w45 ho46 hb hg_ hnew_; clear hg_ hnew_; (first | rw [← Ny178.out] at ho46 | (simp only [Int.reduceToNat] at ho46; rw [← Ny178.out] at ho46)); have n0_ := Aside0.mk (Kd.R_lower (Kd.R_newB ho46 (g := gb172) (o := .cells #[.string a0_0, .int .i64 a0_1, .bool a0_2] 29 (0, 0)) (by (with_reducible repeat (first | refine blk_drewN ?_ _ | refine blk_drew ?_ | refine blk_alloc ?_ _)); exact BK172.out)) (below_size (by repeat (first | (with_reducible first | exact HB.out | apply below_alloc | apply pw_below_drewN | apply below_drew1 | refine below_set ?_ GE172.out | refine below_set ?_ GE173.out | refine below_set ?_ GE174.out | refine below_set ?_ GE175.out | refine below_set ?_ GE176.out) | exact HB.out)))); have n1_ := Aside0.mk (blk_below (g := gb172) (o := .cells #[.string a0_0, .int .i64 a0_1, .bool a0_2] 29 (0, 0)) (by (with_reducible repeat (first | refine blk_drewN ?_ _ | refine blk_drew ?_ | refine blk_alloc ?_ _)); exact BK172.out) hb); have n2_ := Aside0.mk (blk_below (g := gb173) (o := .cells #[.int .i64 a2_0, .int .i64 a2_1, .int .i64 a2_2, .float .f64 a2_3, .string a2_4, .int .i64 a2_5, .int .i64 a2_6, .float .f64 a2_7, .string a2_8, .slice A2_9 l2_9.length c2_9] 35 (0, 0)) (by (with_reducible repeat (first | refine blk_drewN ?_ _ | refine blk_drew ?_ | refine blk_alloc ?_ _)); exact BK173.out) hb); have n3_ := Aside0.mk (blk_below (g := gb174) (o := .cells #[.int .i64 a3_0, .string a3_1, .int .i64 a3_2, .int .i64 a3_3, .int .i64 a3_4, .float .f64 a3_5, .string a3_6, .slice A3_7 l3_7.length c3_7, .slice A3_8 l3_8.length c3_8] 39 (0, 0)) (by (with_reducible repeat (first | refine blk_drewN ?_ _ | refine blk_drew ?_ | refine blk_alloc ?_ _)); exact BK174.out) hb); have n4_ := Aside0.mk (blk_below (g := gb175) (o := .cells #[.bool a4_0, .bool a4_1, .bool a4_2, .int .i64 a4_3] 44 (0, 0)) (by (with_reducible repeat (first | refine blk_drewN ?_ _ | refine blk_drew ?_ | refine blk_alloc ?_ _)); exact BK175.out) hb); have n5_ := Aside0.mk (blk_below (g := gb176) (o := .cells #[.bool false, .bool false, .bool false] 23 (0, 0)) (by (with_reducible repeat (first | refine blk_drewN ?_ _ | refine blk_drew ?_ | refine blk_alloc ?_ _)); exact BK176.out) hb); have n6_ := Aside0.mk (below_step (by repeat (first | (with_reducible first | exact HB.out | apply below_alloc | apply pw_below_drewN | apply below_drew1 | refine below_set ?_ GE172.out | refine below_set ?_ GE173.out | refine below_set ?_ GE174.out | refine below_set ?_ GE175.out | refine below_set ?_ GE176.out) | exact HB.out)) hb); clear BK172; clear BK173; clear BK174; clear BK175; clear BK176; clear HB; have HO180 := n0_; have BK172 := n1_; have BK173 := n2_; have BK174 := n3_; have BK175 := n4_; have BK176 := n5_; have HB := n6_; clear n0_ n1_ n2_ n3_ n4_ n5_ n6_; clear hb ho46; have hnb47 := NB174_175.out; have hnc47 := NB175_174.out; have hnb48 := NB174_176.out; have hnc48 := NB176_174.out; have hcz49_0 : w45.cell? ⟨gb174, 0, none⟩ = some (.int .i64 a3_0) := (blk_cell BK174.out 0).trans rfl; have hcz49_1 : w45.cell? ⟨gb174, 1, none⟩ = some (.string a3_1) := (blk_cell BK174.out 1).trans rfl; have hcz49_2 : w45.cell? ⟨gb174, 2, none⟩ = some (.int .i64 a3_2) := (blk_cell BK174.out 2).trans rfl; have hcz49_3 : w45.cell? ⟨gb174, 3, none⟩ = some (.int .i64 a3_3) := (blk_cell BK174.out 3).trans rfl; have hcz49_4 : w45.cell? ⟨gb174, 4, none⟩ = some (.int .i64 a3_4) := (blk_cell BK174.out 4).trans rfl; have hcz49_5 : w45.cell? ⟨gb174, 5, none⟩ = some (.float .f64 a3_5) := (blk_cell BK174.out 5).trans rfl; have hcz49_6 : w45.cell? ⟨gb174, 6, none⟩ = some (.string a3_6) := (blk_cell BK174.out 6).trans rfl; have hcz49_7 : w45.cell? ⟨gb174, 7, none⟩ = some (.slice A3_7 l3_7.length c3_7) := (blk_cell BK174.out 7).trans rfl; have hcz49_8 : w45.cell? ⟨gb174, 8, none⟩ = some (.slice A3_8 l3_8.length c3_8) := (blk_cell BK174.out 8).trans rfl; have hfz49_0 := blk_frozen BK174.out 0; have hfz49_1 := blk_frozen BK174.out 1; have hfz49_2 := blk_frozen BK174.out 2; have hfz49_3 := blk_frozen BK174.out 3; have hfz49_4 := blk_frozen BK174.out 4; have hfz49_5 := blk_frozen BK174.out 5; have hfz49_6 := blk_frozen BK174.out 6; have hfz49_7 := blk_frozen BK174.out 7; have hfz49_8 := blk_frozen BK174.out 8; obtain ⟨Ao50, co50, eo50⟩ := Kd.R_slice HO180.out; subst eo50) | ((with_reducible refine gate_callee (f := 12) rfl ?_); refine goesL_ (some 31) rfl rfl Try.func12 (by kernel_rfl) rfl #[.slice Ao50 y178.length co50, .agg #[.int .i64 a3_0, .string a3_1, .int .i64 a3_2, .int .i64 a3_3, .int .i64 a3_4, .float .f64 a3_5, .string a3_6, .slice A3_7 l3_7.length c3_7, .slice A3_8 l3_8.length c3_8]] rfl (by (try simp only [List.map_toArray, List.map_cons, List.map_nil]); first | done | rfl | (simp only [List.length_drop, List.length_take]; rfl)) ?_; (with_reducible refine (atom_Check.calls kj5 _ _ y178 a3_0 a3_1 a3_2 a3_3 a3_4 a3_5 a3_6 _ _ l3_7 _ _ l3_8 t181 _ ?side1 ?side2 ?side3 ?side4 ?side5 ?side6 A31.out).mono ?_); (case side1 => repeat (first | exact (Kd.R_reads' HO180.out).2.2 | (with_reducible refine Kd.C_alloc ?_ _) | (with_reducible refine Kd.C_drewN ?_ _) | (with_reducible refine Kd.C_drew ?_))); (case side2 => exact (Kd.R_reads' HO180.out).2.1); (case side3 => repeat (first | exact (Kd.C_below HR3_7.out HB.out) | (with_reducible refine Kd.C_alloc ?_ _) | (with_reducible refine Kd.C_drewN ?_ _) | (with_reducible refine Kd.C_drew ?_))); (case side4 => exact HC3_7.out); (case side5 => repeat (first | exact (Kd.C_below HR3_8.out HB.out) | (with_reducible refine Kd.C_alloc ?_ _) | (with_reducible refine Kd.C_drewN ?_ _) | (with_reducible refine Kd.C_drew ?_))); (case side6 => exact HC3_8.out); rintro e w51 ⟨rfl, hb⟩; refine ⟨_, rfl, ?_⟩; have n0_ := Aside0.mk (Kd.R_below (by (with_reducible repeat (first | apply Kd.R_alloc | apply Kd.R_drewN | apply Kd.R_drew)); exact HO180.out) hb); have n1_ := Aside0.mk (blk_below (g := gb172) (o := .cells #[.string a0_0, .int .i64 a0_1, .bool a0_2] 29 (0, 0)) (by (with_reducible repeat (first | refine blk_drewN ?_ _ | refine blk_drew ?_ | refine blk_alloc ?_ _)); exact BK172.out) hb); have n2_ := Aside0.mk (blk_below (g := gb173) (o := .cells #[.int .i64 a2_0, .int .i64 a2_1, .int .i64 a2_2, .float .f64 a2_3, .string a2_4, .int .i64 a2_5, .int .i64 a2_6, .float .f64 a2_7, .string a2_8, .slice A2_9 l2_9.length c2_9] 35 (0, 0)) (by (with_reducible repeat (first | refine blk_drewN ?_ _ | refine blk_drew ?_ | refine blk_alloc ?_ _)); exact BK173.out) hb); have n3_ := Aside0.mk (blk_below (g := gb174) (o := .cells #[.int .i64 a3_0, .string a3_1, .int .i64 a3_2, .int .i64 a3_3, .int .i64 a3_4, .float .f64 a3_5, .string a3_6, .slice A3_7 l3_7.length c3_7, .slice A3_8 l3_8.length c3_8] 39 (0, 0)) (by (with_reducible repeat (first | refine blk_drewN ?_ _ | refine blk_drew ?_ | refine blk_alloc ?_ _)); exact BK174.out) hb); have n4_ := Aside0.mk (blk_below (g := gb175) (o := .cells #[.bool a4_0, .bool a4_1, .bool a4_2, .int .i64 a4_3] 44 (0, 0)) (by (with_reducible repeat (first | refine blk_drewN ?_ _ | refine blk_drew ?_ | refine blk_alloc ?_ _)); exact BK175.out) hb); have n5_ := Aside0.mk (blk_below (g := gb176) (o := .cells #[.bool false, .bool false, .bool false] 23 (0, 0)) (by (with_reducible repeat (first | refine blk_drewN ?_ _ | refine blk_drew ?_ | refine blk_alloc ?_ _)); exact BK176.out) hb); have n6_ := Aside0.mk (below_step (by repeat (first | (with_reducible first | exact HB.out | apply below_alloc | apply pw_below_drewN | apply below_drew1 | refine below_set ?_ GE172.out | refine below_set ?_ GE173.out | refine below_set ?_ GE174.out | refine below_set ?_ GE175.out | refine below_set ?_ GE176.out) | exact HB.out)) hb); clear HO180; clear BK172; clear BK173; clear BK174; clear BK175; clear BK176; clear HB; have HO180 := n0_; have BK172 := n1_; have BK173 := n2_; have BK174 := n3_; have BK175 := n4_; have BK176 := n5_; have HB := n6_; clear n0_ n1_ n2_ n3_ n4_ n5_ n6_; (try clear hb); (try clear hb2); (try clear hk); (try clear hi); have hcz52_0 : w51.cell? ⟨gb172, 0, none⟩ = some (.string a0_0) := (blk_cell BK172.out 0).trans rfl; have hcz52_1 : w51.cell? ⟨gb172, 1, none⟩ = some (.int .i64 a0_1) := (blk_cell BK172.out 1).trans rfl; have hcz52_2 : w51.cell? ⟨gb172, 2, none⟩ = some (.bool a0_2) := (blk_cell BK172.out 2).trans rfl; have hfz52_0 := blk_frozen BK172.out 0; have hfz52_1 := blk_frozen BK172.out 1; have hfz52_2 := blk_frozen BK172.out 2; have hcz53_0 : w51.cell? ⟨gb173, 0, none⟩ = some (.int .i64 a2_0) := (blk_cell BK173.out 0).trans rfl; have hcz53_1 : w51.cell? ⟨gb173, 1, none⟩ = some (.int .i64 a2_1) := (blk_cell BK173.out 1).trans rfl; have hcz53_2 : w51.cell? ⟨gb173, 2, none⟩ = some (.int .i64 a2_2) := (blk_cell BK173.out 2).trans rfl; have hcz53_3 : w51.cell? ⟨gb173, 3, none⟩ = some (.float .f64 a2_3) := (blk_cell BK173.out 3).trans rfl; have hcz53_4 : w51.cell? ⟨gb173, 4, none⟩ = some (.string a2_4) := (blk_cell BK173.out 4).trans rfl; have hcz53_5 : w51.cell? ⟨gb173, 5, none⟩ = some (.int .i64 a2_5) := (blk_cell BK173.out 5).trans rfl; have hcz53_6 : w51.cell? ⟨gb173, 6, none⟩ = some (.int .i64 a2_6) := (blk_cell BK173.out 6).trans rfl; have hcz53_7 : w51.cell? ⟨gb173, 7, none⟩ = some (.float .f64 a2_7) := (blk_cell BK173.out 7).trans rfl; have hcz53_8 : w51.cell? ⟨gb173, 8, none⟩ = some (.string a2_8) := (blk_cell BK173.out 8).trans rfl; have hcz53_9 : w51.cell? ⟨gb173, 9, none⟩ = some (.slice A2_9 l2_9.length c2_9) := (blk_cell BK173.out 9).trans rfl; have hfz53_0 := blk_frozen BK173.out 0; have hfz53_1 := blk_frozen BK173.out 1; have hfz53_2 := blk_frozen BK173.out 2; have hfz53_3 := blk_frozen BK173.out 3; have hfz53_4 := blk_frozen BK173.out 4; have hfz53_5 := blk_frozen BK173.out 5; have hfz53_6 := blk_frozen BK173.out 6; have hfz53_7 := blk_frozen BK173.out 7; have hfz53_8 := blk_frozen BK173.out 8; have hfz53_9 := blk_frozen BK173.out 9; have hcz54_0 : w51.cell? ⟨gb174, 0, none⟩ = some (.int .i64 a3_0) := (blk_cell BK174.out 0).trans rfl; have hcz54_1 : w51.cell? ⟨gb174, 1, none⟩ = some (.string a3_1) := (blk_cell BK174.out 1).trans rfl; have hcz54_2 : w51.cell? ⟨gb174, 2, none⟩ = some (.int .i64 a3_2) := (blk_cell BK174.out 2).trans rfl; have hcz54_3 : w51.cell? ⟨gb174, 3, none⟩ = some (.int .i64 a3_3) := (blk_cell BK174.out 3).trans rfl; have hcz54_4 : w51.cell? ⟨gb174, 4, none⟩ = some (.int .i64 a3_4) := (blk_cell BK174.out 4).trans rfl; have hcz54_5 : w51.cell? ⟨gb174, 5, none⟩ = some (.float .f64 a3_5) := (blk_cell BK174.out 5).trans rfl; have hcz54_6 : w51.cell? ⟨gb174, 6, none⟩ = some (.string a3_6) := (blk_cell BK174.out 6).trans rfl; have hcz54_7 : w51.cell? ⟨gb174, 7, none⟩ = some (.slice A3_7 l3_7.length c3_7) := (blk_cell BK174.out 7).trans rfl; have hcz54_8 : w51.cell? ⟨gb174, 8, none⟩ = some (.slice A3_8 l3_8.length c3_8) := (blk_cell BK174.out 8).trans rfl; have hfz54_0 := blk_frozen BK174.out 0; have hfz54_1 := blk_frozen BK174.out 1; have hfz54_2 := blk_frozen BK174.out 2; have hfz54_3 := blk_frozen BK174.out 3; have hfz54_4 := blk_frozen BK174.out 4; have hfz54_5 := blk_frozen BK174.out 5; have hfz54_6 := blk_frozen BK174.out 6; have hfz54_7 := blk_frozen BK174.out 7; have hfz54_8 := blk_frozen BK174.out 8; have hnb55 := NB175_176.out; have hnc55 := NB176_175.out; have hcz56_0 : w51.cell? ⟨gb175, 0, none⟩ = some (.bool a4_0) := (blk_cell BK175.out 0).trans rfl; have hcz56_1 : w51.cell? ⟨gb175, 1, none⟩ = some (.bool a4_1) := (blk_cell BK175.out 1).trans rfl; have hcz56_2 : w51.cell? ⟨gb175, 2, none⟩ = some (.bool a4_2) := (blk_cell BK175.out 2).trans rfl; have hcz56_3 : w51.cell? ⟨gb175, 3, none⟩ = some (.int .i64 a4_3) := (blk_cell BK175.out 3).trans rfl; have hfz56_0 := blk_frozen BK175.out 0; have hfz56_1 := blk_frozen BK175.out 1; have hfz56_2 := blk_frozen BK175.out 2; have hfz56_3 := blk_frozen BK175.out 3) | ((with_reducible refine gate_callee (f := 13) rfl ?_); refine goesL_ (some 41) rfl rfl Try.func13 (by kernel_rfl) rfl #[.agg #[.string a0_0, .int .i64 a0_1, .bool a0_2], .int .i64 a1, .agg #[.int .i64 a2_0, .int .i64 a2_1, .int .i64 a2_2, .float .f64 a2_3, .string a2_4, .int .i64 a2_5, .int .i64 a2_6, .float .f64 a2_7, .string a2_8, .slice A2_9 l2_9.length c2_9], .agg #[.int .i64 a3_0, .string a3_1, .int .i64 a3_2, .int .i64 a3_3, .int .i64 a3_4, .float .f64 a3_5, .string a3_6, .slice A3_7 l3_7.length c3_7, .slice A3_8 l3_8.length c3_8], .agg #[.bool a4_0, .bool a4_1, .bool a4_2, .int .i64 a4_3]] rfl (by (try simp only [List.map_toArray, List.map_cons, List.map_nil]); first | done | rfl | (simp only [List.length_drop, List.length_take]; rfl)) ?_; (with_reducible refine (prune_truths.calls kj5 a0_0 a0_1 a0_2 a1 a2_0 a2_1 a2_2 a2_3 a2_4 a2_5 a2_6 a2_7 a2_8 _ _ l2_9 a3_0 a3_1 a3_2 a3_3 a3_4 a3_5 a3_6 _ _ l3_7 _ _ l3_8 a4_0 a4_1 a4_2 a4_3 t182 t183 t184 _ ?side1 ?side2 ?side3 ?side4 ?side5 ?side6 A33.out).mono ?_); (case side1 => repeat (first | exact (Kd.C_below HR2_9.out HB.out) | (with_reducible refine Kd.C_alloc ?_ _) | (with_reducible refine Kd.C_drewN ?_ _) | (with_reducible refine Kd.C_drew ?_))); (case side2 => exact HC2_9.out); (case side3 => repeat (first | exact (Kd.C_below HR3_7.out HB.out) | (with_reducible refine Kd.C_alloc ?_ _) | (with_reducible refine Kd.C_drewN ?_ _) | (with_reducible refine Kd.C_drew ?_))); (case side4 => exact HC3_7.out); (case side5 => repeat (first | exact (Kd.C_below HR3_8.out HB.out) | (with_reducible refine Kd.C_alloc ?_ _) | (with_reducible refine Kd.C_drewN ?_ _) | (with_reducible refine Kd.C_drew ?_))); (case side6 => exact HC3_8.out); rintro e w57 ⟨rfl, hb⟩; refine ⟨_, rfl, ?_⟩; have n0_ := Aside0.mk (Kd.R_below (by (with_reducible repeat (first | apply Kd.R_alloc | apply Kd.R_drewN | apply Kd.R_drew)); exact HO180.out) hb); have n1_ := Aside0.mk (blk_below (g := gb172) (o := .cells #[.string a0_0, .int .i64 a0_1, .bool a0_2] 29 (0, 0)) (by (with_reducible repeat (first | refine blk_drewN ?_ _ | refine blk_drew ?_ | refine blk_alloc ?_ _)); exact BK172.out) hb); have n2_ := Aside0.mk (blk_below (g := gb173) (o := .cells #[.int .i64 a2_0, .int .i64 a2_1, .int .i64 a2_2, .float .f64 a2_3, .string a2_4, .int .i64 a2_5, .int .i64 a2_6, .float .f64 a2_7, .string a2_8, .slice A2_9 l2_9.length c2_9] 35 (0, 0)) (by (with_reducible repeat (first | refine blk_drewN ?_ _ | refine blk_drew ?_ | refine blk_alloc ?_ _)); exact BK173.out) hb); have n3_ := Aside0.mk (blk_below (g := gb174) (o := .cells #[.int .i64 a3_0, .string a3_1, .int .i64 a3_2, .int .i64 a3_3, .int .i64 a3_4, .float .f64 a3_5, .string a3_6, .slice A3_7 l3_7.length c3_7, .slice A3_8 l3_8.length c3_8] 39 (0, 0)) (by (with_reducible repeat (first | refine blk_drewN ?_ _ | refine blk_drew ?_ | refine blk_alloc ?_ _)); exact BK174.out) hb); have n4_ := Aside0.mk (blk_below (g := gb175) (o := .cells #[.bool a4_0, .bool a4_1, .bool a4_2, .int .i64 a4_3] 44 (0, 0)) (by (with_reducible repeat (first | refine blk_drewN ?_ _ | refine blk_drew ?_ | refine blk_alloc ?_ _)); exact BK175.out) hb); have n5_ := Aside0.mk (blk_below (g := gb176) (o := .cells #[.bool false, .bool false, .bool false] 23 (0, 0)) (by (with_reducible repeat (first | refine blk_drewN ?_ _ | refine blk_drew ?_ | refine blk_alloc ?_ _)); exact BK176.out) hb); have n6_ := Aside0.mk (below_step (by repeat (first | (with_reducible first | exact HB.out | apply below_alloc | apply pw_below_drewN | apply below_drew1 | refine below_set ?_ GE172.out | refine below_set ?_ GE173.out | refine below_set ?_ GE174.out | refine below_set ?_ GE175.out | refine below_set ?_ GE176.out) | exact HB.out)) hb); clear HO180; clear BK172; clear BK173; clear BK174; clear BK175; clear BK176; clear HB; have HO180 := n0_; have BK172 := n1_; have BK173 := n2_; have BK174 := n3_; have BK175 := n4_; have BK176 := n5_; have HB := n6_; clear n0_ n1_ n2_ n3_ n4_ n5_ n6_; (try clear hb); (try clear hb2); (try clear hk); (try clear hi); have hcz58_0 : w57.cell? ⟨gb176, 0, none⟩ = some (.bool false) := (blk_cell BK176.out 0).trans rfl; have hcz58_1 : w57.cell? ⟨gb176, 1, none⟩ = some (.bool false) := (blk_cell BK176.out 1).trans rfl; have hcz58_2 : w57.cell? ⟨gb176, 2, none⟩ = some (.bool false) := (blk_cell BK176.out 2).trans rfl; have hfz58_0 := blk_frozen BK176.out 0; have hfz58_1 := blk_frozen BK176.out 1; have hfz58_2 := blk_frozen BK176.out 2))
            refine bodyPost_ret (results_ct rfl _ _ gb176 23 #[.bool t182, .bool t183, .bool t184] (0, 0) _ rfl (by (with_reducible repeat (first | refine blk_drewN ?_ _ | refine blk_drew ?_ | refine blk_alloc ?_ _)); refine blk_put (cs := #[.bool t182, .bool t183, .bool false]) ?_ 2 _ rfl; (with_reducible repeat (first | refine blk_drewN ?_ _ | refine blk_drew ?_ | refine blk_alloc ?_ _)); refine blk_put (cs := #[.bool t182, .bool false, .bool false]) ?_ 1 _ rfl; (with_reducible repeat (first | refine blk_drewN ?_ _ | refine blk_drew ?_ | refine blk_alloc ?_ _)); refine blk_put (cs := #[.bool false, .bool false, .bool false]) ?_ 0 _ rfl; (with_reducible repeat (first | refine blk_drewN ?_ _ | refine blk_drew ?_ | refine blk_alloc ?_ _)); exact BK176.out) Try.underlying23 rfl (by kernel_rfl)) rfl ?_
            exact ⟨by first | rfl | (simp [errW_none, errW_some] <;> rfl) | (simp [*, errW_none, errW_some] <;> rfl), by repeat (first | (with_reducible first | exact HB.out | apply below_alloc | apply pw_below_drewN | apply below_drew1 | refine below_set ?_ GE172.out | refine below_set ?_ GE173.out | refine below_set ?_ GE174.out | refine below_set ?_ GE175.out | refine below_set ?_ GE176.out) | exact HB.out)⟩
          · rw [if_neg c32] at H
            have c32b0 : (t181 == 0) = false := beq_eq_false_iff_ne.mpr c32
            have c32b1 : (t181 != 0) = true := bne_iff_ne.mpr c32
            simp only [Option.some.injEq, Prod.mk.injEq] at H
            obtain ⟨rfl, rfl, rfl, rfl⟩ := H
            have hnb59 := NB172_173.out
            have hnc59 := NB173_172.out
            have hnb60 := NB172_174.out
            have hnc60 := NB174_172.out
            have hnb61 := NB172_175.out
            have hnc61 := NB175_172.out
            have hnb62 := NB172_176.out
            have hnc62 := NB176_172.out
            have hcz63_0 : wc.cell? ⟨gb172, 0, none⟩ = some (.string a0_0) := (blk_cell BK172.out 0).trans rfl
            have hcz63_1 : wc.cell? ⟨gb172, 1, none⟩ = some (.int .i64 a0_1) := (blk_cell BK172.out 1).trans rfl
            have hcz63_2 : wc.cell? ⟨gb172, 2, none⟩ = some (.bool a0_2) := (blk_cell BK172.out 2).trans rfl
            have hfz63_0 := blk_frozen BK172.out 0
            have hfz63_1 := blk_frozen BK172.out 1
            have hfz63_2 := blk_frozen BK172.out 2
            have hnb64 := NB173_174.out
            have hnc64 := NB174_173.out
            have hnb65 := NB173_175.out
            have hnc65 := NB175_173.out
            have hnb66 := NB173_176.out
            have hnc66 := NB176_173.out
            have hcz67_0 : wc.cell? ⟨gb173, 0, none⟩ = some (.int .i64 a2_0) := (blk_cell BK173.out 0).trans rfl
            have hcz67_1 : wc.cell? ⟨gb173, 1, none⟩ = some (.int .i64 a2_1) := (blk_cell BK173.out 1).trans rfl
            have hcz67_2 : wc.cell? ⟨gb173, 2, none⟩ = some (.int .i64 a2_2) := (blk_cell BK173.out 2).trans rfl
            have hcz67_3 : wc.cell? ⟨gb173, 3, none⟩ = some (.float .f64 a2_3) := (blk_cell BK173.out 3).trans rfl
            have hcz67_4 : wc.cell? ⟨gb173, 4, none⟩ = some (.string a2_4) := (blk_cell BK173.out 4).trans rfl
            have hcz67_5 : wc.cell? ⟨gb173, 5, none⟩ = some (.int .i64 a2_5) := (blk_cell BK173.out 5).trans rfl
            have hcz67_6 : wc.cell? ⟨gb173, 6, none⟩ = some (.int .i64 a2_6) := (blk_cell BK173.out 6).trans rfl
            have hcz67_7 : wc.cell? ⟨gb173, 7, none⟩ = some (.float .f64 a2_7) := (blk_cell BK173.out 7).trans rfl
            have hcz67_8 : wc.cell? ⟨gb173, 8, none⟩ = some (.string a2_8) := (blk_cell BK173.out 8).trans rfl
            have hcz67_9 : wc.cell? ⟨gb173, 9, none⟩ = some (.slice A2_9 l2_9.length c2_9) := (blk_cell BK173.out 9).trans rfl
            have hfz67_0 := blk_frozen BK173.out 0
            have hfz67_1 := blk_frozen BK173.out 1
            have hfz67_2 := blk_frozen BK173.out 2
            have hfz67_3 := blk_frozen BK173.out 3
            have hfz67_4 := blk_frozen BK173.out 4
            have hfz67_5 := blk_frozen BK173.out 5
            have hfz67_6 := blk_frozen BK173.out 6
            have hfz67_7 := blk_frozen BK173.out 7
            have hfz67_8 := blk_frozen BK173.out 8
            have hfz67_9 := blk_frozen BK173.out 9
            go_wp2_with (first | ((with_reducible refine gate_callee (f := 11) rfl ?_); refine goesL_ (some 25) rfl rfl Try.func11 (by kernel_rfl) rfl #[.agg #[.string a0_0, .int .i64 a0_1, .bool a0_2], .int .i64 a1, .agg #[.int .i64 a2_0, .int .i64 a2_1, .int .i64 a2_2, .float .f64 a2_3, .string a2_4, .int .i64 a2_5, .int .i64 a2_6, .float .f64 a2_7, .string a2_8, .slice A2_9 l2_9.length c2_9]] rfl (by (try simp only [List.map_toArray, List.map_cons, List.map_nil]); first | done | rfl | (simp only [List.length_drop, List.length_take]; rfl)) ?_; (with_reducible refine (zone_May.calls kj5 a0_0 a0_1 a0_2 a1 a2_0 a2_1 a2_2 a2_3 a2_4 a2_5 a2_6 a2_7 a2_8 _ _ l2_9 true _ ?side1 ?side2 A29.out).mono ?_); (case side1 => repeat (first | exact (Kd.C_below HR2_9.out HB.out) | (with_reducible refine Kd.C_alloc ?_ _) | (with_reducible refine Kd.C_drewN ?_ _) | (with_reducible refine Kd.C_drew ?_))); (case side2 => exact HC2_9.out); rintro e w68 ⟨rfl, hb⟩; refine ⟨_, rfl, ?_⟩; have n0_ := Aside0.mk (blk_below (g := gb172) (o := .cells #[.string a0_0, .int .i64 a0_1, .bool a0_2] 29 (0, 0)) (by (with_reducible repeat (first | refine blk_drewN ?_ _ | refine blk_drew ?_ | refine blk_alloc ?_ _)); exact BK172.out) hb); have n1_ := Aside0.mk (blk_below (g := gb173) (o := .cells #[.int .i64 a2_0, .int .i64 a2_1, .int .i64 a2_2, .float .f64 a2_3, .string a2_4, .int .i64 a2_5, .int .i64 a2_6, .float .f64 a2_7, .string a2_8, .slice A2_9 l2_9.length c2_9] 35 (0, 0)) (by (with_reducible repeat (first | refine blk_drewN ?_ _ | refine blk_drew ?_ | refine blk_alloc ?_ _)); exact BK173.out) hb); have n2_ := Aside0.mk (blk_below (g := gb174) (o := .cells #[.int .i64 a3_0, .string a3_1, .int .i64 a3_2, .int .i64 a3_3, .int .i64 a3_4, .float .f64 a3_5, .string a3_6, .slice A3_7 l3_7.length c3_7, .slice A3_8 l3_8.length c3_8] 39 (0, 0)) (by (with_reducible repeat (first | refine blk_drewN ?_ _ | refine blk_drew ?_ | refine blk_alloc ?_ _)); exact BK174.out) hb); have n3_ := Aside0.mk (blk_below (g := gb175) (o := .cells #[.bool a4_0, .bool a4_1, .bool a4_2, .int .i64 a4_3] 44 (0, 0)) (by (with_reducible repeat (first | refine blk_drewN ?_ _ | refine blk_drew ?_ | refine blk_alloc ?_ _)); exact BK175.out) hb); have n4_ := Aside0.mk (blk_below (g := gb176) (o := .cells #[.bool false, .bool false, .bool false] 23 (0, 0)) (by (with_reducible repeat (first | refine blk_drewN ?_ _ | refine blk_drew ?_ | refine blk_alloc ?_ _)); exact BK176.out) hb); have n5_ := Aside0.mk (below_step (by repeat (first | (with_reducible first | exact HB.out | apply below_alloc | apply pw_below_drewN | apply below_drew1 | refine below_set ?_ GE172.out | refine below_set ?_ GE173.out | refine below_set ?_ GE174.out | refine below_set ?_ GE175.out | refine below_set ?_ GE176.out) | exact HB.out)) hb); clear BK172; clear BK173; clear BK174; clear BK175; clear BK176; clear HB; have BK172 := n0_; have BK173 := n1_; have BK174 := n2_; have BK175 := n3_; have BK176 := n4_; have HB := n5_; clear n0_ n1_ n2_ n3_ n4_ n5_; (try clear hb); (try clear hb2); (try clear hk); (try clear hi); have hcz69_0 : w68.cell? ⟨gb172, 0, none⟩ = some (.string a0_0) := (blk_cell BK172.out 0).trans rfl; have hcz69_1 : w68.cell? ⟨gb172, 1, none⟩ = some (.int .i64 a0_1) := (blk_cell BK172.out 1).trans rfl; have hcz69_2 : w68.cell? ⟨gb172, 2, none⟩ = some (.bool a0_2) := (blk_cell BK172.out 2).trans rfl; have hfz69_0 := blk_frozen BK172.out 0; have hfz69_1 := blk_frozen BK172.out 1; have hfz69_2 := blk_frozen BK172.out 2) | ((with_reducible refine gate_dst (N := 29) rfl ?_); refine Kd.R_lit k29 _ 29 ?hg (N := 29) ?hd (xs := ([(⟨a0_0, a0_1, a0_2⟩ : S29)] : List (S29))) (inner := [.string a0_0, .int .i64 a0_1, .bool a0_2]) (ok := fun _ => True) (okp := fun _ => True) ?hr ?hp (fun _ hk => hk) trivial (Below.refl _ _) (Nat.le_refl _) (by simp) ?_; (case hd => rfl); (case hg => rfl); (case hr => first | (go_simp; done) | (go_simp; rfl)); (case hp => exact (Reps.c3 (show Kd.M k29 _ _ _ (⟨a0_0, a0_1, a0_2⟩ : S29) [.string a0_0, .int .i64 a0_1, .bool a0_2] from (k29_mkM _ _ _ (⟨a0_0, a0_1, a0_2⟩ : S29) )) (Reps.none _ _))); intro v179 w70 ho71 hb hg_ hnew_; clear hg_ hnew_; (first | rw [← Ny178.out] at ho71 | (simp only [Int.reduceToNat] at ho71; rw [← Ny178.out] at ho71)); have n0_ := Aside0.mk (Kd.R_lower (Kd.R_newB ho71 (g := gb172) (o := .cells #[.string a0_0, .int .i64 a0_1, .bool a0_2] 29 (0, 0)) (by (with_reducible repeat (first | refine blk_drewN ?_ _ | refine blk_drew ?_ | refine blk_alloc ?_ _)); exact BK172.out)) (below_size (by repeat (first | (with_reducible first | exact HB.out | apply below_alloc | apply pw_below_drewN | apply below_drew1 | refine below_set ?_ GE172.out | refine below_set ?_ GE173.out | refine below_set ?_ GE174.out | refine below_set ?_ GE175.out | refine below_set ?_ GE176.out) | exact HB.out)))); have n1_ := Aside0.mk (blk_below (g := gb172) (o := .cells #[.string a0_0, .int .i64 a0_1, .bool a0_2] 29 (0, 0)) (by (with_reducible repeat (first | refine blk_drewN ?_ _ | refine blk_drew ?_ | refine blk_alloc ?_ _)); exact BK172.out) hb); have n2_ := Aside0.mk (blk_below (g := gb173) (o := .cells #[.int .i64 a2_0, .int .i64 a2_1, .int .i64 a2_2, .float .f64 a2_3, .string a2_4, .int .i64 a2_5, .int .i64 a2_6, .float .f64 a2_7, .string a2_8, .slice A2_9 l2_9.length c2_9] 35 (0, 0)) (by (with_reducible repeat (first | refine blk_drewN ?_ _ | refine blk_drew ?_ | refine blk_alloc ?_ _)); exact BK173.out) hb); have n3_ := Aside0.mk (blk_below (g := gb174) (o := .cells #[.int .i64 a3_0, .string a3_1, .int .i64 a3_2, .int .i64 a3_3, .int .i64 a3_4, .float .f64 a3_5, .string a3_6, .slice A3_7 l3_7.length c3_7, .slice A3_8 l3_8.length c3_8] 39 (0, 0)) (by (with_reducible repeat (first | refine blk_drewN ?_ _ | refine blk_drew ?_ | refine blk_alloc ?_ _)); exact BK174.out) hb); have n4_ := Aside0.mk (blk_below (g := gb175) (o := .cells #[.bool a4_0, .bool a4_1, .bool a4_2, .int .i64 a4_3] 44 (0, 0)) (by (with_reducible repeat (first | refine blk_drewN ?_ _ | refine blk_drew ?_ | refine blk_alloc ?_ _)); exact BK175.out) hb); have n5_ := Aside0.mk (blk_below (g := gb176) (o := .cells #[.bool false, .bool false, .bool false] 23 (0, 0)) (by (with_reducible repeat (first | refine blk_drewN ?_ _ | refine blk_drew ?_ | refine blk_alloc ?_ _)); exact BK176.out) hb); have n6_ := Aside0.mk (below_step (by repeat (first | (with_reducible first | exact HB.out | apply below_alloc | apply pw_below_drewN | apply below_drew1 | refine below_set ?_ GE172.out | refine below_set ?_ GE173.out | refine below_set ?_ GE174.out | refine below_set ?_ GE175.out | refine below_set ?_ GE176.out) | exact HB.out)) hb); clear BK172; clear BK173; clear BK174; clear BK175; clear BK176; clear HB; have HO180 := n0_; have BK172 := n1_; have BK173 := n2_; have BK174 := n3_; have BK175 := n4_; have BK176 := n5_; have HB := n6_; clear n0_ n1_ n2_ n3_ n4_ n5_ n6_; clear hb ho71; have hnb72 := NB174_175.out; have hnc72 := NB175_174.out; have hnb73 := NB174_176.out; have hnc73 := NB176_174.out; have hcz74_0 : w70.cell? ⟨gb174, 0, none⟩ = some (.int .i64 a3_0) := (blk_cell BK174.out 0).trans rfl; have hcz74_1 : w70.cell? ⟨gb174, 1, none⟩ = some (.string a3_1) := (blk_cell BK174.out 1).trans rfl; have hcz74_2 : w70.cell? ⟨gb174, 2, none⟩ = some (.int .i64 a3_2) := (blk_cell BK174.out 2).trans rfl; have hcz74_3 : w70.cell? ⟨gb174, 3, none⟩ = some (.int .i64 a3_3) := (blk_cell BK174.out 3).trans rfl; have hcz74_4 : w70.cell? ⟨gb174, 4, none⟩ = some (.int .i64 a3_4) := (blk_cell BK174.out 4).trans rfl; have hcz74_5 : w70.cell? ⟨gb174, 5, none⟩ = some (.float .f64 a3_5) := (blk_cell BK174.out 5).trans rfl; have hcz74_6 : w70.cell? ⟨gb174, 6, none⟩ = some (.string a3_6) := (blk_cell BK174.out 6).trans rfl; have hcz74_7 : w70.cell? ⟨gb174, 7, none⟩ = some (.slice A3_7 l3_7.length c3_7) := (blk_cell BK174.out 7).trans rfl; have hcz74_8 : w70.cell? ⟨gb174, 8, none⟩ = some (.slice A3_8 l3_8.length c3_8) := (blk_cell BK174.out 8).trans rfl; have hfz74_0 := blk_frozen BK174.out 0; have hfz74_1 := blk_frozen BK174.out 1; have hfz74_2 := blk_frozen BK174.out 2; have hfz74_3 := blk_frozen BK174.out 3; have hfz74_4 := blk_frozen BK174.out 4; have hfz74_5 := blk_frozen BK174.out 5; have hfz74_6 := blk_frozen BK174.out 6; have hfz74_7 := blk_frozen BK174.out 7; have hfz74_8 := blk_frozen BK174.out 8; obtain ⟨Ao75, co75, eo75⟩ := Kd.R_slice HO180.out; subst eo75) | ((with_reducible refine gate_callee (f := 12) rfl ?_); refine goesL_ (some 31) rfl rfl Try.func12 (by kernel_rfl) rfl #[.slice Ao75 y178.length co75, .agg #[.int .i64 a3_0, .string a3_1, .int .i64 a3_2, .int .i64 a3_3, .int .i64 a3_4, .float .f64 a3_5, .string a3_6, .slice A3_7 l3_7.length c3_7, .slice A3_8 l3_8.length c3_8]] rfl (by (try simp only [List.map_toArray, List.map_cons, List.map_nil]); first | done | rfl | (simp only [List.length_drop, List.length_take]; rfl)) ?_; (with_reducible refine (atom_Check.calls kj5 _ _ y178 a3_0 a3_1 a3_2 a3_3 a3_4 a3_5 a3_6 _ _ l3_7 _ _ l3_8 t181 _ ?side1 ?side2 ?side3 ?side4 ?side5 ?side6 A31.out).mono ?_); (case side1 => repeat (first | exact (Kd.R_reads' HO180.out).2.2 | (with_reducible refine Kd.C_alloc ?_ _) | (with_reducible refine Kd.C_drewN ?_ _) | (with_reducible refine Kd.C_drew ?_))); (case side2 => exact (Kd.R_reads' HO180.out).2.1); (case side3 => repeat (first | exact (Kd.C_below HR3_7.out HB.out) | (with_reducible refine Kd.C_alloc ?_ _) | (with_reducible refine Kd.C_drewN ?_ _) | (with_reducible refine Kd.C_drew ?_))); (case side4 => exact HC3_7.out); (case side5 => repeat (first | exact (Kd.C_below HR3_8.out HB.out) | (with_reducible refine Kd.C_alloc ?_ _) | (with_reducible refine Kd.C_drewN ?_ _) | (with_reducible refine Kd.C_drew ?_))); (case side6 => exact HC3_8.out); rintro e w76 ⟨rfl, hb⟩; refine ⟨_, rfl, ?_⟩; have n0_ := Aside0.mk (Kd.R_below (by (with_reducible repeat (first | apply Kd.R_alloc | apply Kd.R_drewN | apply Kd.R_drew)); exact HO180.out) hb); have n1_ := Aside0.mk (blk_below (g := gb172) (o := .cells #[.string a0_0, .int .i64 a0_1, .bool a0_2] 29 (0, 0)) (by (with_reducible repeat (first | refine blk_drewN ?_ _ | refine blk_drew ?_ | refine blk_alloc ?_ _)); exact BK172.out) hb); have n2_ := Aside0.mk (blk_below (g := gb173) (o := .cells #[.int .i64 a2_0, .int .i64 a2_1, .int .i64 a2_2, .float .f64 a2_3, .string a2_4, .int .i64 a2_5, .int .i64 a2_6, .float .f64 a2_7, .string a2_8, .slice A2_9 l2_9.length c2_9] 35 (0, 0)) (by (with_reducible repeat (first | refine blk_drewN ?_ _ | refine blk_drew ?_ | refine blk_alloc ?_ _)); exact BK173.out) hb); have n3_ := Aside0.mk (blk_below (g := gb174) (o := .cells #[.int .i64 a3_0, .string a3_1, .int .i64 a3_2, .int .i64 a3_3, .int .i64 a3_4, .float .f64 a3_5, .string a3_6, .slice A3_7 l3_7.length c3_7, .slice A3_8 l3_8.length c3_8] 39 (0, 0)) (by (with_reducible repeat (first | refine blk_drewN ?_ _ | refine blk_drew ?_ | refine blk_alloc ?_ _)); exact BK174.out) hb); have n4_ := Aside0.mk (blk_below (g := gb175) (o := .cells #[.bool a4_0, .bool a4_1, .bool a4_2, .int .i64 a4_3] 44 (0, 0)) (by (with_reducible repeat (first | refine blk_drewN ?_ _ | refine blk_drew ?_ | refine blk_alloc ?_ _)); exact BK175.out) hb); have n5_ := Aside0.mk (blk_below (g := gb176) (o := .cells #[.bool false, .bool false, .bool false] 23 (0, 0)) (by (with_reducible repeat (first | refine blk_drewN ?_ _ | refine blk_drew ?_ | refine blk_alloc ?_ _)); exact BK176.out) hb); have n6_ := Aside0.mk (below_step (by repeat (first | (with_reducible first | exact HB.out | apply below_alloc | apply pw_below_drewN | apply below_drew1 | refine below_set ?_ GE172.out | refine below_set ?_ GE173.out | refine below_set ?_ GE174.out | refine below_set ?_ GE175.out | refine below_set ?_ GE176.out) | exact HB.out)) hb); clear HO180; clear BK172; clear BK173; clear BK174; clear BK175; clear BK176; clear HB; have HO180 := n0_; have BK172 := n1_; have BK173 := n2_; have BK174 := n3_; have BK175 := n4_; have BK176 := n5_; have HB := n6_; clear n0_ n1_ n2_ n3_ n4_ n5_ n6_; (try clear hb); (try clear hb2); (try clear hk); (try clear hi); have hnb77 := NB176_175.out; have hnc77 := NB175_176.out; have hcz78_0 : w76.cell? ⟨gb176, 0, none⟩ = some (.bool false) := (blk_cell BK176.out 0).trans rfl; have hcz78_1 : w76.cell? ⟨gb176, 1, none⟩ = some (.bool false) := (blk_cell BK176.out 1).trans rfl; have hcz78_2 : w76.cell? ⟨gb176, 2, none⟩ = some (.bool false) := (blk_cell BK176.out 2).trans rfl; have hfz78_0 := blk_frozen BK176.out 0; have hfz78_1 := blk_frozen BK176.out 1; have hfz78_2 := blk_frozen BK176.out 2))
            refine bodyPost_ret (results_ct rfl _ _ gb176 23 #[.bool false, .bool false, .bool false] (0, 0) _ rfl (by (with_reducible repeat (first | refine blk_drewN ?_ _ | refine blk_drew ?_ | refine blk_alloc ?_ _)); refine blk_put (cs := #[.bool false, .bool false, .bool false]) ?_ 2 _ rfl; (with_reducible repeat (first | refine blk_drewN ?_ _ | refine blk_drew ?_ | refine blk_alloc ?_ _)); refine blk_put (cs := #[.bool false, .bool false, .bool false]) ?_ 1 _ rfl; (with_reducible repeat (first | refine blk_drewN ?_ _ | refine blk_drew ?_ | refine blk_alloc ?_ _)); refine blk_put (cs := #[.bool false, .bool false, .bool false]) ?_ 0 _ rfl; (with_reducible repeat (first | refine blk_drewN ?_ _ | refine blk_drew ?_ | refine blk_alloc ?_ _)); exact BK176.out) Try.underlying23 rfl (by kernel_rfl)) rfl ?_
            exact ⟨by first | rfl | (simp [errW_none, errW_some] <;> rfl) | (simp [*, errW_none, errW_some] <;> rfl), by repeat (first | (with_reducible first | exact HB.out | apply below_alloc | apply pw_below_drewN | apply below_drew1 | refine below_set ?_ GE172.out | refine below_set ?_ GE173.out | refine below_set ?_ GE174.out | refine below_set ?_ GE175.out | refine below_set ?_ GE176.out) | exact HB.out)⟩
        · replace c30 := Bool.eq_false_iff.mpr c30
          subst c30
          have H1 : (some (false, false, false, 140)) = some (r1, r2, r3, r4) := by rw [if_neg (show ¬ (false = true) by decide)] at H; exact H
          clear H
          have H := H1
          clear H1
          simp only [Option.some.injEq, Prod.mk.injEq] at H
          obtain ⟨rfl, rfl, rfl, rfl⟩ := H
          have hnb79 := NB172_173.out
          have hnc79 := NB173_172.out
          have hnb80 := NB172_174.out
          have hnc80 := NB174_172.out
          have hnb81 := NB172_175.out
          have hnc81 := NB175_172.out
          have hnb82 := NB172_176.out
          have hnc82 := NB176_172.out
          have hcz83_0 : wc.cell? ⟨gb172, 0, none⟩ = some (.string a0_0) := (blk_cell BK172.out 0).trans rfl
          have hcz83_1 : wc.cell? ⟨gb172, 1, none⟩ = some (.int .i64 a0_1) := (blk_cell BK172.out 1).trans rfl
          have hcz83_2 : wc.cell? ⟨gb172, 2, none⟩ = some (.bool a0_2) := (blk_cell BK172.out 2).trans rfl
          have hfz83_0 := blk_frozen BK172.out 0
          have hfz83_1 := blk_frozen BK172.out 1
          have hfz83_2 := blk_frozen BK172.out 2
          have hnb84 := NB173_174.out
          have hnc84 := NB174_173.out
          have hnb85 := NB173_175.out
          have hnc85 := NB175_173.out
          have hnb86 := NB173_176.out
          have hnc86 := NB176_173.out
          have hcz87_0 : wc.cell? ⟨gb173, 0, none⟩ = some (.int .i64 a2_0) := (blk_cell BK173.out 0).trans rfl
          have hcz87_1 : wc.cell? ⟨gb173, 1, none⟩ = some (.int .i64 a2_1) := (blk_cell BK173.out 1).trans rfl
          have hcz87_2 : wc.cell? ⟨gb173, 2, none⟩ = some (.int .i64 a2_2) := (blk_cell BK173.out 2).trans rfl
          have hcz87_3 : wc.cell? ⟨gb173, 3, none⟩ = some (.float .f64 a2_3) := (blk_cell BK173.out 3).trans rfl
          have hcz87_4 : wc.cell? ⟨gb173, 4, none⟩ = some (.string a2_4) := (blk_cell BK173.out 4).trans rfl
          have hcz87_5 : wc.cell? ⟨gb173, 5, none⟩ = some (.int .i64 a2_5) := (blk_cell BK173.out 5).trans rfl
          have hcz87_6 : wc.cell? ⟨gb173, 6, none⟩ = some (.int .i64 a2_6) := (blk_cell BK173.out 6).trans rfl
          have hcz87_7 : wc.cell? ⟨gb173, 7, none⟩ = some (.float .f64 a2_7) := (blk_cell BK173.out 7).trans rfl
          have hcz87_8 : wc.cell? ⟨gb173, 8, none⟩ = some (.string a2_8) := (blk_cell BK173.out 8).trans rfl
          have hcz87_9 : wc.cell? ⟨gb173, 9, none⟩ = some (.slice A2_9 l2_9.length c2_9) := (blk_cell BK173.out 9).trans rfl
          have hfz87_0 := blk_frozen BK173.out 0
          have hfz87_1 := blk_frozen BK173.out 1
          have hfz87_2 := blk_frozen BK173.out 2
          have hfz87_3 := blk_frozen BK173.out 3
          have hfz87_4 := blk_frozen BK173.out 4
          have hfz87_5 := blk_frozen BK173.out 5
          have hfz87_6 := blk_frozen BK173.out 6
          have hfz87_7 := blk_frozen BK173.out 7
          have hfz87_8 := blk_frozen BK173.out 8
          have hfz87_9 := blk_frozen BK173.out 9
          go_wp2_with (first | ((with_reducible refine gate_callee (f := 11) rfl ?_); refine goesL_ (some 25) rfl rfl Try.func11 (by kernel_rfl) rfl #[.agg #[.string a0_0, .int .i64 a0_1, .bool a0_2], .int .i64 a1, .agg #[.int .i64 a2_0, .int .i64 a2_1, .int .i64 a2_2, .float .f64 a2_3, .string a2_4, .int .i64 a2_5, .int .i64 a2_6, .float .f64 a2_7, .string a2_8, .slice A2_9 l2_9.length c2_9]] rfl (by (try simp only [List.map_toArray, List.map_cons, List.map_nil]); first | done | rfl | (simp only [List.length_drop, List.length_take]; rfl)) ?_; (with_reducible refine (zone_May.calls kj5 a0_0 a0_1 a0_2 a1 a2_0 a2_1 a2_2 a2_3 a2_4 a2_5 a2_6 a2_7 a2_8 _ _ l2_9 false _ ?side1 ?side2 A29.out).mono ?_); (case side1 => repeat (first | exact (Kd.C_below HR2_9.out HB.out) | (with_reducible refine Kd.C_alloc ?_ _) | (with_reducible refine Kd.C_drewN ?_ _) | (with_reducible refine Kd.C_drew ?_))); (case side2 => exact HC2_9.out); rintro e w88 ⟨rfl, hb⟩; refine ⟨_, rfl, ?_⟩; have n0_ := Aside0.mk (blk_below (g := gb172) (o := .cells #[.string a0_0, .int .i64 a0_1, .bool a0_2] 29 (0, 0)) (by (with_reducible repeat (first | refine blk_drewN ?_ _ | refine blk_drew ?_ | refine blk_alloc ?_ _)); exact BK172.out) hb); have n1_ := Aside0.mk (blk_below (g := gb173) (o := .cells #[.int .i64 a2_0, .int .i64 a2_1, .int .i64 a2_2, .float .f64 a2_3, .string a2_4, .int .i64 a2_5, .int .i64 a2_6, .float .f64 a2_7, .string a2_8, .slice A2_9 l2_9.length c2_9] 35 (0, 0)) (by (with_reducible repeat (first | refine blk_drewN ?_ _ | refine blk_drew ?_ | refine blk_alloc ?_ _)); exact BK173.out) hb); have n2_ := Aside0.mk (blk_below (g := gb174) (o := .cells #[.int .i64 a3_0, .string a3_1, .int .i64 a3_2, .int .i64 a3_3, .int .i64 a3_4, .float .f64 a3_5, .string a3_6, .slice A3_7 l3_7.length c3_7, .slice A3_8 l3_8.length c3_8] 39 (0, 0)) (by (with_reducible repeat (first | refine blk_drewN ?_ _ | refine blk_drew ?_ | refine blk_alloc ?_ _)); exact BK174.out) hb); have n3_ := Aside0.mk (blk_below (g := gb175) (o := .cells #[.bool a4_0, .bool a4_1, .bool a4_2, .int .i64 a4_3] 44 (0, 0)) (by (with_reducible repeat (first | refine blk_drewN ?_ _ | refine blk_drew ?_ | refine blk_alloc ?_ _)); exact BK175.out) hb); have n4_ := Aside0.mk (blk_below (g := gb176) (o := .cells #[.bool false, .bool false, .bool false] 23 (0, 0)) (by (with_reducible repeat (first | refine blk_drewN ?_ _ | refine blk_drew ?_ | refine blk_alloc ?_ _)); exact BK176.out) hb); have n5_ := Aside0.mk (below_step (by repeat (first | (with_reducible first | exact HB.out | apply below_alloc | apply pw_below_drewN | apply below_drew1 | refine below_set ?_ GE172.out | refine below_set ?_ GE173.out | refine below_set ?_ GE174.out | refine below_set ?_ GE175.out | refine below_set ?_ GE176.out) | exact HB.out)) hb); clear BK172; clear BK173; clear BK174; clear BK175; clear BK176; clear HB; have BK172 := n0_; have BK173 := n1_; have BK174 := n2_; have BK175 := n3_; have BK176 := n4_; have HB := n5_; clear n0_ n1_ n2_ n3_ n4_ n5_; (try clear hb); (try clear hb2); (try clear hk); (try clear hi); have hnb89 := NB176_174.out; have hnc89 := NB174_176.out; have hnb90 := NB176_175.out; have hnc90 := NB175_176.out; have hcz91_0 : w88.cell? ⟨gb176, 0, none⟩ = some (.bool false) := (blk_cell BK176.out 0).trans rfl; have hcz91_1 : w88.cell? ⟨gb176, 1, none⟩ = some (.bool false) := (blk_cell BK176.out 1).trans rfl; have hcz91_2 : w88.cell? ⟨gb176, 2, none⟩ = some (.bool false) := (blk_cell BK176.out 2).trans rfl; have hfz91_0 := blk_frozen BK176.out 0; have hfz91_1 := blk_frozen BK176.out 1; have hfz91_2 := blk_frozen BK176.out 2))
          refine bodyPost_ret (results_ct rfl _ _ gb176 23 #[.bool false, .bool false, .bool false] (0, 0) _ rfl (by (with_reducible repeat (first | refine blk_drewN ?_ _ | refine blk_drew ?_ | refine blk_alloc ?_ _)); refine blk_put (cs := #[.bool false, .bool false, .bool false]) ?_ 2 _ rfl; (with_reducible repeat (first | refine blk_drewN ?_ _ | refine blk_drew ?_ | refine blk_alloc ?_ _)); refine blk_put (cs := #[.bool false, .bool false, .bool false]) ?_ 1 _ rfl; (with_reducible repeat (first | refine blk_drewN ?_ _ | refine blk_drew ?_ | refine blk_alloc ?_ _)); refine blk_put (cs := #[.bool false, .bool false, .bool false]) ?_ 0 _ rfl; (with_reducible repeat (first | refine blk_drewN ?_ _ | refine blk_drew ?_ | refine blk_alloc ?_ _)); exact BK176.out) Try.underlying23 rfl (by kernel_rfl)) rfl ?_
          exact ⟨by first | rfl | (simp [errW_none, errW_some] <;> rfl) | (simp [*, errW_none, errW_some] <;> rfl), by repeat (first | (with_reducible first | exact HB.out | apply below_alloc | apply pw_below_drewN | apply below_drew1 | refine below_set ?_ GE172.out | refine below_set ?_ GE173.out | refine below_set ?_ GE174.out | refine below_set ?_ GE175.out | refine below_set ?_ GE176.out) | exact HB.out)⟩

/-! ### colonnadelaw26_num: function 9 -/
def colonnadelaw26_num.f (a0 : Int) : Option (Int) := some a0
set_option maxHeartbeats 8000000 in
set_option maxRecDepth 100000 in
theorem colonnadelaw26_num.calls (a0 : Int) (r : Int) (w : World) (h : colonnadelaw26_num.f a0 = some r) :
    Calls Try.prog 9 #[.int .i64 a0] w fun e w' => e = .returned (.int .i64 r) ∧ Drawn0 w w' := by
  have H : (some a0) = some r := h
  clear h
  obtain rfl := Option.some.inj H
  go_enter Try.func9, Try.ntmps9
  go_wp2
  go_ret
  exact ⟨by first | rfl | (simp; done) | (simp [*]; done), by repeat (first | exact Drawn0.refl _ | apply Drawn0.step)⟩

/-! ### colonnadelaw26_awake: function 4 -/
-- colonnadelaw26_awake: not asked here
/-! ### prune_Not: function 7 -/
def prune_Not.f (a0_0 : Bool) (a0_1 : Bool) (a0_2 : Bool) : Option (Bool × Bool × Bool) := some (a0_1, a0_0, a0_2)
set_option maxHeartbeats 8000000 in
set_option maxRecDepth 100000 in
theorem prune_Not.calls (a0_0 : Bool) (a0_1 : Bool) (a0_2 : Bool) (r1 : Bool) (r2 : Bool) (r3 : Bool) (w : World) (h : prune_Not.f a0_0 a0_1 a0_2 = some (r1, r2, r3)) :
    Calls Try.prog 7 #[.agg #[.bool a0_0, .bool a0_1, .bool a0_2]] w fun e w' => e = .returned (.agg #[.bool r1, .bool r2, .bool r3]) ∧ Below w.heap.size w w' := by
  have hu23 := Try.underlying23
  have HB := Aside0.mk (Below.refl w.heap.size w)
  have H : (some (a0_1, a0_0, a0_2)) = some (r1, r2, r3) := h
  clear h
  simp only [Option.some.injEq, Prod.mk.injEq] at H
  obtain ⟨rfl, rfl, rfl⟩ := H
  go_enter Try.func7, Try.ntmps7
  go_wp2_with (first | ((with_reducible refine gate_dst (N := 1) rfl ?_); refine box_event ?hg (N := 1) ?hd (cs := #[.bool a0_0, .bool a0_1, .bool a0_2]) (t := 23) ?hr ?_; (case hd => rfl); (case hg => rfl); (case hr => first | (go_simp; done) | (go_simp; rfl)); intro gb185 hg w2 hbox hb; have n0_ := Aside0.mk (below_step (by repeat (first | (with_reducible first | exact HB.out | apply below_alloc | apply pw_below_drewN | apply below_drew1) | exact HB.out)) hb); have n1_ := Aside0.mk (hbox); have n2_ := Aside0.mk ((by rw [hg]; exact (below_size (by repeat (first | (with_reducible first | exact HB.out | apply below_alloc | apply pw_below_drewN | apply below_drew1) | exact HB.out))) : w.heap.size ≤ gb185)); have n3_ := Aside0.mk ((by rw [hg]; exact (below_size (by repeat (first | (with_reducible first | exact HB.out | apply below_alloc | apply pw_below_drewN | apply below_drew1) | exact HB.out))) : w.heap.size ≤ gb185)); clear HB; have HB := n0_; have BK185 := n1_; have GW185 := n2_; have GE185 := n3_; clear n0_ n1_ n2_ n3_; clear hb hbox hg) | ((with_reducible refine gate_dst (N := 2) rfl ?_); refine box_event ?hg (N := 2) ?hd (cs := #[.bool false, .bool false, .bool false]) (t := 23) ?hr ?_; (case hd => rfl); (case hg => rfl); (case hr => first | (go_simp; done) | (go_simp; rfl)); intro gb186 hg w3 hbox hb; have n0_ := Aside0.mk (blk_below (g := gb185) (o := .cells #[.bool a0_0, .bool a0_1, .bool a0_2] 23 (0, 0)) (by (with_reducible repeat (first | refine blk_drewN ?_ _ | refine blk_drew ?_ | refine blk_alloc ?_ _)); exact BK185.out) hb); have n1_ := Aside0.mk (below_step (by repeat (first | (with_reducible first | exact HB.out | apply below_alloc | apply pw_below_drewN | apply below_drew1 | refine below_set ?_ GE185.out) | exact HB.out)) hb); have n2_ := Aside0.mk (hbox); have n3_ := Aside0.mk ((by rw [hg]; exact (below_size (by repeat (first | (with_reducible first | exact HB.out | apply below_alloc | apply pw_below_drewN | apply below_drew1 | refine below_set ?_ GE185.out) | exact HB.out))) : w.heap.size ≤ gb186)); have n4_ := Aside0.mk ((by rw [hg]; exact (below_size (by repeat (first | (with_reducible first | exact HB.out | apply below_alloc | apply pw_below_drewN | apply below_drew1 | refine below_set ?_ GE185.out) | exact HB.out))) : w.heap.size ≤ gb186)); have n5_ := Aside0.mk ((by rw [hg]; exact Nat.ne_of_lt (blk_lt (g := gb185) (o := .cells #[.bool a0_0, .bool a0_1, .bool a0_2] 23 (0, 0)) (by (with_reducible repeat (first | refine blk_drewN ?_ _ | refine blk_drew ?_ | refine blk_alloc ?_ _)); exact BK185.out)) : gb185 ≠ gb186)); have n6_ := Aside0.mk ((by rw [hg]; exact Nat.ne_of_gt (blk_lt (g := gb185) (o := .cells #[.bool a0_0, .bool a0_1, .bool a0_2] 23 (0, 0)) (by (with_reducible repeat (first | refine blk_drewN ?_ _ | refine blk_drew ?_ | refine blk_alloc ?_ _)); exact BK185.out)) : gb186 ≠ gb185)); clear BK185; clear HB; have BK185 := n0_; have HB := n1_; have BK186 := n2_; have GW186 := n3_; have GE186 := n4_; have NB185_186 := n5_; have NB186_185 := n6_; clear n0_ n1_ n2_ n3_ n4_ n5_ n6_; clear hb hbox hg; have hnb4 := NB185_186.out; have hnc4 := NB186_185.out; have hcz5_0 : w3.cell? ⟨gb185, 0, none⟩ = some (.bool a0_0) := (blk_cell BK185.out 0).trans rfl; have hcz5_1 : w3.cell? ⟨gb185, 1, none⟩ = some (.bool a0_1) := (blk_cell BK185.out 1).trans rfl; have hcz5_2 : w3.cell? ⟨gb185, 2, none⟩ = some (.bool a0_2) := (blk_cell BK185.out 2).trans rfl; have hfz5_0 := blk_frozen BK185.out 0; have hfz5_1 := blk_frozen BK185.out 1; have hfz5_2 := blk_frozen BK185.out 2; have hcz6_0 : w3.cell? ⟨gb186, 0, none⟩ = some (.bool false) := (blk_cell BK186.out 0).trans rfl; have hcz6_1 : w3.cell? ⟨gb186, 1, none⟩ = some (.bool false) := (blk_cell BK186.out 1).trans rfl; have hcz6_2 : w3.cell? ⟨gb186, 2, none⟩ = some (.bool false) := (blk_cell BK186.out 2).trans rfl; have hfz6_0 := blk_frozen BK186.out 0; have hfz6_1 := blk_frozen BK186.out 1; have hfz6_2 := blk_frozen BK186.out 2))
  refine bodyPost_ret (results_cell_row rfl _ _ gb186 23 #[.bool a0_1, .bool a0_0, .bool a0_2] (0, 0) _ rfl (by (with_reducible repeat (first | refine blk_drewN ?_ _ | refine blk_drew ?_ | refine blk_alloc ?_ _)); refine blk_put (cs := #[.bool a0_1, .bool a0_0, .bool false]) ?_ 2 _ rfl; (with_reducible repeat (first | refine blk_drewN ?_ _ | refine blk_drew ?_ | refine blk_alloc ?_ _)); refine blk_put (cs := #[.bool a0_1, .bool false, .bool false]) ?_ 1 _ rfl; (with_reducible repeat (first | refine blk_drewN ?_ _ | refine blk_drew ?_ | refine blk_alloc ?_ _)); refine blk_put (cs := #[.bool false, .bool false, .bool false]) ?_ 0 _ rfl; (with_reducible repeat (first | refine blk_drewN ?_ _ | refine blk_drew ?_ | refine blk_alloc ?_ _)); exact BK186.out) Try.underlying23 rfl (by kernel_rfl)) rfl ?_
  exact ⟨by first | rfl | (simp [errW_none, errW_some] <;> rfl) | (simp [*, errW_none, errW_some] <;> rfl), by repeat (first | (with_reducible first | exact HB.out | apply below_alloc | apply pw_below_drewN | apply below_drew1 | refine below_set ?_ GE185.out | refine below_set ?_ GE186.out) | exact HB.out)⟩

end Go.Proofs.Ythikgpfehebkgaa.PPruneAlgebra
