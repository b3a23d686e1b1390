-- Written by xprint.py, this session's own program over the kit's print; Lean checks it.
import Derived.Test.YthikgpfehebkgaaPPruneAlgebrax0
import Derived.Test.YthikgpfehebkgaaPPruneAlgebrax3
import Derived.Test.YthikgpfehebkgaaPPruneAlgebrax8
namespace Go.Proofs.Ythikgpfehebkgaa.PPruneAlgebra
open Go.RowKit Go.Proofs.YthikgpfehebkgaaW.PrintWords Go.Proofs.YthikgpfehebkgaaW.PrintLast Go.Proofs.YthikgpfehebkgaaW.PrintMore
attribute [local go_sem] XFloat.run_store_float max2_int min2_int max_two min_two max_three min_three max_four min_four   -- for this text's walks alone
set_option linter.unusedVariables false
set_option linter.unusedSimpArgs false

/-! ### atom_Check: function 12 -/
def XIdx.idx (P : S32 → Bool) : List S32 → Int → Int
  | [], _ => -1
  | c :: cs, i => if P c = true then i else XIdx.idx P cs (i + 1)
theorem XIdx.idx_rng (P : S32 → Bool) (l : List S32) : ∀ i : Int, 0 ≤ i → (XIdx.idx P l i ≥ 0) = (l.any P = true) := by
  induction l with
  | nil => intro i hi; simp [XIdx.idx]
  | cons c cs ih =>
    intro i hi
    have := ih (i + 1) (by omega)
    unfold XIdx.idx
    by_cases h : P c = true
    · simp [h, hi]
    · rw [if_neg h, this]; simp [h]
/-- a closure with captured pointers, or with a bound receiver: how a call of it is entered -/
structure XIdx.Enters (n : Nat) (b c : Array Value) (P : S32 → Bool) (l : List S32) (w : World) : Prop where
  go : ∀ x ∈ l, ∀ W, Below w.heap.size w W → Calls Try.prog n (b.push (.agg #[.int .i64 x.f0, .int .i64 x.f1, .float .f64 x.f2, .string x.f3]) ++ c) W fun e w' => e = .returned (.bool (P x)) ∧ Below W.heap.size W w'
set_option maxHeartbeats 1000000 in
theorem XIdx.index (n : Nat) (b c : Array Value) (P : S32 → Bool) (hen : ∀ args W, (callFunc n args).run Try.prog W = .ok (.enter n args) W) (A0 : Option Addr) (c0 : Nat) (l0 : List S32) (w : World) (hr0 : Kd.C k32 w A0 l0.length l0) (hc0 : l0.length ≤ c0) (hP : XIdx.Enters n b c P l0 w) :
    Calls Try.prog 36 #[.slice A0 l0.length c0, .func (.func n) b c] w fun e w' => e = .returned (.int .i64 (XIdx.idx P l0 0)) ∧ Below w.heap.size w w' := by
  have HR0 := Aside0.mk hr0
  have hlen : l0.length ≤ 9223372036854775807 := hr0.2.1
  clear hr0
  go_enter Try.func36, Try.ntmps36
  go_wp2_with fail
  (try simp only [add_plain])
  go_loopg [8] (l0.length + 1) (fun kq v8 w' => ∃ i : Nat, i ≤ l0.length ∧ Aside0 (kq + i = l0.length + 1) ∧ v8 = .int .i64 (i : Int) ∧ Aside0 (XIdx.idx P l0 0 = XIdx.idx P (l0.drop i) i) ∧ Aside0 (Below w.heap.size w w'))
  case atStart => exact ⟨0, by omega, ⟨by omega⟩, rfl, ⟨rfl⟩, ⟨Below.refl _ _⟩⟩
  case round =>
    obtain ⟨i, hi, HK, rfl, HI, HB⟩ := hrel
    by_cases hlt : i < l0.length
    · have hd : decide ((i : Int) < (l0.length : Int)) = true := decide_eq_true (by omega)
      obtain ⟨k1, rfl⟩ : ∃ k1, gk = k1 + 1 := ⟨gk - 1, by have := HK.out; omega⟩
      obtain ⟨ad, e0, hx0, hx1, hx2, hx3⟩ := at_T32 (Kd.C_below HR0.out HB.out) (i : Int) (by omega) (by omega)
      rw [Int.toNat_natCast] at hx0 hx1 hx2 hx3
      cases e0
      have hrd : rd_T32 l0 (i : Int) = l0[i] := by unfold rd_T32; simp [hlt]
      rw [hrd] at hx0 hx1 hx2 hx3
      go_wp2_with fail
      refine (hP.go l0[i] (List.getElem_mem hlt) wr HB.out).mono ?_
      rintro e w1 ⟨rfl, hb⟩
      have HB1 := Aside0.mk (below_then HB.out HB.out.size hb)
      have hst : XIdx.idx P (l0.drop i) i = if P l0[i] = true then (i : Int) else XIdx.idx P (l0.drop (i + 1)) ((i : Int) + 1) := by
        rw [List.drop_eq_getElem_cons hlt]; rfl
      clear hb hrd hx0 hx1 hx2 hx3 HB
      by_cases hyes : P l0[i] = true
      · have HI' := Aside0.mk (HI.out.trans (hst.trans (if_pos hyes)))
        rw [hyes]
        clear hst HI hyes
        go_wp2_with fail
        go_ret
        exact ⟨by rw [HI'.out]; rfl, HB1.out⟩
      · have HI' := Aside0.mk (HI.out.trans (hst.trans (if_neg hyes)))
        rw [show P l0[i] = false from by simpa using hyes]
        clear hst HI hyes
        go_wp2_with fail
        go_roundg k1
        case measure => have := HK.out; omega
        case rel => exact ⟨i + 1, by omega, ⟨by have := HK.out; omega⟩, congrArg (Value.int .i64) (by omega), ⟨HI'.out⟩, HB1⟩
    · obtain rfl : i = l0.length := by omega
      have hd : decide ((l0.length : Int) < (l0.length : Int)) = false := decide_eq_false (by omega)
      go_wp2_with fail
      go_ret
      exact ⟨by rw [HI.out, List.drop_length]; rfl, HB.out⟩
set_option maxHeartbeats 1000000 in
theorem XIdx.contains (n : Nat) (b c : Array Value) (P : S32 → Bool) (hen : ∀ args W, (callFunc n args).run Try.prog W = .ok (.enter n args) W) (A0 : Option Addr) (c0 : Nat) (l0 : List S32) (w : World) (hr0 : Kd.C k32 w A0 l0.length l0) (hc0 : l0.length ≤ c0) (hP : XIdx.Enters n b c P l0 w) :
    Calls Try.prog 24 #[.slice A0 l0.length c0, .func (.func n) b c] w fun e w' => e = .returned (.bool (l0.any P)) ∧ Below w.heap.size w w' := by
  have hcon := XIdx.index n b c P hen A0 c0 l0 w hr0 hc0 hP
  have hr := XIdx.idx_rng P l0 0 (by omega)
  generalize XIdx.idx P l0 0 = r at hcon hr
  have hd : decide (r ≥ 0) = l0.any P := by
    rw [Bool.eq_iff_iff, decide_eq_true_eq, hr]
  generalize l0.any P = s at hd ⊢
  subst hd
  clear hr hr0
  go_enter Try.func24, Try.ntmps24
  go_wp2_with fail
  refine hcon.mono ?_
  rintro e w1 ⟨rfl, hb⟩
  have HB := Aside0.mk hb
  clear hb hcon
  go_wp2_with fail
  go_ret
  exact ⟨rfl, HB.out⟩
def AWrong.wrongB (m : Bool) (k t : Int) : Bool := if m = false then true else if k = 0 then true else k != t
set_option maxHeartbeats 4000000 in
set_option maxRecDepth 100000 in
theorem AWrong.wrong (K : Nat) (k i : Int) (r : Nat) (t : ByteArray) (A : Option Addr) (c : Nat) (l : List S29) (n : Nat) (gc ga : Nat) (m : Bool) (w : World) (hr : Kd.C k29 w A l.length l) (hc : l.length ≤ c) (hn : n < l.length)
    (h1 : w.cell? ⟨gc, 0, none⟩ = some (.slice A l.length c)) (h2 : w.cell? ⟨ga, 0, none⟩ = some (.int .i64 (n : Int))) (hm : value_May.f K k i r t = some m) :
    Calls Try.prog 21 #[.agg #[.int .i64 k, .int .i64 i, .float .f64 r, .string t], .pointer (some ⟨gc, 0, none⟩), .pointer (some ⟨ga, 0, none⟩)] w fun e w' => e = .returned (.bool (AWrong.wrongB m k (rd_T29 l (n : Int)).f1)) ∧ Below w.heap.size w w' := by
  have HM := Aside0.mk hm
  have l1 := World.block_lt_of_cell? w _ h1
  have l2 := World.block_lt_of_cell? w _ h2
  obtain ⟨ad, rfl, _, hx, _⟩ := at_T29 hr (n : Int) (by omega) (by omega)
  rw [Int.toNat_natCast] at hx
  have l3 := World.block_lt_of_cell? w _ hx
  have hn0 : (0 : Int) ≤ (n : Int) := by omega
  have hn1 : (n : Int) < (l.length : Int) := by omega
  generalize (rd_T29 l (n : Int)).f1 = ty at hx ⊢
  clear hr hm
  have ha := fun o => below_alloc (Below.refl w.heap.size w) o
  have c1 : ∀ o, (w.alloc o).cell? ⟨gc, 0, none⟩ = some (.slice (some ad) l.length c) := fun o => ((ha o).cell l1).trans h1
  have c2 : ∀ o, (w.alloc o).cell? ⟨ga, 0, none⟩ = some (.int .i64 (n : Int)) := fun o => ((ha o).cell l2).trans h2
  have c3 : ∀ o, (w.alloc o).cell? ⟨(ad.add (n * 3)).block, (ad.add (n * 3)).off + 1, none⟩ = some (.int .i64 ty) := fun o => ((ha o).cell l3).trans hx
  clear h1 h2 hx ha
  go_enter Try.func21, Try.ntmps21
  go_wp2_with fail
  by_cases hmb : m = true
  · subst hmb
    by_cases hk : k = 0
    · subst hk
      refine wp_region_held_drew (S := (fun w' => w'.cell? ⟨w.heap.size, 0, none⟩ = some (.int .i64 0) ∧ w'.cell? ⟨w.heap.size, 1, none⟩ = some (.int .i64 i) ∧ w'.cell? ⟨w.heap.size, 2, none⟩ = some (.float .f64 r) ∧ w'.cell? ⟨w.heap.size, 3, none⟩ = some (.string t) ∧ w'.cell? ⟨gc, 0, none⟩ = some (.slice (some ad) l.length c) ∧ w'.cell? ⟨ga, 0, none⟩ = some (.int .i64 (n : Int)) ∧ w'.cell? ⟨(ad.add (n * 3)).block, (ad.add (n * 3)).off + 1, none⟩ = some (.int .i64 ty))) (by kernel_rfl) (⟨by go_simp, by go_simp, by go_simp, by go_simp, c1 _, c2 _, c3 _⟩) (fun hHeld => ?_)
      refine wpAnyH_take (i := 0) (oi := ⟨some 5, _, _, _, _, _⟩) (v := ?v_1) rfl (by kernel_rfl) (by kernel_rfl) (by kernel_rfl) (fun _ _ _ h => h) (Or.inl ⟨by rfl, ?y_1⟩) (by assumption) ?n_1
      case y_1 => (intro w_ hSw; (try dsimp only at hSw); go_simp; try (with_reducible rfl))
      try simp only [Act.put, List.setIfInBounds_toArray, List.set_cons_zero, List.set_cons_succ]
      refine wpAnyH_ready (rs := [1]) (by kernel_rfl) (by simp) ?_
      refine AllReadyH.cons (o := ⟨some 6, _, _, _, _, _⟩) rfl (fun K_ hK_ => ?_) AllReadyH.nil
      go_simp
      refine (value_May.calls K _ _ _ _ _ _ HM.out).mono ?_
      rintro e w1 ⟨rfl, hb⟩
      have e0 := pw_cell_below hb (a := ⟨w.heap.size, 0, none⟩) (v := .int .i64 0) (by go_simp)
      have e1 := pw_cell_below hb (a := ⟨w.heap.size, 1, none⟩) (v := .int .i64 i) (by go_simp)
      have e2 := pw_cell_below hb (a := ⟨w.heap.size, 2, none⟩) (v := .float .f64 r) (by go_simp)
      have e3 := pw_cell_below hb (a := ⟨w.heap.size, 3, none⟩) (v := .string t) (by go_simp)
      have e4 := pw_cell_below hb (c1 _)
      have e5 := pw_cell_below hb (c2 _)
      have e6 := pw_cell_below hb (c3 _)
      have HB := Aside0.mk (below_then (below_drew1 (below_alloc (Below.refl w.heap.size w) _)) (below_drew1 (below_alloc (Below.refl w.heap.size w) _)).size hb)
      clear hb
      try go_wp2_with fail
      refine hK_.out _ _ (⟨e0, e1, e2, e3, e4, e5, e6⟩) (fun hHeld => ?_)
      clear hK_ K_
      try simp only [Act.put, List.setIfInBounds_toArray, List.set_cons_zero, List.set_cons_succ]
      refine wpAnyH_take (i := 2) (oi := ⟨some 7, _, _, _, _, _⟩) (v := ?v_2) rfl (by kernel_rfl) (by kernel_rfl) (by kernel_rfl) (fun _ _ _ h => h) (Or.inl ⟨by rfl, ?y_2⟩) (by assumption) ?n_2
      case y_2 => (intro w_ hSw; (try dsimp only at hSw); go_simp; try (with_reducible rfl))
      try simp only [Act.put, List.setIfInBounds_toArray, List.set_cons_zero, List.set_cons_succ]
      refine wpAnyH_take (i := 3) (oi := ⟨some 8, _, _, _, _, _⟩) (v := ?v_3) rfl (by kernel_rfl) (by kernel_rfl) (by kernel_rfl) (fun _ _ _ h => h) (Or.inl ⟨by rfl, ?y_3⟩) (by assumption) ?n_3
      case y_3 => (intro w_ hSw; (try dsimp only at hSw); go_simp; try (with_reducible rfl))
      try simp only [Act.put, List.setIfInBounds_toArray, List.set_cons_zero, List.set_cons_succ]
      refine wpAnyH_take (i := 4) (oi := ⟨some 9, _, _, _, _, _⟩) (v := ?v_4) rfl (by kernel_rfl) (by kernel_rfl) (by kernel_rfl) (fun _ _ _ h => h) (Or.inl ⟨by rfl, ?y_4⟩) (by assumption) ?n_4
      case y_4 => (intro w_ hSw; (try dsimp only at hSw); go_simp; try (with_reducible rfl))
      try simp only [Act.put, List.setIfInBounds_toArray, List.set_cons_zero, List.set_cons_succ]
      refine wpAnyH_take (i := 5) (oi := ⟨some 10, _, _, _, _, _⟩) (v := ?v_5) rfl (by kernel_rfl) (by kernel_rfl) (by kernel_rfl) (fun _ _ _ h => h) (Or.inl ⟨by rfl, ?y_5⟩) (by assumption) ?n_5
      case y_5 => (intro w_ hSw; (try dsimp only at hSw); go_simp; try (with_reducible rfl))
      try simp only [Act.put, List.setIfInBounds_toArray, List.set_cons_zero, List.set_cons_succ]
      refine wpAnyH_take (i := 6) (oi := ⟨some 11, _, _, _, _, _⟩) (v := ?v_6) rfl (by kernel_rfl) (by kernel_rfl) (by kernel_rfl) (fun _ _ _ h => h) (Or.inl ⟨by rfl, ?y_6⟩) (by assumption) ?n_6
      case y_6 => (intro w_ hSw; (try dsimp only at hSw); go_simp; try (with_reducible rfl))
      try simp only [Act.put, List.setIfInBounds_toArray, List.set_cons_zero, List.set_cons_succ]
      refine wpAnyH_take (i := 7) (oi := ⟨some 12, _, _, _, _, _⟩) (v := ?v_7) rfl (by kernel_rfl) (by kernel_rfl) (by kernel_rfl) (fun _ _ _ h => h) (Or.inl ⟨by rfl, ?y_7⟩) (by assumption) ?n_7
      case y_7 => (intro w_ hSw; (try dsimp only at hSw); go_simp; try (with_reducible rfl))
      try simp only [Act.put, List.setIfInBounds_toArray, List.set_cons_zero, List.set_cons_succ]
      refine wpAnyH_take (i := 8) (oi := ⟨some 13, _, _, _, _, _⟩) (v := ?v_8) rfl (by kernel_rfl) (by kernel_rfl) (by kernel_rfl) (fun _ _ _ h => h) (Or.inl ⟨by rfl, ?y_8⟩) (by assumption) ?n_8
      case y_8 => (intro w_ hSw; (try dsimp only at hSw); go_simp; try (with_reducible rfl))
      try simp only [Act.put, List.setIfInBounds_toArray, List.set_cons_zero, List.set_cons_succ]
      refine wpAnyH_take (i := 9) (oi := ⟨some 14, _, _, _, _, _⟩) (v := undef) rfl (by kernel_rfl) (by kernel_rfl) (by kernel_rfl) (fun _ _ _ h => h) (Or.inr ⟨by rfl, rfl⟩) (by assumption) ?_
      try simp only [Act.put, List.setIfInBounds_toArray, List.set_cons_zero, List.set_cons_succ]
      refine wpAnyH_take (i := 10) (oi := ⟨some 15, _, _, _, _, _⟩) (v := undef) rfl (by kernel_rfl) (by kernel_rfl) (by kernel_rfl) (fun _ _ _ h => h) (Or.inr ⟨by rfl, rfl⟩) (by assumption) ?_
      try simp only [Act.put, List.setIfInBounds_toArray, List.set_cons_zero, List.set_cons_succ]
      refine wpAnyH_take (i := 11) (oi := ⟨some 16, _, _, _, _, _⟩) (v := undef) rfl (by kernel_rfl) (by kernel_rfl) (by kernel_rfl) (fun _ _ _ h => h) (Or.inr ⟨by rfl, rfl⟩) (by assumption) ?_
      try simp only [Act.put, List.setIfInBounds_toArray, List.set_cons_zero, List.set_cons_succ]
      refine wpAnyH_take (i := 12) (oi := ⟨some 17, _, _, _, _, _⟩) (v := undef) rfl (by kernel_rfl) (by kernel_rfl) (by kernel_rfl) (fun _ _ _ h => h) (Or.inr ⟨by rfl, rfl⟩) (by assumption) ?_
      try simp only [Act.put, List.setIfInBounds_toArray, List.set_cons_zero, List.set_cons_succ]
      refine wpAnyH_take (i := 13) (oi := ⟨some 18, _, _, _, _, _⟩) (v := undef) rfl (by kernel_rfl) (by kernel_rfl) (by kernel_rfl) (fun _ _ _ h => h) (Or.inr ⟨by rfl, rfl⟩) (by assumption) ?_
      try simp only [Act.put, List.setIfInBounds_toArray, List.set_cons_zero, List.set_cons_succ]
      refine wpAnyH_take (i := 14) (oi := ⟨some 19, _, _, _, _, _⟩) (v := undef) rfl (by kernel_rfl) (by kernel_rfl) (by kernel_rfl) (fun _ _ _ h => h) (Or.inr ⟨by rfl, rfl⟩) (by assumption) ?_
      try simp only [Act.put, List.setIfInBounds_toArray, List.set_cons_zero, List.set_cons_succ]
      refine wpAnyH_take (i := 15) (oi := ⟨some 20, _, _, _, _, _⟩) (v := undef) rfl (by kernel_rfl) (by kernel_rfl) (by kernel_rfl) (fun _ _ _ h => h) (Or.inr ⟨by rfl, rfl⟩) (by assumption) ?_
      try simp only [Act.put, List.setIfInBounds_toArray, List.set_cons_zero, List.set_cons_succ]
      refine wpAnyH_take (i := 16) (oi := ⟨some 21, _, _, _, _, _⟩) (v := undef) rfl (by kernel_rfl) (by kernel_rfl) (by kernel_rfl) (fun _ _ _ h => h) (Or.inr ⟨by rfl, rfl⟩) (by assumption) ?_
      try simp only [Act.put, List.setIfInBounds_toArray, List.set_cons_zero, List.set_cons_succ]
      refine wpAnyH_take (i := 17) (oi := ⟨some 22, _, _, _, _, _⟩) (v := ?v_9) rfl (by kernel_rfl) (by kernel_rfl) (by kernel_rfl) (fun _ _ _ h => h) (Or.inl ⟨by rfl, ?y_9⟩) (by assumption) ?n_9
      case y_9 => (intro w_ hSw; (try dsimp only at hSw); go_simp; try (with_reducible rfl))
      try simp only [Act.put, List.setIfInBounds_toArray, List.set_cons_zero, List.set_cons_succ]
      refine wpAnyH_take (i := 18) (oi := ⟨some 4, _, _, _, _, _⟩) (v := ?v_10) rfl (by kernel_rfl) (by kernel_rfl) (by kernel_rfl) (fun _ _ _ h => h) (Or.inl ⟨by rfl, ?y_10⟩) (by assumption) ?n_10
      case y_10 => (intro w_ hSw; (try dsimp only at hSw); go_simp; try (with_reducible rfl))
      try simp only [Act.put, List.setIfInBounds_toArray, List.set_cons_zero, List.set_cons_succ]
      refine wpAnyH_done (by kernel_rfl) ?_ _
      go_wp2_with fail
      go_ret
      exact ⟨rfl, HB.out⟩
    · have hkb : (k == 0) = false := by simpa using hk
      refine wp_region_held_drew (S := (fun w' => w'.cell? ⟨w.heap.size, 0, none⟩ = some (.int .i64 k) ∧ w'.cell? ⟨w.heap.size, 1, none⟩ = some (.int .i64 i) ∧ w'.cell? ⟨w.heap.size, 2, none⟩ = some (.float .f64 r) ∧ w'.cell? ⟨w.heap.size, 3, none⟩ = some (.string t) ∧ w'.cell? ⟨gc, 0, none⟩ = some (.slice (some ad) l.length c) ∧ w'.cell? ⟨ga, 0, none⟩ = some (.int .i64 (n : Int)) ∧ w'.cell? ⟨(ad.add (n * 3)).block, (ad.add (n * 3)).off + 1, none⟩ = some (.int .i64 ty))) (by kernel_rfl) (⟨by go_simp, by go_simp, by go_simp, by go_simp, c1 _, c2 _, c3 _⟩) (fun hHeld => ?_)
      refine wpAnyH_take (i := 0) (oi := ⟨some 5, _, _, _, _, _⟩) (v := ?v_11) rfl (by kernel_rfl) (by kernel_rfl) (by kernel_rfl) (fun _ _ _ h => h) (Or.inl ⟨by rfl, ?y_11⟩) (by assumption) ?n_11
      case y_11 => (intro w_ hSw; (try dsimp only at hSw); go_simp; try (with_reducible rfl))
      try simp only [Act.put, List.setIfInBounds_toArray, List.set_cons_zero, List.set_cons_succ]
      refine wpAnyH_ready (rs := [1]) (by kernel_rfl) (by simp) ?_
      refine AllReadyH.cons (o := ⟨some 6, _, _, _, _, _⟩) rfl (fun K_ hK_ => ?_) AllReadyH.nil
      go_simp
      refine (value_May.calls K _ _ _ _ _ _ HM.out).mono ?_
      rintro e w1 ⟨rfl, hb⟩
      have e0 := pw_cell_below hb (a := ⟨w.heap.size, 0, none⟩) (v := .int .i64 k) (by go_simp)
      have e1 := pw_cell_below hb (a := ⟨w.heap.size, 1, none⟩) (v := .int .i64 i) (by go_simp)
      have e2 := pw_cell_below hb (a := ⟨w.heap.size, 2, none⟩) (v := .float .f64 r) (by go_simp)
      have e3 := pw_cell_below hb (a := ⟨w.heap.size, 3, none⟩) (v := .string t) (by go_simp)
      have e4 := pw_cell_below hb (c1 _)
      have e5 := pw_cell_below hb (c2 _)
      have e6 := pw_cell_below hb (c3 _)
      have HB := Aside0.mk (below_then (below_drew1 (below_alloc (Below.refl w.heap.size w) _)) (below_drew1 (below_alloc (Below.refl w.heap.size w) _)).size hb)
      clear hb
      try go_wp2_with fail
      refine hK_.out _ _ (⟨e0, e1, e2, e3, e4, e5, e6⟩) (fun hHeld => ?_)
      clear hK_ K_
      try simp only [Act.put, List.setIfInBounds_toArray, List.set_cons_zero, List.set_cons_succ]
      refine wpAnyH_take (i := 2) (oi := ⟨some 7, _, _, _, _, _⟩) (v := ?v_12) rfl (by kernel_rfl) (by kernel_rfl) (by kernel_rfl) (fun _ _ _ h => h) (Or.inl ⟨by rfl, ?y_12⟩) (by assumption) ?n_12
      case y_12 => (intro w_ hSw; (try dsimp only at hSw); go_simp; try (with_reducible rfl))
      try simp only [Act.put, List.setIfInBounds_toArray, List.set_cons_zero, List.set_cons_succ]
      refine wpAnyH_take (i := 3) (oi := ⟨some 8, _, _, _, _, _⟩) (v := ?v_13) rfl (by kernel_rfl) (by kernel_rfl) (by kernel_rfl) (fun _ _ _ h => h) (Or.inl ⟨by rfl, ?y_13⟩) (by assumption) ?n_13
      case y_13 => (intro w_ hSw; (try dsimp only at hSw); go_simp; try (with_reducible rfl))
      try simp only [Act.put, List.setIfInBounds_toArray, List.set_cons_zero, List.set_cons_succ]
      refine wpAnyH_take (i := 4) (oi := ⟨some 9, _, _, _, _, _⟩) (v := ?v_14) rfl (by kernel_rfl) (by kernel_rfl) (by kernel_rfl) (fun _ _ _ h => h) (Or.inl ⟨by rfl, ?y_14⟩) (by assumption) ?n_14
      case y_14 => (intro w_ hSw; (try dsimp only at hSw); go_simp; try (with_reducible rfl))
      try simp only [Act.put, List.setIfInBounds_toArray, List.set_cons_zero, List.set_cons_succ]
      refine wpAnyH_take (i := 5) (oi := ⟨some 10, _, _, _, _, _⟩) (v := ?v_15) rfl (by kernel_rfl) (by kernel_rfl) (by kernel_rfl) (fun _ _ _ h => h) (Or.inl ⟨by rfl, ?y_15⟩) (by assumption) ?n_15
      case y_15 => (intro w_ hSw; (try dsimp only at hSw); go_simp; try (with_reducible rfl))
      try simp only [Act.put, List.setIfInBounds_toArray, List.set_cons_zero, List.set_cons_succ]
      refine wpAnyH_take (i := 6) (oi := ⟨some 11, _, _, _, _, _⟩) (v := ?v_16) rfl (by kernel_rfl) (by kernel_rfl) (by kernel_rfl) (fun _ _ _ h => h) (Or.inl ⟨by rfl, ?y_16⟩) (by assumption) ?n_16
      case y_16 => (intro w_ hSw; (try dsimp only at hSw); go_simp; try (with_reducible rfl))
      try simp only [Act.put, List.setIfInBounds_toArray, List.set_cons_zero, List.set_cons_succ]
      refine wpAnyH_take (i := 7) (oi := ⟨some 12, _, _, _, _, _⟩) (v := ?v_17) rfl (by kernel_rfl) (by kernel_rfl) (by kernel_rfl) (fun _ _ _ h => h) (Or.inl ⟨by rfl, ?y_17⟩) (by assumption) ?n_17
      case y_17 => (intro w_ hSw; (try dsimp only at hSw); go_simp; try (with_reducible rfl))
      try simp only [Act.put, List.setIfInBounds_toArray, List.set_cons_zero, List.set_cons_succ]
      refine wpAnyH_take (i := 8) (oi := ⟨some 13, _, _, _, _, _⟩) (v := ?v_18) rfl (by kernel_rfl) (by kernel_rfl) (by kernel_rfl) (fun _ _ _ h => h) (Or.inl ⟨by rfl, ?y_18⟩) (by assumption) ?n_18
      case y_18 => (intro w_ hSw; (try dsimp only at hSw); go_simp; try (with_reducible rfl))
      try simp only [Act.put, List.setIfInBounds_toArray, List.set_cons_zero, List.set_cons_succ]
      refine wpAnyH_take (i := 9) (oi := ⟨some 14, _, _, _, _, _⟩) (v := ?v_19) rfl (by kernel_rfl) (by kernel_rfl) (by kernel_rfl) (fun _ _ _ h => h) (Or.inl ⟨by rfl, ?y_19⟩) (by assumption) ?n_19
      case y_19 => (intro w_ hSw; (try dsimp only at hSw); go_simp; try (with_reducible rfl))
      try simp only [Act.put, List.setIfInBounds_toArray, List.set_cons_zero, List.set_cons_succ]
      refine wpAnyH_take (i := 10) (oi := ⟨some 15, _, _, _, _, _⟩) (v := ?v_20) rfl (by kernel_rfl) (by kernel_rfl) (by kernel_rfl) (fun _ _ _ h => h) (Or.inl ⟨by rfl, ?y_20⟩) (by assumption) ?n_20
      case y_20 => (intro w_ hSw; (try dsimp only at hSw); go_simp; try (with_reducible rfl))
      try simp only [Act.put, List.setIfInBounds_toArray, List.set_cons_zero, List.set_cons_succ]
      refine wpAnyH_take (i := 11) (oi := ⟨some 16, _, _, _, _, _⟩) (v := ?v_21) rfl (by kernel_rfl) (by kernel_rfl) (by kernel_rfl) (fun _ _ _ h => h) (Or.inl ⟨by rfl, ?y_21⟩) (by assumption) ?n_21
      case y_21 => (intro w_ hSw; (try dsimp only at hSw); go_simp; try (with_reducible rfl))
      try simp only [Act.put, List.setIfInBounds_toArray, List.set_cons_zero, List.set_cons_succ]
      refine wpAnyH_take (i := 12) (oi := ⟨some 17, _, _, _, _, _⟩) (v := ?v_22) rfl (by kernel_rfl) (by kernel_rfl) (by kernel_rfl) (fun _ _ _ h => h) (Or.inl ⟨by rfl, ?y_22⟩) (by assumption) ?n_22
      case y_22 => (intro w_ hSw; (try dsimp only at hSw); go_simp; try (with_reducible rfl))
      try simp only [Act.put, List.setIfInBounds_toArray, List.set_cons_zero, List.set_cons_succ]
      refine wpAnyH_take (i := 13) (oi := ⟨some 18, _, _, _, _, _⟩) (v := ?v_23) rfl (by kernel_rfl) (by kernel_rfl) (by kernel_rfl) (fun _ _ _ h => h) (Or.inl ⟨by rfl, ?y_23⟩) (by assumption) ?n_23
      case y_23 => (intro w_ hSw; (try dsimp only at hSw); go_simp; try (with_reducible rfl))
      try simp only [Act.put, List.setIfInBounds_toArray, List.set_cons_zero, List.set_cons_succ]
      refine wpAnyH_take (i := 14) (oi := ⟨some 19, _, _, _, _, _⟩) (v := ?v_24) rfl (by kernel_rfl) (by kernel_rfl) (by kernel_rfl) (fun _ _ _ h => h) (Or.inl ⟨by rfl, ?y_24⟩) (by assumption) ?n_24
      case y_24 => (intro w_ hSw; (try dsimp only at hSw); go_simp; try (with_reducible rfl))
      try simp only [Act.put, List.setIfInBounds_toArray, List.set_cons_zero, List.set_cons_succ]
      refine wpAnyH_take (i := 15) (oi := ⟨some 20, _, _, _, _, _⟩) (v := ?v_25) rfl (by kernel_rfl) (by kernel_rfl) (by kernel_rfl) (fun _ _ _ h => h) (Or.inl ⟨by rfl, ?y_25⟩) (by assumption) ?n_25
      case y_25 => (intro w_ hSw; (try dsimp only at hSw); go_simp; try (with_reducible rfl))
      try simp only [Act.put, List.setIfInBounds_toArray, List.set_cons_zero, List.set_cons_succ]
      refine wpAnyH_take (i := 16) (oi := ⟨some 21, _, _, _, _, _⟩) (v := ?v_26) rfl (by kernel_rfl) (by kernel_rfl) (by kernel_rfl) (fun _ _ _ h => h) (Or.inl ⟨by rfl, ?y_26⟩) (by assumption) ?n_26
      case y_26 => (intro w_ hSw; (try dsimp only at hSw); go_simp; try (with_reducible rfl))
      try simp only [Act.put, List.setIfInBounds_toArray, List.set_cons_zero, List.set_cons_succ]
      refine wpAnyH_take (i := 17) (oi := ⟨some 22, _, _, _, _, _⟩) (v := ?v_27) rfl (by kernel_rfl) (by kernel_rfl) (by kernel_rfl) (fun _ _ _ h => h) (Or.inl ⟨by rfl, ?y_27⟩) (by assumption) ?n_27
      case y_27 => (intro w_ hSw; (try dsimp only at hSw); go_simp; try (with_reducible rfl))
      try simp only [Act.put, List.setIfInBounds_toArray, List.set_cons_zero, List.set_cons_succ]
      refine wpAnyH_take (i := 18) (oi := ⟨some 4, _, _, _, _, _⟩) (v := ?v_28) rfl (by kernel_rfl) (by kernel_rfl) (by kernel_rfl) (fun _ _ _ h => h) (Or.inl ⟨by rfl, ?y_28⟩) (by assumption) ?n_28
      case y_28 => (intro w_ hSw; (try dsimp only at hSw); go_simp; try (with_reducible rfl))
      try simp only [Act.put, List.setIfInBounds_toArray, List.set_cons_zero, List.set_cons_succ]
      refine wpAnyH_done (by kernel_rfl) ?_ _
      go_wp2_with fail
      go_ret
      exact ⟨by simp [AWrong.wrongB, hk], HB.out⟩
  · obtain rfl : m = false := by simpa using hmb
    clear hmb
    refine wp_region_held_drew (S := (fun w' => w'.cell? ⟨w.heap.size, 0, none⟩ = some (.int .i64 k) ∧ w'.cell? ⟨w.heap.size, 1, none⟩ = some (.int .i64 i) ∧ w'.cell? ⟨w.heap.size, 2, none⟩ = some (.float .f64 r) ∧ w'.cell? ⟨w.heap.size, 3, none⟩ = some (.string t) ∧ w'.cell? ⟨gc, 0, none⟩ = some (.slice (some ad) l.length c) ∧ w'.cell? ⟨ga, 0, none⟩ = some (.int .i64 (n : Int)) ∧ w'.cell? ⟨(ad.add (n * 3)).block, (ad.add (n * 3)).off + 1, none⟩ = some (.int .i64 ty))) (by kernel_rfl) (⟨by go_simp, by go_simp, by go_simp, by go_simp, c1 _, c2 _, c3 _⟩) (fun hHeld => ?_)
    refine wpAnyH_take (i := 0) (oi := ⟨some 5, _, _, _, _, _⟩) (v := ?v_29) rfl (by kernel_rfl) (by kernel_rfl) (by kernel_rfl) (fun _ _ _ h => h) (Or.inl ⟨by rfl, ?y_29⟩) (by assumption) ?n_29
    case y_29 => (intro w_ hSw; (try dsimp only at hSw); go_simp; try (with_reducible rfl))
    try simp only [Act.put, List.setIfInBounds_toArray, List.set_cons_zero, List.set_cons_succ]
    refine wpAnyH_ready (rs := [1]) (by kernel_rfl) (by simp) ?_
    refine AllReadyH.cons (o := ⟨some 6, _, _, _, _, _⟩) rfl (fun K_ hK_ => ?_) AllReadyH.nil
    go_simp
    refine (value_May.calls K _ _ _ _ _ _ HM.out).mono ?_
    rintro e w1 ⟨rfl, hb⟩
    have e0 := pw_cell_below hb (a := ⟨w.heap.size, 0, none⟩) (v := .int .i64 k) (by go_simp)
    have e1 := pw_cell_below hb (a := ⟨w.heap.size, 1, none⟩) (v := .int .i64 i) (by go_simp)
    have e2 := pw_cell_below hb (a := ⟨w.heap.size, 2, none⟩) (v := .float .f64 r) (by go_simp)
    have e3 := pw_cell_below hb (a := ⟨w.heap.size, 3, none⟩) (v := .string t) (by go_simp)
    have e4 := pw_cell_below hb (c1 _)
    have e5 := pw_cell_below hb (c2 _)
    have e6 := pw_cell_below hb (c3 _)
    have HB := Aside0.mk (below_then (below_drew1 (below_alloc (Below.refl w.heap.size w) _)) (below_drew1 (below_alloc (Below.refl w.heap.size w) _)).size hb)
    clear hb
    try go_wp2_with fail
    refine hK_.out _ _ (⟨e0, e1, e2, e3, e4, e5, e6⟩) (fun hHeld => ?_)
    clear hK_ K_
    try simp only [Act.put, List.setIfInBounds_toArray, List.set_cons_zero, List.set_cons_succ]
    refine wpAnyH_take (i := 2) (oi := ⟨some 7, _, _, _, _, _⟩) (v := ?v_30) rfl (by kernel_rfl) (by kernel_rfl) (by kernel_rfl) (fun _ _ _ h => h) (Or.inl ⟨by rfl, ?y_30⟩) (by assumption) ?n_30
    case y_30 => (intro w_ hSw; (try dsimp only at hSw); go_simp; try (with_reducible rfl))
    try simp only [Act.put, List.setIfInBounds_toArray, List.set_cons_zero, List.set_cons_succ]
    refine wpAnyH_take (i := 3) (oi := ⟨some 8, _, _, _, _, _⟩) (v := ?v_31) rfl (by kernel_rfl) (by kernel_rfl) (by kernel_rfl) (fun _ _ _ h => h) (Or.inl ⟨by rfl, ?y_31⟩) (by assumption) ?n_31
    case y_31 => (intro w_ hSw; (try dsimp only at hSw); go_simp; try (with_reducible rfl))
    try simp only [Act.put, List.setIfInBounds_toArray, List.set_cons_zero, List.set_cons_succ]
    refine wpAnyH_take (i := 4) (oi := ⟨some 9, _, _, _, _, _⟩) (v := undef) rfl (by kernel_rfl) (by kernel_rfl) (by kernel_rfl) (fun _ _ _ h => h) (Or.inr ⟨by rfl, rfl⟩) (by assumption) ?_
    try simp only [Act.put, List.setIfInBounds_toArray, List.set_cons_zero, List.set_cons_succ]
    refine wpAnyH_take (i := 5) (oi := ⟨some 10, _, _, _, _, _⟩) (v := undef) rfl (by kernel_rfl) (by kernel_rfl) (by kernel_rfl) (fun _ _ _ h => h) (Or.inr ⟨by rfl, rfl⟩) (by assumption) ?_
    try simp only [Act.put, List.setIfInBounds_toArray, List.set_cons_zero, List.set_cons_succ]
    refine wpAnyH_take (i := 6) (oi := ⟨some 11, _, _, _, _, _⟩) (v := undef) rfl (by kernel_rfl) (by kernel_rfl) (by kernel_rfl) (fun _ _ _ h => h) (Or.inr ⟨by rfl, rfl⟩) (by assumption) ?_
    try simp only [Act.put, List.setIfInBounds_toArray, List.set_cons_zero, List.set_cons_succ]
    refine wpAnyH_take (i := 7) (oi := ⟨some 12, _, _, _, _, _⟩) (v := ?v_32) rfl (by kernel_rfl) (by kernel_rfl) (by kernel_rfl) (fun _ _ _ h => h) (Or.inl ⟨by rfl, ?y_32⟩) (by assumption) ?n_32
    case y_32 => (intro w_ hSw; (try dsimp only at hSw); go_simp; try (with_reducible rfl))
    try simp only [Act.put, List.setIfInBounds_toArray, List.set_cons_zero, List.set_cons_succ]
    refine wpAnyH_take (i := 8) (oi := ⟨some 13, _, _, _, _, _⟩) (v := ?v_33) rfl (by kernel_rfl) (by kernel_rfl) (by kernel_rfl) (fun _ _ _ h => h) (Or.inl ⟨by rfl, ?y_33⟩) (by assumption) ?n_33
    case y_33 => (intro w_ hSw; (try dsimp only at hSw); go_simp; try (with_reducible rfl))
    try simp only [Act.put, List.setIfInBounds_toArray, List.set_cons_zero, List.set_cons_succ]
    refine wpAnyH_take (i := 9) (oi := ⟨some 14, _, _, _, _, _⟩) (v := undef) rfl (by kernel_rfl) (by kernel_rfl) (by kernel_rfl) (fun _ _ _ h => h) (Or.inr ⟨by rfl, rfl⟩) (by assumption) ?_
    try simp only [Act.put, List.setIfInBounds_toArray, List.set_cons_zero, List.set_cons_succ]
    refine wpAnyH_take (i := 10) (oi := ⟨some 15, _, _, _, _, _⟩) (v := undef) rfl (by kernel_rfl) (by kernel_rfl) (by kernel_rfl) (fun _ _ _ h => h) (Or.inr ⟨by rfl, rfl⟩) (by assumption) ?_
    try simp only [Act.put, List.setIfInBounds_toArray, List.set_cons_zero, List.set_cons_succ]
    refine wpAnyH_take (i := 11) (oi := ⟨some 16, _, _, _, _, _⟩) (v := undef) rfl (by kernel_rfl) (by kernel_rfl) (by kernel_rfl) (fun _ _ _ h => h) (Or.inr ⟨by rfl, rfl⟩) (by assumption) ?_
    try simp only [Act.put, List.setIfInBounds_toArray, List.set_cons_zero, List.set_cons_succ]
    refine wpAnyH_take (i := 12) (oi := ⟨some 17, _, _, _, _, _⟩) (v := undef) rfl (by kernel_rfl) (by kernel_rfl) (by kernel_rfl) (fun _ _ _ h => h) (Or.inr ⟨by rfl, rfl⟩) (by assumption) ?_
    try simp only [Act.put, List.setIfInBounds_toArray, List.set_cons_zero, List.set_cons_succ]
    refine wpAnyH_take (i := 13) (oi := ⟨some 18, _, _, _, _, _⟩) (v := undef) rfl (by kernel_rfl) (by kernel_rfl) (by kernel_rfl) (fun _ _ _ h => h) (Or.inr ⟨by rfl, rfl⟩) (by assumption) ?_
    try simp only [Act.put, List.setIfInBounds_toArray, List.set_cons_zero, List.set_cons_succ]
    refine wpAnyH_take (i := 14) (oi := ⟨some 19, _, _, _, _, _⟩) (v := undef) rfl (by kernel_rfl) (by kernel_rfl) (by kernel_rfl) (fun _ _ _ h => h) (Or.inr ⟨by rfl, rfl⟩) (by assumption) ?_
    try simp only [Act.put, List.setIfInBounds_toArray, List.set_cons_zero, List.set_cons_succ]
    refine wpAnyH_take (i := 15) (oi := ⟨some 20, _, _, _, _, _⟩) (v := undef) rfl (by kernel_rfl) (by kernel_rfl) (by kernel_rfl) (fun _ _ _ h => h) (Or.inr ⟨by rfl, rfl⟩) (by assumption) ?_
    try simp only [Act.put, List.setIfInBounds_toArray, List.set_cons_zero, List.set_cons_succ]
    refine wpAnyH_take (i := 16) (oi := ⟨some 21, _, _, _, _, _⟩) (v := undef) rfl (by kernel_rfl) (by kernel_rfl) (by kernel_rfl) (fun _ _ _ h => h) (Or.inr ⟨by rfl, rfl⟩) (by assumption) ?_
    try simp only [Act.put, List.setIfInBounds_toArray, List.set_cons_zero, List.set_cons_succ]
    refine wpAnyH_take (i := 17) (oi := ⟨some 22, _, _, _, _, _⟩) (v := ?v_34) rfl (by kernel_rfl) (by kernel_rfl) (by kernel_rfl) (fun _ _ _ h => h) (Or.inl ⟨by rfl, ?y_34⟩) (by assumption) ?n_34
    case y_34 => (intro w_ hSw; (try dsimp only at hSw); go_simp; try (with_reducible rfl))
    try simp only [Act.put, List.setIfInBounds_toArray, List.set_cons_zero, List.set_cons_succ]
    refine wpAnyH_take (i := 18) (oi := ⟨some 4, _, _, _, _, _⟩) (v := ?v_35) rfl (by kernel_rfl) (by kernel_rfl) (by kernel_rfl) (fun _ _ _ h => h) (Or.inl ⟨by rfl, ?y_35⟩) (by assumption) ?n_35
    case y_35 => (intro w_ hSw; (try dsimp only at hSw); go_simp; try (with_reducible rfl))
    try simp only [Act.put, List.setIfInBounds_toArray, List.set_cons_zero, List.set_cons_succ]
    refine wpAnyH_done (by kernel_rfl) ?_ _
    go_wp2_with fail
    go_ret
    exact ⟨rfl, HB.out⟩
/-- what lies in memory while the call goes on: its two arguments, boxed -/
structure ACheck.Bx (A0 : Option Addr) (n c0 : Nat) (p0 : Int) (p1 : ByteArray) (p2 v0 v1 : Int) (v2 : Nat) (v3 : ByteArray) (A7 : Option Addr) (n7 c7 : Nat) (A8 : Option Addr) (n8 c8 : Nat) (w W : World) : Prop where
  below : Below w.heap.size w W
  b0 : W.heap[w.heap.size]? = some (.cells #[.slice A0 n c0] 49 (0, 0))
  b1 : W.heap[w.heap.size + 1]? = some (.cells #[.int .i64 p0, .string p1, .int .i64 p2, .int .i64 v0, .int .i64 v1, .float .f64 v2, .string v3, .slice A7 n7 c7, .slice A8 n8 c8] 39 (0, 0))
section
variable {A0 : Option Addr} {n c0 : Nat} {p0 : Int} {p1 : ByteArray} {p2 v0 v1 : Int} {v2 : Nat} {v3 : ByteArray} {A7 : Option Addr} {n7 c7 : Nat} {A8 : Option Addr} {n8 c8 : Nat} {w W W' : World}
theorem ACheck.Bx.step (h : ACheck.Bx A0 n c0 p0 p1 p2 v0 v1 v2 v3 A7 n7 c7 A8 n8 c8 w W) (hb : Below W.heap.size W W') : ACheck.Bx A0 n c0 p0 p1 p2 v0 v1 v2 v3 A7 n7 c7 A8 n8 c8 w W' :=
  ⟨below_then h.below h.below.size hb, (hb.block _ (blk_lt h.b0)).trans h.b0, (hb.block _ (blk_lt h.b1)).trans h.b1⟩
theorem ACheck.Bx.cells (h : ACheck.Bx A0 n c0 p0 p1 p2 v0 v1 v2 v3 A7 n7 c7 A8 n8 c8 w W) : W.cell? ⟨w.heap.size, 0, none⟩ = some (.slice A0 n c0) ∧
    W.cell? ⟨w.heap.size + 1, 0, none⟩ = some (.int .i64 p0) ∧ W.cell? ⟨w.heap.size + 1, 1, none⟩ = some (.string p1) ∧ W.cell? ⟨w.heap.size + 1, 2, none⟩ = some (.int .i64 p2) ∧ W.cell? ⟨w.heap.size + 1, 3, none⟩ = some (.int .i64 v0) ∧ W.cell? ⟨w.heap.size + 1, 4, none⟩ = some (.int .i64 v1) ∧
    W.cell? ⟨w.heap.size + 1, 5, none⟩ = some (.float .f64 v2) ∧ W.cell? ⟨w.heap.size + 1, 6, none⟩ = some (.string v3) ∧ W.cell? ⟨w.heap.size + 1, 7, none⟩ = some (.slice A7 n7 c7) ∧ W.cell? ⟨w.heap.size + 1, 8, none⟩ = some (.slice A8 n8 c8) :=
  ⟨blk_cell h.b0 0, blk_cell h.b1 0, blk_cell h.b1 1, blk_cell h.b1 2, blk_cell h.b1 3, blk_cell h.b1 4, blk_cell h.b1 5, blk_cell h.b1 6, blk_cell h.b1 7, blk_cell h.b1 8⟩
theorem ACheck.Bx.start : ACheck.Bx A0 n c0 p0 p1 p2 v0 v1 v2 v3 A7 n7 c7 A8 n8 c8 w ((w.alloc (.cells #[.slice A0 n c0] 49)).alloc (.cells #[.int .i64 p0, .string p1, .int .i64 p2, .int .i64 v0, .int .i64 v1, .float .f64 v2, .string v3, .slice A7 n7 c7, .slice A8 n8 c8] 39)) :=
  ⟨below_alloc (below_alloc (Below.refl _ _) _) _, blk_alloc (blk_new w _) _, by simpa using blk_new (w.alloc _) _⟩
end
def ACheck.wrongS (M : S32 → Bool) (t : Int) (x : S32) : Bool := AWrong.wrongB (M x) x.f0 t
def ACheck.spec (cols : List S29) (M : S32 → Bool) (spare : Bool) (p0 : Int) (p1 : ByteArray) (p2 : Int) (pv : S32) (l7 : List S32) : Int :=
  if ¬ (1 ≤ p0 ∧ p0 ≤ 5) then 180 else
  if p0 = 1 ∧ ¬ (1 ≤ p2 ∧ p2 ≤ 6) then 180 else
  if p0 = 5 ∧ 0 ≤ schema_Find.idx p1 cols 0 ∧ (rd_T29 cols (schema_Find.idx p1 cols 0)).f1 ≠ 2 then 180 else
  if spare = false then 2 else
  if p0 = 3 ∧ l7.length ≠ 2 then 2 else
  if schema_Find.idx p1 cols 0 < 0 then 151 else
  if l7.length > 1024 then 3 else
  if (p0 = 1 ∨ p0 = 5) ∧ ACheck.wrongS M (rd_T29 cols (schema_Find.idx p1 cols 0)).f1 pv = true then 50 else
  if l7.any (ACheck.wrongS M (rd_T29 cols (schema_Find.idx p1 cols 0)).f1) = true then 50 else 0
set_option maxHeartbeats 4000000 in
set_option maxRecDepth 100000 in
theorem ACheck.ck (K : Nat) (A0 : Option Addr) (c0 : Nat) (l0 : List S29) (p0 : Int) (p1 : ByteArray) (p2 v0 v1 : Int) (v2 : Nat) (v3 : ByteArray) (A7 : Option Addr) (c7 : Nat) (l7 : List S32) (A8 : Option Addr) (c8 : Nat) (l8 : List S39) (M : S32 → Bool) (spare : Bool) (w : World)
    (hr0 : Kd.C k29 w A0 l0.length l0) (hc0 : l0.length ≤ c0) (hr7 : Kd.C k32 w A7 l7.length l7) (hc7 : l7.length ≤ c7) (hr8 : Kd.C k39 w A8 l8.length l8) (hc8 : l8.length ≤ c8)
    (hM : ∀ x, x = ⟨v0, v1, v2, v3⟩ ∨ x ∈ l7 → value_May.f K x.f0 x.f1 x.f2 x.f3 = some (M x)) (hs : atom_spare.f K p0 p1 p2 v0 v1 v2 v3 l7 l8 = some spare) :
    Calls Try.prog 12 #[.slice A0 l0.length c0, .agg #[.int .i64 p0, .string p1, .int .i64 p2, .int .i64 v0, .int .i64 v1, .float .f64 v2, .string v3, .slice A7 l7.length c7, .slice A8 l8.length c8]] w
      fun e w' => e = .returned (.int .i64 (ACheck.spec l0 M spare p0 p1 p2 ⟨v0, v1, v2, v3⟩ l7)) ∧ Below w.heap.size w w' := by
  have HR0 := Aside0.mk hr0
  have HR7 := Aside0.mk hr7
  have HR8 := Aside0.mk hr8
  have HM := Aside0.mk hM
  have HS := Aside0.mk hs
  clear hr0 hr7 hr8 hM hs
  go_enter Try.func12, Try.ntmps12
  go_wp2_with fail
  refine (schema_Find.calls A0 c0 l0 p1 _ _ _ (Kd.C_below HR0.out ACheck.Bx.start.below) hc0 rfl).mono ?_
  rintro e w1 ⟨rfl, hb⟩
  have HX0 := Aside0.mk (ACheck.Bx.start.step hb)
  clear hb
  have hixr := schema_Find.idx_lt p1 l0 0 (by omega)
  obtain ⟨ix, hixe⟩ : ∃ ix, schema_Find.idx p1 l0 0 = ix := ⟨_, rfl⟩
  rw [hixe] at hixr ⊢
  obtain ⟨at_, hat⟩ : ∃ at_, (if ix < 0 then 0 else ix) = at_ := ⟨_, rfl⟩
  rw [hat]
  have HX := Aside0.mk (HX0.out.step (below_alloc (Below.refl w1.heap.size w1) (.cells #[.int .i64 at_] 3)))
  have HA : Aside0 ((w1.alloc (.cells #[.int .i64 at_] 3)).heap[w1.heap.size]? = some (.cells #[.int .i64 at_] 3 (0, 0))) := ⟨blk_new w1 _⟩
  have HX0s := Aside0.mk HX0.out.below.size
  have ⟨q0, q1, q2, q3, q4, q5, q6, q7, q8, q9⟩ := HX.out.cells
  go_wp2_with fail
  clear HX0
  generalize w1.alloc (.cells #[.int .i64 at_] 3) = w2 at HX HA q0 q1 q2 q3 q4 q5 q6 q7 q8 q9 ⊢
  generalize w1.heap.size = ga at HA HX0s ⊢
  have HIX := Aside0.mk hixe
  clear hixe
  by_cases hk1 : p0 = 1
  · subst hk1
    refine (atom_is.calls 1 p1 p2 v0 v1 v2 v3 A7 c7 l7 A8 c8 l8 true _ (Kd.C_below HR7.out HX.out.below) hc7 (Kd.C_below HR8.out HX.out.below) hc8 rfl).mono ?_
    rintro e w3 ⟨rfl, hb⟩
    have HX' := Aside0.mk (HX.out.step hb)
    have HA' := Aside0.mk ((hb.block _ (blk_lt HA.out)).trans HA.out)
    clear hb q0 q1 q2 q3 q4 q5 q6 q7 q8 q9 HX HA
    have HX := HX'
    have HA := HA'
    clear HX' HA'
    have ⟨q0, q1, q2, q3, q4, q5, q6, q7, q8, q9⟩ := HX.out.cells
    go_wp2_with fail
    by_cases hc : 1 ≤ p2 ∧ p2 ≤ 6
    · refine (atom_compares.calls p2 true _ (by unfold atom_compares.f; rw [if_pos hc.1]; simp [hc.2])).mono ?_
      rintro e w9 ⟨rfl, hd⟩
      have hb := hd.below
      clear hd
      have HX' := Aside0.mk (HX.out.step hb)
      have HA' := Aside0.mk ((hb.block _ (blk_lt HA.out)).trans HA.out)
      clear hb q0 q1 q2 q3 q4 q5 q6 q7 q8 q9 HX HA
      have HX := HX'
      have HA := HA'
      clear HX' HA'
      have ⟨q0, q1, q2, q3, q4, q5, q6, q7, q8, q9⟩ := HX.out.cells
      go_wp2_with fail
      refine (atom_spare.calls K 1 p1 p2 v0 v1 v2 v3 A7 c7 l7 A8 c8 l8 _ _ (Kd.C_below HR7.out HX.out.below) hc7 (Kd.C_below HR8.out HX.out.below) hc8 HS.out).mono ?_
      rintro e w5 ⟨rfl, hb⟩
      have HX' := Aside0.mk (HX.out.step hb)
      have HA' := Aside0.mk ((hb.block _ (blk_lt HA.out)).trans HA.out)
      clear hb q0 q1 q2 q3 q4 q5 q6 q7 q8 q9 HX HA
      have HX := HX'
      have HA := HA'
      clear HX' HA'
      have ⟨q0, q1, q2, q3, q4, q5, q6, q7, q8, q9⟩ := HX.out.cells
      cases spare with
      | false =>
        go_wp2_with fail
        go_ret
        exact ⟨by unfold ACheck.spec; rw [HIX.out]; simp [hc], HX.out.below⟩
      | true =>
        by_cases hix : 0 ≤ ix
        · have hixb : decide (0 ≤ ix) = true := decide_eq_true hix
          by_cases hl : l7.length > 1024
          · have hlb : decide ((l7.length : Int) > 1024) = true := decide_eq_true (by omega)
            go_wp2_with fail
            go_ret
            exact ⟨by unfold ACheck.spec; rw [HIX.out]; simp [hc, hix, hl] <;> omega, HX.out.below⟩
          · have hlb : decide ((l7.length : Int) > 1024) = false := decide_eq_false (by omega)
            obtain ⟨n, rfl⟩ : ∃ n : Nat, ix = (n : Int) := ⟨ix.toNat, by omega⟩
            obtain rfl : at_ = (n : Int) := by rw [← hat]; exact if_neg (by omega)
            have hn : n < l0.length := by omega
            clear hat hixr hixb
            go_wp2_with fail
            refine (atom_valued.calls 1 true _ rfl).mono ?_
            rintro e w6 ⟨rfl, hd⟩
            have hb := hd.below
            clear hd
            have HX' := Aside0.mk (HX.out.step hb)
            have HA' := Aside0.mk ((hb.block _ (blk_lt HA.out)).trans HA.out)
            clear hb q0 q1 q2 q3 q4 q5 q6 q7 q8 q9 HX HA
            have HX := HX'
            have HA := HA'
            clear HX' HA'
            have ⟨q0, q1, q2, q3, q4, q5, q6, q7, q8, q9⟩ := HX.out.cells
            go_wp2_with fail
            refine (AWrong.wrong K v0 v1 v2 v3 A0 c0 l0 n w.heap.size ga (M ⟨v0, v1, v2, v3⟩) _ (Kd.C_below HR0.out HX.out.below) hc0 hn (blk_cell HX.out.b0 0) (blk_cell HA.out 0) (HM.out _ (.inl rfl))).mono ?_
            rintro e w7 ⟨rfl, hb⟩
            have HX' := Aside0.mk (HX.out.step hb)
            have HA' := Aside0.mk ((hb.block _ (blk_lt HA.out)).trans HA.out)
            clear hb q0 q1 q2 q3 q4 q5 q6 q7 q8 q9 HX HA
            have HX := HX'
            have HA := HA'
            clear HX' HA'
            have ⟨q0, q1, q2, q3, q4, q5, q6, q7, q8, q9⟩ := HX.out.cells
            obtain ⟨b, hwb⟩ : ∃ b, AWrong.wrongB (M ⟨v0, v1, v2, v3⟩) v0 (rd_T29 l0 (n : Int)).f1 = b := ⟨_, rfl⟩
            rw [hwb]
            have hnn : ¬ ((n : Int) < 0) := by omega
            cases b with
            | true =>
              go_wp2_with fail
              go_ret
              exact ⟨by unfold ACheck.spec; rw [HIX.out]; simp [hc, hl, ACheck.wrongS, hwb, hnn], HX.out.below⟩
            | false =>
              go_wp2_with fail
              refine (XIdx.contains 21 #[] #[.pointer (some ⟨w.heap.size, 0, none⟩), .pointer (some ⟨ga, 0, none⟩)] (ACheck.wrongS M (rd_T29 l0 (n : Int)).f1) (enters_of Try.func21 (by kernel_rfl) rfl) A7 c7 l7 _ (Kd.C_below HR7.out HX.out.below) hc7 ⟨fun x hx W hb => by
                have hX := HX.out.step hb
                have hA := (hb.block _ (blk_lt HA.out)).trans HA.out
                exact AWrong.wrong K x.f0 x.f1 x.f2 x.f3 A0 c0 l0 n w.heap.size ga (M x) W (Kd.C_below HR0.out hX.below) hc0 hn (blk_cell hX.b0 0) (blk_cell hA 0) (HM.out x (.inr hx))⟩).mono ?_
              rintro e w8 ⟨rfl, hb⟩
              have HX' := Aside0.mk (HX.out.step hb)
              have HA' := Aside0.mk ((hb.block _ (blk_lt HA.out)).trans HA.out)
              clear hb q0 q1 q2 q3 q4 q5 q6 q7 q8 q9 HX HA
              have HX := HX'
              have HA := HA'
              clear HX' HA'
              have ⟨q0, q1, q2, q3, q4, q5, q6, q7, q8, q9⟩ := HX.out.cells
              obtain ⟨b2, hab⟩ : ∃ b2, l7.any (ACheck.wrongS M (rd_T29 l0 (n : Int)).f1) = b2 := ⟨_, rfl⟩
              rw [hab]
              cases b2 with
              | true =>
                go_wp2_with fail
                go_ret
                exact ⟨by unfold ACheck.spec; rw [HIX.out]; rw [hab]; simp [hc, ACheck.wrongS, hwb, hnn, hl], HX.out.below⟩
              | false =>
                go_wp2_with fail
                go_ret
                exact ⟨by unfold ACheck.spec; rw [HIX.out]; rw [hab]; simp [hc, ACheck.wrongS, hwb, hnn, hl], HX.out.below⟩
        · have hixb : decide (0 ≤ ix) = false := decide_eq_false hix
          go_wp2_with fail
          go_ret
          exact ⟨by unfold ACheck.spec; rw [HIX.out]; simp [hc, hix] <;> omega, HX.out.below⟩
    · refine (atom_compares.calls p2 false _ (by unfold atom_compares.f; split <;> simp <;> omega)).mono ?_
      rintro e w9 ⟨rfl, hd⟩
      have hb := hd.below
      clear hd
      have HX' := Aside0.mk (HX.out.step hb)
      have HA' := Aside0.mk ((hb.block _ (blk_lt HA.out)).trans HA.out)
      clear hb q0 q1 q2 q3 q4 q5 q6 q7 q8 q9 HX HA
      have HX := HX'
      have HA := HA'
      clear HX' HA'
      have ⟨q0, q1, q2, q3, q4, q5, q6, q7, q8, q9⟩ := HX.out.cells
      go_wp2_with fail
      go_ret
      exact ⟨by unfold ACheck.spec; rw [HIX.out]; simp <;> omega, HX.out.below⟩
  · have hkb1 : (p0 == 1) = false := by simpa using hk1
    by_cases hk5 : p0 = 5
    · subst hk5
      refine (atom_is.calls 5 p1 p2 v0 v1 v2 v3 A7 c7 l7 A8 c8 l8 true _ (Kd.C_below HR7.out HX.out.below) hc7 (Kd.C_below HR8.out HX.out.below) hc8 rfl).mono ?_
      rintro e w10 ⟨rfl, hb⟩
      have HX' := Aside0.mk (HX.out.step hb)
      have HA' := Aside0.mk ((hb.block _ (blk_lt HA.out)).trans HA.out)
      clear hb q0 q1 q2 q3 q4 q5 q6 q7 q8 q9 HX HA
      have HX := HX'
      have HA := HA'
      clear HX' HA'
      have ⟨q0, q1, q2, q3, q4, q5, q6, q7, q8, q9⟩ := HX.out.cells
      by_cases hix : 0 ≤ ix
      · obtain ⟨n, rfl⟩ : ∃ n : Nat, ix = (n : Int) := ⟨ix.toNat, by omega⟩
        obtain rfl : at_ = (n : Int) := by rw [← hat]; exact if_neg (by omega)
        have hn : n < l0.length := by omega
        have hixb : decide ((0 : Int) ≤ (n : Int)) = true := decide_eq_true hix
        obtain ⟨ad, e0, hx0, hx1, hx2⟩ := at_T29 (Kd.C_below HR0.out HX.out.below) (n : Int) (by omega) (by omega)
        rw [Int.toNat_natCast] at hx0 hx1 hx2
        subst e0
        have hn0 : (0 : Int) ≤ (n : Int) := by omega
        have hn1 : (n : Int) < (l0.length : Int) := by omega
        have qa : _ = some (Value.int .i64 (n : Int)) := blk_cell HA.out 0
        obtain ⟨ty, hty⟩ : ∃ ty, (rd_T29 l0 (n : Int)).f1 = ty := ⟨_, rfl⟩
        rw [hty] at hx1
        have HTY := Aside0.mk hty
        clear hat hixr hx0 hx2 hty
        by_cases h2 : ty = 2
        · have h2b : (ty != 2) = false := by simpa [bne] using h2
          have HT2 := Aside0.mk (HTY.out.trans h2)
          clear h2 HTY
          go_wp2_with fail
          clear hx1 h2b qa hn0 hn1
          refine (atom_spare.calls K 5 p1 p2 v0 v1 v2 v3 A7 c7 l7 A8 c8 l8 _ _ (Kd.C_below HR7.out HX.out.below) hc7 (Kd.C_below HR8.out HX.out.below) hc8 HS.out).mono ?_
          rintro e w11 ⟨rfl, hb⟩
          have HX' := Aside0.mk (HX.out.step hb)
          have HA' := Aside0.mk ((hb.block _ (blk_lt HA.out)).trans HA.out)
          clear hb q0 q1 q2 q3 q4 q5 q6 q7 q8 q9 HX HA
          have HX := HX'
          have HA := HA'
          clear HX' HA'
          have ⟨q0, q1, q2, q3, q4, q5, q6, q7, q8, q9⟩ := HX.out.cells
          cases spare with
          | false =>
            go_wp2_with fail
            go_ret
            exact ⟨by unfold ACheck.spec; rw [HIX.out]; simp [HT2.out], HX.out.below⟩
          | true =>
              by_cases hl : l7.length > 1024
              · have hlb : decide ((l7.length : Int) > 1024) = true := decide_eq_true (by omega)
                go_wp2_with fail
                go_ret
                exact ⟨by unfold ACheck.spec; rw [HIX.out]; simp [HT2.out, hix, hl] <;> omega, HX.out.below⟩
              · have hlb : decide ((l7.length : Int) > 1024) = false := decide_eq_false (by omega)
                go_wp2_with fail
                refine (atom_valued.calls 5 true _ rfl).mono ?_
                rintro e w12 ⟨rfl, hd⟩
                have hb := hd.below
                clear hd
                have HX' := Aside0.mk (HX.out.step hb)
                have HA' := Aside0.mk ((hb.block _ (blk_lt HA.out)).trans HA.out)
                clear hb q0 q1 q2 q3 q4 q5 q6 q7 q8 q9 HX HA
                have HX := HX'
                have HA := HA'
                clear HX' HA'
                have ⟨q0, q1, q2, q3, q4, q5, q6, q7, q8, q9⟩ := HX.out.cells
                go_wp2_with fail
                refine (AWrong.wrong K v0 v1 v2 v3 (some ad) c0 l0 n w.heap.size ga (M ⟨v0, v1, v2, v3⟩) _ (Kd.C_below HR0.out HX.out.below) hc0 hn (blk_cell HX.out.b0 0) (blk_cell HA.out 0) (HM.out _ (.inl rfl))).mono ?_
                rintro e w13 ⟨rfl, hb⟩
                have HX' := Aside0.mk (HX.out.step hb)
                have HA' := Aside0.mk ((hb.block _ (blk_lt HA.out)).trans HA.out)
                clear hb q0 q1 q2 q3 q4 q5 q6 q7 q8 q9 HX HA
                have HX := HX'
                have HA := HA'
                clear HX' HA'
                have ⟨q0, q1, q2, q3, q4, q5, q6, q7, q8, q9⟩ := HX.out.cells
                obtain ⟨b, hwb⟩ : ∃ b, AWrong.wrongB (M ⟨v0, v1, v2, v3⟩) v0 (rd_T29 l0 (n : Int)).f1 = b := ⟨_, rfl⟩
                rw [hwb]
                have hnn : ¬ ((n : Int) < 0) := by omega
                rw [HT2.out] at hwb
                cases b with
                | true =>
                  go_wp2_with fail
                  go_ret
                  exact ⟨by unfold ACheck.spec; rw [HIX.out]; simp [HT2.out, hl, ACheck.wrongS, hwb, hnn], HX.out.below⟩
                | false =>
                  go_wp2_with fail
                  refine (XIdx.contains 21 #[] #[.pointer (some ⟨w.heap.size, 0, none⟩), .pointer (some ⟨ga, 0, none⟩)] (ACheck.wrongS M (rd_T29 l0 (n : Int)).f1) (enters_of Try.func21 (by kernel_rfl) rfl) A7 c7 l7 _ (Kd.C_below HR7.out HX.out.below) hc7 ⟨fun x hx W hb => by
                    have hX := HX.out.step hb
                    have hA := (hb.block _ (blk_lt HA.out)).trans HA.out
                    exact AWrong.wrong K x.f0 x.f1 x.f2 x.f3 (some ad) c0 l0 n w.heap.size ga (M x) W (Kd.C_below HR0.out hX.below) hc0 hn (blk_cell hX.b0 0) (blk_cell hA 0) (HM.out x (.inr hx))⟩).mono ?_
                  rintro e w14 ⟨rfl, hb⟩
                  have HX' := Aside0.mk (HX.out.step hb)
                  have HA' := Aside0.mk ((hb.block _ (blk_lt HA.out)).trans HA.out)
                  clear hb q0 q1 q2 q3 q4 q5 q6 q7 q8 q9 HX HA
                  have HX := HX'
                  have HA := HA'
                  clear HX' HA'
                  have ⟨q0, q1, q2, q3, q4, q5, q6, q7, q8, q9⟩ := HX.out.cells
                  obtain ⟨b2, hab⟩ : ∃ b2, l7.any (ACheck.wrongS M (rd_T29 l0 (n : Int)).f1) = b2 := ⟨_, rfl⟩
                  rw [hab]
                  cases b2 with
                  | true =>
                    go_wp2_with fail
                    go_ret
                    exact ⟨by unfold ACheck.spec; rw [HIX.out]; rw [hab]; simp [HT2.out, ACheck.wrongS, hwb, hnn, hl], HX.out.below⟩
                  | false =>
                    go_wp2_with fail
                    go_ret
                    exact ⟨by unfold ACheck.spec; rw [HIX.out]; rw [hab]; simp [HT2.out, ACheck.wrongS, hwb, hnn, hl], HX.out.below⟩
        · have h2b : (ty != 2) = true := by simpa [bne] using h2
          go_wp2_with fail
          go_ret
          exact ⟨by unfold ACheck.spec; rw [HIX.out]; rw [HTY.out]; simp [h2, hix], HX.out.below⟩
      · have hixb0 : decide (0 ≤ ix) = false := decide_eq_false hix
        go_wp2_with fail
        refine (atom_spare.calls K 5 p1 p2 v0 v1 v2 v3 A7 c7 l7 A8 c8 l8 _ _ (Kd.C_below HR7.out HX.out.below) hc7 (Kd.C_below HR8.out HX.out.below) hc8 HS.out).mono ?_
        rintro e w15 ⟨rfl, hb⟩
        have HX' := Aside0.mk (HX.out.step hb)
        have HA' := Aside0.mk ((hb.block _ (blk_lt HA.out)).trans HA.out)
        clear hb q0 q1 q2 q3 q4 q5 q6 q7 q8 q9 HX HA
        have HX := HX'
        have HA := HA'
        clear HX' HA'
        have ⟨q0, q1, q2, q3, q4, q5, q6, q7, q8, q9⟩ := HX.out.cells
        cases spare with
        | false =>
          go_wp2_with fail
          go_ret
          exact ⟨by unfold ACheck.spec; rw [HIX.out]; simp [show ¬ (0 : Int) ≤ ix from by omega], HX.out.below⟩
        | true =>
          have hixb : decide (0 ≤ ix) = false := decide_eq_false (by omega)
          go_wp2_with fail
          go_ret
          exact ⟨by unfold ACheck.spec; rw [HIX.out]; simp [show ¬ (0 : Int) ≤ ix from by omega] <;> omega, HX.out.below⟩
    · have hkb5 : (p0 == 5) = false := by simpa using hk5
      by_cases hB : 1 ≤ p0 ∧ p0 ≤ 5
      · have hB1 := hB.1
        have hB2 := hB.2
        refine (atom_is.calls p0 p1 p2 v0 v1 v2 v3 A7 c7 l7 A8 c8 l8 true _ (Kd.C_below HR7.out HX.out.below) hc7 (Kd.C_below HR8.out HX.out.below) hc8 (by unfold atom_is.f; split <;> simp <;> omega)).mono ?_
        rintro e w16 ⟨rfl, hb⟩
        have HX' := Aside0.mk (HX.out.step hb)
        have HA' := Aside0.mk ((hb.block _ (blk_lt HA.out)).trans HA.out)
        clear hb q0 q1 q2 q3 q4 q5 q6 q7 q8 q9 HX HA
        have HX := HX'
        have HA := HA'
        clear HX' HA'
        have ⟨q0, q1, q2, q3, q4, q5, q6, q7, q8, q9⟩ := HX.out.cells
        go_wp2_with fail
        refine (atom_spare.calls K p0 p1 p2 v0 v1 v2 v3 A7 c7 l7 A8 c8 l8 _ _ (Kd.C_below HR7.out HX.out.below) hc7 (Kd.C_below HR8.out HX.out.below) hc8 HS.out).mono ?_
        rintro e w17 ⟨rfl, hb⟩
        have HX' := Aside0.mk (HX.out.step hb)
        have HA' := Aside0.mk ((hb.block _ (blk_lt HA.out)).trans HA.out)
        clear hb q0 q1 q2 q3 q4 q5 q6 q7 q8 q9 HX HA
        have HX := HX'
        have HA := HA'
        clear HX' HA'
        have ⟨q0, q1, q2, q3, q4, q5, q6, q7, q8, q9⟩ := HX.out.cells
        cases spare with
        | false =>
          go_wp2_with fail
          go_ret
          exact ⟨by unfold ACheck.spec; rw [HIX.out]; simp [hk1, hk5, hB1, hB2], HX.out.below⟩
        | true =>
          by_cases hk3 : p0 = 3
          · subst hk3
            by_cases hl2 : l7.length = 2
            · have hlb2 : ((l7.length : Int) != 2) = false := by simp [bne]; omega
              have HL2 := Aside0.mk hl2
              clear hl2
              by_cases hix : 0 ≤ ix
              · have hixb : decide (0 ≤ ix) = true := decide_eq_true hix
                have hl : ¬ l7.length > 1024 := by have := HL2.out; omega
                have hlb : decide ((l7.length : Int) > 1024) = false := decide_eq_false (by omega)
                obtain ⟨n, rfl⟩ : ∃ n : Nat, ix = (n : Int) := ⟨ix.toNat, by omega⟩
                obtain rfl : at_ = (n : Int) := by rw [← hat]; exact if_neg (by omega)
                have hn : n < l0.length := by omega
                clear hat hixr hixb
                go_wp2_with fail
                refine (atom_valued.calls 3 false _ rfl).mono ?_
                rintro e w18 ⟨rfl, hd⟩
                have hb := hd.below
                clear hd
                have HX' := Aside0.mk (HX.out.step hb)
                have HA' := Aside0.mk ((hb.block _ (blk_lt HA.out)).trans HA.out)
                clear hb q0 q1 q2 q3 q4 q5 q6 q7 q8 q9 HX HA
                have HX := HX'
                have HA := HA'
                clear HX' HA'
                have ⟨q0, q1, q2, q3, q4, q5, q6, q7, q8, q9⟩ := HX.out.cells
                go_wp2_with fail
                refine (XIdx.contains 21 #[] #[.pointer (some ⟨w.heap.size, 0, none⟩), .pointer (some ⟨ga, 0, none⟩)] (ACheck.wrongS M (rd_T29 l0 (n : Int)).f1) (enters_of Try.func21 (by kernel_rfl) rfl) A7 c7 l7 _ (Kd.C_below HR7.out HX.out.below) hc7 ⟨fun x hx W hb => by
                  have hX := HX.out.step hb
                  have hA := (hb.block _ (blk_lt HA.out)).trans HA.out
                  exact AWrong.wrong K x.f0 x.f1 x.f2 x.f3 A0 c0 l0 n w.heap.size ga (M x) W (Kd.C_below HR0.out hX.below) hc0 hn (blk_cell hX.b0 0) (blk_cell hA 0) (HM.out x (.inr hx))⟩).mono ?_
                rintro e w19 ⟨rfl, hb⟩
                have HX' := Aside0.mk (HX.out.step hb)
                have HA' := Aside0.mk ((hb.block _ (blk_lt HA.out)).trans HA.out)
                clear hb q0 q1 q2 q3 q4 q5 q6 q7 q8 q9 HX HA
                have HX := HX'
                have HA := HA'
                clear HX' HA'
                have ⟨q0, q1, q2, q3, q4, q5, q6, q7, q8, q9⟩ := HX.out.cells
                obtain ⟨b2, hab⟩ : ∃ b2, l7.any (ACheck.wrongS M (rd_T29 l0 (n : Int)).f1) = b2 := ⟨_, rfl⟩
                rw [hab]
                cases b2 with
                | true =>
                  go_wp2_with fail
                  go_ret
                  exact ⟨by unfold ACheck.spec; rw [HIX.out]; rw [hab]; simp [HL2.out, hl], HX.out.below⟩
                | false =>
                  go_wp2_with fail
                  go_ret
                  exact ⟨by unfold ACheck.spec; rw [HIX.out]; rw [hab]; simp [HL2.out, hl], HX.out.below⟩
              · have hixb : decide (0 ≤ ix) = false := decide_eq_false hix
                go_wp2_with fail
                go_ret
                exact ⟨by unfold ACheck.spec; rw [HIX.out]; simp [HL2.out, hix] <;> omega, HX.out.below⟩
            · have hlb2 : ((l7.length : Int) != 2) = true := by simp [bne]; omega
              go_wp2_with fail
              go_ret
              exact ⟨by unfold ACheck.spec; rw [HIX.out]; simp [hl2], HX.out.below⟩
          · have hkb3 : (p0 == 3) = false := by simpa using hk3
            by_cases hix : 0 ≤ ix
            · have hixb : decide (0 ≤ ix) = true := decide_eq_true hix
              by_cases hl : l7.length > 1024
              · have hlb : decide ((l7.length : Int) > 1024) = true := decide_eq_true (by omega)
                go_wp2_with fail
                go_ret
                exact ⟨by unfold ACheck.spec; rw [HIX.out]; simp [hk1, hk5, hB1, hB2, hk3, hix, hl] <;> omega, HX.out.below⟩
              · have hlb : decide ((l7.length : Int) > 1024) = false := decide_eq_false (by omega)
                obtain ⟨n, rfl⟩ : ∃ n : Nat, ix = (n : Int) := ⟨ix.toNat, by omega⟩
                obtain rfl : at_ = (n : Int) := by rw [← hat]; exact if_neg (by omega)
                have hn : n < l0.length := by omega
                clear hat hixr hixb
                go_wp2_with fail
                refine (atom_valued.calls p0 false _ (by unfold atom_valued.f; rw [if_neg hk1]; simpa using hk5)).mono ?_
                rintro e w20 ⟨rfl, hd⟩
                have hb := hd.below
                clear hd
                have HX' := Aside0.mk (HX.out.step hb)
                have HA' := Aside0.mk ((hb.block _ (blk_lt HA.out)).trans HA.out)
                clear hb q0 q1 q2 q3 q4 q5 q6 q7 q8 q9 HX HA
                have HX := HX'
                have HA := HA'
                clear HX' HA'
                have ⟨q0, q1, q2, q3, q4, q5, q6, q7, q8, q9⟩ := HX.out.cells
                go_wp2_with fail
                refine (XIdx.contains 21 #[] #[.pointer (some ⟨w.heap.size, 0, none⟩), .pointer (some ⟨ga, 0, none⟩)] (ACheck.wrongS M (rd_T29 l0 (n : Int)).f1) (enters_of Try.func21 (by kernel_rfl) rfl) A7 c7 l7 _ (Kd.C_below HR7.out HX.out.below) hc7 ⟨fun x hx W hb => by
                  have hX := HX.out.step hb
                  have hA := (hb.block _ (blk_lt HA.out)).trans HA.out
                  exact AWrong.wrong K x.f0 x.f1 x.f2 x.f3 A0 c0 l0 n w.heap.size ga (M x) W (Kd.C_below HR0.out hX.below) hc0 hn (blk_cell hX.b0 0) (blk_cell hA 0) (HM.out x (.inr hx))⟩).mono ?_
                rintro e w21 ⟨rfl, hb⟩
                have HX' := Aside0.mk (HX.out.step hb)
                have HA' := Aside0.mk ((hb.block _ (blk_lt HA.out)).trans HA.out)
                clear hb q0 q1 q2 q3 q4 q5 q6 q7 q8 q9 HX HA
                have HX := HX'
                have HA := HA'
                clear HX' HA'
                have ⟨q0, q1, q2, q3, q4, q5, q6, q7, q8, q9⟩ := HX.out.cells
                obtain ⟨b2, hab⟩ : ∃ b2, l7.any (ACheck.wrongS M (rd_T29 l0 (n : Int)).f1) = b2 := ⟨_, rfl⟩
                rw [hab]
                cases b2 with
                | true =>
                  go_wp2_with fail
                  go_ret
                  exact ⟨by unfold ACheck.spec; rw [HIX.out]; rw [hab]; simp [hk1, hk5, hB1, hB2, hk3, hl], HX.out.below⟩
                | false =>
                  go_wp2_with fail
                  go_ret
                  exact ⟨by unfold ACheck.spec; rw [HIX.out]; rw [hab]; simp [hk1, hk5, hB1, hB2, hk3, hl], HX.out.below⟩
            · have hixb : decide (0 ≤ ix) = false := decide_eq_false hix
              go_wp2_with fail
              go_ret
              exact ⟨by unfold ACheck.spec; rw [HIX.out]; simp [hk1, hk5, hB1, hB2, hk3, hix] <;> omega, HX.out.below⟩
      · refine (atom_is.calls p0 p1 p2 v0 v1 v2 v3 A7 c7 l7 A8 c8 l8 false _ (Kd.C_below HR7.out HX.out.below) hc7 (Kd.C_below HR8.out HX.out.below) hc8 (by unfold atom_is.f; split <;> simp <;> omega)).mono ?_
        rintro e w22 ⟨rfl, hb⟩
        have HX' := Aside0.mk (HX.out.step hb)
        have HA' := Aside0.mk ((hb.block _ (blk_lt HA.out)).trans HA.out)
        clear hb q0 q1 q2 q3 q4 q5 q6 q7 q8 q9 HX HA
        have HX := HX'
        have HA := HA'
        clear HX' HA'
        have ⟨q0, q1, q2, q3, q4, q5, q6, q7, q8, q9⟩ := HX.out.cells
        go_wp2_with fail
        go_ret
        exact ⟨by unfold ACheck.spec; rw [HIX.out]; simp <;> omega, HX.out.below⟩
def atom_Check.M (k : Nat) (x : S32) : Bool := (value_May.f k x.f0 x.f1 x.f2 x.f3).getD false
def atom_Check.f (k : Nat) (l0 : List (S29)) (a1_0 : Int) (a1_1 : ByteArray) (a1_2 : Int) (a1_3 : Int) (a1_4 : Int) (a1_5 : Nat) (a1_6 : ByteArray) (l1_7 : List (S32)) (l1_8 : List (S39)) : Option (Int) := (atom_spare.f k a1_0 a1_1 a1_2 a1_3 a1_4 a1_5 a1_6 l1_7 l1_8).bind fun sp => if ∀ x ∈ (⟨a1_3, a1_4, a1_5, a1_6⟩ : S32) :: l1_7, (value_May.f k x.f0 x.f1 x.f2 x.f3).isSome = true then some (ACheck.spec l0 (atom_Check.M k) sp a1_0 a1_1 a1_2 ⟨a1_3, a1_4, a1_5, a1_6⟩ l1_7) else none
theorem atom_Check.any_congr {α : Type} {P Q : α → Bool} : ∀ (l : List α), (∀ x ∈ l, P x = Q x) → l.any P = l.any Q
  | [], _ => rfl
  | c :: cs, h => by rw [List.any_cons, List.any_cons, h c (List.mem_cons_self ..), atom_Check.any_congr cs fun x hx => h x (List.mem_cons_of_mem _ hx)]
theorem atom_Check.M_up {k : Nat} {x : S32} (h : (value_May.f k x.f0 x.f1 x.f2 x.f3).isSome = true) : value_May.f (k + 1) x.f0 x.f1 x.f2 x.f3 = some (atom_Check.M k x) := by
  obtain ⟨r, hr⟩ := Option.isSome_iff_exists.mp h
  rw [value_May.mono _ _ _ _ k r hr]
  unfold atom_Check.M
  rw [hr]; rfl
theorem atom_Check.mono : ∀ l0 a1_0 a1_1 a1_2 a1_3 a1_4 a1_5 a1_6 l1_7 l1_8 k, LeO (atom_Check.f k l0 a1_0 a1_1 a1_2 a1_3 a1_4 a1_5 a1_6 l1_7 l1_8) (atom_Check.f (k + 1) l0 a1_0 a1_1 a1_2 a1_3 a1_4 a1_5 a1_6 l1_7 l1_8) := by
  intro l0 a1_0 a1_1 a1_2 a1_3 a1_4 a1_5 a1_6 l1_7 l1_8 k
  unfold atom_Check.f
  refine LeO.bind (atom_spare.mono _ _ _ _ _ _ _ _ _ _) fun sp => ?_
  intro r h
  split at h
  · rename_i hc
    obtain rfl := Option.some.inj h
    have hM : ∀ x ∈ (⟨a1_3, a1_4, a1_5, a1_6⟩ : S32) :: l1_7, atom_Check.M (k + 1) x = atom_Check.M k x := fun x hx => by
      have := atom_Check.M_up (hc x hx)
      unfold atom_Check.M at this ⊢
      rw [this]; rfl
    rw [if_pos (fun x hx => by rw [atom_Check.M_up (hc x hx)]; rfl)]
    have h1 : ∀ t, ACheck.wrongS (atom_Check.M (k + 1)) t ⟨a1_3, a1_4, a1_5, a1_6⟩ = ACheck.wrongS (atom_Check.M k) t ⟨a1_3, a1_4, a1_5, a1_6⟩ := fun t => by unfold ACheck.wrongS; rw [hM _ (List.mem_cons_self ..)]
    have h2 : ∀ t, l1_7.any (ACheck.wrongS (atom_Check.M (k + 1)) t) = l1_7.any (ACheck.wrongS (atom_Check.M k) t) := fun t => atom_Check.any_congr l1_7 fun x hx => by unfold ACheck.wrongS; rw [hM x (List.mem_cons_of_mem _ hx)]
    unfold ACheck.spec
    rw [h1, h2]
  · cases h
theorem atom_Check.calls (k : Nat) (A0 : Option Addr) (c0 : Nat) (l0 : List (S29)) (a1_0 : Int) (a1_1 : ByteArray) (a1_2 : Int) (a1_3 : Int) (a1_4 : Int) (a1_5 : Nat) (a1_6 : ByteArray) (A1_7 : Option Addr) (c1_7 : Nat) (l1_7 : List (S32)) (A1_8 : Option Addr) (c1_8 : Nat) (l1_8 : List (S39)) (r : Int) (w : World) (hr0 : Kd.C k29 w A0 l0.length l0) (hc0 : l0.length ≤ c0) (hr1_7 : Kd.C k32 w A1_7 l1_7.length l1_7) (hc1_7 : l1_7.length ≤ c1_7) (hr1_8 : Kd.C k39 w A1_8 l1_8.length l1_8) (hc1_8 : l1_8.length ≤ c1_8) (h : atom_Check.f k l0 a1_0 a1_1 a1_2 a1_3 a1_4 a1_5 a1_6 l1_7 l1_8 = some r) :
    Calls Try.prog 12 #[.slice A0 l0.length c0, .agg #[.int .i64 a1_0, .string a1_1, .int .i64 a1_2, .int .i64 a1_3, .int .i64 a1_4, .float .f64 a1_5, .string a1_6, .slice A1_7 l1_7.length c1_7, .slice A1_8 l1_8.length c1_8]] w fun e w' => e = .returned (.int .i64 r) ∧ Below w.heap.size w w' := by
  unfold atom_Check.f at h
  obtain ⟨sp, hsp, h⟩ := Option.bind_eq_some_iff.mp h
  split at h
  · rename_i hc
    obtain rfl := Option.some.inj h
    refine ACheck.ck k A0 c0 l0 a1_0 a1_1 a1_2 a1_3 a1_4 a1_5 a1_6 A1_7 c1_7 l1_7 A1_8 c1_8 l1_8 (atom_Check.M k) sp w hr0 hc0 hr1_7 hc1_7 hr1_8 hc1_8 (fun x hx => ?_) hsp
    have hx' : x ∈ (⟨a1_3, a1_4, a1_5, a1_6⟩ : S32) :: l1_7 := hx.elim (fun e => e ▸ List.mem_cons_self ..) (List.mem_cons_of_mem _)
    obtain ⟨m, hm⟩ := Option.isSome_iff_exists.mp (hc x hx')
    unfold atom_Check.M
    rw [hm]; rfl
  · cases h

-- NOT PRINTED: function 37 (prune_known_says_1)

-- NOT PRINTED: function 38 (prune_known_says_2)

/-! ### stringslite_HasPrefix: function 51 -/
def stringslite_HasPrefix.f (a0 : ByteArray) (a1 : ByteArray) : Option (Bool) := if (a0.size : Int) ≥ (a1.size : Int) then (if 0 ≤ (a1.size : Int) then (if (a1.size : Int) ≤ (a0.size : Int) then (some ((a0.extract 0 ((a1.size : Int) : Int).toNat).toList == a1.toList)) else (none)) else (none)) else (some false)
set_option maxHeartbeats 8000000 in
set_option maxRecDepth 100000 in
theorem stringslite_HasPrefix.calls (a0 : ByteArray) (a1 : ByteArray) (r : Bool) (w : World) (h : stringslite_HasPrefix.f a0 a1 = some r) :
    Calls Try.prog 51 #[.string a0, .string a1] w fun e w' => e = .returned (.bool r) ∧ Drawn0 w w' := by
  have H : (if (a0.size : Int) ≥ (a1.size : Int) then (if 0 ≤ (a1.size : Int) then (if (a1.size : Int) ≤ (a0.size : Int) then (some ((a0.extract 0 ((a1.size : Int) : Int).toNat).toList == a1.toList)) else (none)) else (none)) else (some false)) = some r := h
  clear h
  by_cases c3 : (a0.size : Int) ≥ (a1.size : Int)
  · rw [if_pos c3] at H
    have c3b0 : decide ((a1.size : Int) ≤ (a0.size : Int)) = true := decide_eq_true c3
    have c3b1 : decide (a1.size ≤ a0.size) = true := decide_eq_true (Int.ofNat_le.mp c3)
    clear c3
    by_cases c4 : 0 ≤ (a1.size : Int)
    · rw [if_pos c4] at H
      have c4b0 := eq_true c4
      have c4b1 : decide (0 ≤ (a1.size : Int)) = true := decide_eq_true c4
      clear c4
      by_cases c5 : (a1.size : Int) ≤ (a0.size : Int)
      · rw [if_pos c5] at H
        have c5b0 := eq_true c5
        have c5b1 : decide ((a1.size : Int) ≤ (a0.size : Int)) = true := decide_eq_true c5
        clear c5
        obtain rfl := Option.some.inj H
        go_enter Try.func51, Try.ntmps51
        go_wp2
        go_ret
        exact ⟨by first | rfl | (simp; done) | (simp [*]; done), by repeat (first | exact Drawn0.refl _ | apply Drawn0.step)⟩
      · rw [if_neg c5] at H
        exact absurd H (by simp)
    · rw [if_neg c4] at H
      exact absurd H (by simp)
  · rw [if_neg c3] at H
    have c3b0 : decide ((a1.size : Int) ≤ (a0.size : Int)) = false := decide_eq_false c3
    have c3b1 : decide (a1.size ≤ a0.size) = false := decide_eq_false (fun h => c3 (Int.ofNat_le.mpr h))
    clear c3
    obtain rfl := Option.some.inj H
    go_enter Try.func51, Try.ntmps51
    go_wp2
    go_ret
    exact ⟨by first | rfl | (simp; done) | (simp [*]; done), by repeat (first | exact Drawn0.refl _ | apply Drawn0.step)⟩

/-! ### strings_HasPrefix: function 40 -/
def strings_HasPrefix.f (a0 : ByteArray) (a1 : ByteArray) : Option (Bool) := (stringslite_HasPrefix.f a0 a1).bind fun t169 => (some t169)
set_option maxHeartbeats 8000000 in
set_option maxRecDepth 100000 in
theorem strings_HasPrefix.calls (a0 : ByteArray) (a1 : ByteArray) (r : Bool) (w : World) (h : strings_HasPrefix.f a0 a1 = some r) :
    Calls Try.prog 40 #[.string a0, .string a1] w fun e w' => e = .returned (.bool r) ∧ Drawn0 w w' := by
  have H : ((stringslite_HasPrefix.f a0 a1).bind fun t169 => (some t169)) = some r := h
  clear h
  replace H := Option.bind_eq_some_iff.mp H
  obtain ⟨t169, A30, H⟩ := H
  replace H : (some t169) = some r := H
  have A3 := Aside0.mk A30
  clear A30
  obtain rfl := Option.some.inj H
  go_enter Try.func40, Try.ntmps40
  go_wp2_with (first | ((with_reducible refine gate_callee (f := 51) rfl ?_); refine goesL_ (some 7) rfl rfl Try.func51 (by kernel_rfl) rfl #[.string a0, .string a1] rfl (by (try simp only [List.map_toArray, List.map_cons, List.map_nil]); first | done | rfl | (simp only [List.length_drop, List.length_take]; rfl)) ?_; (with_reducible refine (stringslite_HasPrefix.calls a0 a1 t169 _ A3.out).mono ?_); rintro e w' ⟨rfl, ⟨nd, rfl⟩⟩; refine ⟨_, rfl, ?_⟩))
  go_ret
  exact ⟨by first | rfl | (simp; done) | (simp [*]; done), by repeat (first | exact Drawn0.refl _ | apply Drawn0.step)⟩

end Go.Proofs.Ythikgpfehebkgaa.PPruneAlgebra
