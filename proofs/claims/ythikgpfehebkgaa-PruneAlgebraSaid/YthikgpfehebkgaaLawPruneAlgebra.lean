-- Written by xprint.py, this session's own program over the kit's print; Lean checks it.
import Derived.Test.YthikgpfehebkgaaRows
import Derived.Test.YthikgpfehebkgaaPPruneAlgebrax12
import Derived.Test.YthikgpfehebkgaaXOpen
import Derived.Test.YthikgpfehebkgaaPurePruneAlgebra
import Derived.WalkKit
import Derived.ProofKit
import Derived.OpenShut
import Derived.ShutString
import Derived.ChangeOld
import Derived.Below
import Derived.SizedLaws
import Derived.JoinedCond
import Derived.Deep.CondSized
namespace Go.Proofs.Ythikgpfehebkgaa.pruneAlgebra
open Go.ChangeShapes Go.WideShapes Go.ChangeAt Go.RowKit
open Go.ChangeMaps (open_string shut_string)
open Go.Proofs.Ythikgpfehebkgaa Go.Proofs.Ythikgpfehebkgaa.PPruneAlgebra Go.Proofs.YthikgpfehebkgaaW.PrintWords
set_option linter.unusedVariables false
set_option linter.unusedSimpArgs false
theorem own : ownKnob Try.prog.godebug = none := by kernel_rfl
theorem laidOut : laidOutB Try.prog = true := by kernel_rfl
theorem at23 : ∀ fuel, XOpen.At Try.prog k23 23 (fun x_ => (True ∧ True ∧ True)) (fun x_ => (1 + 1 + 1 + 1)) fuel := by
  intro fuel H enc w cs x h
  obtain ⟨xs, n, rfl, rfl, hl, hlen, hf⟩ := DataW.trod_struct Try.underlying23 h
  have hl : cs.length = 3 := hl.trans (by kernel_rfl)
  obtain ⟨y0, y1, y2, rfl⟩ : ∃ y0 y1 y2, xs = [y0, y1, y2] := by
    match xs, hlen with
    | [z0, z1, z2], _ => exact ⟨z0, z1, z2, rfl⟩
  have g0 := hf 0 _ rfl
  obtain ⟨a0, K0, w0, m0⟩ := (XOpen.bool_at (P := Try.prog) (t := 4) Try.underlying4) n enc w _ y0 g0
  replace m0 : 1 ≤ Rows.uptoBulk y0.1 := m0
  replace K0 : (Kd.bool).K w a0 ((cs.drop 0).take 1) := K0
  have g1 := hf 1 _ rfl
  obtain ⟨a1, K1, w1, m1⟩ := (XOpen.bool_at (P := Try.prog) (t := 4) Try.underlying4) n enc w _ y1 g1
  replace m1 : 1 ≤ Rows.uptoBulk y1.1 := m1
  replace K1 : (Kd.bool).K w a1 ((cs.drop 1).take 1) := K1
  have g2 := hf 2 _ rfl
  obtain ⟨a2, K2, w2, m2⟩ := (XOpen.bool_at (P := Try.prog) (t := 4) Try.underlying4) n enc w _ y2 g2
  replace m2 : 1 ≤ Rows.uptoBulk y2.1 := m2
  replace K2 : (Kd.bool).K w a2 ((cs.drop 2).take 1) := K2
  refine ⟨⟨a0, a1, a2⟩, ?_, ⟨w0, w1, w2⟩, ?_⟩
  · have e := XOpen.seg cs 0 1
    rw [show 0 + 1 = 1 from rfl, XOpen.seg cs 1 1] at e
    rw [show 1 + 1 = 2 from rfl, XOpen.seg cs 2 1] at e
    rw [List.drop_eq_nil_of_le (show cs.length ≤ 2 + 1 by omega), List.append_nil, List.drop_zero] at e
    replace K0 : (cs.drop 0).take 1 = [_] := K0
    replace K1 : (cs.drop 1).take 1 = [_] := K1
    replace K2 : (cs.drop 2).take 1 = [_] := K2
    rw [show cs.take 1 = _ from K0, show (cs.drop 1).take 1 = _ from K1, show (cs.drop 2).take 1 = _ from K2] at e
    rw [e]
    exact k23_mk w ⟨a0, a1, a2⟩ 
  · show 1 + 1 + 1 + 1 ≤ _
    simp only [Rows.uptoBulk, Rows.uptoBulkAll, List.map_cons, List.map_nil]
    omega
set_option maxRecDepth 100000 in
theorem lifted (os : Os) (started : os.Started) (H : Type) (enc : TypeId × Value → H) :
    ReturnsInHanded {} Try.checked os 3 .any (Rows.pruneAlgebraSpec.pre6 enc Try.prog Try.f3 Rows.pruneAlgebraRow.domain false) (Rows.pruneAlgebraSpec.post enc Try.prog Try.f3 false true false false) := by
  refine returnsInHanded_of_change_sized (C := Try.checked) own started (by kernel_rfl) Try.func3
    (ChangeSpec.witness6 (enc := enc) (C := Try.checked) false ⟨#[], #[.agg #[.bool false, .bool false, .bool false], .agg #[.bool false, .bool false, .bool false], .agg #[.bool false, .bool false, .bool false]], []⟩ 8 (by kernel_rfl) (by kernel_rfl) (by kernel_rfl) (by kernel_rfl)) ?_
  intro W base args ds gs before hval0 hW hcnd hsz0 _
  have hval : ∀ (j : Nat) t v, Try.f3.params[j]? = some t → args[j]? = some v → Value.okWide Try.prog W .any base t v := hval0
  have hW' := hW
  obtain ⟨p, q, hA0, hV, rfl, hfz, hnd⟩ := hW
  have hA : DataW.TrodAll enc Try.prog W 0 (fun _ => true) true Try.f3.params.toList args.toList ds p := hA0
  rw [Try.params3] at hA hval
  obtain ⟨v0, vs0, d0, ds0, p0, q0, hargs, rfl, rfl, h0, r0⟩ := trodAll_cons hA
  obtain ⟨v1, vs1, d1, ds1, p1, q1, rfl, rfl, rfl, h1, r1⟩ := trodAll_cons r0
  obtain ⟨v2, vs2, d2, ds2, p2, q2, rfl, rfl, rfl, h2, r2⟩ := trodAll_cons r1
  obtain ⟨rfl, rfl, rfl⟩ := trodAll_nil r2
  obtain rfl : args = #[v0, v1, v2] := by cases args; simp_all
  obtain ⟨rfl, rfl⟩ := trodVars_none hV
  have k0_ := h0
  have lt0 : ∀ x ∈ p0, x.block < W.heap.size := by obtain ⟨m, hm⟩ := k0_; exact DataW.trod_lt m _ _ _ hm
  obtain ⟨fu0, hf0⟩ := h0
  obtain ⟨cs0, rfl, _⟩ := okWide_struct Try.underlying23 (hval 0 23 v0 rfl rfl)
  obtain ⟨s0, K0, w0, m0⟩ := at23 _ enc W _ _ hf0
  replace m0 : (1 + 1 + 1 + 1) ≤ Rows.uptoBulk _ := m0
  have e0 := k23_open K0
  obtain rfl : cs0 = #[.bool s0.f0, .bool s0.f1, .bool s0.f2] := Array.toList_inj.1 e0
  have k1_ := h1
  have lt1 : ∀ x ∈ p1, x.block < W.heap.size := by obtain ⟨m, hm⟩ := k1_; exact DataW.trod_lt m _ _ _ hm
  obtain ⟨fu1, hf1⟩ := h1
  obtain ⟨cs1, rfl, _⟩ := okWide_struct Try.underlying23 (hval 1 23 v1 rfl rfl)
  obtain ⟨s1, K1, w1, m1⟩ := at23 _ enc W _ _ hf1
  replace m1 : (1 + 1 + 1 + 1) ≤ Rows.uptoBulk _ := m1
  have e1 := k23_open K1
  obtain rfl : cs1 = #[.bool s1.f0, .bool s1.f1, .bool s1.f2] := Array.toList_inj.1 e1
  have k2_ := h2
  have lt2 : ∀ x ∈ p2, x.block < W.heap.size := by obtain ⟨m, hm⟩ := k2_; exact DataW.trod_lt m _ _ _ hm
  obtain ⟨fu2, hf2⟩ := h2
  obtain ⟨cs2, rfl, _⟩ := okWide_struct Try.underlying23 (hval 2 23 v2 rfl rfl)
  obtain ⟨s2, K2, w2, m2⟩ := at23 _ enc W _ _ hf2
  replace m2 : (1 + 1 + 1 + 1) ≤ Rows.uptoBulk _ := m2
  have e2 := k23_open K2
  obtain rfl : cs2 = #[.bool s2.f0, .bool s2.f1, .bool s2.f2] := Array.toList_inj.1 e2
  have hp := Pure.PruneAlgebra s0 s1 s2 w0 w1 w2
  refine (colonnadelaw26_PruneAlgebra.calls s0.f0 s0.f1 s0.f2 s1.f0 s1.f1 s1.f2 s2.f0 s2.f1 s2.f2 true W  hp).mono fun e W' ⟨he, hd⟩ => ?_
  have bel : Below W.heap.size W W' := hd
  subst he
  exact ⟨_, rfl, _, _, _, [], _, [], hW', trodAll_mk1 (shut_bool Try.underlying4 _), (trodAll_cons_mk (Below.trod laidOut (by kernel_rfl) (of_decide_eq_true (by kernel_rfl)) k0_ bel lt0) (trodAll_cons_mk (Below.trod laidOut (by kernel_rfl) (of_decide_eq_true (by kernel_rfl)) k1_ bel lt1) (trodAll_cons_mk (Below.trod laidOut (by kernel_rfl) (of_decide_eq_true (by kernel_rfl)) k2_ bel lt2) trodAll_mk0))), rfl, bel.frame _, fun h => by cases h⟩
theorem over : Rows.pruneAlgebraRow.holds Try.pinned (OpenSpec.ofChange Rows.pruneAlgebraSpec) :=
  OpenClaim.holds_of_wide 3 Try.f3 rfl rfl rfl rfl rfl rfl rfl ⟨rfl, rfl, rfl, rfl, rfl⟩ rfl rfl rfl rfl rfl (by kernel_rfl) Try.func3 (by kernel_rfl)
    (of_decide_eq_true (by kernel_rfl)) (by unfold Func.isWrapper; first | (rw [if_pos (by decide +kernel)]; kernel_rfl) | (rw [if_neg (by decide +kernel)]; exact ⟨rfl, rfl⟩))
    (fun os started H enc _ => lifted os started H enc)
theorem proved : Rows.PruneAlgebraSaid := over
#print axioms proved
end Go.Proofs.Ythikgpfehebkgaa.pruneAlgebra
namespace Go.Proofs.Ythikgpfehebkgaa
/-- The row, under a short name, for the claim. -/
theorem pruneAlgebra_holds : Rows.PruneAlgebraSaid := pruneAlgebra.proved
end Go.Proofs.Ythikgpfehebkgaa
