-- Written by xprint.py, this session's own program over the kit's print; Lean checks it.
import Derived.Test.YtkepimkabfoapaaRows
import Derived.Test.YtkepimkabfoapaaPCheckStreamsx4
import Derived.Test.YtkepimkabfoapaaXOpen
import Derived.Test.YtkepimkabfoapaaPureCheckStreams
import Derived.WalkKit
import Derived.ProofKit
import Derived.OpenShut
import Derived.ShutString
import Derived.ChangeOld
import Derived.Below
import Derived.SizedLaws
import Derived.JoinedCond
import Derived.Deep.CondSized
namespace Go.Proofs.Ytkepimkabfoapaa.checkStreamsUpto
open Go.ChangeShapes Go.WideShapes Go.ChangeAt Go.RowKit
open Go.ChangeMaps (open_string shut_string)
open Go.Proofs.Ytkepimkabfoapaa Go.Proofs.Ytkepimkabfoapaa.PCheckStreams Go.Proofs.YtkepimkabfoapaaW.PrintWords
set_option linter.unusedVariables false
set_option linter.unusedSimpArgs false
theorem own : ownKnob Try.prog.godebug = none := by kernel_rfl
theorem laidOut : laidOutB Try.prog = true := by kernel_rfl
theorem at61 : ∀ fuel, XOpen.At Try.prog k61 61 (fun x_ => ((Lit.int .i64 x_.f0).wf = true ∧ (Lit.int .i64 x_.f1).wf = true ∧ (Lit.int .i64 x_.f2).wf = true ∧ (x_.f3.length ≤ maxLen ∧ ∀ y_ ∈ x_.f3, (Lit.int .u8 y_).wf = true))) (fun x_ => (1 + 1 + 1 + ((x_.f3.map (fun z_ => 1)).sum + 1) + 1)) fuel := by
  intro fuel H enc w cs x h
  obtain ⟨xs, n, rfl, rfl, hl, hlen, hf⟩ := DataW.trod_struct Try.underlying61 h
  have hl : cs.length = 4 := hl.trans (by kernel_rfl)
  obtain ⟨y0, y1, y2, y3, rfl⟩ : ∃ y0 y1 y2 y3, xs = [y0, y1, y2, y3] := by
    match xs, hlen with
    | [z0, z1, z2, z3], _ => exact ⟨z0, z1, z2, z3, rfl⟩
  have g0 := hf 0 _ rfl
  obtain ⟨a0, K0, w0, m0⟩ := (XOpen.int_at (P := Try.prog) (t := 3) Try.underlying3) n enc w _ y0 g0
  replace m0 : 1 ≤ Rows.uptoBulk y0.1 := m0
  replace K0 : ((Kd.int .i64)).K w a0 ((cs.drop 0).take 1) := K0
  have g1 := hf 1 _ rfl
  obtain ⟨a1, K1, w1, m1⟩ := (XOpen.int_at (P := Try.prog) (t := 3) Try.underlying3) n enc w _ y1 g1
  replace m1 : 1 ≤ Rows.uptoBulk y1.1 := m1
  replace K1 : ((Kd.int .i64)).K w a1 ((cs.drop 1).take 1) := K1
  have g2 := hf 2 _ rfl
  obtain ⟨a2, K2, w2, m2⟩ := (XOpen.int_at (P := Try.prog) (t := 3) Try.underlying3) n enc w _ y2 g2
  replace m2 : 1 ≤ Rows.uptoBulk y2.1 := m2
  replace K2 : ((Kd.int .i64)).K w a2 ((cs.drop 2).take 1) := K2
  have g3 := hf 3 _ rfl
  obtain ⟨a3, K3, w3, m3⟩ := (fun n_ => XOpen.slice_at (P := Try.prog) (t := 22) (e := 5) (fuel := n_) Try.underlying22 (by kernel_rfl) (fun m_ _ => (XOpen.int_at (P := Try.prog) (t := 5) Try.underlying5) m_)) n enc w _ y3 g3
  replace m3 : ((a3.map (fun z_ => 1)).sum + 1) ≤ Rows.uptoBulk y3.1 := m3
  replace K3 : ((Kd.slice 5 (Kd.int .u8))).K w a3 ((cs.drop 3).take 1) := K3
  refine ⟨⟨a0, a1, a2, a3⟩, ?_, ⟨w0, w1, w2, w3⟩, ?_⟩
  · have e := XOpen.seg cs 0 1
    rw [show 0 + 1 = 1 from rfl, XOpen.seg cs 1 1] at e
    rw [show 1 + 1 = 2 from rfl, XOpen.seg cs 2 1] at e
    rw [show 2 + 1 = 3 from rfl, XOpen.seg cs 3 1] at e
    rw [List.drop_eq_nil_of_le (show cs.length ≤ 3 + 1 by omega), List.append_nil, List.drop_zero] at e
    replace K0 : (cs.drop 0).take 1 = [_] := K0
    replace K1 : (cs.drop 1).take 1 = [_] := K1
    replace K2 : (cs.drop 2).take 1 = [_] := K2
    obtain ⟨A3_, c3_, K3, l3_, r3_⟩ := K3
    rw [show cs.take 1 = _ from K0, show (cs.drop 1).take 1 = _ from K1, show (cs.drop 2).take 1 = _ from K2, show (cs.drop 3).take 1 = _ from K3] at e
    rw [e]
    exact k61_mk w ⟨a0, a1, a2, a3⟩ l3_ r3_
  · show 1 + 1 + 1 + ((a3.map (fun z_ => 1)).sum + 1) + 1 ≤ _
    simp only [Rows.uptoBulk, Rows.uptoBulkAll, List.map_cons, List.map_nil]
    omega
set_option maxRecDepth 100000 in
theorem lifted (os : Os) (started : os.Started) (H : Type) (enc : TypeId × Value → H) (F : Stop.Interp) :
    ReturnsInHanded {} Try.checked os 14 .any ((Rows.OpenSpec.upto Rows.checkStreamsSpec).pre6 enc Try.prog Try.f14 Rows.checkStreamsUptoRow.domain false) (((Rows.OpenSpec.upto Rows.checkStreamsSpec).at F).post enc Try.prog Try.f14 false true false false) := by
  refine returnsInHanded_of_cond_sized (C := Try.checked) (s := (Rows.OpenSpec.upto Rows.checkStreamsSpec)) (k := Rows.uptoSmall) rfl own started (by kernel_rfl) Try.func14
    (OpenSpec.witness (enc := enc) (C := Try.checked) (s := (Rows.OpenSpec.upto Rows.checkStreamsSpec)) (k := Rows.uptoSmall) rfl false ⟨#[], #[.slice none 0 0], []⟩ 8 (by kernel_rfl) (by kernel_rfl) (by kernel_rfl)
      (x := ([.nil], [], [])) (by kernel_rfl) rfl (by kernel_rfl)) ?_
  intro W base args ds gs before hval0 hW hcnd hk hsz0 _
  have hval : ∀ (j : Nat) t v, Try.f14.params[j]? = some t → args[j]? = some v → Value.okWide Try.prog W .any base t v := hval0
  have hW' := hW
  obtain ⟨p, q, hA0, hV, rfl, hfz, hnd⟩ := hW
  have hA : DataW.TrodAll enc Try.prog W 0 (fun _ => true) true Try.f14.params.toList args.toList ds p := hA0
  rw [Try.params14] at hA hval
  obtain ⟨v0, vs0, d0, ds0, p0, q0, hargs, rfl, rfl, h0, r0⟩ := trodAll_cons hA
  obtain ⟨rfl, rfl, rfl⟩ := trodAll_nil r0
  obtain rfl : args = #[v0] := by cases args; simp_all
  obtain ⟨rfl, rfl⟩ := trodVars_none hV
  have k0_ := h0
  have lt0 : ∀ x ∈ p0, x.block < W.heap.size := by obtain ⟨m, hm⟩ := k0_; exact DataW.trod_lt m _ _ _ hm
  obtain ⟨fu0, hf0⟩ := h0
  obtain ⟨a0, len0, cap0, rfl⟩ := okWide_slice Try.underlying55 (hval 0 55 v0 rfl rfl)
  obtain ⟨l0, ⟨A0, c0, e0, hc0, hr0⟩, w0, m0⟩ := (fun n_ => XOpen.slice_at (P := Try.prog) (t := 55) (e := 61) (fuel := n_) Try.underlying55 (by kernel_rfl) (fun m_ _ => at61 m_)) _ enc W _ _ hf0
  replace m0 : ((l0.map (fun z_ => (1 + 1 + 1 + ((z_.f3.map (fun z_ => 1)).sum + 1) + 1))).sum + 1) ≤ Rows.uptoBulk _ := m0
  simp only [Value.cells, List.cons.injEq, Value.slice.injEq, and_true] at e0
  obtain ⟨rfl, rfl, rfl⟩ := e0
  have hB := bulks.bound hk
  simp only [List.cons_append, List.nil_append, List.append_nil, Rows.uptoBulkAll] at hB
  have hM : ((l0.map (fun z_ => (1 + 1 + 1 + ((z_.f3.map (fun z_ => 1)).sum + 1) + 1))).sum + 1) ≤ 1048576 := by
    try simp only at m0
    omega
  obtain ⟨k, hp⟩ := Pure.CheckStreams l0 w0 hM
  refine (colonnadelaw06_CheckStreams.calls k _ _ l0 true W hr0 hc0 hp).mono fun e W' ⟨he, hd⟩ => ?_
  have bel : Below W.heap.size W W' := hd
  subst he
  exact ⟨_, rfl, _, _, _, [], _, [], hW', trodAll_mk1 (shut_bool Try.underlying4 _), (trodAll_cons_mk (Below.trod laidOut (by kernel_rfl) (of_decide_eq_true (by kernel_rfl)) k0_ bel lt0) trodAll_mk0), rfl, bel.frame _, fun h => by cases h⟩
theorem over : Rows.checkStreamsUptoRow.holds Try.pinned (Rows.OpenSpec.upto Rows.checkStreamsSpec) :=
  OpenClaim.holds_of_cond 14 Try.f14 rfl rfl rfl rfl rfl rfl rfl ⟨rfl, rfl, rfl, rfl, rfl⟩ rfl rfl rfl rfl rfl (by kernel_rfl) Try.func14 (by kernel_rfl)
    (of_decide_eq_true (by kernel_rfl)) (by unfold Func.isWrapper; first | (rw [if_pos (by decide +kernel)]; kernel_rfl) | (rw [if_neg (by decide +kernel)]; exact ⟨rfl, rfl⟩))
    (fun os started H enc _ F => lifted os started H enc F)
theorem proved : Rows.CheckStreamsUptoSaid := over
#print axioms proved
end Go.Proofs.Ytkepimkabfoapaa.checkStreamsUpto
namespace Go.Proofs.Ytkepimkabfoapaa
/-- The row, under a short name, for the claim. -/
theorem checkStreamsUpto_holds : Rows.CheckStreamsUptoSaid := checkStreamsUpto.proved
end Go.Proofs.Ytkepimkabfoapaa
