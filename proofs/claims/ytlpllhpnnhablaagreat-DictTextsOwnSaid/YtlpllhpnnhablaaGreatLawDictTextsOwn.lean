-- Written by xprint.py, this session's own program over the kit's print; Lean checks it.
import Derived.Test.YtlpllhpnnhablaaGreatRows
import Derived.Test.YtlpllhpnnhablaaGreatPDictTextsOwnx12
import Derived.Test.YtlpllhpnnhablaaGreatXOpen
import Derived.Test.YtlpllhpnnhablaaGreatPureDictTextsOwn
import Derived.WalkKit
import Derived.ProofKit
import Derived.OpenShut
import Derived.ShutString
import Derived.ChangeOld
import Derived.Below
import Derived.SizedLaws
import Derived.JoinedCond
import Derived.Deep.CondSized
namespace Go.Proofs.YtlpllhpnnhablaaGreat.dictTextsOwn
open Go.ChangeShapes Go.WideShapes Go.ChangeAt Go.RowKit
open Go.ChangeMaps (open_string shut_string)
open Go.Proofs.YtlpllhpnnhablaaGreat Go.Proofs.YtlpllhpnnhablaaGreat.PDictTextsOwn Go.Proofs.YtlpllhpnnhablaaGreatW.PrintWords
set_option linter.unusedVariables false
set_option linter.unusedSimpArgs false
theorem own : ownKnob Tryz.prog.godebug = none := by kernel_rfl
theorem laidOut : laidOutB Tryz.prog = true := by kernel_rfl
set_option maxRecDepth 100000 in
theorem lifted (os : Os) (started : os.Started) (H : Type) (enc : TypeId × Value → H) :
    ReturnsInHanded {} Tryz.checked os 4 .any (Rows.dictTextsOwnSpec.pre6 enc Tryz.prog Tryz.f4 Rows.dictTextsOwnRow.domain false) (Rows.dictTextsOwnSpec.post enc Tryz.prog Tryz.f4 false true false false) := by
  refine returnsInHanded_of_change_sized (C := Tryz.checked) own started (by kernel_rfl) Tryz.func4
    (ChangeSpec.witness6 (enc := enc) (C := Tryz.checked) false ⟨#[], #[.slice none 0 0, .slice none 0 0], []⟩ 8 (by kernel_rfl) (by kernel_rfl) (by kernel_rfl) (by kernel_rfl)) ?_
  intro W base args ds gs before hval0 hW hcnd hsz0 _
  have hval : ∀ (j : Nat) t v, Tryz.f4.params[j]? = some t → args[j]? = some v → Value.okWide Tryz.prog W .any base t v := hval0
  have hW' := hW
  obtain ⟨p, q, hA0, hV, rfl, hfz, hnd⟩ := hW
  have hA : DataW.TrodAll enc Tryz.prog W 0 (fun _ => true) true Tryz.f4.params.toList args.toList ds p := hA0
  have hsz : (DataW.weightsEach Tryz.prog (Tryz.f4.params.toList ++ Rows.dictTextsOwnSpec.plain.varTypes Tryz.prog) (ds ++ gs)).all (· ≤ reachBytes) = true := hsz0
  rw [Tryz.params4] at hA hval hsz
  obtain ⟨v0, vs0, d0, ds0, p0, q0, hargs, rfl, rfl, h0, r0⟩ := trodAll_cons hA
  obtain ⟨v1, vs1, d1, ds1, p1, q1, rfl, rfl, rfl, h1, r1⟩ := trodAll_cons r0
  obtain ⟨rfl, rfl, rfl⟩ := trodAll_nil r1
  obtain rfl : args = #[v0, v1] := by cases args; simp_all
  obtain ⟨rfl, rfl⟩ := trodVars_none hV
  have k0_ := h0
  have lt0 : ∀ x ∈ p0, x.block < W.heap.size := by obtain ⟨m, hm⟩ := k0_; exact DataW.trod_lt m _ _ _ hm
  obtain ⟨fu0, hf0⟩ := h0
  obtain ⟨a0, len0, cap0, rfl⟩ := okWide_slice Tryz.underlying23 (hval 0 23 v0 rfl rfl)
  obtain ⟨l0, ⟨A0, c0, e0, hc0, hr0⟩, w0, m0⟩ := (fun n_ => XOpen.slice_at (P := Tryz.prog) (t := 23) (e := 9) (fuel := n_) Tryz.underlying23 (by kernel_rfl) (fun m_ _ => (XOpen.string_at (P := Tryz.prog) (t := 9) Tryz.underlying9) m_)) _ enc W _ _ hf0
  replace m0 : ((l0.map (fun z_ => (z_.size + 1))).sum + 1) ≤ Rows.uptoBulk _ := m0
  simp only [Value.cells, List.cons.injEq, Value.slice.injEq, and_true] at e0
  obtain ⟨rfl, rfl, rfl⟩ := e0
  have z0 : l0.length * 16 ≤ 140737488351232 := XOpen.sized_len hsz (j := 0) (t := 23) rfl rfl Tryz.underlying23 (by kernel_rfl) hf0 rfl
  have k1_ := h1
  have lt1 : ∀ x ∈ p1, x.block < W.heap.size := by obtain ⟨m, hm⟩ := k1_; exact DataW.trod_lt m _ _ _ hm
  obtain ⟨fu1, hf1⟩ := h1
  obtain ⟨a1, len1, cap1, rfl⟩ := okWide_slice Tryz.underlying23 (hval 1 23 v1 rfl rfl)
  obtain ⟨l1, ⟨A1, c1, e1, hc1, hr1⟩, w1, m1⟩ := (fun n_ => XOpen.slice_at (P := Tryz.prog) (t := 23) (e := 9) (fuel := n_) Tryz.underlying23 (by kernel_rfl) (fun m_ _ => (XOpen.string_at (P := Tryz.prog) (t := 9) Tryz.underlying9) m_)) _ enc W _ _ hf1
  replace m1 : ((l1.map (fun z_ => (z_.size + 1))).sum + 1) ≤ Rows.uptoBulk _ := m1
  simp only [Value.cells, List.cons.injEq, Value.slice.injEq, and_true] at e1
  obtain ⟨rfl, rfl, rfl⟩ := e1
  have z1 : l1.length * 16 ≤ 140737488351232 := XOpen.sized_len hsz (j := 1) (t := 23) rfl rfl Tryz.underlying23 (by kernel_rfl) hf1 rfl
  obtain ⟨k, hp⟩ := Pure.DictTextsOwn l0 l1 w0 w1 z0 z1
  refine (colonnadelaw09_DictTextsOwn.calls k _ _ l0 _ _ l1 true W hr0 hc0 hr1 hc1 hp).mono fun e W' ⟨he, hd⟩ => ?_
  have bel : Below W.heap.size W W' := hd
  subst he
  exact ⟨_, rfl, _, _, _, [], _, [], hW', trodAll_mk1 (shut_bool Tryz.underlying4 _), (trodAll_cons_mk (Below.trod laidOut (by kernel_rfl) (of_decide_eq_true (by kernel_rfl)) k0_ bel lt0) (trodAll_cons_mk (Below.trod laidOut (by kernel_rfl) (of_decide_eq_true (by kernel_rfl)) k1_ bel lt1) trodAll_mk0)), rfl, bel.frame _, fun h => by cases h⟩
theorem over : Rows.dictTextsOwnRow.holds Tryz.pinned (OpenSpec.ofChange Rows.dictTextsOwnSpec) :=
  OpenClaim.holds_of_wide 4 Tryz.f4 rfl rfl rfl rfl rfl rfl rfl ⟨rfl, rfl, rfl, rfl, rfl⟩ rfl rfl rfl rfl rfl (by kernel_rfl) Tryz.func4 (by kernel_rfl)
    (of_decide_eq_true (by kernel_rfl)) (by unfold Func.isWrapper; first | (rw [if_pos (by decide +kernel)]; kernel_rfl) | (rw [if_neg (by decide +kernel)]; exact ⟨rfl, rfl⟩))
    (fun os started H enc _ => lifted os started H enc)
theorem proved : Rows.DictTextsOwnSaid := over
#print axioms proved
end Go.Proofs.YtlpllhpnnhablaaGreat.dictTextsOwn
namespace Go.Proofs.YtlpllhpnnhablaaGreat
/-- The row, under a short name, for the claim. -/
theorem dictTextsOwn_holds : Rows.DictTextsOwnSaid := dictTextsOwn.proved
end Go.Proofs.YtlpllhpnnhablaaGreat
