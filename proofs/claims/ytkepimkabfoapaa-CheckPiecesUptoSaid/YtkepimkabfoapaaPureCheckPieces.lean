/- However bytes are cut into pieces: More over the pieces, and a Stream to which they are written, say the Sum of the whole. Where what is read is of bulk at most 1048576. -/
import Derived.Test.YtkepimkabfoapaaPCheckPiecesx1
namespace Go.Proofs.Ytkepimkabfoapaa.Pure
open Go.RowKit Go.Proofs.Ytkepimkabfoapaa.PCheckPieces Go.Proofs.YtkepimkabfoapaaW.PrintWords Go.Proofs.YtkepimkabfoapaaW.PrintLast
set_option linter.unusedVariables false
set_option linter.unusedSimpArgs false
def colonnadelaw06_CheckPieces.PureU : Prop := ∀ (l0 : List (List Int)), (l0.length ≤ maxLen ∧ ∀ y_ ∈ l0, (y_.length ≤ maxLen ∧ ∀ yy_ ∈ y_, (Lit.int .u8 yy_).wf = true)) → ((l0.map (fun z_ => ((z_.map (fun z_ => 1)).sum + 1))).sum + 1) ≤ 1048576 → colonnadelaw06_CheckPieces.f l0 = some true
theorem bulk_ge : ∀ l : List (List Int), l.flatten.length + l.length = (l.map (fun z_ => ((z_.map (fun z_ => 1)).sum + 1))).sum
  | [] => rfl
  | a :: l => by
    have h1 : (a.map (fun z_ => 1)).sum = a.length := by
      induction a with
      | nil => rfl
      | cons x a ih => rw [List.map_cons, List.sum_cons, ih, List.length_cons]; omega
    have ih := bulk_ge l
    rw [List.flatten_cons, List.length_append, List.length_cons, List.map_cons, List.sum_cons, ← ih, h1]
    omega
theorem CheckPieces : colonnadelaw06_CheckPieces.PureU := by
  intro l hl hB
  have h := bulk_ge l
  unfold colonnadelaw06_CheckPieces.f
  rw [if_pos]
  refine ⟨fun a ha x hx => ?_, by omega, by omega⟩
  have := (hl.2 a ha).2 x hx
  simp only [Lit.wf, Bool.and_eq_true, decide_eq_true_eq] at this
  obtain ⟨h1, h2⟩ := this
  exact ⟨h1, Int.lt_of_le_of_lt h2 (by decide)⟩
end Go.Proofs.Ytkepimkabfoapaa.Pure
