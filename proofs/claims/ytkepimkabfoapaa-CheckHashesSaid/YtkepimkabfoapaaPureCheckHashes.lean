/- The hash of the program is the hash of the reference, of any bytes: both go over the bytes one by one; the reference's factor is written as 2^40 and 435. No conditions. -/
import Derived.Test.YtkepimkabfoapaaPCheckHashesx1
import Derived.Laws.Bits64
namespace Go.Proofs.Ytkepimkabfoapaa.Pure
open Go.RowKit Go.Proofs.Ytkepimkabfoapaa.PCheckHashes Go.Proofs.YtkepimkabfoapaaW.PrintWords Go.Proofs.YtkepimkabfoapaaW.PrintLast
namespace CheckHashesP
def hstep (h x : Int) : Int := IntKind.u64.wrap ((Go.bits .xor .u64 h (IntKind.u64.wrap x)) * 1099511628211)
theorem wrap_next {i : Int} {n : Nat} (h0 : 0 ≤ i) (h : i < (n : Int)) (hn : n ≤ 140737488355328) : wrap64 (i + 1) = i + 1 := by
  unfold wrap64; omega
theorem drop_rd {l : List Int} {i : Int} (h0 : 0 ≤ i) (h1 : i < (l.length : Int)) : l.drop i.toNat = rd l i :: l.drop (i + 1).toNat := by
  have h : i.toNat < l.length := by omega
  rw [List.drop_eq_getElem_cons h, show (i + 1).toNat = i.toNat + 1 from by omega]
  congr 1
  simp [rd, h]
theorem hash_loop (l : List Int) (hn : l.length ≤ 140737488355328) (d : Nat) : ∀ (k : Nat) (i h : Int), 0 ≤ i → i ≤ l.length → (l.length : Int) - i = d → d < k →
    check_Hash.l0 k h l (l.length : Int) i = some ((l.drop i.toNat).foldl hstep h) := by
  induction d with
  | zero =>
    intro k i h h0 h1 hd hk
    obtain ⟨k, rfl⟩ : ∃ m, k = m + 1 := ⟨k - 1, by omega⟩
    simp only [check_Hash.l0]
    rw [if_neg (by omega), List.drop_eq_nil_of_le (by omega)]; rfl
  | succ d ih =>
    intro k i h h0 h1 hd hk
    obtain ⟨k, rfl⟩ : ∃ m, k = m + 1 := ⟨k - 1, by omega⟩
    have hlt : i < (l.length : Int) := by omega
    simp only [check_Hash.l0]
    rw [if_pos hlt, if_pos h0, if_pos hlt, wrap_next h0 hlt hn, ih k (i + 1) _ (by omega) (by omega) (by omega) (by omega), drop_rd h0 hlt]; rfl
theorem rstep (h x : Int) : IntKind.u64.wrap ((IntKind.u64.wrap ((Go.bits .xor .u64 h (IntKind.u64.wrap x)) * 1099511627776)) + (IntKind.u64.wrap ((Go.bits .xor .u64 h (IntKind.u64.wrap x)) * 435))) = hstep h x := by
  unfold hstep
  generalize Go.bits .xor .u64 h (IntKind.u64.wrap x) = b
  simp only [IntKind.wrap_u64]
  omega
theorem ref_loop (l : List Int) (hn : l.length ≤ 140737488355328) (d : Nat) : ∀ (k : Nat) (i h : Int), 0 ≤ i → i ≤ l.length → (l.length : Int) - i = d → d < k →
    colonnaderef06_Hash.l0 k l h i = some ((l.drop i.toNat).foldl hstep h) := by
  induction d with
  | zero =>
    intro k i h h0 h1 hd hk
    obtain ⟨k, rfl⟩ : ∃ m, k = m + 1 := ⟨k - 1, by omega⟩
    simp only [colonnaderef06_Hash.l0]
    rw [if_neg (by omega), List.drop_eq_nil_of_le (by omega)]; rfl
  | succ d ih =>
    intro k i h h0 h1 hd hk
    obtain ⟨k, rfl⟩ : ∃ m, k = m + 1 := ⟨k - 1, by omega⟩
    have hlt : i < (l.length : Int) := by omega
    simp only [colonnaderef06_Hash.l0]
    rw [if_pos hlt, if_pos h0, rstep, wrap_next h0 hlt hn, ih k (i + 1) _ (by omega) (by omega) (by omega) (by omega), drop_rd h0 hlt]; rfl
end CheckHashesP
open CheckHashesP
theorem CheckHashes : colonnadelaw06_CheckHashes.Pure := by
  intro l _ hl _
  have hn : l.length ≤ 140737488355328 := by omega
  refine ⟨l.length + 1, ?_⟩
  have e1 : colonnaderef06_Hash.f (l.length + 1) l = some (l.foldl hstep 14695981039346656037) := by
    unfold colonnaderef06_Hash.f
    rw [ref_loop l hn l.length _ 0 _ (by omega) (by omega) (by omega) (by omega)]; rfl
  have e2 : check_Hash.f (l.length + 1) l = some (l.foldl hstep 14695981039346656037) := by
    unfold check_Hash.f
    rw [hash_loop l hn l.length _ 0 _ (by omega) (by omega) (by omega) (by omega)]; rfl
  have e3 : colonnadelaw06_twin.f l = some l := by
    unfold colonnadelaw06_twin.f
    rw [if_pos (by simp; omega)]; rfl
  unfold colonnadelaw06_CheckHashes.f
  rw [e1, e3]
  simp only [Option.bind_some]
  rw [e2]
  simp only [Option.bind_some, if_true]
  rfl

end Go.Proofs.Ytkepimkabfoapaa.Pure
