/- The hash of a text and a byte behind it is the hash's step over that byte; two last bytes make one hash just if they are one byte: the factor is odd, so it can be taken off again. No conditions. -/
import Derived.Test.YtkepimkabfoapaaPCheckGoesx1
import Derived.Laws.BitsAllLaws
import Derived.OpenShut
namespace Go.Proofs.Ytkepimkabfoapaa.Pure
open Go.RowKit Go.Proofs.Ytkepimkabfoapaa.PCheckGoes Go.Proofs.YtkepimkabfoapaaW.PrintWords Go.Proofs.YtkepimkabfoapaaW.PrintLast
namespace CheckGoesP
def hstep (h x : Int) : Int := IntKind.u64.wrap ((Go.bits .xor .u64 h (IntKind.u64.wrap x)) * 1099511628211)
theorem wrap_next {i : Int} {n : Nat} (h0 : 0 ≤ i) (h : i < (n : Int)) (hn : n ≤ 140737488355328) : wrap64 (i + 1) = i + 1 := by
  unfold wrap64; omega
theorem drop_rd {l : List Int} {i : Int} (h0 : 0 ≤ i) (h1 : i < (l.length : Int)) : l.drop i.toNat = rd l i :: l.drop (i + 1).toNat := by
  have h : i.toNat < l.length := by omega
  rw [List.drop_eq_getElem_cons h, show (i + 1).toNat = i.toNat + 1 from by omega]
  congr 1
  simp [rd, h]
theorem hash_loop (l : List Int) (hn : l.length ≤ 140737488355328) (d : Nat) : ∀ (k : Nat) (i h : Int), 0 ≤ i → i ≤ l.length → (l.length : Int) - i = d → d < k →
    check_Hash.l0 k h l (l.length : Int) i = some ((l.drop i.toNat).foldl hstep h) := by
  induction d with
  | zero =>
    intro k i h h0 h1 hd hk
    obtain ⟨k, rfl⟩ : ∃ m, k = m + 1 := ⟨k - 1, by omega⟩
    simp only [check_Hash.l0]
    rw [if_neg (by omega), List.drop_eq_nil_of_le (by omega)]; rfl
  | succ d ih =>
    intro k i h h0 h1 hd hk
    obtain ⟨k, rfl⟩ : ∃ m, k = m + 1 := ⟨k - 1, by omega⟩
    have hlt : i < (l.length : Int) := by omega
    simp only [check_Hash.l0]
    rw [if_pos hlt, if_pos h0, if_pos hlt, wrap_next h0 hlt hn, ih k (i + 1) _ (by omega) (by omega) (by omega) (by omega), drop_rd h0 hlt]; rfl
theorem hash_f (l : List Int) (hn : l.length ≤ 140737488355328) (k : Nat) (hk : l.length < k) : check_Hash.f k l = some (l.foldl hstep 14695981039346656037) := by
  unfold check_Hash.f
  rw [hash_loop l hn l.length _ 0 _ (by omega) (by omega) (by omega) (by omega)]; rfl
theorem hstep_rng (h x : Int) : 0 ≤ hstep h x ∧ hstep h x < 18446744073709551616 := by
  unfold hstep; rw [IntKind.wrap_u64]; omega
theorem fold_rng (l : List Int) : ∀ h : Int, 0 ≤ h → h < 18446744073709551616 → 0 ≤ l.foldl hstep h ∧ l.foldl hstep h < 18446744073709551616 := by
  induction l with
  | nil => intro h h0 h1; exact ⟨h0, h1⟩
  | cons x l ih => intro h _ _; rw [List.foldl_cons]; exact ih _ (hstep_rng h x).1 (hstep_rng h x).2
theorem xor_cancel (h x y : Int) (h0 : 0 ≤ h) (h1 : h < 18446744073709551616) (x0 : 0 ≤ x) (x1 : x < 256) (y0 : 0 ≤ y) (y1 : y < 256)
    (e : Go.bits .xor .u64 h x = Go.bits .xor .u64 h y) : x = y := by
  rw [u64_xor h x h0 h1 x0 (by omega), u64_xor h y h0 h1 y0 (by omega)] at e
  have e2 : h.toNat ^^^ x.toNat = h.toNat ^^^ y.toNat := by omega
  have e3 : x.toNat = y.toNat := by
    have := congrArg (fun z => h.toNat ^^^ z) e2
    simpa [← Nat.xor_assoc] using this
  omega
theorem xor_rng (h x : Int) (h0 : 0 ≤ h) (h1 : h < 18446744073709551616) (x0 : 0 ≤ x) (x1 : x < 256) : 0 ≤ Go.bits .xor .u64 h x ∧ Go.bits .xor .u64 h x < 18446744073709551616 := by
  rw [u64_xor h x h0 h1 x0 (by omega)]
  have := Nat.xor_lt_two_pow (n := 64) (show h.toNat < 2 ^ 64 by omega) (show x.toNat < 2 ^ 64 by omega)
  omega
def Mod : Int := 18446744073709551616
theorem ofInt_eq {x y : Int} (e : x % Mod = y % Mod) : BitVec.ofInt 64 x = BitVec.ofInt 64 y := by
  apply BitVec.eq_of_toNat_eq
  rw [BitVec.toNat_ofInt, BitVec.toNat_ofInt]
  exact congrArg Int.toNat e
theorem ofInt_inj {x y : Int} (x0 : 0 ≤ x) (x1 : x < Mod) (y0 : 0 ≤ y) (y1 : y < Mod) (e : BitVec.ofInt 64 x = BitVec.ofInt 64 y) : x = y := by
  have h := congrArg BitVec.toNat e
  rw [BitVec.toNat_ofInt, BitVec.toNat_ofInt] at h
  have hx : (x % ((2 ^ 64 : Nat) : Int)).toNat = x.toNat := congrArg Int.toNat (Int.emod_eq_of_lt x0 x1)
  have hy : (y % ((2 ^ 64 : Nat) : Int)).toNat = y.toNat := congrArg Int.toNat (Int.emod_eq_of_lt y0 y1)
  rw [hx, hy] at h
  omega
theorem mul_cancel (a b : Int) (a0 : 0 ≤ a) (a1 : a < Mod) (b0 : 0 ≤ b) (b1 : b < Mod)
    (e : a * 1099511628211 % Mod = b * 1099511628211 % Mod) : a = b := by
  apply ofInt_inj a0 a1 b0 b1
  have h := ofInt_eq e
  rw [BitVec.ofInt_mul, BitVec.ofInt_mul] at h
  have h2 := congrArg (fun z => z * 14886173955864302971#64) h
  simp only [BitVec.mul_assoc] at h2
  rw [show BitVec.ofInt 64 1099511628211 * 14886173955864302971#64 = 1#64 from by decide +kernel, BitVec.mul_one, BitVec.mul_one] at h2
  exact h2
theorem wrap_byte (x : Int) (x0 : 0 ≤ x) (x1 : x ≤ 255) : IntKind.u64.wrap x = x := by rw [IntKind.wrap_u64]; omega
theorem hstep_eq (h x : Int) (x0 : 0 ≤ x) (x1 : x ≤ 255) : hstep h x = Go.bits .xor .u64 h x * 1099511628211 % Mod := by
  unfold hstep
  rw [wrap_byte x x0 x1, IntKind.wrap_u64]; rfl
theorem lt256 {x : Int} (x1 : x ≤ 255) : x < 256 := by omega
theorem hx1 (h x y : Int) (x0 : 0 ≤ x) (x1 : x ≤ 255) (y0 : 0 ≤ y) (y1 : y ≤ 255)
    (e : hstep h x = hstep h y) : Go.bits .xor .u64 h x * 1099511628211 % Mod = Go.bits .xor .u64 h y * 1099511628211 % Mod := by
  rw [hstep_eq h x x0 x1, hstep_eq h y y0 y1] at e
  exact e
theorem hx2 (h x y : Int) (h0 : 0 ≤ h) (h1 : h < 18446744073709551616) (x0 : 0 ≤ x) (x1 : x ≤ 255) (y0 : 0 ≤ y) (y1 : y ≤ 255)
    (e : Go.bits .xor .u64 h x * 1099511628211 % Mod = Go.bits .xor .u64 h y * 1099511628211 % Mod) : Go.bits .xor .u64 h x = Go.bits .xor .u64 h y := by
  have a := xor_rng h x h0 h1 x0 (lt256 x1)
  have b := xor_rng h y h0 h1 y0 (lt256 y1)
  exact mul_cancel _ _ a.1 a.2 b.1 b.2 e
theorem hx3 (h x y : Int) (h0 : 0 ≤ h) (h1 : h < 18446744073709551616) (x0 : 0 ≤ x) (x1 : x ≤ 255) (y0 : 0 ≤ y) (y1 : y ≤ 255)
    (e : Go.bits .xor .u64 h x = Go.bits .xor .u64 h y) : x = y := 
  xor_cancel h x y h0 h1 x0 (lt256 x1) y0 (lt256 y1) e
theorem hstep_inj (h x y : Int) (h0 : 0 ≤ h) (h1 : h < 18446744073709551616) (x0 : 0 ≤ x) (x1 : x ≤ 255) (y0 : 0 ≤ y) (y1 : y ≤ 255)
    (e : hstep h x = hstep h y) : x = y := hx3 h x y h0 h1 x0 x1 y0 y1 (hx2 h x y h0 h1 x0 x1 y0 y1 (hx1 h x y x0 x1 y0 y1 e))
theorem start_rng (l : List Int) : 0 ≤ l.foldl hstep 14695981039346656037 ∧ l.foldl hstep 14695981039346656037 < 18446744073709551616 :=
  fold_rng l 14695981039346656037 (by decide) (by decide)
theorem fin0 (A x y : Int) (e : ¬ x = y) (h : ¬ hstep A x = hstep A y) : ((hstep A x == hstep A y) == (x == y)) = true := by
  rw [beq_eq_false_iff_ne.2 e, beq_eq_false_iff_ne.2 h]; rfl
theorem fin1 (A x : Int) : ((hstep A x == hstep A x) == (x == x)) = true := by rw [beq_self_eq_true, beq_self_eq_true]; rfl
theorem fin (A x y : Int) (h0 : 0 ≤ A) (h1 : A < 18446744073709551616) (x0 : 0 ≤ x) (x1 : x ≤ 255) (y0 : 0 ≤ y) (y1 : y ≤ 255) :
    ((hstep A x == hstep A y) == (x == y)) = true := by
  by_cases e : x = y
  · subst e; exact fin1 A x
  · exact fin0 A x y e (fun h => e (hstep_inj A x y h0 h1 x0 x1 y0 y1 h))
theorem step_rfl (A x : Int) : hstep A x = IntKind.u64.wrap (Go.bits .xor .u64 A (IntKind.u64.wrap x) * 1099511628211) := rfl
theorem law_a (k : Nat) (l : List Int) (x y A B C : Int) (h3 : colonnadelaw06_twin.f l = some l) (h0 : check_Hash.f k l = some A) (h1 : check_Hash.f k (l ++ [x]) = some B) (h2 : check_Hash.f k (l ++ [y]) = some C)
    (hn : l.length < 140737488355328) (hf : ((B == C) == (x == y)) = true) (hs : B = IntKind.u64.wrap (Go.bits .xor .u64 A (IntKind.u64.wrap x) * 1099511628211)) : colonnadelaw06_CheckGoes.f k l x y = some true := by
  unfold colonnadelaw06_CheckGoes.f
  rw [h3, Option.bind_some, h0, Option.bind_some, Option.bind_some, if_pos hn, h1, Option.bind_some, Option.bind_some, if_pos hn, h2, Option.bind_some]
  unfold colonnadelaw06_known.f
  rw [Option.bind_some, if_pos rfl, if_pos hs, hf]
end CheckGoesP
open CheckGoesP
theorem CheckGoes : colonnadelaw06_CheckGoes.Pure := by
  intro l x y _ hl _ hx hy
  have hx := bounds_u8 hx
  have hy := bounds_u8 hy
  refine ⟨l.length + 2, ?_⟩
  have e3 : colonnadelaw06_twin.f l = some l := by
    unfold colonnadelaw06_twin.f
    rw [if_pos (by simp; omega)]; rfl
  have e1 : ∀ z, check_Hash.f (l.length + 2) (l ++ [z]) = some (hstep (l.foldl hstep 14695981039346656037) z) := by
    intro z
    rw [hash_f _ (by simp; omega) _ (by simp), List.foldl_append]; rfl
  exact law_a _ l x y _ _ _ e3 (hash_f l (by omega) _ (by omega)) (e1 x) (e1 y) (by omega) (fin _ x y (start_rng l).1 (start_rng l).2 hx.1 hx.2 hy.1 hy.2) (step_rfl _ _)
end Go.Proofs.Ytkepimkabfoapaa.Pure
