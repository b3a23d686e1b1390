/- The register is a linear machine: of three texts of one length the sums, put together by exclusive or, are the sum of what the three make by exclusive or. No conditions. -/
import Derived.Test.YtkepimkabfoapaaPCheckLinearx2
import Derived.Laws.BitsAllLaws
import Derived.OpenShut
import Derived.Test.YtkepimkabfoapaaXCrcMath
namespace Go.Proofs.Ytkepimkabfoapaa.Pure
open Go.RowKit Go.Proofs.Ytkepimkabfoapaa.PCheckLinear Go.Proofs.YtkepimkabfoapaaW.PrintWords Go.Proofs.YtkepimkabfoapaaW.PrintLast
namespace CheckLinearP
def bx (x y : Int) : Int := Go.bits .xor .u8 x y
def xorL : List Int → List Int → List Int
  | x :: a, y :: b => bx x y :: xorL a b
  | _, _ => []
theorem xorL_len : ∀ a b : List Int, a.length = b.length → (xorL a b).length = a.length
  | [], [], _ => rfl
  | x :: a, y :: b, h => by simp only [xorL, List.length_cons]; rw [xorL_len a b (by simpa using h)]
theorem bx_nat (x y : Int) (x0 : 0 ≤ x) (x1 : x < 256) (y0 : 0 ≤ y) (y1 : y < 256) : bx x y = ((x.toNat ^^^ y.toNat : Nat) : Int) := u8_xor x y x0 x1 y0 y1
theorem bx_rng (x y : Int) (x0 : 0 ≤ x) (x1 : x < 256) (y0 : 0 ≤ y) (y1 : y < 256) : 0 ≤ bx x y ∧ bx x y < 256 := by
  rw [bx_nat x y x0 x1 y0 y1]
  have := Nat.xor_lt_two_pow (n := 8) (show x.toNat < 2 ^ 8 by omega) (show y.toNat < 2 ^ 8 by omega)
  omega
def byt (l : List Int) : Prop := ∀ x ∈ l, 0 ≤ x ∧ x < 256
theorem xorL_byt : ∀ a b : List Int, byt a → byt b → byt (xorL a b)
  | [], _, _, _ => by intro x h; simp [xorL] at h
  | _ :: _, [], _, _ => by intro x h; simp [xorL] at h
  | x :: a, y :: b, ha, hb => by
    intro z h
    simp only [xorL, List.mem_cons] at h
    have hx := ha x (by simp)
    have hy := hb y (by simp)
    rcases h with rfl | h
    · exact bx_rng x y hx.1 hx.2 hy.1 hy.2
    · exact xorL_byt a b (fun q hq => ha q (by simp [hq])) (fun q hq => hb q (by simp [hq])) z h
theorem bx_vec (x y : Int) (x0 : 0 ≤ x) (x1 : x < 256) (y0 : 0 ≤ y) (y1 : y < 256) : BitVec.ofInt 32 (bx x y) = BitVec.ofInt 32 x ^^^ BitVec.ofInt 32 y := by
  rw [bx_nat x y x0 x1 y0 y1]
  obtain ⟨a, rfl⟩ := Int.eq_ofNat_of_zero_le x0
  obtain ⟨b, rfl⟩ := Int.eq_ofNat_of_zero_le y0
  rw [Int.toNat_natCast, Int.toNat_natCast, BitVec.ofInt_natCast, BitVec.ofInt_natCast, BitVec.ofInt_natCast, BitVec.ofNat_xor]
theorem four (a b c d : BitVec 32) : a ^^^ b ^^^ (c ^^^ d) = a ^^^ c ^^^ (b ^^^ d) := by
  rw [BitVec.xor_assoc, BitVec.xor_assoc, XCrc.xlc b c d]
theorem over_xor : ∀ (a b : List Int) (r s : BitVec 32), a.length = b.length → byt a → byt b → XCrc.overB (r ^^^ s) (xorL a b) = XCrc.overB r a ^^^ XCrc.overB s b
  | [], [], r, s, _, _, _ => rfl
  | x :: a, y :: b, r, s, h, ha, hb => by
    have hx := ha x (by simp)
    have hy := hb y (by simp)
    have ih := over_xor a b (XCrc.byteB r (BitVec.ofInt 32 x)) (XCrc.byteB s (BitVec.ofInt 32 y)) (by simpa using h) (fun q hq => ha q (by simp [hq])) (fun q hq => hb q (by simp [hq]))
    show XCrc.overB (XCrc.byteB (r ^^^ s) (BitVec.ofInt 32 (bx x y))) (xorL a b) = _
    rw [bx_vec x y hx.1 hx.2 hy.1 hy.2]
    have e : XCrc.byteB (r ^^^ s) (BitVec.ofInt 32 x ^^^ BitVec.ofInt 32 y) = XCrc.byteB r (BitVec.ofInt 32 x) ^^^ XCrc.byteB s (BitVec.ofInt 32 y) := by
      rw [XCrc.byteB_eq, XCrc.byteB_eq, XCrc.byteB_eq, four, XCrc.stepN_xor]
    rw [e]
    exact ih
def ones : BitVec 32 := 4294967295#32
/-- the sum of bytes -/
def S (l : List Int) : BitVec 32 := XCrc.overB ones l ^^^ ones
theorem linear (a b c : List Int) (h1 : a.length = b.length) (h2 : b.length = c.length) (ha : byt a) (hb : byt b) (hc : byt c) : S (xorL (xorL a b) c) = S a ^^^ S b ^^^ S c := by
  have e1 := over_xor a b ones ones h1 ha hb
  have e2 := over_xor (xorL a b) c (ones ^^^ ones) ones (by rw [xorL_len a b h1]; omega) (xorL_byt a b ha hb) hc
  rw [e1] at e2
  rw [show ones ^^^ ones ^^^ ones = ones from by decide] at e2
  unfold S
  rw [e2]
  generalize XCrc.overB ones a = x
  generalize XCrc.overB ones b = y
  generalize XCrc.overB ones c = z
  have h : x ^^^ ones ^^^ (y ^^^ ones) = x ^^^ y := by
    rw [four, show ones ^^^ ones = 0#32 from by decide, BitVec.xor_zero]
  rw [h, BitVec.xor_assoc]
theorem xor_front (B : BitVec 32) : Go.bits .xor .u32 4294967295 (XCrc.I B) = XCrc.I (B ^^^ ones) := by rw [BitVec.xor_comm]; exact XCrc.I_xor 4294967295#32 B
theorem sum_f (l : List Int) (hb : byt l) : check_Sum.f l = some (XCrc.I (S l)) := by
  have ey : Go.bits .xor .u32 4294967295 0 = XCrc.I ones := XCrc.I_xor 4294967295#32 0#32
  have ho : check_over.f (Go.bits .xor .u32 4294967295 0) l = some (XCrc.I (XCrc.overB ones l)) := by
    rw [ey]
    unfold check_over.f
    have hr := XCrc.I_lt ones
    rw [if_pos ⟨hr.1, hr.2, hb⟩]; rfl
  unfold check_Sum.f check_More.f
  rw [ho, Option.bind_some, xor_front]; rfl
theorem twin_f (l : List Int) (h : l.length < 140737488355328) : colonnadelaw06_twin.f l = some l := by
  unfold colonnadelaw06_twin.f
  rw [if_pos (by simpa using h)]; rfl
theorem rd_at {l : List Int} {i : Nat} (h : i < l.length) : rd l (i : Int) = l[i] := by simp [rd, h]
theorem both_loop (a b : List Int) (hl : a.length = b.length) (hn : a.length < 140737488355328) (e : Nat) : ∀ (k i : Nat) (l : List Int), i ≤ a.length → a.length - i = e → e < k → l.length = i →
    colonnadelaw06_both.l0 k a b l (i : Int) = some (l ++ xorL (a.drop i) (b.drop i)) := by
  induction e with
  | zero =>
    intro k i l hi he hk hll
    obtain ⟨k, rfl⟩ : ∃ q, k = q + 1 := ⟨k - 1, by omega⟩
    simp only [colonnadelaw06_both.l0]
    rw [if_neg (by omega), List.drop_eq_nil_of_le (by omega)]; simp [xorL]
  | succ e ih =>
    intro k i l hi he hk hll
    obtain ⟨k, rfl⟩ : ∃ q, k = q + 1 := ⟨k - 1, by omega⟩
    simp only [colonnadelaw06_both.l0]
    rw [if_pos (by omega), if_pos (by omega), if_pos (by omega), if_pos (by omega), show wrap64 ((i : Int) + 1) = ((i + 1 : Nat) : Int) from by unfold wrap64; omega,
      ih k (i + 1) _ (by omega) (by omega) (by omega) (by simp [hll]), List.drop_eq_getElem_cons (show i < a.length by omega), List.drop_eq_getElem_cons (show i < b.length by omega), rd_at (by omega), rd_at (by omega)]
    simp [xorL, bx]
theorem both_f (a b : List Int) (hl : a.length = b.length) (hn : a.length < 140737488355328) (k : Nat) (hk : a.length < k) : colonnadelaw06_both.f k a b = some (xorL a b) := by
  unfold colonnadelaw06_both.f
  exact both_loop a b hl hn a.length k 0 [] (by omega) (by omega) hk rfl
theorem tail_ok (k n : Nat) (l0 l1 l2 : List Int) (h0 : n ≤ l0.length) (h1 : n ≤ l1.length) (h2 : n ≤ l2.length) (hm : n < 140737488355328) (hk : n < k) (b0 : byt l0) (b1 : byt l1) (b2 : byt l2) :
    (if 0 ≤ (n : Int) then (if (n : Int) ≤ (l0.length : Int) then ((colonnadelaw06_twin.f (l0.take ((n : Int) : Int).toNat)).bind fun t117 => (if (n : Int) ≤ (l1.length : Int) then ((colonnadelaw06_twin.f (l1.take ((n : Int) : Int).toNat)).bind fun t121 => (if (n : Int) ≤ (l2.length : Int) then ((colonnadelaw06_twin.f (l2.take ((n : Int) : Int).toNat)).bind fun t125 => ((colonnadelaw06_known.f).bind fun t128 => (if t128 = true then ((colonnadelaw06_both.f k t117 t121).bind fun t129 => ((colonnadelaw06_both.f k t129 t125).bind fun t132 => ((check_Sum.f t132).bind fun t135 => ((check_Sum.f t117).bind fun t136 => ((check_Sum.f t121).bind fun t137 => ((check_Sum.f t125).bind fun t138 => (some (t135 == (Go.bits .xor .u32 (Go.bits .xor .u32 t136 t137) t138))))))))) else (some false)))) else (none))) else (none))) else (none)) else (none)) = some true := by
  have e0 : (l0.take n).length = n := by rw [List.length_take]; omega
  have e1 : (l1.take n).length = n := by rw [List.length_take]; omega
  have e2 : (l2.take n).length = n := by rw [List.length_take]; omega
  have c0 : byt (l0.take n) := fun x hx => b0 x (List.mem_of_mem_take hx)
  have c1 : byt (l1.take n) := fun x hx => b1 x (List.mem_of_mem_take hx)
  have c2 : byt (l2.take n) := fun x hx => b2 x (List.mem_of_mem_take hx)
  rw [Int.toNat_natCast, if_pos (by omega), if_pos (by omega), twin_f _ (by omega), Option.bind_some, if_pos (by omega), twin_f _ (by omega), Option.bind_some, if_pos (by omega), twin_f _ (by omega), Option.bind_some]
  unfold colonnadelaw06_known.f
  generalize l0.take n = a at *
  generalize l1.take n = b at *
  generalize l2.take n = c at *
  have x1 := xorL_len a b (by omega)
  rw [Option.bind_some, if_pos rfl, both_f a b (by omega) (by omega) k (by omega), Option.bind_some, both_f _ c (by omega) (by omega) k (by omega), Option.bind_some,
    sum_f _ (xorL_byt _ _ (xorL_byt _ _ c0 c1) c2), Option.bind_some, sum_f a c0, Option.bind_some, sum_f b c1, Option.bind_some, sum_f c c2, Option.bind_some, XCrc.I_xor, XCrc.I_xor, linear a b c (by omega) (by omega) c0 c1 c2]
  simp
end CheckLinearP
open CheckLinearP
theorem CheckLinear : colonnadelaw06_CheckLinear.Pure := by
  intro l0 l1 l2 _ h0 w0 _ h1 w1 _ h2 w2
  have b0 : byt l0 := fun x hx => by have := bounds_u8 (w0 x hx); omega
  have b1 : byt l1 := fun x hx => by have := bounds_u8 (w1 x hx); omega
  have b2 : byt l2 := fun x hx => by have := bounds_u8 (w2 x hx); omega
  refine ⟨l0.length + l1.length + l2.length + 1, ?_⟩
  unfold colonnadelaw06_CheckLinear.f
  by_cases c1 : (l1.length : Int) < (l0.length : Int)
  · rw [if_pos c1]
    by_cases c2 : (l2.length : Int) < (l1.length : Int)
    · rw [if_pos c2]
      exact tail_ok _ l2.length l0 l1 l2 (by omega) (by omega) (by omega) (by omega) (by omega) b0 b1 b2
    · rw [if_neg c2]
      exact tail_ok _ l1.length l0 l1 l2 (by omega) (by omega) (by omega) (by omega) (by omega) b0 b1 b2
  · rw [if_neg c1]
    by_cases c2 : (l2.length : Int) < (l0.length : Int)
    · rw [if_pos c2]
      exact tail_ok _ l2.length l0 l1 l2 (by omega) (by omega) (by omega) (by omega) (by omega) b0 b1 b2
    · rw [if_neg c2]
      exact tail_ok _ l0.length l0 l1 l2 (by omega) (by omega) (by omega) (by omega) (by omega) b0 b1 b2
end Go.Proofs.Ytkepimkabfoapaa.Pure
