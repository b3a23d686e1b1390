/- The register as a linear machine: plain facts on 32 bits, no program in sight. -/
import Derived.Test.YtkepimkabfoapaaXCrc
namespace Go.Proofs.Ytkepimkabfoapaa.XCrc
def P32 : BitVec 32 := 0xEDB88320#32
theorem and1_iff (r : BitVec 32) : (r &&& 1#32 = 1#32) ↔ r.getLsbD 0 = true := by
  constructor
  · intro h
    have := congrArg (fun z : BitVec 32 => z.getLsbD 0) h
    simpa using this
  · intro h
    apply BitVec.eq_of_getLsbD_eq
    intro i hi
    rw [BitVec.getLsbD_and]
    rcases Nat.eq_zero_or_pos i with rfl | h0
    · simp [h]
    · have : (1#32).getLsbD i = false := by
        rw [BitVec.getLsbD_one]; simp; omega
      rw [this]; simp
theorem stepB_eq (r : BitVec 32) : stepB r = (r >>> 1) ^^^ (if r.getLsbD 0 = true then P32 else 0#32) := by
  unfold stepB
  by_cases h : r.getLsbD 0 = true
  · rw [if_pos ((and1_iff r).2 h), if_pos h]; rfl
  · rw [if_neg (fun e => h ((and1_iff r).1 e)), if_neg h]; simp
theorem shr_xor (a b : BitVec 32) (n : Nat) : (a ^^^ b) >>> n = (a >>> n) ^^^ (b >>> n) := by
  apply BitVec.eq_of_getLsbD_eq; intro i hi; simp
theorem xlc (a b c : BitVec 32) : a ^^^ (b ^^^ c) = b ^^^ (a ^^^ c) := by rw [← BitVec.xor_assoc, BitVec.xor_comm a b, BitVec.xor_assoc]
theorem xself (a b : BitVec 32) : a ^^^ (a ^^^ b) = b := by rw [← BitVec.xor_assoc]; simp
theorem stepB_xor (a b : BitVec 32) : stepB (a ^^^ b) = stepB a ^^^ stepB b := by
  rw [stepB_eq, stepB_eq, stepB_eq, shr_xor, BitVec.getLsbD_xor]
  cases ha : a.getLsbD 0 <;> cases hb : b.getLsbD 0 <;> simp only [Bool.xor_false, Bool.false_xor, Bool.xor_self, Bool.false_eq_true, if_true, if_false, BitVec.xor_zero, BitVec.xor_assoc]
  · rw [BitVec.xor_comm P32, ← BitVec.xor_assoc]
  · rw [BitVec.xor_comm (b >>> 1), xlc P32, xself]
theorem stepB_zero : stepB 0#32 = 0#32 := by decide
theorem xor_right_cancel {a b c : BitVec 32} (h : a ^^^ c = b ^^^ c) : a = b := by
  have := congrArg (fun z => z ^^^ c) h
  simpa [BitVec.xor_assoc] using this
/-- the register goes over one bit -/
def bitB (r : BitVec 32) (b : Bool) : BitVec 32 := stepB (r ^^^ (if b then 1#32 else 0#32))
def bitsB (r : BitVec 32) (l : List Bool) : BitVec 32 := l.foldl bitB r
def stepN : Nat → BitVec 32 → BitVec 32
  | 0, r => r
  | n + 1, r => stepN n (stepB r)
theorem stepN_xor (n : Nat) : ∀ a b, stepN n (a ^^^ b) = stepN n a ^^^ stepN n b := by
  induction n with
  | zero => intro a b; rfl
  | succ n ih => intro a b; simp only [stepN]; rw [stepB_xor, ih]
theorem stepN_zero (n : Nat) : stepN n 0#32 = 0#32 := by
  induction n with
  | zero => rfl
  | succ n ih => simp only [stepN]; rw [stepB_zero, ih]
theorem stepN_add (m n : Nat) : ∀ r, stepN (m + n) r = stepN n (stepN m r) := by
  induction m with
  | zero => intro r; rw [Nat.zero_add]; rfl
  | succ m ih => intro r; rw [show m + 1 + n = (m + n) + 1 from by omega]; simp only [stepN]; exact ih _
theorem stepN_succ' (n : Nat) (r : BitVec 32) : stepN (n + 1) r = stepB (stepN n r) := by
  rw [stepN_add n 1]; rfl
/-- of a number whose lowest bit is nought the step is a shift -/
theorem stepB_even {r : BitVec 32} (h : r.getLsbD 0 = false) : stepB r = r >>> 1 := by
  rw [stepB_eq, h]; simp
theorem stepN_even (n : Nat) : ∀ r : BitVec 32, (∀ i, i < n → r.getLsbD i = false) → stepN n r = r >>> n := by
  induction n with
  | zero => intro r _; simp [stepN]
  | succ n ih =>
    intro r h
    simp only [stepN]
    rw [stepB_even (h 0 (by omega)), ih _ (fun i hi => by rw [BitVec.getLsbD_ushiftRight]; exact h _ (by omega)), ← BitVec.shiftRight_add, Nat.add_comm]
/-- a number's bits, the lowest first -/
def bitList (x : BitVec 32) : Nat → List Bool
  | 0 => []
  | n + 1 => x.getLsbD 0 :: bitList (x >>> 1) n
theorem low_split (x : BitVec 32) : x = (if x.getLsbD 0 = true then 1#32 else 0#32) ^^^ ((x >>> 1) <<< 1) := by
  apply BitVec.eq_of_getLsbD_eq
  intro i hi
  rw [BitVec.getLsbD_xor, BitVec.getLsbD_shiftLeft, BitVec.getLsbD_ushiftRight]
  rcases Nat.eq_zero_or_pos i with rfl | h0
  · cases h : x.getLsbD 0 <;> simp
  · have h1 : (if x.getLsbD 0 = true then 1#32 else 0#32).getLsbD i = false := by
      split
      · rw [BitVec.getLsbD_one]; simp; omega
      · simp
    rw [h1, show 1 + (i - 1) = i from by omega]
    simp [hi]; omega
theorem bits_of (n : Nat) : ∀ r x : BitVec 32, (∀ i, n ≤ i → x.getLsbD i = false) → bitsB r (bitList x n) = stepN n (r ^^^ x) := by
  induction n with
  | zero =>
    intro r x h
    have : x = 0#32 := by
      apply BitVec.eq_of_getLsbD_eq; intro i _; rw [h i (by omega)]; simp
    subst this
    simp [bitsB, bitList, stepN]
  | succ n ih =>
    intro r x h
    have hs : stepB (r ^^^ x) = bitB r (x.getLsbD 0) ^^^ (x >>> 1) := by
      have e : x = (if x.getLsbD 0 = true then 1#32 else 0#32) ^^^ ((x >>> 1) <<< 1) := low_split x
      have h2 : stepB ((x >>> 1) <<< 1) = x >>> 1 := by
        rw [stepB_even (by simp)]
        apply BitVec.eq_of_getLsbD_eq
        intro i hi
        rw [BitVec.getLsbD_ushiftRight, BitVec.getLsbD_shiftLeft, BitVec.getLsbD_ushiftRight]
        by_cases hc : 1 + i < 32
        · simp [hc]
        · have : i = 31 := by omega
          subst this
          simp
      unfold bitB
      rw [show r ^^^ x = (r ^^^ (if x.getLsbD 0 = true then 1#32 else 0#32)) ^^^ ((x >>> 1) <<< 1) from by
        rw [BitVec.xor_assoc]; exact congrArg _ e, stepB_xor, h2]
    show bitsB (bitB r (x.getLsbD 0)) (bitList (x >>> 1) n) = stepN n (stepB (r ^^^ x))
    rw [ih _ _ (fun i hi => by rw [BitVec.getLsbD_ushiftRight]; exact h _ (by omega)), hs]
theorem nib4_eq (r : BitVec 32) : nib4 r = stepN 4 r := rfl
theorem getLsbD_15 (i : Nat) : (15#32).getLsbD i = decide (i < 4) := by
  rcases Nat.lt_or_ge i 4 with h | h
  · have : i = 0 ∨ i = 1 ∨ i = 2 ∨ i = 3 := by omega
    rcases this with rfl | rfl | rfl | rfl <;> rfl
  · have h2 : (15#32).getLsbD i = false := by
      rw [BitVec.getLsbD_ofNat]
      have : Nat.testBit 15 i = false := Nat.testBit_lt_two_pow (Nat.lt_of_lt_of_le (by decide : 15 < 2 ^ 4) (Nat.pow_le_pow_right (by decide) h))
      simp [this]
    rw [h2]; simp; omega
theorem nibB_eq (r : BitVec 32) : nibB r = stepN 4 r := by
  unfold nibB
  rw [nib4_eq]
  have hs : r = ((r >>> 4) <<< 4) ^^^ (r &&& 15#32) := by
    apply BitVec.eq_of_getLsbD_eq
    intro i hi
    rw [BitVec.getLsbD_xor, BitVec.getLsbD_shiftLeft, BitVec.getLsbD_ushiftRight, BitVec.getLsbD_and, getLsbD_15]
    by_cases h : i < 4
    · simp [h]
    · rw [show 4 + (i - 4) = i from by omega]; simp [h, hi]
  have he : stepN 4 ((r >>> 4) <<< 4) = r >>> 4 := by
    rw [stepN_even 4 _ (fun i hi => by rw [BitVec.getLsbD_shiftLeft]; simp [hi])]
    apply BitVec.eq_of_getLsbD_eq
    intro i hi
    rw [BitVec.getLsbD_ushiftRight, BitVec.getLsbD_shiftLeft, BitVec.getLsbD_ushiftRight]
    by_cases hc : 4 + i < 32
    · simp [hc]
    · simp only [hc, decide_false, Bool.false_and]
      rw [BitVec.getLsbD_ushiftRight, BitVec.getLsbD_of_ge r (4 + i) (by omega)]
  conv => rhs; rw [hs, stepN_xor, he]
theorem byteB_eq (r x : BitVec 32) : byteB r x = stepN 8 (r ^^^ x) := by
  unfold byteB
  rw [nibB_eq, nibB_eq, ← stepN_add]
/-- a byte's bits, the lowest first -/
def byteBits (x : Int) : List Bool := bitList (BitVec.ofInt 32 x) 8
theorem byte_hi (x : Int) (h0 : 0 ≤ x) (h1 : x < 256) (i : Nat) (hi : 8 ≤ i) : (BitVec.ofInt 32 x).getLsbD i = false := by
  obtain ⟨n, rfl⟩ := Int.eq_ofNat_of_zero_le h0
  rw [BitVec.ofInt_natCast, BitVec.getLsbD_ofNat]
  have : Nat.testBit n i = false := Nat.testBit_lt_two_pow (Nat.lt_of_lt_of_le (show n < 2 ^ 8 by omega) (Nat.pow_le_pow_right (by decide) hi))
  simp [this]
theorem byteB_bits (r : BitVec 32) (x : Int) (h0 : 0 ≤ x) (h1 : x < 256) : byteB r (BitVec.ofInt 32 x) = bitsB r (byteBits x) := by
  rw [byteB_eq]; exact (bits_of 8 r _ (byte_hi x h0 h1)).symm
def allBits : List Int → List Bool
  | [] => []
  | x :: l => byteBits x ++ allBits l
theorem overB_bits (l : List Int) : ∀ r, (∀ x ∈ l, 0 ≤ x ∧ x < 256) → overB r l = bitsB r (allBits l) := by
  induction l with
  | nil => intro r _; rfl
  | cons x l ih =>
    intro r h
    have hx := h x (by simp)
    show overB (byteB r (BitVec.ofInt 32 x)) l = _
    rw [ih _ (fun y hy => h y (by simp [hy])), byteB_bits r x hx.1 hx.2]
    rw [show allBits (x :: l) = byteBits x ++ allBits l from rfl]
    unfold bitsB
    rw [List.foldl_append]
end Go.Proofs.Ytkepimkabfoapaa.XCrc
