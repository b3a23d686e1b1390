/- The program's streams, written in turns, copied, reset and missing, answer as the reference's sums of all that was written; for scripts that are together at most so many as the second form bears. No other conditions. -/
import Derived.Test.YtkepimkabfoapaaPCheckStreamsx4
import Derived.Laws.BitsAllLaws
import Derived.OpenShut
import Derived.Test.YtkepimkabfoapaaXCrcMath
namespace Go.Proofs.Ytkepimkabfoapaa.Pure
open Go.RowKit Go.Proofs.Ytkepimkabfoapaa.PCheckStreams Go.Proofs.YtkepimkabfoapaaW.PrintWords Go.Proofs.YtkepimkabfoapaaW.PrintLast
set_option linter.unusedVariables false
set_option linter.unusedSimpArgs false
def colonnadelaw06_CheckStreams.PureU : Prop := ∀ (l0 : List (S61)), (l0.length ≤ maxLen ∧ ∀ y_ ∈ l0, ((Lit.int .i64 y_.f0).wf = true ∧ (Lit.int .i64 y_.f1).wf = true ∧ (Lit.int .i64 y_.f2).wf = true ∧ (y_.f3.length ≤ maxLen ∧ ∀ yy_ ∈ y_.f3, (Lit.int .u8 yy_).wf = true))) → ((l0.map (fun z_ => (1 + 1 + 1 + ((z_.f3.map (fun z_ => 1)).sum + 1) + 1))).sum + 1) ≤ 1048576 → ∃ k, colonnadelaw06_CheckStreams.f k l0 = some true
namespace CheckStreamsP
def toI (b : Bool) : Int := if b then 1 else 0
theorem toI_nat (b : Bool) : toI b = ((if b then 1 else 0 : Nat) : Int) := by cases b <;> rfl
def arr (g : Nat → Bool) (N : Nat) : List Int := (List.range N).map fun j => toI (g j)
theorem arr_len (g : Nat → Bool) (N : Nat) : (arr g N).length = N := by simp [arr]
theorem arr_rd (g : Nat → Bool) (N p : Nat) (h : p < N) : rd (arr g N) (p : Int) = toI (g p) := by
  unfold rd
  rw [Int.toNat_natCast, List.getD_eq_getElem?_getD, List.getElem?_eq_getElem (by rw [arr_len]; exact h)]
  simp [arr]
def upd (g : Nat → Bool) (p : Nat) (v : Bool) : Nat → Bool := fun j => if j = p then v else g j
theorem arr_set (g : Nat → Bool) (N p : Nat) (v : Bool) : (arr g N).set p (toI v) = arr (upd g p v) N := by
  apply List.ext_getElem
  · simp [arr]
  · intro i h1 h2
    rw [List.getElem_set]
    simp only [arr, upd, List.getElem_map, List.getElem_range]
    by_cases h : p = i
    · rw [if_pos h, if_pos h.symm]
    · rw [if_neg h, if_neg (fun e => h e.symm)]
theorem arr_succ (g : Nat → Bool) (N : Nat) : arr g N ++ [toI (g N)] = arr g (N + 1) := by
  unfold arr; rw [List.range_succ, List.map_append]; rfl
theorem arr_congr {g g' : Nat → Bool} {N : Nat} (h : ∀ j, j < N → g j = g' j) : arr g N = arr g' N := by
  unfold arr
  apply List.map_congr_left
  intro j hj
  rw [h j (by simpa using hj)]
theorem ofInt_i64 (a : Nat) (ha : a < 9223372036854775808) : (BitVec.ofInt 64 (a : Int)).toNat = a := by
  rw [BitVec.ofInt_natCast, BitVec.toNat_ofNat]; exact Nat.mod_eq_of_lt (by omega)
theorem i64_and_nat (a b : Nat) (ha : a < 9223372036854775808) (hb : b < 9223372036854775808) : Go.bits .and .i64 (a : Int) (b : Int) = ((a &&& b : Nat) : Int) := by
  have hx : a &&& b < 2 ^ 63 := Nat.and_lt_two_pow _ (by omega)
  show IntKind.i64.wrap ((BitVec.ofInt 64 (a : Int) &&& BitVec.ofInt 64 (b : Int)).toNat : Int) = _
  rw [BitVec.toNat_and, ofInt_i64 a ha, ofInt_i64 b hb, IntKind.wrap_i64]
  omega
theorem toI_xor (a b : Bool) : Go.bits .xor .i64 (toI a) (toI b) = toI (a ^^ b) := by
  cases a <;> cases b <;> decide +kernel
theorem toI_xor1 (a : Bool) : Go.bits .xor .i64 (toI a) 1 = toI (!a) := by
  cases a <;> decide +kernel
theorem small64 (i : Int) (h0 : 0 ≤ i) (h1 : i ≤ 1000) : IntKind.u64.wrap i = i := by rw [IntKind.wrap_u64]; omega
theorem odd_toI (n j : Nat) : ((n / 2 ^ j % 2 : Nat) : Int) = toI (n.testBit j) := by
  rw [Nat.testBit_eq_decide_div_mod_eq]
  by_cases h : n / 2 ^ j % 2 = 1
  · rw [h]; simp [toI]
  · rw [show n / 2 ^ j % 2 = 0 from by omega]; simp [toI]
theorem bit_of (x : Int) (j : Nat) (h0 : 0 ≤ x) (h1 : x < 256) (hj : j < 8) :
    Go.bits .and .i64 (shr .i64 (wrap64 x) (IntKind.u64.wrap (j : Int))) 1 = toI (x.toNat.testBit j) := by
  obtain ⟨n, rfl⟩ := Int.eq_ofNat_of_zero_le h0
  have hw : wrap64 (n : Int) = (n : Int) := by unfold wrap64; omega
  rw [hw, small64 (j : Int) (by omega) (by omega)]
  unfold shr
  rw [Int.toNat_natCast, show min j (IntKind.bits .i64) = j from Nat.min_eq_left (by simp [IntKind.bits]; omega), Int.toNat_natCast]
  have e : (n : Int) / (2 : Int) ^ j = ((n / 2 ^ j : Nat) : Int) := by simp
  have hd : n / 2 ^ j ≤ n := Nat.div_le_self _ _
  have h3 := i64_and_nat (n / 2 ^ j) 1 (by omega) (by omega)
  rw [e, ← odd_toI]
  refine Eq.trans h3 ?_
  rw [Nat.and_one_is_mod]
theorem reg_bit (r : BitVec 32) (j : Nat) (hj : j < 32) :
    wrap64 (Go.bits .and .u32 (shr .u32 (XCrc.I r) (IntKind.u64.wrap (j : Int))) 1) = toI (r.getLsbD j) := by
  rw [small64 (j : Int) (by omega) (by omega)]
  unfold shr XCrc.I
  rw [Int.toNat_natCast, show min j (IntKind.bits .u32) = j from Nat.min_eq_left (by simp [IntKind.bits]; omega)]
  have e : (r.toNat : Int) / (2 : Int) ^ j = ((r.toNat / 2 ^ j : Nat) : Int) := by simp
  have hd : r.toNat / 2 ^ j ≤ r.toNat := Nat.div_le_self _ _
  have hr := r.isLt
  have h3 := u32_and_nat (r.toNat / 2 ^ j) 1 (by omega) (by omega)
  have h4 : Go.bits .and .u32 ((r.toNat / 2 ^ j : Nat) : Int) 1 = ((r.toNat / 2 ^ j % 2 : Nat) : Int) := Eq.trans h3 (by rw [Nat.and_one_is_mod])
  rw [e, h4]
  have hw : wrap64 ((r.toNat / 2 ^ j % 2 : Nat) : Int) = ((r.toNat / 2 ^ j % 2 : Nat) : Int) := by unfold wrap64; omega
  rw [hw, odd_toI]
  rfl
/-- the message's bits, in order -/
def mbit (l : List Int) (p : Nat) : Bool := (rd l ((p / 8 : Nat) : Int)).toNat.testBit (p % 8)
theorem mbit_end (l : List Int) (p : Nat) (h : 8 * l.length ≤ p) : mbit l p = false := by
  unfold mbit rd
  rw [Int.toNat_natCast, List.getD_eq_getElem?_getD, List.getElem?_eq_none (by omega)]
  simp
theorem mbit_at (l : List Int) (c j : Nat) (hj : j < 8) : mbit l (8 * c + j) = (rd l (c : Int)).toNat.testBit j := by
  unfold mbit
  rw [show (8 * c + j) / 8 = c from by omega, show (8 * c + j) % 8 = j from by omega]
section bitsloops
variable (l : List Int) (hb : ∀ x ∈ l, 0 ≤ x ∧ x < 256) (hl : l.length ≤ 1048576)
include hb
theorem rd_rng (c : Nat) (h : c < l.length) : 0 ≤ rd l (c : Int) ∧ rd l (c : Int) < 256 := by
  unfold rd
  rw [Int.toNat_natCast, List.getD_eq_getElem?_getD, List.getElem?_eq_getElem h]
  exact hb _ (List.getElem_mem h)
include hl
theorem bits_inner (c : Nat) (hc : c < l.length) (K : Nat) (e : Nat) : ∀ j, j ≤ 8 → 8 - j = e →
    colonnaderef06_bits.l1 (e + (K + 1)) l (arr (mbit l) (8 * c + j)) (c : Int) (j : Int) = colonnaderef06_bits.l0 K l (arr (mbit l) (8 * (c + 1))) ((c + 1 : Nat) : Int) := by
  induction e with
  | zero =>
    intro j hj he
    obtain rfl : j = 8 := by omega
    rw [Nat.zero_add]
    simp only [colonnaderef06_bits.l1]
    rw [if_neg (by omega), show wrap64 ((c : Int) + 1) = ((c + 1 : Nat) : Int) from by unfold wrap64; omega]
    rfl
  | succ e ih =>
    intro j hj he
    rw [show e + 1 + (K + 1) = (e + (K + 1)) + 1 from by omega]
    have ih := ih (j + 1) (by omega) (by omega)
    generalize e + (K + 1) = F at ih ⊢
    have hr := rd_rng l hb c hc
    simp only [colonnaderef06_bits.l1]
    rw [if_pos (by omega), if_pos (by omega), if_pos (by omega), if_pos (by rw [small64 _ (by omega) (by omega)]; omega), if_pos (by rw [arr_len]; omega),
      bit_of _ j hr.1 hr.2 (by omega), ← mbit_at l c j (by omega), arr_succ, show wrap64 ((j : Int) + 1) = ((j + 1 : Nat) : Int) from by unfold wrap64; omega]
    exact ih
theorem bits_outer (e : Nat) : ∀ (k c : Nat), c ≤ l.length → l.length - c = e → 10 * (e + 1) ≤ k →
    colonnaderef06_bits.l0 k l (arr (mbit l) (8 * c)) (c : Int) = some (arr (mbit l) (8 * l.length)) := by
  induction e with
  | zero =>
    intro k c hc he hk
    obtain ⟨k, rfl⟩ : ∃ m, k = m + 1 := ⟨k - 1, by omega⟩
    obtain rfl : c = l.length := by omega
    simp only [colonnaderef06_bits.l0]
    rw [if_neg (by omega)]
  | succ e ih =>
    intro k c hc he hk
    obtain ⟨K, rfl⟩ : ∃ m, k = (8 + (m + 1)) + 1 := ⟨k - 10, by omega⟩
    have hi := bits_inner l hb hl c (by omega) K 8 0 (by omega) (by omega)
    rw [ih K (c + 1) (by omega) (by omega) (by omega)] at hi
    generalize 8 + (K + 1) = F at hi ⊢
    simp only [colonnaderef06_bits.l0]
    rw [if_pos (by omega)]
    exact hi
theorem bits_f (k : Nat) (hk : 10 * (l.length + 1) ≤ k) : colonnaderef06_bits.f k l = some (arr (mbit l) (8 * l.length)) := by
  unfold colonnaderef06_bits.f
  have h := bits_outer l hb hl l.length k 0 (by omega) (by omega) hk
  exact h
end bitsloops
/-- the reference's terms -/
def T : List Int := [0, 6, 9, 10, 16, 20, 21, 22, 24, 25, 27, 28, 30, 31, 32]
def tn (c : Nat) : Nat := (rd T (c : Int)).toNat
theorem tn_le (c : Nat) (h : c < 15) : tn c ≤ 32 ∧ rd T (c : Int) = (tn c : Int) := by
  have : ∀ c, c < 15 → tn c ≤ 32 ∧ rd T (c : Int) = (tn c : Int) := by decide +kernel
  exact this c h
/-- which of the places from i on are turned by the first c terms -/
def hit (c d : Nat) : Bool := (List.range c).any fun q => tn q == d
theorem hit_succ (c d : Nat) : hit (c + 1) d = (hit c d || (tn c == d)) := by
  unfold hit; rw [List.range_succ, List.any_append]; simp
theorem hit_new (c : Nat) (h : c < 15) : hit c (tn c) = false := by
  have : ∀ c, c < 15 → hit c (tn c) = false := by decide +kernel
  exact this c h
theorem hit_P (d : Nat) (h : d < 32) : hit 15 (d + 1) = XCrc.P32.getLsbD d := by
  have : ∀ d, d < 32 → hit 15 (d + 1) = XCrc.P32.getLsbD d := by decide +kernel
  exact this d h
theorem hit_far (d : Nat) (h : 32 ≤ d) : hit 15 (d + 1) = false := by
  unfold hit
  rw [List.any_eq_false]
  intro q hq
  have := (tn_le q (by simpa using hq)).1
  simp; omega
def flip (g : Nat → Bool) (i c : Nat) : Nat → Bool := fun j => g j ^^ (decide (i ≤ j) && hit c (j - i))
theorem flip_upd (g : Nat → Bool) (i c : Nat) (hc : c < 15) : upd (flip g i c) (i + tn c) (!(flip g i c (i + tn c))) = flip g i (c + 1) := by
  funext j
  unfold upd
  by_cases h : j = i + tn c
  · rw [if_pos h]
    subst h
    unfold flip
    rw [hit_succ, show i + tn c - i = tn c from by omega, hit_new c hc]
    simp
  · rw [if_neg h]
    unfold flip
    rw [hit_succ]
    by_cases h2 : i ≤ j
    · have : (tn c == j - i) = false := by simp; omega
      rw [this]; simp
    · simp [h2]
theorem flip_zero (g : Nat → Bool) (i : Nat) : flip g i 0 = g := by
  funext j; simp [flip, hit]
section gone
variable (N n : Nat) (hN : N ≤ 100000000)
include hN
theorem terms_loop (g : Nat → Bool) (i : Nat) (hi : i + 32 < N) (K : Nat) (e : Nat) : ∀ c, c ≤ 15 → 15 - c = e →
    colonnaderef06_gone.l3 (e + (K + 1)) (arr (flip g i c) N) (n : Int) T (i : Int) (c : Int) = colonnaderef06_gone.l2 K (arr (flip g i 15) N) (n : Int) T ((i + 1 : Nat) : Int) := by
  induction e with
  | zero =>
    intro c hc he
    obtain rfl : c = 15 := by omega
    rw [Nat.zero_add]
    simp only [colonnaderef06_gone.l3]
    rw [if_neg (by decide), show wrap64 ((i : Int) + 1) = ((i + 1 : Nat) : Int) from by unfold wrap64; omega]
  | succ e ih =>
    intro c hc he
    rw [show e + 1 + (K + 1) = (e + (K + 1)) + 1 from by omega]
    have ih := ih (c + 1) (by omega) (by omega)
    generalize e + (K + 1) = F at ih ⊢
    have ht := tn_le c (by omega)
    have hw : wrap64 ((i : Int) + rd T (c : Int)) = ((i + tn c : Nat) : Int) := by rw [ht.2]; unfold wrap64; omega
    simp only [colonnaderef06_gone.l3]
    rw [hw, if_pos (show (c : Int) < (T.length : Int) from by simp [T]; omega), if_pos (by omega), if_pos (by omega), if_pos (by rw [arr_len]; omega), arr_rd _ _ _ (by omega), toI_xor1, Int.toNat_natCast, arr_set,
      flip_upd g i c (by omega), show wrap64 ((c : Int) + 1) = ((c + 1 : Nat) : Int) from by unfold wrap64; omega]
    exact ih
omit hN in
/-- the register after i bits -/
theorem bitB_lsb (r : BitVec 32) (b : Bool) (d : Nat) : (XCrc.bitB r b).getLsbD d = (r.getLsbD (d + 1) ^^ ((r.getLsbD 0 ^^ b) && XCrc.P32.getLsbD d)) := by
  unfold XCrc.bitB
  rw [XCrc.stepB_eq, BitVec.getLsbD_xor, BitVec.getLsbD_ushiftRight, BitVec.getLsbD_xor, BitVec.getLsbD_xor]
  have h1 : (if b = true then 1#32 else 0#32).getLsbD (1 + d) = false := by
    split
    · rw [BitVec.getLsbD_one]; simp
    · simp
  have h0 : (if b = true then 1#32 else 0#32).getLsbD 0 = b := by cases b <;> rfl
  rw [h1, h0, Bool.xor_false, Nat.add_comm 1 d]
  congr 1
  cases r.getLsbD 0 ^^ b <;> simp
variable (m : Nat → Bool)
omit hN in
def reg (m : Nat → Bool) (r : BitVec 32) : Nat → BitVec 32
  | 0 => r
  | i + 1 => XCrc.bitB (reg m r i) (m i)
theorem bits_loop (hn : n + 32 = N) (r : BitVec 32) (e : Nat) : ∀ (k i : Nat) (g : Nat → Bool), i ≤ n → n - i = e → 20 * e + 40 ≤ k →
    (∀ j, i ≤ j → j < N → g j = (m j ^^ (reg m r i).getLsbD (j - i))) →
    ∃ (K : Nat) (g' : Nat → Bool), 38 ≤ K ∧ colonnaderef06_gone.l2 k (arr g N) (n : Int) T (i : Int) = colonnaderef06_gone.l4 K (arr g' N) (n : Int) 0 0 ∧
      (∀ j, n ≤ j → j < N → g' j = (m j ^^ (reg m r n).getLsbD (j - n))) := by
  induction e with
  | zero =>
    intro k i g hi he hk hg
    obtain ⟨k, rfl⟩ : ∃ q, k = q + 1 := ⟨k - 1, by omega⟩
    obtain rfl : i = n := by omega
    refine ⟨k, g, by omega, ?_, hg⟩
    simp only [colonnaderef06_gone.l2]
    rw [if_neg (by omega)]
  | succ e ih =>
    intro k i g hi he hk hg
    have hb := hg i (by omega) (by omega)
    rw [Nat.sub_self] at hb
    by_cases c : g i = true
    · obtain ⟨K, rfl⟩ : ∃ q, k = (15 + (q + 1)) + 1 := ⟨k - 17, by omega⟩
      have ht := terms_loop N n hN g i (by omega) K 15 0 (by omega) (by omega)
      rw [flip_zero] at ht
      have hz : colonnaderef06_gone.l2 (15 + (K + 1) + 1) (arr g N) (n : Int) T (i : Int) = colonnaderef06_gone.l3 (15 + (K + 1)) (arr g N) (n : Int) T (i : Int) 0 := by
        generalize 15 + (K + 1) = F
        simp only [colonnaderef06_gone.l2]
        rw [if_pos (by omega), if_pos (by omega), if_pos (by rw [arr_len]; omega), arr_rd _ _ _ (by omega), c, if_pos (show toI true = 1 from rfl)]
      obtain ⟨K', g', h1, h2, h3⟩ := ih K (i + 1) (flip g i 15) (by omega) (by omega) (by omega) (fun j h1 h2 => by
        have hgj := hg j (by omega) h2
        unfold flip
        rw [hgj]
        show _ = (m j ^^ (XCrc.bitB (reg m r i) (m i)).getLsbD (j - (i + 1)))
        rw [bitB_lsb, show j - (i + 1) + 1 = j - i from by omega]
        have hc : ((reg m r i).getLsbD 0 ^^ m i) = true := by rw [← c, hb, Bool.xor_comm]
        rw [hc, Bool.true_and, decide_eq_true (show i ≤ j by omega), Bool.true_and]
        have hp : hit 15 (j - i) = XCrc.P32.getLsbD (j - (i + 1)) := by
          rcases Nat.lt_or_ge (j - (i + 1)) 32 with q | q
          · rw [← hit_P _ q, show j - (i + 1) + 1 = j - i from by omega]
          · rw [BitVec.getLsbD_of_ge _ _ q, show j - i = (j - (i + 1)) + 1 from by omega, hit_far _ q]
        rw [hp, Bool.xor_assoc])
      exact ⟨K', g', h1, by rw [hz]; exact ht.trans h2, h3⟩
    · obtain ⟨K, rfl⟩ : ∃ q, k = q + 1 := ⟨k - 1, by omega⟩
      have c' : g i = false := by simpa using c
      have hz : colonnaderef06_gone.l2 (K + 1) (arr g N) (n : Int) T (i : Int) = colonnaderef06_gone.l2 K (arr g N) (n : Int) T ((i + 1 : Nat) : Int) := by
        simp only [colonnaderef06_gone.l2]
        rw [if_pos (by omega), if_pos (by omega), if_pos (by rw [arr_len]; omega), arr_rd _ _ _ (by omega), c', if_neg (by decide), show wrap64 ((i : Int) + 1) = ((i + 1 : Nat) : Int) from by unfold wrap64; omega]
      obtain ⟨K', g', h1, h2, h3⟩ := ih K (i + 1) g (by omega) (by omega) (by omega) (fun j h1 h2 => by
        rw [hg j (by omega) h2]
        show _ = (m j ^^ (XCrc.bitB (reg m r i) (m i)).getLsbD (j - (i + 1)))
        rw [bitB_lsb, show j - (i + 1) + 1 = j - i from by omega]
        have hc : ((reg m r i).getLsbD 0 ^^ m i) = false := by rw [← c', hb, Bool.xor_comm]
        rw [hc, Bool.false_and, Bool.xor_false])
      exact ⟨K', g', h1, hz.trans h2, h3⟩
omit hN in
theorem low_succ (x i : Nat) : x % 2 ^ i ||| (if x.testBit i then 1 else 0) * 2 ^ i = x % 2 ^ (i + 1) := by
  have h1 : x % 2 ^ i < 2 ^ i := Nat.mod_lt _ (Nat.two_pow_pos i)
  have h2 : x % 2 ^ (i + 1) = 2 ^ i * (x / 2 ^ i % 2) + x % 2 ^ i := by rw [Nat.pow_succ, Nat.mod_mul]; omega
  rw [h2, Nat.testBit_eq_decide_div_mod_eq, Nat.or_comm]
  have h3 : (if decide (x / 2 ^ i % 2 = 1) = true then 1 else 0) * 2 ^ i = 2 ^ i * (x / 2 ^ i % 2) := by
    by_cases c : x / 2 ^ i % 2 = 1
    · rw [c]; simp
    · rw [show x / 2 ^ i % 2 = 0 from by omega]; simp
  rw [h3]
  exact (Nat.two_pow_add_eq_or_of_lt h1 _).symm
omit hN in
theorem shl_bit (b : Bool) (i : Nat) (hi : i < 32) : shl .u32 (toI b % 4294967296) (IntKind.u64.wrap (i : Int)) = (((if b then 1 else 0) * 2 ^ i : Nat) : Int) := by
  have h : ∀ i : Nat, i < 32 → shl .u32 (toI b % 4294967296) (IntKind.u64.wrap (i : Int)) = (((if b then 1 else 0) * 2 ^ i : Nat) : Int) := by
    cases b <;> decide +kernel
  exact h i hi
theorem rest_loop (hn : n + 32 = N) (R : BitVec 32) (g : Nat → Bool) (hg : ∀ j, j < 32 → g (n + j) = R.getLsbD j) (e : Nat) : ∀ (k i : Nat), i ≤ 32 → 32 - i = e → e < k →
    colonnaderef06_gone.l4 k (arr g N) (n : Int) ((R.toNat % 2 ^ i : Nat) : Int) (i : Int) = some (XCrc.I R) := by
  have hR := R.isLt
  induction e with
  | zero =>
    intro k i hi he hk
    obtain ⟨k, rfl⟩ : ∃ q, k = q + 1 := ⟨k - 1, by omega⟩
    obtain rfl : i = 32 := by omega
    simp only [colonnaderef06_gone.l4]
    rw [if_neg (by omega), Nat.mod_eq_of_lt hR]; rfl
  | succ e ih =>
    intro k i hi he hk
    obtain ⟨k, rfl⟩ : ∃ q, k = q + 1 := ⟨k - 1, by omega⟩
    have hw : wrap64 ((n : Int) + (i : Int)) = ((n + i : Nat) : Int) := by unfold wrap64; omega
    have hlt : R.toNat % 2 ^ i < 4294967296 := Nat.lt_of_le_of_lt (Nat.mod_le _ _) hR
    have hb : (if R.toNat.testBit i then 1 else 0) * 2 ^ i < 4294967296 := by
      have : 2 ^ i ≤ 2 ^ 31 := Nat.pow_le_pow_right (by decide) (by omega)
      split <;> omega
    simp only [colonnaderef06_gone.l4]
    rw [hw, if_pos (by omega), if_pos (by omega), if_pos (by rw [arr_len]; omega), if_pos (by rw [small64 _ (by omega) (by omega)]; omega), arr_rd _ _ _ (by omega), hg i (by omega), shl_bit _ i (by omega)]
    have hor := u32_or_nat (R.toNat % 2 ^ i) ((if R.toNat.testBit i then 1 else 0) * 2 ^ i) hlt hb
    rw [low_succ] at hor
    rw [show R.getLsbD i = R.toNat.testBit i from rfl, hor, show wrap64 ((i : Int) + 1) = ((i + 1 : Nat) : Int) from by unfold wrap64; omega]
    exact ih k (i + 1) (by omega) (by omega) (by omega)
theorem start_loop (r : BitVec 32) (hn : n + 32 = N) (e : Nat) : ∀ (k i : Nat), i ≤ 32 → 32 - i = e → e + 20 * n + 50 ≤ k →
    ∃ K, 20 * n + 45 ≤ K ∧ colonnaderef06_gone.l1 k (XCrc.I r) (arr (fun j => m j ^^ (decide (j < i) && r.getLsbD j)) N) (n : Int) (i : Int) =
      colonnaderef06_gone.l2 K (arr (fun j => m j ^^ (decide (j < 32) && r.getLsbD j)) N) (n : Int) T 0 := by
  induction e with
  | zero =>
    intro k i hi he hk
    obtain ⟨k, rfl⟩ : ∃ q, k = q + 1 := ⟨k - 1, by omega⟩
    obtain rfl : i = 32 := by omega
    refine ⟨k, by omega, ?_⟩
    simp only [colonnaderef06_gone.l1]
    rw [if_neg (by omega)]; rfl
  | succ e ih =>
    intro k i hi he hk
    obtain ⟨k, rfl⟩ : ∃ q, k = q + 1 := ⟨k - 1, by omega⟩
    obtain ⟨K, h1, h2⟩ := ih k (i + 1) (by omega) (by omega) (by omega)
    refine ⟨K, h1, ?_⟩
    simp only [colonnaderef06_gone.l1]
    rw [if_pos (by omega), if_pos (by omega), if_pos (by rw [arr_len]; omega), if_pos (by rw [small64 _ (by omega) (by omega)]; omega), arr_rd _ _ _ (by omega), reg_bit r i (by omega), toI_xor, Int.toNat_natCast, arr_set,
      show wrap64 ((i : Int) + 1) = ((i + 1 : Nat) : Int) from by unfold wrap64; omega, ← h2]
    congr 1
    apply arr_congr
    intro j hj
    unfold upd
    by_cases c : j = i
    · subst c; rw [if_pos rfl]; simp
    · rw [if_neg c]
      show (m j ^^ (decide (j < i) && r.getLsbD j)) = (m j ^^ (decide (j < i + 1) && r.getLsbD j))
      by_cases c2 : j < i
      · rw [decide_eq_true c2, decide_eq_true (show j < i + 1 by omega)]
      · rw [decide_eq_false c2, decide_eq_false (show ¬ j < i + 1 by omega)]
theorem zeros_loop (r : BitVec 32) (hn : n + 32 = N) (hm : ∀ p, n ≤ p → m p = false) (e : Nat) : ∀ (k i : Nat), i ≤ 32 → 32 - i = e → e + 20 * n + 100 ≤ k →
    ∃ K, 20 * n + 90 ≤ K ∧ colonnaderef06_gone.l0 k (XCrc.I r) (arr m (n + i)) (n : Int) (i : Int) = colonnaderef06_gone.l1 K (XCrc.I r) (arr m N) (n : Int) 0 := by
  induction e with
  | zero =>
    intro k i hi he hk
    obtain ⟨k, rfl⟩ : ∃ q, k = q + 1 := ⟨k - 1, by omega⟩
    obtain rfl : i = 32 := by omega
    refine ⟨k, by omega, ?_⟩
    simp only [colonnaderef06_gone.l0]
    rw [if_neg (by omega), hn]
  | succ e ih =>
    intro k i hi he hk
    obtain ⟨k, rfl⟩ : ∃ q, k = q + 1 := ⟨k - 1, by omega⟩
    obtain ⟨K, h1, h2⟩ := ih k (i + 1) (by omega) (by omega) (by omega)
    refine ⟨K, h1, ?_⟩
    simp only [colonnaderef06_gone.l0]
    have e0 : (0 : Int) = toI (m (n + i)) := by rw [hm _ (by omega)]; rfl
    rw [if_pos (by omega), if_pos (by rw [arr_len]; omega), show wrap64 ((i : Int) + 1) = ((i + 1 : Nat) : Int) from by unfold wrap64; omega, ← h2, ← Nat.add_assoc, ← arr_succ, ← e0]
theorem gone_loops (r : BitVec 32) (hn : n + 32 = N) (hm : ∀ p, n ≤ p → m p = false) (k : Nat) (hk : 20 * n + 200 ≤ k) :
    colonnaderef06_gone.l0 k (XCrc.I r) (arr m n) (n : Int) 0 = some (XCrc.I (reg m r n)) := by
  obtain ⟨K, h1, h2⟩ := zeros_loop N n hN m r hn hm 32 k 0 (by omega) (by omega) (by omega)
  obtain ⟨K2, h3, h4⟩ := start_loop N n hN m r hn 32 K 0 (by omega) (by omega) (by omega)
  have h5 : arr (fun j => m j ^^ (decide (j < 0) && r.getLsbD j)) N = arr m N := arr_congr (fun j _ => by simp)
  rw [h5] at h4
  obtain ⟨K3, g', h6, h7, h8⟩ := bits_loop N n hN m hn r n K2 0 _ (by omega) (by omega) (by omega) (fun j _ _ => by
    show (m j ^^ (decide (j < 32) && r.getLsbD j)) = (m j ^^ r.getLsbD (j - 0))
    rw [Nat.sub_zero]
    by_cases c : j < 32
    · simp [c]
    · rw [BitVec.getLsbD_of_ge r j (by omega)]; simp)
  have h9 := rest_loop N n hN hn (reg m r n) g' (fun j hj => by
    rw [h8 (n + j) (by omega) (by omega), hm _ (by omega), Bool.false_xor, show n + j - n = j from by omega]) 32 K3 0 (by omega) (by omega) (by omega)
  rw [show (R : Nat) → R % 2 ^ 0 = 0 from fun R => by simp [Nat.mod_one]] at h9
  exact h2.trans (h4.trans (h7.trans h9))
end gone
theorem reg_add (m : Nat → Bool) (r : BitVec 32) (s n : Nat) : reg m r (s + n) = XCrc.bitsB (reg m r s) ((List.range n).map fun j => m (s + j)) := by
  induction n with
  | zero => rfl
  | succ n ih =>
    rw [List.range_succ, List.map_append]
    unfold XCrc.bitsB at ih ⊢
    rw [List.foldl_append, ← ih]; rfl
theorem bitList_range (n : Nat) : ∀ x : BitVec 32, XCrc.bitList x n = (List.range n).map fun j => x.getLsbD j := by
  induction n with
  | zero => intro x; rfl
  | succ n ih =>
    intro x
    rw [List.range_succ_eq_map, List.map_cons, List.map_map]
    show _ :: XCrc.bitList (x >>> 1) n = _
    rw [ih]
    congr 1
    apply List.map_congr_left
    intro j _
    rw [BitVec.getLsbD_ushiftRight, Nat.add_comm]; rfl
theorem take_snoc {l : List Int} {k : Nat} (h : k < l.length) : l.take (k + 1) = l.take k ++ [rd l k] := by
  rw [List.take_succ_eq_append_getElem h]; simp [rd, h]
theorem reg_over (l : List Int) (hb : ∀ x ∈ l, 0 ≤ x ∧ x < 256) (r : BitVec 32) (c : Nat) : c ≤ l.length → reg (mbit l) r (8 * c) = XCrc.overB r (l.take c) := by
  induction c with
  | zero => intro _; rfl
  | succ c ih =>
    intro hc
    have hr := rd_rng l hb c (by omega)
    rw [show 8 * (c + 1) = 8 * c + 8 from by omega, reg_add, ih (by omega), take_snoc (by omega), XCrc.overB_snoc, XCrc.byteB_bits _ _ hr.1 hr.2]
    congr 1
    unfold XCrc.byteBits
    rw [bitList_range]
    apply List.map_congr_left
    intro j hj
    have hj : j < 8 := by simpa using hj
    rw [mbit_at l c j hj]
    obtain ⟨x, hx⟩ := Int.eq_ofNat_of_zero_le hr.1
    rw [hx, Int.toNat_natCast, BitVec.ofInt_natCast, BitVec.getLsbD_ofNat, decide_eq_true (show j < 32 by omega), Bool.true_and]
theorem gone_f (l : List Int) (hb : ∀ x ∈ l, 0 ≤ x ∧ x < 256) (hl : l.length ≤ 1048576) (r : BitVec 32) (k : Nat) (hk : 160 * l.length + 200 ≤ k) :
    colonnaderef06_gone.f k (XCrc.I r) l = some (XCrc.I (XCrc.overB r l)) := by
  unfold colonnaderef06_gone.f
  rw [bits_f l hb hl k (by omega), Option.bind_some, arr_len, gone_loops (8 * l.length + 32) (8 * l.length) (by omega) (mbit l) r rfl (fun p hp => mbit_end l p hp) k (by omega), reg_over l hb r l.length (Nat.le_refl _), List.take_length]
theorem ones (l : List Int) : (l.map (fun _ => 1)).sum = l.length := by
  induction l with
  | nil => rfl
  | cons x l ih => rw [List.map_cons, List.sum_cons, ih, List.length_cons, Nat.add_comm]
theorem key (l : List S61) : l.length + colonnadelaw06_CheckStreams.tot l ≤ (l.map (fun z_ => (1 + 1 + 1 + ((z_.f3.map (fun z_ => 1)).sum + 1) + 1))).sum := by
  induction l with
  | nil => exact Nat.le_refl _
  | cons x l ih =>
    have e : colonnadelaw06_CheckStreams.tot (x :: l) = x.f3.length + colonnadelaw06_CheckStreams.tot l := by unfold colonnadelaw06_CheckStreams.tot; rw [List.map_cons, List.sum_cons]
    have e1 : (x.f3.map (fun _ => 1)).sum = x.f3.length := ones _
    rw [e, List.length_cons, List.map_cons, List.sum_cons, e1]
    omega
end CheckStreamsP
open CheckStreamsP
theorem CheckStreams : colonnadelaw06_CheckStreams.PureU := by
  intro l0 h hm
  have hk := key l0
  refine ⟨160 * 1048576 + 200, ?_⟩
  unfold colonnadelaw06_CheckStreams.f
  rw [if_pos]
  refine ⟨fun x hx y hy => by have := bounds_u8 ((h.2 x hx).2.2.2.2 y hy); omega, by omega, by omega, fun b hb hl => ?_⟩
  have hg : colonnaderef06_gone.f (160 * 1048576 + 200) 4294967295 b = some (XCrc.I (XCrc.overB 4294967295#32 b)) := gone_f b hb hl 4294967295#32 _ (by omega)
  unfold colonnaderef06_Sum.f
  rw [hg, Option.bind_some]
  exact congrArg some (XCrc.I_xor _ 4294967295#32)
end Go.Proofs.Ytkepimkabfoapaa.Pure
