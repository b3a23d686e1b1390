/- The places of a filter of 2^x bits lie in it; two of them are one just if their numbers differ by a multiple of 2^x, for the step is odd; those of fewer are the beginning. No conditions. -/
import Derived.Test.YtkepimkabfoapaaPCheckSpreadsx2
import Derived.Laws.BitsAllLaws
import Derived.OpenShut
namespace Go.Proofs.Ytkepimkabfoapaa.Pure
open Go.RowKit Go.Proofs.Ytkepimkabfoapaa.PCheckSpreads Go.Proofs.YtkepimkabfoapaaW.PrintWords Go.Proofs.YtkepimkabfoapaaW.PrintLast
namespace CheckSpreadsP
theorem and_pred (b : Nat) : 1 ≤ b → b &&& (b - 1) = 0 → ∃ x, b = 2 ^ x := by
  induction b using Nat.strongRecOn with
  | _ b ih =>
    intro h1 h
    rcases Nat.mod_two_eq_zero_or_one b with e | e
    · obtain ⟨c, rfl⟩ : ∃ c, b = 2 * c := ⟨b / 2, by omega⟩
      have hc : c &&& (c - 1) = 0 := by
        have := congrArg (· / 2) h
        simp only [Nat.and_div_two] at this
        rw [show 2 * c / 2 = c from by omega, show (2 * c - 1) / 2 = c - 1 from by omega] at this
        simpa using this
      obtain ⟨x, hx⟩ := ih c (by omega) (by omega) hc
      exact ⟨x + 1, by rw [hx, Nat.pow_succ]; omega⟩
    · by_cases h2 : b = 1
      · exact ⟨0, h2⟩
      · exfalso
        have := congrArg (· / 2) h
        simp only [Nat.and_div_two] at this
        rw [show (b - 1) / 2 = b / 2 from by omega, Nat.and_self] at this
        omega
theorem pow_pred (x : Nat) : 2 ^ x &&& (2 ^ x - 1) = 0 := by
  rw [Nat.and_two_pow_sub_one_eq_mod]; simp
theorem or_one (d : Nat) : d ||| 1 = if d % 2 = 0 then d + 1 else d := by
  have h2 : (d ||| 1) / 2 = d / 2 := by rw [Nat.or_div_two]; simp
  have h1 : (d ||| 1) % 2 = 1 := by
    have h := Nat.or_mod_two_pow (a := d) (b := 1) (n := 1)
    rw [show 2 ^ 1 = 2 from rfl] at h
    rw [h]
    rcases Nat.mod_two_eq_zero_or_one d with e | e <;> rw [e] <;> rfl
  split <;> omega
def M : Int := 18446744073709551616
theorem wrapM (n : Int) : IntKind.u64.wrap n = n % M := IntKind.wrap_u64 n
theorem M_rng (n : Int) : 0 ≤ n % M ∧ n % M < M := by unfold M; omega
theorem M_add (a p d : Int) : ((a + p) % M + d) % M = (a + (p + d)) % M := by unfold M; omega
theorem M_add2 (a p : Int) : (a + p % M) % M = (a + p) % M := by unfold M; omega
theorem M_small (i : Int) (h0 : 0 ≤ i) (h1 : i ≤ 9223372036854775807) : i % M = i := by unfold M; omega
theorem next_i (i : Int) (h0 : 0 ≤ i) (h1 : i ≤ 64) : wrap64 (i + 1) = i + 1 := by unfold wrap64; omega
/-- place number i -/
def pl (a d b i : Int) : Int := ((a + i * d) % M) % b
theorem M_next (a d i : Int) : ((a + i * d) % M + d) % M = (a + (i + 1) * d) % M := by
  rw [M_add, Int.add_mul, Int.one_mul]
theorem and_pow (A : Int) (x : Nat) (h0 : 0 ≤ A) (h1 : A < M) (hx : x ≤ 30) : Go.bits .and .u64 A ((2 ^ x : Nat) - 1 : Int) = A % ((2 ^ x : Nat) : Int) := by
  have hp : 0 < 2 ^ x := Nat.two_pow_pos x
  have hq : 2 ^ x ≤ 2 ^ 30 := Nat.pow_le_pow_right (by decide) hx
  have e : ((2 ^ x : Nat) - 1 : Int) = ((2 ^ x - 1 : Nat) : Int) := by omega
  have h2 : A.toNat < 18446744073709551616 := by unfold M at h1; omega
  have h3 := u64_and_nat A.toNat (2 ^ x - 1) h2 (by omega)
  rw [e, show (A : Int) = (A.toNat : Int) from by omega, h3, Nat.and_two_pow_sub_one_eq_mod]
  exact Int.natCast_emod _ _
theorem pl_rng (a d : Int) (x : Nat) (i : Int) : 0 ≤ pl a d (2 ^ x : Nat) i ∧ pl a d (2 ^ x : Nat) i < (2 ^ x : Nat) := by
  unfold pl
  have hp : (0 : Int) < (2 ^ x : Nat) := by have := Nat.two_pow_pos x; omega
  exact ⟨Int.emod_nonneg _ (by omega), Int.emod_lt_of_pos _ hp⟩
theorem wrap_pl (a d : Int) (x : Nat) (i : Int) (hx : x ≤ 30) : wrap64 (pl a d (2 ^ x : Nat) i) = pl a d (2 ^ x : Nat) i := by
  have h := pl_rng a d x i
  have hq : 2 ^ x ≤ 2 ^ 30 := Nat.pow_le_pow_right (by decide) hx
  generalize pl a d (2 ^ x : Nat) i = p at h ⊢
  have h2 : (2 ^ x : Nat) ≤ 1073741824 := hq
  unfold wrap64
  omega
theorem set_take {l : List Int} {i : Nat} (v : Int) (h : i < l.length) : (l.set i v).take (i + 1) = l.take i ++ [v] := by
  rw [List.take_succ_eq_append_getElem (by simpa using h)]
  congr 1
  · rw [List.take_set]
    apply List.set_eq_of_length_le
    simp only [List.length_take]; exact Nat.min_le_left _ _
  · simp
def pls (a d b : Int) (i n : Nat) : List Int := (List.range' i (n - i)).map fun (j : Nat) => pl a d b (j : Int)
theorem pls_cons (a d b : Int) (i n : Nat) (h : i < n) : pls a d b i n = pl a d b (i : Int) :: pls a d b (i + 1) n := by
  unfold pls
  rw [show n - i = (n - (i + 1)) + 1 from by omega, List.range'_succ]; rfl
theorem pls_nil (a d b : Int) (n : Nat) : pls a d b n n = [] := by simp [pls]
theorem prog_loop (a d : Int) (x n : Nat) (hx : x ≤ 30) (hn : n ≤ 64) (e : Nat) : ∀ (k i : Nat) (l : List Int), l.length = n → i ≤ n → n - i = e → e < k →
    check_Places.l0 k ((a + (i : Int) * d) % M) d ((2 ^ x : Nat) - 1 : Int) l (n : Int) (i : Int) = some (l.take i ++ pls a d (2 ^ x : Nat) i n, 0) := by
  induction e with
  | zero =>
    intro k i l hl hi he hk
    obtain ⟨k, rfl⟩ : ∃ m, k = m + 1 := ⟨k - 1, by omega⟩
    obtain rfl : i = n := by omega
    simp only [check_Places.l0]
    rw [if_neg (by omega), pls_nil, List.append_nil, ← hl, List.take_length]
  | succ e ih =>
    intro k i l hl hi he hk
    obtain ⟨k, rfl⟩ : ∃ m, k = m + 1 := ⟨k - 1, by omega⟩
    simp only [check_Places.l0]
    rw [if_pos (by omega), if_pos (by omega), if_pos (by omega), wrapM, M_next, next_i _ (by omega) (by omega), Int.toNat_natCast,
      and_pow _ x (M_rng _).1 (M_rng _).2 hx]
    have hw := wrap_pl a d x (i : Int) hx
    unfold pl at hw
    rw [hw, show ((i : Int) + 1) = ((i + 1 : Nat) : Int) from by omega, ih k (i + 1) _ (by simpa using hl) (by omega) (by omega) (by omega), set_take _ (by omega), pls_cons a d _ i n (by omega)]
    simp [pl]
theorem prog_start (a d : Int) (x n : Nat) (hx : x ≤ 30) (hn : n ≤ 64) (a0 : 0 ≤ a) (a1 : a ≤ 9223372036854775807) (k : Nat) (hk : n < k) :
    check_Places.l0 k a d ((2 ^ x : Nat) - 1 : Int) (List.replicate n 0) (n : Int) 0 = some (pls a d (2 ^ x : Nat) 0 n, 0) := by
  have h := prog_loop a d x n hx hn n k 0 (List.replicate n 0) (by simp) (by omega) (by omega) hk
  have e : (a + ((0 : Nat) : Int) * d) % M = a := by
    rw [show (a + ((0 : Nat) : Int) * d) = a from by simp]; exact M_small a a0 a1
  rw [e] at h
  simpa using h
theorem low32 (A : Int) (h0 : 0 ≤ A) (h1 : A < M) : Go.bits .and .u64 A 4294967295 = A % 4294967296 := by
  have h2 : A.toNat < 18446744073709551616 := by unfold M at h1; omega
  have h3 := u64_and_nat A.toNat 4294967295 h2 (by omega)
  have h4 : A.toNat &&& 4294967295 = A.toNat % 2 ^ 32 := Nat.and_two_pow_sub_one_eq_mod A.toNat 32
  rw [h4] at h3
  obtain ⟨c, rfl⟩ := Int.eq_ofNat_of_zero_le h0
  exact h3
/-- the upper half, made odd -/
def odd (h : Int) : Int := if h / 4294967296 % 2 = 0 then h / 4294967296 + 1 else h / 4294967296
theorem odd_rng (h : Int) (h0 : 0 ≤ h) (h1 : h < M) : 0 ≤ odd h ∧ odd h ≤ 4294967296 ∧ odd h % 2 = 1 := by
  unfold odd; unfold M at h1; split <;> omega
theorem or_odd (h : Int) (h0 : 0 ≤ h) (h1 : h < M) : Go.bits .or .u64 (h / 4294967296) 1 = odd h := by
  have h2 : h.toNat / 4294967296 < 18446744073709551616 := by unfold M at h1; omega
  have h3 := u64_or_nat (h.toNat / 4294967296) 1 h2 (by omega)
  have e : (h / 4294967296 : Int) = ((h.toNat / 4294967296 : Nat) : Int) := by omega
  rw [e]
  refine Eq.trans h3 ?_
  rw [or_one]
  unfold odd
  rw [e]
  split <;> split <;> omega
def good (b n : Int) : Prop := (∃ x : Nat, x ≤ 30 ∧ b = (2 ^ x : Nat)) ∧ 0 ≤ n ∧ n ≤ 64
theorem pow_le (x : Nat) (h : 2 ^ x ≤ 1073741824) : x ≤ 30 := by
  rcases Nat.lt_or_ge 30 x with g | g
  · have := Nat.pow_lt_pow_right (a := 2) (by decide) g
    have e : 2 ^ 30 = 1073741824 := rfl
    omega
  · exact g
theorem and_nat (c : Nat) (h1 : 1 ≤ c) (h2 : c ≤ 1073741824) : Go.bits .and .i64 (c : Int) (wrap64 ((c : Int) - 1)) = ((c &&& (c - 1) : Nat) : Int) := by
  have hw : wrap64 ((c : Int) - 1) = ((c - 1 : Nat) : Int) := by unfold wrap64; omega
  have hx : c &&& (c - 1) < 2 ^ 63 := Nat.and_lt_two_pow _ (by omega)
  have oi : ∀ a : Nat, a < 9223372036854775808 → (BitVec.ofInt 64 (a : Int)).toNat = a := by
    intro a ha
    rw [BitVec.ofInt_natCast, BitVec.toNat_ofNat]; exact Nat.mod_eq_of_lt (by omega)
  rw [hw]
  show IntKind.i64.wrap ((BitVec.ofInt 64 (c : Int) &&& BitVec.ofInt 64 ((c - 1 : Nat) : Int)).toNat : Int) = _
  rw [BitVec.toNat_and, oi _ (by omega), oi _ (by omega), IntKind.wrap_i64]
  omega
theorem and_test (b : Int) (h1 : 1 ≤ b) (h2 : b ≤ 1073741824) : (Go.bits .and .i64 b (wrap64 (b - 1)) = 0) ↔ ∃ x : Nat, x ≤ 30 ∧ b = (2 ^ x : Nat) := by
  obtain ⟨c, rfl⟩ := Int.eq_ofNat_of_zero_le (show 0 ≤ b by omega)
  rw [and_nat c (by omega) (by omega)]
  constructor
  · intro h
    obtain ⟨x, hx⟩ := and_pred c (by omega) (by omega)
    exact ⟨x, pow_le x (by omega), by omega⟩
  · rintro ⟨x, _, hx⟩
    have e : c = 2 ^ x := by omega
    rw [e, pow_pred]; rfl
theorem prog_places (h b n : Int) (h0 : 0 ≤ h) (h1 : h < M) (k : Nat) (hk : 66 ≤ k) :
    (good b n → check_Places.f k h b n = some (pls (h % 4294967296) (odd h) b 0 n.toNat, 0)) ∧ (¬ good b n → check_Places.f k h b n = some ([], 2)) := by
  obtain ⟨k, rfl⟩ : ∃ m, k = m + 1 := ⟨k - 1, by omega⟩
  constructor
  · rintro ⟨⟨x, hx, rfl⟩, n0, n1⟩
    have hp : 1 ≤ 2 ^ x := Nat.one_le_two_pow
    have hq : 2 ^ x ≤ 1073741824 := Nat.pow_le_pow_right (by decide) hx
    unfold check_Places.f
    rw [if_neg (by omega), if_neg (by omega), if_pos ((and_test _ (by omega) (by omega)).2 ⟨x, hx, rfl⟩), if_neg (by omega)]
    simp only [check_Places.j0]
    rw [if_neg (by simp; omega), if_pos n0, if_pos (by omega)]
    simp only [Option.bind_some, List.length_replicate]
    rw [low32 h h0 h1, or_odd h h0 h1, show IntKind.u64.wrap (wrap64 (((2 ^ x : Nat) : Int) - 1)) = ((2 ^ x : Nat) : Int) - 1 from by
      rw [show wrap64 (((2 ^ x : Nat) : Int) - 1) = ((2 ^ x : Nat) : Int) - 1 from by unfold wrap64; omega, wrapM]; exact M_small _ (by omega) (by omega)]
    exact prog_start _ _ x n.toNat hx (by omega) (by omega) (by omega) k (by omega)
  · intro hg
    have hj : check_Places.j0 (k + 1) h b n true = some ([], 2) := by simp [check_Places.j0]
    unfold check_Places.f
    by_cases c1 : b < 1
    · rw [if_pos c1]; exact hj
    · rw [if_neg c1]
      by_cases c2 : b > 1073741824
      · rw [if_pos c2]; exact hj
      · rw [if_neg c2]
        by_cases c3 : Go.bits .and .i64 b (wrap64 (b - 1)) = 0
        · rw [if_pos c3]
          have hx := (and_test b (by omega) (by omega)).1 c3
          by_cases c4 : n < 0
          · rw [if_pos c4]; exact hj
          · rw [if_neg c4, show decide (n > 64) = true from by
              apply decide_eq_true
              rcases Int.lt_or_le 64 n with g | g
              · exact g
              · exact absurd ⟨hx, by omega, g⟩ hg]
            exact hj
        · rw [if_neg c3]; exact hj
theorem shl_pow (x : Nat) (hx : x ≤ 30) : shl .i64 1 (IntKind.u64.wrap (x : Int)) = ((2 ^ x : Nat) : Int) := by
  have hw : IntKind.u64.wrap (x : Int) = (x : Int) := by rw [wrapM]; exact M_small _ (by omega) (by omega)
  rw [hw, ← shl_small (k := .i64) (x := 1) (y := (x : Int)) rfl (by simp [IntKind.bits]; omega), Int.toNat_natCast, Int.one_mul, IntKind.wrap_i64]
  have hq : 2 ^ x ≤ 2 ^ 30 := Nat.pow_le_pow_right (by decide) hx
  have e : ((2 : Int) ^ x) = ((2 ^ x : Nat) : Int) := by simp
  have hp : 0 < 2 ^ x := Nat.two_pow_pos x
  have h2 : 2 ^ x ≤ 1073741824 := hq
  rw [e]
  generalize 2 ^ x = y at hp h2 ⊢
  omega
theorem place_rng (a n : Int) (h1 : 1 ≤ n) (h2 : n ≤ 1000) : ∃ r, colonnadelaw06_place.f a n = some r ∧ 0 ≤ r ∧ r < n := by
  unfold colonnadelaw06_place.f
  rw [if_neg (by omega), if_neg (by omega)]
  have ht : -n < Int.tmod a n ∧ Int.tmod a n < n := by
    constructor
    · rcases Int.le_total 0 a with g | g
      · have := Int.tmod_nonneg n g; omega
      · have e := Int.neg_tmod (a := a) (b := n)
        have := Int.tmod_lt_of_pos (-a) (show 0 < n by omega)
        omega
    · exact Int.tmod_lt_of_pos a (by omega)
  have hw : wrap64 (Int.tmod a n + n) = Int.tmod a n + n := by unfold wrap64; omega
  rw [hw]
  exact ⟨_, rfl, Int.tmod_nonneg n (by omega), Int.tmod_lt_of_pos _ (by omega)⟩
theorem dvd_odd (x : Nat) : ∀ n d : Nat, d % 2 = 1 → (2 ^ x ∣ n * d ↔ 2 ^ x ∣ n) := by
  intro n d hd
  have hc : Nat.Coprime (2 ^ x) d := by
    apply Nat.Coprime.pow_left
    have : Nat.gcd 2 d = 1 := by rw [Nat.gcd_rec, hd]; rfl
    exact this
  constructor
  · intro h; exact hc.dvd_of_dvd_mul_right h
  · intro h; exact Nat.dvd_trans h (Nat.dvd_mul_right n d)
theorem pl_mod (a d : Int) (x : Nat) (i : Int) (hx : x ≤ 30) : pl a d (2 ^ x : Nat) i = (a + i * d) % ((2 ^ x : Nat) : Int) := by
  unfold pl
  apply Int.emod_emod_of_dvd
  have h : (2 ^ x : Nat) ∣ 2 ^ 64 := Nat.pow_dvd_pow 2 (by omega)
  have h2 : ((2 ^ x : Nat) : Int) ∣ ((2 ^ 64 : Nat) : Int) := Int.natCast_dvd_natCast.2 h
  exact h2
theorem spread (a d : Int) (x : Nat) (hx : x ≤ 30) (d0 : 0 ≤ d) (dd : d % 2 = 1) (i j : Nat) (hij : j < i) :
    (pl a d (2 ^ x : Nat) (j : Int) = pl a d (2 ^ x : Nat) (i : Int)) ↔ ((i : Int) - (j : Int)) % ((2 ^ x : Nat) : Int) = 0 := by
  rw [pl_mod a d x _ hx, pl_mod a d x _ hx]
  obtain ⟨D, rfl⟩ := Int.eq_ofNat_of_zero_le d0
  have e : (i : Int) - (j : Int) = ((i - j : Nat) : Int) := by omega
  have e2 : a + (i : Int) * (D : Int) - (a + (j : Int) * (D : Int)) = (((i - j) * D : Nat) : Int) := by
    rw [show a + (i : Int) * (D : Int) - (a + (j : Int) * (D : Int)) = ((i : Int) - (j : Int)) * (D : Int) from by rw [Int.sub_mul]; omega, e]
    simp
  have h := dvd_odd x (i - j) D (by omega)
  rw [eq_comm, Int.emod_eq_emod_iff_emod_sub_eq_zero, e2, e, ← Int.dvd_iff_emod_eq_zero, ← Int.dvd_iff_emod_eq_zero, Int.natCast_dvd_natCast, Int.natCast_dvd_natCast]
  exact h
theorem pls_len (a d b : Int) (n : Nat) : (pls a d b 0 n).length = n := by simp [pls]
theorem pls_rd (a d b : Int) (n : Nat) (i : Nat) (h : i < n) : rd (pls a d b 0 n) (i : Int) = pl a d b (i : Int) := by
  unfold rd
  rw [Int.toNat_natCast, List.getD_eq_getElem?_getD, List.getElem?_eq_getElem (by rw [pls_len]; exact h)]
  simp [pls]
section
variable (a d : Int) (x n : Nat) (hx : x ≤ 30) (d0 : 0 ≤ d) (dd : d % 2 = 1)
include hx d0 dd
theorem inner (i : Nat) (hi : i < 64) (K : Nat) (e : Nat) : ∀ (j : Nat), j ≤ i → i - j = e →
    colonnadelaw06_CheckSpreads.l1 (e + (K + 1)) (n : Int) ((2 ^ x : Nat) : Int) (pls a d (2 ^ x : Nat) 0 n) (pls a d (2 ^ x : Nat) 0 64) (i : Int) (j : Int)
      = colonnadelaw06_CheckSpreads.l0 K (n : Int) ((2 ^ x : Nat) : Int) (pls a d (2 ^ x : Nat) 0 n) (pls a d (2 ^ x : Nat) 0 64) ((i + 1 : Nat) : Int) := by
  have hp : 0 < 2 ^ x := Nat.two_pow_pos x
  induction e with
  | zero =>
    intro j hj he
    rw [Nat.zero_add]
    simp only [colonnadelaw06_CheckSpreads.l1]
    rw [if_neg (by omega), next_i _ (by omega) (by omega), show ((i : Int) + 1) = ((i + 1 : Nat) : Int) from by omega]
  | succ e ih =>
    intro j hj he
    rw [show e + 1 + (K + 1) = (e + (K + 1)) + 1 from by omega]
    have ih := ih (j + 1) (by omega) (by omega)
    generalize e + (K + 1) = F at ih ⊢
    simp only [colonnadelaw06_CheckSpreads.l1]
    have hl : ((pls a d (2 ^ x : Nat) 0 64).length : Int) = 64 := by rw [pls_len]; rfl
    have hs := spread a d x hx d0 dd i j (by omega)
    have hw : wrap64 ((i : Int) - (j : Int)) = (i : Int) - (j : Int) := by unfold wrap64; omega
    have ht : Int.tmod ((i : Int) - (j : Int)) ((2 ^ x : Nat) : Int) = ((i : Int) - (j : Int)) % ((2 ^ x : Nat) : Int) := Int.tmod_eq_emod_of_nonneg (by omega)
    rw [hl, if_pos (by omega), if_pos (by omega), if_pos (by omega), if_pos (by omega), if_pos (by omega), if_neg (by omega), pls_rd _ _ _ _ _ (by omega), pls_rd _ _ _ _ _ hi, hw, ht]
    have hb : (((pl a d (2 ^ x : Nat) (j : Int) == pl a d (2 ^ x : Nat) (i : Int)) != ((((i : Int) - (j : Int)) % ((2 ^ x : Nat) : Int)) == 0)) = true) = False := by
      by_cases c : pl a d (2 ^ x : Nat) (j : Int) = pl a d (2 ^ x : Nat) (i : Int)
      · rw [beq_iff_eq.2 c, beq_iff_eq.2 (hs.1 c)]; simp
      · rw [beq_eq_false_iff_ne.2 c, beq_eq_false_iff_ne.2 (fun h => c (hs.2 h))]; simp
    rw [if_neg (by rw [hb]; exact id), next_i _ (by omega) (by omega), show ((j : Int) + 1) = ((j + 1 : Nat) : Int) from by omega]
    exact ih
theorem outer (e : Nat) : ∀ (k i : Nat), i ≤ 64 → 64 - i = e → 70 * (e + 1) ≤ k →
    colonnadelaw06_CheckSpreads.l0 k (n : Int) ((2 ^ x : Nat) : Int) (pls a d (2 ^ x : Nat) 0 n) (pls a d (2 ^ x : Nat) 0 64) (i : Int) = some true := by
  induction e with
  | zero =>
    intro k i hi he hk
    obtain ⟨k, rfl⟩ : ∃ m, k = m + 1 := ⟨k - 1, by omega⟩
    simp only [colonnadelaw06_CheckSpreads.l0]
    rw [if_neg (by omega)]
  | succ e ih =>
    intro k i hi he hk
    obtain ⟨q, rfl⟩ : ∃ q, k = (i + (q + 1)) + 2 := ⟨k - i - 3, by omega⟩
    have hin := inner a d x n hx d0 dd i (by omega) q i 0 (by omega) (by omega)
    rw [ih q (i + 1) (by omega) (by omega) (by omega)] at hin
    generalize i + (q + 1) = F at hin ⊢
    have hl : ((pls a d (2 ^ x : Nat) 0 64).length : Int) = 64 := by rw [pls_len]; rfl
    have hr := pl_rng a d x (i : Int)
    have hj : colonnadelaw06_CheckSpreads.j2 (F + 1) (n : Int) ((2 ^ x : Nat) : Int) (pls a d (2 ^ x : Nat) 0 n) (pls a d (2 ^ x : Nat) 0 64) (i : Int) false = some true := by
      simp only [colonnadelaw06_CheckSpreads.j2]
      rw [if_neg (by decide)]
      exact hin
    have h0 : colonnadelaw06_CheckSpreads.l0 (F + 1 + 1) (n : Int) ((2 ^ x : Nat) : Int) (pls a d (2 ^ x : Nat) 0 n) (pls a d (2 ^ x : Nat) 0 64) (i : Int) = colonnadelaw06_CheckSpreads.j2 (F + 1) (n : Int) ((2 ^ x : Nat) : Int) (pls a d (2 ^ x : Nat) 0 n) (pls a d (2 ^ x : Nat) 0 64) (i : Int) false := by
      generalize F + 1 = G
      simp only [colonnadelaw06_CheckSpreads.l0]
      rw [hl, if_pos (by omega), if_pos (by omega), if_pos (by omega), pls_rd _ _ _ _ _ (by omega), if_neg (by omega), if_neg (by omega)]
      by_cases c : (i : Int) < (n : Int)
      · rw [if_pos c, pls_len, if_pos c, pls_rd _ _ _ _ _ (by omega)]
        rw [show (pl a d (2 ^ x : Nat) (i : Int) != pl a d (2 ^ x : Nat) (i : Int)) = false from by simp]
      · rw [if_neg c]
    rw [show F + 2 = F + 1 + 1 from rfl, h0, hj]
end
theorem law_of (k : Nat) (h u v b n : Int) (x : Int) (l m : List Int) (hk1 : colonnadelaw06_place.f u 31 = some x) (hk2 : colonnadelaw06_place.f v 65 = some n) (hx : 0 ≤ IntKind.u64.wrap x) (hb : shl .i64 1 (IntKind.u64.wrap x) = b)
    (h1 : check_Places.f k h b n = some (l, 0)) (h2 : check_Places.f k h b 64 = some (m, 0)) (hl : (l.length : Int) = n) (hm : (m.length : Int) = 64)
    (hk : 1 ≤ k) (hr : colonnadelaw06_CheckSpreads.l0 (k - 1) n b l m 0 = some true) : colonnadelaw06_CheckSpreads.f k h u v = some true := by
  unfold colonnadelaw06_CheckSpreads.f colonnadelaw06_known.f
  rw [Option.bind_some, if_pos rfl, hk1, Option.bind_some, if_pos hx, hk2, Option.bind_some, hb, h1, Option.bind_some, h2, Option.bind_some, if_pos rfl, if_pos rfl, if_pos hl, hm]
  obtain ⟨k, rfl⟩ : ∃ q, k = q + 1 := ⟨k - 1, by omega⟩
  simp only [colonnadelaw06_CheckSpreads.j0]
  rw [if_neg (by decide)]
  exact hr
end CheckSpreadsP
open CheckSpreadsP
theorem CheckSpreads : colonnadelaw06_CheckSpreads.Pure := by
  intro h u v hh _ _
  have hb := bounds_u64 hh
  have h1 : h < M := by unfold M; omega
  obtain ⟨X, hX, x0, x1⟩ := place_rng u 31 (by omega) (by omega)
  obtain ⟨n, hn, n0, n1⟩ := place_rng v 65 (by omega) (by omega)
  obtain ⟨x, rfl⟩ := Int.eq_ofNat_of_zero_le x0
  obtain ⟨n, rfl⟩ := Int.eq_ofNat_of_zero_le n0
  have hs := shl_pow x (by omega)
  have g1 : good ((2 ^ x : Nat) : Int) (n : Int) := ⟨⟨x, by omega, rfl⟩, by omega, by omega⟩
  have g2 : good ((2 ^ x : Nat) : Int) 64 := ⟨⟨x, by omega, rfl⟩, by omega, by omega⟩
  have ho := odd_rng h hb.1 h1
  refine ⟨5001, ?_⟩
  have p1 := (prog_places h _ (n : Int) hb.1 h1 5001 (by omega)).1 g1
  have p2 := (prog_places h _ 64 hb.1 h1 5001 (by omega)).1 g2
  rw [Int.toNat_natCast] at p1
  exact law_of 5001 h u v _ (n : Int) (x : Int) _ _ hX hn (by rw [wrapM]; exact (M_rng _).1) hs p1 p2 (by rw [pls_len]) (by rw [pls_len]; rfl) (by omega)
    (outer (h % 4294967296) (odd h) x n (by omega) ho.1 ho.2.2 64 5000 0 (by omega) (by omega) (by omega))
end Go.Proofs.Ytkepimkabfoapaa.Pure
