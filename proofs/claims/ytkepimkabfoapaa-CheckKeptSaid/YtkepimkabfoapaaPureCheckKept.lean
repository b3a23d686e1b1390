/- Sums, hashes and streams leave what is handed in as it was, the room behind it too; asked again over what was written over, they answer for what stands there then; and lists of places share nothing. No conditions. -/
import Derived.Test.YtkepimkabfoapaaPCheckKeptx2
import Derived.Laws.BitsAllLaws
import Derived.OpenShut
namespace Go.Proofs.Ytkepimkabfoapaa.Pure
open Go.RowKit Go.Proofs.Ytkepimkabfoapaa.PCheckKept Go.Proofs.YtkepimkabfoapaaW.PrintWords Go.Proofs.YtkepimkabfoapaaW.PrintLast
set_option linter.unusedVariables false
set_option linter.unusedSimpArgs false
def colonnadelaw06_CheckKept.PureX : Prop := ∀ (l0 : List Int) (l1 : List Int) (a2 : Int), (l0.length ≤ maxLen ∧ ∀ y_ ∈ l0, (Lit.int .u8 y_).wf = true) → (l1.length ≤ maxLen ∧ ∀ y_ ∈ l1, (Lit.int .u8 y_).wf = true) → (Lit.int .u64 a2).wf = true → l0.length * 1 ≤ 140737488351232 → l1.length * 1 ≤ 140737488351232 → ∃ k, colonnadelaw06_CheckKept.f k l0 l1 a2 = some true
namespace CheckKeptP
def hstep (h x : Int) : Int := IntKind.u64.wrap ((Go.bits .xor .u64 h (IntKind.u64.wrap x)) * 1099511628211)
theorem wrap_next {i : Int} {n : Nat} (h0 : 0 ≤ i) (h : i < (n : Int)) (hn : n ≤ 140737488355328) : wrap64 (i + 1) = i + 1 := by
  unfold wrap64; omega
theorem drop_rd {l : List Int} {i : Int} (h0 : 0 ≤ i) (h1 : i < (l.length : Int)) : l.drop i.toNat = rd l i :: l.drop (i + 1).toNat := by
  have h : i.toNat < l.length := by omega
  rw [List.drop_eq_getElem_cons h, show (i + 1).toNat = i.toNat + 1 from by omega]
  congr 1
  simp [rd, h]
theorem hash_loop (l : List Int) (hn : l.length ≤ 140737488355328) (d : Nat) : ∀ (k : Nat) (i h : Int), 0 ≤ i → i ≤ l.length → (l.length : Int) - i = d → d < k →
    check_Hash.l0 k h l (l.length : Int) i = some ((l.drop i.toNat).foldl hstep h) := by
  induction d with
  | zero =>
    intro k i h h0 h1 hd hk
    obtain ⟨k, rfl⟩ : ∃ m, k = m + 1 := ⟨k - 1, by omega⟩
    simp only [check_Hash.l0]
    rw [if_neg (by omega), List.drop_eq_nil_of_le (by omega)]; rfl
  | succ d ih =>
    intro k i h h0 h1 hd hk
    obtain ⟨k, rfl⟩ : ∃ m, k = m + 1 := ⟨k - 1, by omega⟩
    have hlt : i < (l.length : Int) := by omega
    simp only [check_Hash.l0]
    rw [if_pos hlt, if_pos h0, if_pos hlt, wrap_next h0 hlt hn, ih k (i + 1) _ (by omega) (by omega) (by omega) (by omega), drop_rd h0 hlt]; rfl
theorem and_pred (b : Nat) : 1 ≤ b → b &&& (b - 1) = 0 → ∃ x, b = 2 ^ x := by
  induction b using Nat.strongRecOn with
  | _ b ih =>
    intro h1 h
    rcases Nat.mod_two_eq_zero_or_one b with e | e
    · obtain ⟨c, rfl⟩ : ∃ c, b = 2 * c := ⟨b / 2, by omega⟩
      have hc : c &&& (c - 1) = 0 := by
        have := congrArg (· / 2) h
        simp only [Nat.and_div_two] at this
        rw [show 2 * c / 2 = c from by omega, show (2 * c - 1) / 2 = c - 1 from by omega] at this
        simpa using this
      obtain ⟨x, hx⟩ := ih c (by omega) (by omega) hc
      exact ⟨x + 1, by rw [hx, Nat.pow_succ]; omega⟩
    · by_cases h2 : b = 1
      · exact ⟨0, h2⟩
      · exfalso
        have := congrArg (· / 2) h
        simp only [Nat.and_div_two] at this
        rw [show (b - 1) / 2 = b / 2 from by omega, Nat.and_self] at this
        omega
theorem pow_pred (x : Nat) : 2 ^ x &&& (2 ^ x - 1) = 0 := by
  rw [Nat.and_two_pow_sub_one_eq_mod]; simp
theorem or_one (d : Nat) : d ||| 1 = if d % 2 = 0 then d + 1 else d := by
  have h2 : (d ||| 1) / 2 = d / 2 := by rw [Nat.or_div_two]; simp
  have h1 : (d ||| 1) % 2 = 1 := by
    have h := Nat.or_mod_two_pow (a := d) (b := 1) (n := 1)
    rw [show 2 ^ 1 = 2 from rfl] at h
    rw [h]
    rcases Nat.mod_two_eq_zero_or_one d with e | e <;> rw [e] <;> rfl
  split <;> omega
def M : Int := 18446744073709551616
theorem wrapM (n : Int) : IntKind.u64.wrap n = n % M := IntKind.wrap_u64 n
theorem M_rng (n : Int) : 0 ≤ n % M ∧ n % M < M := by unfold M; omega
theorem M_add (a p d : Int) : ((a + p) % M + d) % M = (a + (p + d)) % M := by unfold M; omega
theorem M_add2 (a p : Int) : (a + p % M) % M = (a + p) % M := by unfold M; omega
theorem M_small (i : Int) (h0 : 0 ≤ i) (h1 : i ≤ 9223372036854775807) : i % M = i := by unfold M; omega
theorem next_i (i : Int) (h0 : 0 ≤ i) (h1 : i ≤ 64) : wrap64 (i + 1) = i + 1 := by unfold wrap64; omega
/-- place number i -/
def pl (a d b i : Int) : Int := ((a + i * d) % M) % b
theorem M_next (a d i : Int) : ((a + i * d) % M + d) % M = (a + (i + 1) * d) % M := by
  rw [M_add, Int.add_mul, Int.one_mul]
theorem and_pow (A : Int) (x : Nat) (h0 : 0 ≤ A) (h1 : A < M) (hx : x ≤ 30) : Go.bits .and .u64 A ((2 ^ x : Nat) - 1 : Int) = A % ((2 ^ x : Nat) : Int) := by
  have hp : 0 < 2 ^ x := Nat.two_pow_pos x
  have hq : 2 ^ x ≤ 2 ^ 30 := Nat.pow_le_pow_right (by decide) hx
  have e : ((2 ^ x : Nat) - 1 : Int) = ((2 ^ x - 1 : Nat) : Int) := by omega
  have h2 : A.toNat < 18446744073709551616 := by unfold M at h1; omega
  have h3 := u64_and_nat A.toNat (2 ^ x - 1) h2 (by omega)
  rw [e, show (A : Int) = (A.toNat : Int) from by omega, h3, Nat.and_two_pow_sub_one_eq_mod]
  exact Int.natCast_emod _ _
theorem pl_rng (a d : Int) (x : Nat) (i : Int) : 0 ≤ pl a d (2 ^ x : Nat) i ∧ pl a d (2 ^ x : Nat) i < (2 ^ x : Nat) := by
  unfold pl
  have hp : (0 : Int) < (2 ^ x : Nat) := by have := Nat.two_pow_pos x; omega
  exact ⟨Int.emod_nonneg _ (by omega), Int.emod_lt_of_pos _ hp⟩
theorem wrap_pl (a d : Int) (x : Nat) (i : Int) (hx : x ≤ 30) : wrap64 (pl a d (2 ^ x : Nat) i) = pl a d (2 ^ x : Nat) i := by
  have h := pl_rng a d x i
  have hq : 2 ^ x ≤ 2 ^ 30 := Nat.pow_le_pow_right (by decide) hx
  generalize pl a d (2 ^ x : Nat) i = p at h ⊢
  have h2 : (2 ^ x : Nat) ≤ 1073741824 := hq
  unfold wrap64
  omega
theorem set_take {l : List Int} {i : Nat} (v : Int) (h : i < l.length) : (l.set i v).take (i + 1) = l.take i ++ [v] := by
  rw [List.take_succ_eq_append_getElem (by simpa using h)]
  congr 1
  · rw [List.take_set]
    apply List.set_eq_of_length_le
    simp only [List.length_take]; exact Nat.min_le_left _ _
  · simp
def pls (a d b : Int) (i n : Nat) : List Int := (List.range' i (n - i)).map fun (j : Nat) => pl a d b (j : Int)
theorem pls_cons (a d b : Int) (i n : Nat) (h : i < n) : pls a d b i n = pl a d b (i : Int) :: pls a d b (i + 1) n := by
  unfold pls
  rw [show n - i = (n - (i + 1)) + 1 from by omega, List.range'_succ]; rfl
theorem pls_nil (a d b : Int) (n : Nat) : pls a d b n n = [] := by simp [pls]
theorem prog_loop (a d : Int) (x n : Nat) (hx : x ≤ 30) (hn : n ≤ 64) (e : Nat) : ∀ (k i : Nat) (l : List Int), l.length = n → i ≤ n → n - i = e → e < k →
    check_Places.l0 k ((a + (i : Int) * d) % M) d ((2 ^ x : Nat) - 1 : Int) l (n : Int) (i : Int) = some (l.take i ++ pls a d (2 ^ x : Nat) i n, 0) := by
  induction e with
  | zero =>
    intro k i l hl hi he hk
    obtain ⟨k, rfl⟩ : ∃ m, k = m + 1 := ⟨k - 1, by omega⟩
    obtain rfl : i = n := by omega
    simp only [check_Places.l0]
    rw [if_neg (by omega), pls_nil, List.append_nil, ← hl, List.take_length]
  | succ e ih =>
    intro k i l hl hi he hk
    obtain ⟨k, rfl⟩ : ∃ m, k = m + 1 := ⟨k - 1, by omega⟩
    simp only [check_Places.l0]
    rw [if_pos (by omega), if_pos (by omega), if_pos (by omega), wrapM, M_next, next_i _ (by omega) (by omega), Int.toNat_natCast,
      and_pow _ x (M_rng _).1 (M_rng _).2 hx]
    have hw := wrap_pl a d x (i : Int) hx
    unfold pl at hw
    rw [hw, show ((i : Int) + 1) = ((i + 1 : Nat) : Int) from by omega, ih k (i + 1) _ (by simpa using hl) (by omega) (by omega) (by omega), set_take _ (by omega), pls_cons a d _ i n (by omega)]
    simp [pl]
theorem prog_start (a d : Int) (x n : Nat) (hx : x ≤ 30) (hn : n ≤ 64) (a0 : 0 ≤ a) (a1 : a ≤ 9223372036854775807) (k : Nat) (hk : n < k) :
    check_Places.l0 k a d ((2 ^ x : Nat) - 1 : Int) (List.replicate n 0) (n : Int) 0 = some (pls a d (2 ^ x : Nat) 0 n, 0) := by
  have h := prog_loop a d x n hx hn n k 0 (List.replicate n 0) (by simp) (by omega) (by omega) hk
  have e : (a + ((0 : Nat) : Int) * d) % M = a := by
    rw [show (a + ((0 : Nat) : Int) * d) = a from by simp]; exact M_small a a0 a1
  rw [e] at h
  simpa using h
theorem low32 (A : Int) (h0 : 0 ≤ A) (h1 : A < M) : Go.bits .and .u64 A 4294967295 = A % 4294967296 := by
  have h2 : A.toNat < 18446744073709551616 := by unfold M at h1; omega
  have h3 := u64_and_nat A.toNat 4294967295 h2 (by omega)
  have h4 : A.toNat &&& 4294967295 = A.toNat % 2 ^ 32 := Nat.and_two_pow_sub_one_eq_mod A.toNat 32
  rw [h4] at h3
  obtain ⟨c, rfl⟩ := Int.eq_ofNat_of_zero_le h0
  exact h3
/-- the upper half, made odd -/
def odd (h : Int) : Int := if h / 4294967296 % 2 = 0 then h / 4294967296 + 1 else h / 4294967296
theorem odd_rng (h : Int) (h0 : 0 ≤ h) (h1 : h < M) : 0 ≤ odd h ∧ odd h ≤ 4294967296 ∧ odd h % 2 = 1 := by
  unfold odd; unfold M at h1; split <;> omega
theorem or_odd (h : Int) (h0 : 0 ≤ h) (h1 : h < M) : Go.bits .or .u64 (h / 4294967296) 1 = odd h := by
  have h2 : h.toNat / 4294967296 < 18446744073709551616 := by unfold M at h1; omega
  have h3 := u64_or_nat (h.toNat / 4294967296) 1 h2 (by omega)
  have e : (h / 4294967296 : Int) = ((h.toNat / 4294967296 : Nat) : Int) := by omega
  rw [e]
  refine Eq.trans h3 ?_
  rw [or_one]
  unfold odd
  rw [e]
  split <;> split <;> omega
def good (b n : Int) : Prop := (∃ x : Nat, x ≤ 30 ∧ b = (2 ^ x : Nat)) ∧ 0 ≤ n ∧ n ≤ 64
theorem pow_le (x : Nat) (h : 2 ^ x ≤ 1073741824) : x ≤ 30 := by
  rcases Nat.lt_or_ge 30 x with g | g
  · have := Nat.pow_lt_pow_right (a := 2) (by decide) g
    have e : 2 ^ 30 = 1073741824 := rfl
    omega
  · exact g
theorem and_nat (c : Nat) (h1 : 1 ≤ c) (h2 : c ≤ 1073741824) : Go.bits .and .i64 (c : Int) (wrap64 ((c : Int) - 1)) = ((c &&& (c - 1) : Nat) : Int) := by
  have hw : wrap64 ((c : Int) - 1) = ((c - 1 : Nat) : Int) := by unfold wrap64; omega
  have hx : c &&& (c - 1) < 2 ^ 63 := Nat.and_lt_two_pow _ (by omega)
  have oi : ∀ a : Nat, a < 9223372036854775808 → (BitVec.ofInt 64 (a : Int)).toNat = a := by
    intro a ha
    rw [BitVec.ofInt_natCast, BitVec.toNat_ofNat]; exact Nat.mod_eq_of_lt (by omega)
  rw [hw]
  show IntKind.i64.wrap ((BitVec.ofInt 64 (c : Int) &&& BitVec.ofInt 64 ((c - 1 : Nat) : Int)).toNat : Int) = _
  rw [BitVec.toNat_and, oi _ (by omega), oi _ (by omega), IntKind.wrap_i64]
  omega
theorem and_test (b : Int) (h1 : 1 ≤ b) (h2 : b ≤ 1073741824) : (Go.bits .and .i64 b (wrap64 (b - 1)) = 0) ↔ ∃ x : Nat, x ≤ 30 ∧ b = (2 ^ x : Nat) := by
  obtain ⟨c, rfl⟩ := Int.eq_ofNat_of_zero_le (show 0 ≤ b by omega)
  rw [and_nat c (by omega) (by omega)]
  constructor
  · intro h
    obtain ⟨x, hx⟩ := and_pred c (by omega) (by omega)
    exact ⟨x, pow_le x (by omega), by omega⟩
  · rintro ⟨x, _, hx⟩
    have e : c = 2 ^ x := by omega
    rw [e, pow_pred]; rfl
theorem prog_places (h b n : Int) (h0 : 0 ≤ h) (h1 : h < M) (k : Nat) (hk : 66 ≤ k) :
    (good b n → check_Places.f k h b n = some (pls (h % 4294967296) (odd h) b 0 n.toNat, 0)) ∧ (¬ good b n → check_Places.f k h b n = some ([], 2)) := by
  obtain ⟨k, rfl⟩ : ∃ m, k = m + 1 := ⟨k - 1, by omega⟩
  constructor
  · rintro ⟨⟨x, hx, rfl⟩, n0, n1⟩
    have hp : 1 ≤ 2 ^ x := Nat.one_le_two_pow
    have hq : 2 ^ x ≤ 1073741824 := Nat.pow_le_pow_right (by decide) hx
    unfold check_Places.f
    rw [if_neg (by omega), if_neg (by omega), if_pos ((and_test _ (by omega) (by omega)).2 ⟨x, hx, rfl⟩), if_neg (by omega)]
    simp only [check_Places.j0]
    rw [if_neg (by simp; omega), if_pos n0, if_pos (by omega)]
    simp only [Option.bind_some, List.length_replicate]
    rw [low32 h h0 h1, or_odd h h0 h1, show IntKind.u64.wrap (wrap64 (((2 ^ x : Nat) : Int) - 1)) = ((2 ^ x : Nat) : Int) - 1 from by
      rw [show wrap64 (((2 ^ x : Nat) : Int) - 1) = ((2 ^ x : Nat) : Int) - 1 from by unfold wrap64; omega, wrapM]; exact M_small _ (by omega) (by omega)]
    exact prog_start _ _ x n.toNat hx (by omega) (by omega) (by omega) k (by omega)
  · intro hg
    have hj : check_Places.j0 (k + 1) h b n true = some ([], 2) := by simp [check_Places.j0]
    unfold check_Places.f
    by_cases c1 : b < 1
    · rw [if_pos c1]; exact hj
    · rw [if_neg c1]
      by_cases c2 : b > 1073741824
      · rw [if_pos c2]; exact hj
      · rw [if_neg c2]
        by_cases c3 : Go.bits .and .i64 b (wrap64 (b - 1)) = 0
        · rw [if_pos c3]
          have hx := (and_test b (by omega) (by omega)).1 c3
          by_cases c4 : n < 0
          · rw [if_pos c4]; exact hj
          · rw [if_neg c4, show decide (n > 64) = true from by
              apply decide_eq_true
              rcases Int.lt_or_le 64 n with g | g
              · exact g
              · exact absurd ⟨hx, by omega, g⟩ hg]
            exact hj
        · rw [if_neg c3]; exact hj
theorem hash_f (l : List Int) (hn : l.length ≤ 140737488355328) (k : Nat) (hk : l.length < k) : check_Hash.f k l = some (l.foldl hstep 14695981039346656037) := by
  unfold check_Hash.f
  rw [hash_loop l hn l.length k 0 _ (by omega) (by omega) (by omega) hk]; rfl
theorem pls_len (a d b : Int) (n : Nat) : (pls a d b 0 n).length = n := by simp [pls]
theorem apart_f (h : Int) (h0 : 0 ≤ h) (h1 : h < M) : colonnadelaw06_apart.f h = some true := by
  have hg : good 64 5 := ⟨⟨6, by decide, rfl⟩, by decide, by decide⟩
  have h2 : 0 ≤ IntKind.u64.wrap (h + 1) ∧ IntKind.u64.wrap (h + 1) < M := by rw [wrapM]; exact M_rng _
  have e1 := (prog_places h 64 5 h0 h1 70 (by decide)).1 hg
  have e2 := (prog_places _ 64 5 h2.1 h2.2 70 (by decide)).1 hg
  unfold colonnadelaw06_apart.f
  rw [e1, e2]
  show (if _ then _ else _) = _
  rw [if_pos ⟨pls_len _ _ _ _, pls_len _ _ _ _, rfl, rfl⟩]
end CheckKeptP
open CheckKeptP
theorem CheckKept : colonnadelaw06_CheckKept.PureX := by
  intro l0 l1 a2 h0 h1 h2 h3 h4
  have r0 : ∀ x ∈ l0, 0 ≤ x ∧ x < 256 := fun x hx => by have := bounds_u8 (h0.2 x hx); omega
  have r1 : ∀ x ∈ l1, 0 ≤ x ∧ x < 256 := fun x hx => by have := bounds_u8 (h1.2 x hx); omega
  have r2 := bounds_u64 h2
  refine ⟨min l0.length l1.length + 1, ?_⟩
  unfold colonnadelaw06_CheckKept.f
  rw [if_pos]
  refine ⟨⟨_, hash_f _ (by rw [List.length_take]; omega) _ (by rw [List.length_take]; omega)⟩, ⟨_, hash_f _ (by rw [List.length_take]; omega) _ (by rw [List.length_take]; omega)⟩, apart_f a2 (by omega) (by unfold M; omega), r0, r1, by omega, by omega⟩
end Go.Proofs.Ytkepimkabfoapaa.Pure
