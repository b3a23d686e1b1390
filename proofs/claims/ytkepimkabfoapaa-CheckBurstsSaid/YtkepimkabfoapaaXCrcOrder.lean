/- Two turned bits fewer than 2^32 - 1 apart are told: the register, from 1 on, comes back to 1 behind 2^32 - 1 steps and not before. The powers of the step are computed as matrices of bits, by squaring. -/
import Derived.Test.YtkepimkabfoapaaXCrcMath
namespace Go.Proofs.Ytkepimkabfoapaa.XCrc
def app : List (BitVec 32) → BitVec 32 → BitVec 32
  | [], _ => 0#32
  | m :: ms, w => (if w.getLsbD 0 = true then m else 0#32) ^^^ app ms (w >>> 1)
theorem x4 (a b c d : BitVec 32) : a ^^^ b ^^^ (c ^^^ d) = a ^^^ c ^^^ (b ^^^ d) := by
  rw [BitVec.xor_assoc, BitVec.xor_assoc, xlc b c d]
theorem app_xor (M : List (BitVec 32)) : ∀ a b, app M (a ^^^ b) = app M a ^^^ app M b := by
  induction M with
  | nil => intro a b; simp [app]
  | cons m M ih =>
    intro a b
    simp only [app]
    rw [shr_xor, ih, BitVec.getLsbD_xor, x4]
    congr 1
    cases a.getLsbD 0 <;> cases b.getLsbD 0 <;> simp
theorem app_zero (M : List (BitVec 32)) : app M 0#32 = 0#32 := by
  induction M with
  | nil => rfl
  | cons m M ih => simp only [app]; rw [show (0#32 : BitVec 32) >>> 1 = 0#32 from by decide, ih]; simp
/-- the images of the single bits from k on -/
def images (f : BitVec 32 → BitVec 32) : Nat → Nat → List (BitVec 32)
  | 0, _ => []
  | n + 1, k => f (1#32 <<< k) :: images f n (k + 1)
theorem app_images (f : BitVec 32 → BitVec 32) (hx : ∀ a b, f (a ^^^ b) = f a ^^^ f b) (h0 : f 0#32 = 0#32) (n : Nat) : ∀ (k : Nat) (w : BitVec 32), (∀ i, n ≤ i → w.getLsbD i = false) → app (images f n k) w = f (w <<< k) := by
  induction n with
  | zero =>
    intro k w h
    have : w = 0#32 := by
      apply BitVec.eq_of_getLsbD_eq; intro i _; rw [h i (by omega)]; simp
    subst this
    rw [BitVec.zero_shiftLeft, h0]; rfl
  | succ n ih =>
    intro k w h
    simp only [images, app]
    rw [ih (k + 1) (w >>> 1) (fun i hi => by rw [BitVec.getLsbD_ushiftRight]; exact h _ (by omega))]
    have e : w <<< k = (if w.getLsbD 0 = true then 1#32 <<< k else 0#32) ^^^ ((w >>> 1) <<< (k + 1)) := by
      conv => lhs; rw [low_split w]
      rw [BitVec.shiftLeft_xor_distrib, ← BitVec.shiftLeft_add, Nat.add_comm 1 k]
      congr 1
      split <;> simp
    rw [e, hx]
    congr 1
    split
    · rfl
    · exact h0.symm
def rep (M : List (BitVec 32)) (n : Nat) : Prop := ∀ w, app M w = stepN n w
theorem rep_one : rep (images stepB 32 0) 1 := by
  intro w
  rw [app_images stepB stepB_xor stepB_zero 32 0 w (fun i hi => BitVec.getLsbD_of_ge _ _ hi)]
  simp [stepN]
theorem app_map (M : List (BitVec 32)) : ∀ (L : List (BitVec 32)) w, app (L.map (app M)) w = app M (app L w)
  | [], w => by simp only [List.map_nil, app]; exact (app_zero M).symm
  | m :: L, w => by
    simp only [List.map_cons, app]
    rw [app_map M L, app_xor]
    congr 1
    split
    · rfl
    · exact (app_zero M).symm
theorem rep_mul {M L : List (BitVec 32)} {m n : Nat} (hM : rep M m) (hL : rep L n) : rep (L.map (app M)) (n + m) := by
  intro w
  rw [app_map, hL w, hM, ← stepN_add]
def sq : Nat → List (BitVec 32) → List (BitVec 32)
  | 0, M => M
  | k + 1, M => sq k (M.map (app M))
/-- the power of a number whose bits are given, the lowest first -/
def powB : List Bool → List (BitVec 32) → BitVec 32 → BitVec 32
  | [], _, w => w
  | b :: l, M, w => powB l (M.map (app M)) (if b = true then app M w else w)
def val : List Bool → Nat
  | [] => 0
  | b :: l => (if b = true then 1 else 0) + 2 * val l
theorem powB_eq (l : List Bool) : ∀ (M : List (BitVec 32)) (n : Nat) (w : BitVec 32), rep M n → powB l M w = stepN (val l * n) w := by
  induction l with
  | nil => intro M n w _; simp [powB, val, stepN]
  | cons b l ih =>
    intro M n w h
    simp only [powB, val]
    rw [ih _ (n + n) _ (rep_mul h h)]
    cases b
    · simp only [Bool.false_eq_true, if_false]
      congr 1
      rw [Nat.zero_add, Nat.mul_comm 2, Nat.mul_assoc]; congr 1; omega
    · simp only [if_true]
      rw [h w, ← stepN_add]
      congr 1
      rw [Nat.add_mul, Nat.one_mul, Nat.mul_comm 2 (val l), Nat.mul_assoc]; congr 1; congr 1; omega
def bitsN : Nat → Nat → List Bool
  | 0, _ => []
  | k + 1, n => (n % 2 == 1) :: bitsN k (n / 2)
theorem val_bitsN (k : Nat) : ∀ n, n < 2 ^ k → val (bitsN k n) = n := by
  induction k with
  | zero => intro n h; simp at h; subst h; rfl
  | succ k ih =>
    intro n h
    simp only [bitsN, val]
    rw [ih (n / 2) (by rw [Nat.pow_succ] at h; omega)]
    by_cases c : n % 2 = 1
    · rw [c]; simp; omega
    · rw [show n % 2 = 0 from by omega]; simp; omega
def pw (n : Nat) (w : BitVec 32) : BitVec 32 := powB (bitsN 32 n) (images stepB 32 0) w
theorem pw_eq (n : Nat) (h : n < 4294967296) (w : BitVec 32) : pw n w = stepN n w := by
  unfold pw
  rw [powB_eq _ _ 1 w rep_one, val_bitsN 32 n h, Nat.mul_one]
theorem pw_N : pw 4294967295 1#32 = 1#32 := by decide +kernel
theorem pw_3 : (pw 1431655765 1#32 == 1#32) = false := by decide +kernel
theorem pw_5 : (pw 858993459 1#32 == 1#32) = false := by decide +kernel
theorem pw_17 : (pw 252645135 1#32 == 1#32) = false := by decide +kernel
theorem pw_257 : (pw 16711935 1#32 == 1#32) = false := by decide +kernel
theorem pw_65537 : (pw 65535 1#32 == 1#32) = false := by decide +kernel
theorem stepB_inj0 {r : BitVec 32} (h : stepB r = 0#32) : r = 0#32 := by
  rw [stepB_eq] at h
  have hl : r.getLsbD 0 = false := by
    cases c : r.getLsbD 0
    · rfl
    · rw [if_pos c] at h
      have := congrArg (fun z : BitVec 32 => z.getLsbD 31) h
      simp only [BitVec.getLsbD_xor, BitVec.getLsbD_ushiftRight] at this
      rw [BitVec.getLsbD_of_ge r (1 + 31) (by omega), show P32.getLsbD 31 = true from by decide] at this
      simp at this
  rw [if_neg (by rw [hl]; decide), BitVec.xor_zero] at h
  apply BitVec.eq_of_getLsbD_eq
  intro i hi
  rcases Nat.eq_zero_or_pos i with rfl | h0
  · rw [hl]; simp
  · have := congrArg (fun z : BitVec 32 => z.getLsbD (i - 1)) h
    simp only [BitVec.getLsbD_ushiftRight] at this
    rw [show 1 + (i - 1) = i from by omega] at this
    rw [this]; simp
theorem xor_eq_zero {a b : BitVec 32} (h : a ^^^ b = 0#32) : a = b := by
  have := congrArg (fun z => z ^^^ b) h
  simpa [BitVec.xor_assoc] using this
theorem stepB_inj {a b : BitVec 32} (h : stepB a = stepB b) : a = b := by
  apply xor_eq_zero
  apply stepB_inj0
  rw [stepB_xor, h]; simp
theorem stepN_inj (n : Nat) : ∀ {a b : BitVec 32}, stepN n a = stepN n b → a = b := by
  induction n with
  | zero => intro a b h; exact h
  | succ n ih => intro a b h; exact stepB_inj (ih h)
theorem stepN_ne {n : Nat} {r : BitVec 32} (h : r ≠ 0#32) : stepN n r ≠ 0#32 := by
  intro e
  exact h (stepN_inj n (e.trans (stepN_zero n).symm))
/-- so many steps bring 1 back to 1 -/
def back (n : Nat) : Prop := stepN n 1#32 = 1#32
theorem back_sub {m n : Nat} (h : back (m + n)) (hm : back m) : back n := by
  unfold back at *
  rw [stepN_add, hm] at h
  exact h
theorem back_mul {m : Nat} (h : back m) : ∀ q, back (m * q) := by
  intro q
  induction q with
  | zero => rfl
  | succ q ih =>
    unfold back at *
    rw [Nat.mul_succ, Nat.add_comm, stepN_add, h, ih]
theorem back_mod {m n : Nat} (h : back m) (hn : back n) : back (n % m) := by
  have e : m * (n / m) + n % m = n := Nat.div_add_mod n m
  have := back_mul h (n / m)
  exact back_sub (by rw [e]; exact hn) this
theorem back_gcd (m : Nat) : ∀ n, back m → back n → back (Nat.gcd m n) := by
  induction m using Nat.strongRecOn with
  | _ m ih =>
    intro n hm hn
    rcases Nat.eq_zero_or_pos m with rfl | h0
    · rw [Nat.gcd_zero_left]; exact hn
    · rw [Nat.gcd_rec]
      exact ih (n % m) (Nat.mod_lt n h0) m (back_mod hm hn) hm
def prime_ (p : Nat) : Prop := ∀ d, d ∣ p → d = 1 ∨ d = p
theorem prime_of {p : Nat} (hp : 0 < p) (s : Nat) (hs : p < (s + 1) * (s + 1)) (h : ∀ d, d < s + 1 → p % d = 0 → d = 0 ∨ d = 1 ∨ d = p) : prime_ p := by
  intro d hd
  obtain ⟨e, he⟩ := hd
  have hd0 : d ≠ 0 := by rintro rfl; simp at he; omega
  have he0 : e ≠ 0 := by rintro rfl; simp at he; omega
  by_cases c : d < s + 1
  · have := h d c (by rw [he]; exact Nat.mul_mod_right d e)
    omega
  · have c2 : e < s + 1 := by
      rcases Nat.lt_or_ge e (s + 1) with g | g
      · exact g
      · have : (s + 1) * (s + 1) ≤ d * e := Nat.mul_le_mul (by omega) g
        omega
    have := h e c2 (by rw [he]; exact Nat.mul_mod_left d e)
    rcases this with g | g | g
    · exact absurd g he0
    · subst g; right; omega
    · left
      rw [g] at he
      have hle : d * p = 1 * p := by omega
      exact Nat.eq_of_mul_eq_mul_right hp hle
theorem p3 : prime_ 3 := prime_of (by omega) 1 (by omega) (by decide)
theorem p5 : prime_ 5 := prime_of (by omega) 2 (by omega) (by decide)
theorem p17 : prime_ 17 := prime_of (by omega) 4 (by omega) (by decide)
theorem p257 : prime_ 257 := prime_of (by omega) 16 (by omega) (by decide +kernel)
theorem p65537 : prime_ 65537 := prime_of (by omega) 256 (by omega) (by decide +kernel)
theorem prime_or {p : Nat} (h : prime_ p) (q : Nat) : Nat.Coprime p q ∨ p ∣ q := by
  rcases h (Nat.gcd p q) (Nat.gcd_dvd_left p q) with g | g
  · exact .inl g
  · right; rw [← g]; exact Nat.gcd_dvd_right p q
/-- a number that goes into 2^32 - 1, and is not 1, has one of its five primes -/
theorem factor {q : Nat} (h : q ∣ 4294967295) (h1 : q ≠ 1) : 3 ∣ q ∨ 5 ∣ q ∨ 17 ∣ q ∨ 257 ∣ q ∨ 65537 ∣ q := by
  rcases prime_or p3 q with a | a
  · rcases prime_or p5 q with b | b
    · rcases prime_or p17 q with c | c
      · rcases prime_or p257 q with d | d
        · rcases prime_or p65537 q with e | e
          · exfalso
            have h : q ∣ 3 * (5 * (17 * (257 * (65537 * 1)))) := h
            have h := (Nat.Coprime.symm a).dvd_of_dvd_mul_left h
            have h := (Nat.Coprime.symm b).dvd_of_dvd_mul_left h
            have h := (Nat.Coprime.symm c).dvd_of_dvd_mul_left h
            have h := (Nat.Coprime.symm d).dvd_of_dvd_mul_left h
            have h := (Nat.Coprime.symm e).dvd_of_dvd_mul_left h
            exact h1 (Nat.dvd_one.1 h)
          · exact .inr (.inr (.inr (.inr e)))
        · exact .inr (.inr (.inr (.inl d)))
      · exact .inr (.inr (.inl c))
    · exact .inr (.inl b)
  · exact .inl a
theorem back_no {p n : Nat} (hn : n < 4294967296) (hp : 0 < p) (e : n * p = 4294967295) (h : (pw n 1#32 == 1#32) = false) {g q : Nat} (hg : back g) (hq : g * q = 4294967295) (hd : p ∣ q) : False := by
  obtain ⟨c, rfl⟩ := hd
  have h2 : n = g * c := by
    apply Nat.eq_of_mul_eq_mul_right hp
    rw [e, ← hq, Nat.mul_comm p c, Nat.mul_assoc]
  have h3 : stepN n 1#32 = 1#32 := by rw [h2]; exact back_mul hg c
  rw [← pw_eq n hn] at h3
  rw [h3] at h
  simp at h
theorem order {d : Nat} (h0 : 0 < d) (h1 : d < 4294967295) : stepN d 1#32 ≠ 1#32 := by
  intro h
  have hN : back 4294967295 := by unfold back; rw [← pw_eq _ (by omega)]; exact pw_N
  have hg := back_gcd d 4294967295 h hN
  have hd1 : Nat.gcd d 4294967295 ∣ 4294967295 := Nat.gcd_dvd_right _ _
  have hle : Nat.gcd d 4294967295 ≤ d := Nat.gcd_le_left _ h0
  generalize Nat.gcd d 4294967295 = g at hg hd1 hle
  obtain ⟨q, hq⟩ := hd1
  have hq1 : q ≠ 1 := by rintro rfl; omega
  rcases factor ⟨g, by rw [Nat.mul_comm q g]; exact hq⟩ hq1 with f | f | f | f | f
  · exact back_no (by omega) (by omega) (by decide) pw_3 hg hq.symm f
  · exact back_no (by omega) (by omega) (by decide) pw_5 hg hq.symm f
  · exact back_no (by omega) (by omega) (by decide) pw_17 hg hq.symm f
  · exact back_no (by omega) (by omega) (by decide) pw_257 hg hq.symm f
  · exact back_no (by omega) (by omega) (by decide) pw_65537 hg hq.symm f
end Go.Proofs.Ytkepimkabfoapaa.XCrc
