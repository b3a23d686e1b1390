/- Of a text of which bits within 32 that follow one another are turned, one at least, the sum is another one: the register's step can be taken back, so what the burst leaves in it never becomes nought; so of two bits fewer than 2^32 - 1 apart: the step's order is 2^32 - 1. No conditions. -/
import Derived.Test.YtkepimkabfoapaaPCheckBurstsx2
import Derived.Laws.BitsAllLaws
import Derived.OpenShut
import Derived.Test.YtkepimkabfoapaaXCrcOrder
namespace Go.Proofs.Ytkepimkabfoapaa.Pure
open Go.RowKit Go.Proofs.Ytkepimkabfoapaa.PCheckBursts Go.Proofs.YtkepimkabfoapaaW.PrintWords Go.Proofs.YtkepimkabfoapaaW.PrintLast
namespace CheckBurstsP
def toI (b : Bool) : Int := if b then 1 else 0
theorem toI_nat (b : Bool) : toI b = ((if b then 1 else 0 : Nat) : Int) := by cases b <;> rfl
theorem small64 (i : Int) (h0 : 0 ≤ i) (h1 : i ≤ 1000) : IntKind.u64.wrap i = i := by rw [IntKind.wrap_u64]; omega
theorem odd_toI (n j : Nat) : ((n / 2 ^ j % 2 : Nat) : Int) = toI (n.testBit j) := by
  rw [Nat.testBit_eq_decide_div_mod_eq]
  by_cases h : n / 2 ^ j % 2 = 1
  · rw [h]; simp [toI]
  · rw [show n / 2 ^ j % 2 = 0 from by omega]; simp [toI]
/-- the message's bits, in order -/
def mbit (l : List Int) (p : Nat) : Bool := (rd l ((p / 8 : Nat) : Int)).toNat.testBit (p % 8)
theorem mbit_end (l : List Int) (p : Nat) (h : 8 * l.length ≤ p) : mbit l p = false := by
  unfold mbit rd
  rw [Int.toNat_natCast, List.getD_eq_getElem?_getD, List.getElem?_eq_none (by omega)]
  simp
theorem mbit_at (l : List Int) (c j : Nat) (hj : j < 8) : mbit l (8 * c + j) = (rd l (c : Int)).toNat.testBit j := by
  unfold mbit
  rw [show (8 * c + j) / 8 = c from by omega, show (8 * c + j) % 8 = j from by omega]
theorem rd_rng (l : List Int) (hb : ∀ x ∈ l, 0 ≤ x ∧ x < 256) (c : Nat) (h : c < l.length) : 0 ≤ rd l (c : Int) ∧ rd l (c : Int) < 256 := by
  unfold rd
  rw [Int.toNat_natCast, List.getD_eq_getElem?_getD, List.getElem?_eq_getElem h]
  exact hb _ (List.getElem_mem h)
def reg (m : Nat → Bool) (r : BitVec 32) : Nat → BitVec 32
  | 0 => r
  | i + 1 => XCrc.bitB (reg m r i) (m i)
theorem reg_add (m : Nat → Bool) (r : BitVec 32) (s n : Nat) : reg m r (s + n) = XCrc.bitsB (reg m r s) ((List.range n).map fun j => m (s + j)) := by
  induction n with
  | zero => rfl
  | succ n ih =>
    rw [List.range_succ, List.map_append]
    unfold XCrc.bitsB at ih ⊢
    rw [List.foldl_append, ← ih]; rfl
theorem bitList_range (n : Nat) : ∀ x : BitVec 32, XCrc.bitList x n = (List.range n).map fun j => x.getLsbD j := by
  induction n with
  | zero => intro x; rfl
  | succ n ih =>
    intro x
    rw [List.range_succ_eq_map, List.map_cons, List.map_map]
    show _ :: XCrc.bitList (x >>> 1) n = _
    rw [ih]
    congr 1
    apply List.map_congr_left
    intro j _
    rw [BitVec.getLsbD_ushiftRight, Nat.add_comm]; rfl
theorem take_snoc {l : List Int} {k : Nat} (h : k < l.length) : l.take (k + 1) = l.take k ++ [rd l k] := by
  rw [List.take_succ_eq_append_getElem h]; simp [rd, h]
theorem reg_over (l : List Int) (hb : ∀ x ∈ l, 0 ≤ x ∧ x < 256) (r : BitVec 32) (c : Nat) : c ≤ l.length → reg (mbit l) r (8 * c) = XCrc.overB r (l.take c) := by
  induction c with
  | zero => intro _; rfl
  | succ c ih =>
    intro hc
    have hr := rd_rng l hb c (by omega)
    rw [show 8 * (c + 1) = 8 * c + 8 from by omega, reg_add, ih (by omega), take_snoc (by omega), XCrc.overB_snoc, XCrc.byteB_bits _ _ hr.1 hr.2]
    congr 1
    unfold XCrc.byteBits
    rw [bitList_range]
    apply List.map_congr_left
    intro j hj
    have hj : j < 8 := by simpa using hj
    rw [mbit_at l c j hj]
    obtain ⟨x, hx⟩ := Int.eq_ofNat_of_zero_le hr.1
    rw [hx, Int.toNat_natCast, BitVec.ofInt_natCast, BitVec.getLsbD_ofNat, decide_eq_true (show j < 32 by omega), Bool.true_and]
def byt (l : List Int) : Prop := ∀ x ∈ l, 0 ≤ x ∧ x < 256
theorem bitB_xor (r s : BitVec 32) (a b : Bool) : XCrc.bitB (r ^^^ s) (a ^^ b) = XCrc.bitB r a ^^^ XCrc.bitB s b := by
  unfold XCrc.bitB
  rw [← XCrc.stepB_xor, XCrc.x4]
  congr 2
  cases a <;> cases b <;> rfl
theorem reg_xor (m d : Nat → Bool) (r s : BitVec 32) (n : Nat) : reg (fun p => m p ^^ d p) (r ^^^ s) n = reg m r n ^^^ reg d s n := by
  induction n with
  | zero => rfl
  | succ n ih => simp only [reg]; rw [ih, bitB_xor]
theorem reg_congr {m m' : Nat → Bool} (r : BitVec 32) (n : Nat) (h : ∀ p, p < n → m p = m' p) : reg m r n = reg m' r n := by
  induction n with
  | zero => rfl
  | succ n ih => simp only [reg]; rw [ih (fun p hp => h p (by omega)), h n (by omega)]
theorem bitB_false (r : BitVec 32) : XCrc.bitB r false = XCrc.stepB r := by unfold XCrc.bitB; simp
/-- noughts from s on -/
theorem reg_noughts (d : Nat → Bool) (r : BitVec 32) (s k : Nat) (h : ∀ p, s ≤ p → p < s + k → d p = false) : reg d r (s + k) = XCrc.stepN k (reg d r s) := by
  induction k with
  | zero => rfl
  | succ k ih =>
    rw [show s + (k + 1) = (s + k) + 1 from by omega]
    show XCrc.bitB (reg d r (s + k)) (d (s + k)) = _
    rw [h (s + k) (by omega) (by omega), bitB_false, ih (fun p h1 h2 => h p h1 (by omega)), XCrc.stepN_succ']
theorem reg_nought (d : Nat → Bool) (k : Nat) (h : ∀ p, p < k → d p = false) : reg d 0#32 k = 0#32 := by
  have := reg_noughts d 0#32 0 k (fun p _ h2 => h p (by omega))
  rw [Nat.zero_add] at this
  rw [this]
  exact XCrc.stepN_zero k
theorem one_shl (c j : Nat) (hc : c < 32) : (1#32 <<< c).getLsbD j = decide (j = c) := by
  rw [BitVec.getLsbD_shiftLeft, BitVec.getLsbD_one]
  by_cases h : j = c
  · subst h; simp [hc]
  · rw [decide_eq_false h]
    by_cases h2 : j < c
    · simp [h2]
    · rw [decide_eq_false (show ¬ j - c = 0 by omega)]; simp
theorem vec_of (f : Nat → Bool) (c : Nat) : c ≤ 32 → ∃ x : BitVec 32, ∀ j, x.getLsbD j = (decide (j < c) && f j) := by
  induction c with
  | zero => intro _; exact ⟨0#32, fun j => by simp⟩
  | succ c ih =>
    intro hc
    obtain ⟨x, hx⟩ := ih (by omega)
    refine ⟨x ||| (if f c = true then 1#32 <<< c else 0#32), fun j => ?_⟩
    rw [BitVec.getLsbD_or, hx j]
    have h1 : (if f c = true then 1#32 <<< c else 0#32).getLsbD j = (decide (j = c) && f c) := by
      by_cases h : f c = true
      · rw [if_pos h, one_shl c j (by omega), h]; simp
      · rw [if_neg h, show f c = false from by simpa using h]; simp
    rw [h1]
    by_cases h : j = c
    · subst h
      rw [decide_eq_false (show ¬ j < j by omega), decide_eq_true (show j < j + 1 by omega)]; simp
    · rw [decide_eq_false h]
      by_cases h2 : j < c
      · rw [decide_eq_true h2, decide_eq_true (show j < c + 1 by omega)]; simp
      · rw [decide_eq_false h2, decide_eq_false (show ¬ j < c + 1 by omega)]; simp
/-- bits turned within a window of 32 leave a mark that stays -/
theorem burst (d : Nat → Bool) (a n : Nat) (hn : a < n) (h0 : ∀ p, p < a → d p = false) (h1 : ∀ p, a + 32 ≤ p → d p = false) (hd : ∃ p, a ≤ p ∧ p < n ∧ d p = true) : reg d 0#32 n ≠ 0#32 := by
  obtain ⟨p, hp1, hp2, hp3⟩ := hd
  have hp4 : p < a + 32 := by
    rcases Nat.lt_or_ge p (a + 32) with g | g
    · exact g
    · rw [h1 p g] at hp3; simp at hp3
  have key : ∀ c, c ≤ 32 → p < a + c → reg d 0#32 (a + c) ≠ 0#32 := by
    intro c hc hpc
    rw [reg_add, reg_nought d a h0]
    obtain ⟨x, hx⟩ : ∃ x : BitVec 32, ∀ j, x.getLsbD j = (decide (j < c) && d (a + j)) := by
      exact vec_of (fun j => d (a + j)) c hc
    have e : ((List.range c).map fun j => d (a + j)) = XCrc.bitList x c := by
      rw [bitList_range]
      apply List.map_congr_left
      intro j hj
      rw [hx j, decide_eq_true (show j < c by simpa using hj), Bool.true_and]
    rw [e, XCrc.bits_of c 0#32 x (fun i hi => by rw [hx i, decide_eq_false (show ¬ i < c by omega)]; rfl), BitVec.zero_xor]
    apply XCrc.stepN_ne
    intro hz
    have := hx (p - a)
    rw [hz, show a + (p - a) = p from by omega, hp3, decide_eq_true (show p - a < c by omega)] at this
    simp at this
  by_cases c : n ≤ a + 32
  · have := key (n - a) (by omega) (by omega)
    rwa [show a + (n - a) = n from by omega] at this
  · have h := key 32 (by omega) (by omega)
    have e := reg_noughts d 0#32 (a + 32) (n - (a + 32)) (fun q hq _ => h1 q hq)
    rw [show a + 32 + (n - (a + 32)) = n from by omega] at e
    rw [e]
    exact XCrc.stepN_ne h
/-- just two bits -/
theorem two (d : Nat → Bool) (a b n : Nat) (hab : a < b) (hb : b < n) (hd : b - a < 4294967295) (h : ∀ p, d p = ((p == a) ^^ (p == b))) : reg d 0#32 n ≠ 0#32 := by
  have ha0 : reg d 0#32 a = 0#32 := reg_nought d a (fun p hp => by
    rw [h p, show (p == a) = false from by simp; omega, show (p == b) = false from by simp; omega]; rfl)
  have ha1 : reg d 0#32 (a + 1) = XCrc.stepB 1#32 := by
    show XCrc.bitB (reg d 0#32 a) (d a) = _
    rw [ha0, h a, show (a == a) = true from by simp, show (a == b) = false from by simp; omega]; rfl
  have hb0 : reg d 0#32 b = XCrc.stepN (b - a) 1#32 := by
    have e := reg_noughts d 0#32 (a + 1) (b - (a + 1)) (fun p h1 h2 => by
      rw [h p, show (p == a) = false from by simp; omega, show (p == b) = false from by simp; omega]; rfl)
    rw [show a + 1 + (b - (a + 1)) = b from by omega, ha1] at e
    rw [e]
    have := XCrc.stepN_add 1 (b - (a + 1)) 1#32
    rw [show 1 + (b - (a + 1)) = b - a from by omega] at this
    exact this.symm
  have hb1 : reg d 0#32 (b + 1) ≠ 0#32 := by
    show XCrc.bitB (reg d 0#32 b) (d b) ≠ _
    rw [hb0, h b, show (b == b) = true from by simp, show (b == a) = false from by simp; omega]
    intro hz
    have := XCrc.stepB_inj0 hz
    exact XCrc.order (show 0 < b - a by omega) hd (XCrc.xor_eq_zero this)
  have e := reg_noughts d 0#32 (b + 1) (n - (b + 1)) (fun p h1 _ => by
    rw [h p, show (p == a) = false from by simp; omega, show (p == b) = false from by simp; omega]; rfl)
  rw [show b + 1 + (n - (b + 1)) = n from by omega] at e
  rw [e]
  exact XCrc.stepN_ne hb1
def ones : BitVec 32 := 4294967295#32
def S (l : List Int) : BitVec 32 := XCrc.overB ones l ^^^ ones
/-- sums of texts whose bits part by d -/
theorem sums (l b : List Int) (hl : byt l) (hb : byt b) (hlen : b.length = l.length) (d : Nat → Bool) (h : ∀ p, p < 8 * l.length → mbit b p = (mbit l p ^^ d p)) : S b = S l ↔ reg d 0#32 (8 * l.length) = 0#32 := by
  have e1 : XCrc.overB ones l = reg (mbit l) ones (8 * l.length) := by
    rw [reg_over l hl ones l.length (Nat.le_refl _), List.take_length]
  have e2 : XCrc.overB ones b = reg (mbit l) ones (8 * l.length) ^^^ reg d 0#32 (8 * l.length) := by
    have := reg_over b hb ones b.length (Nat.le_refl _)
    rw [List.take_length, hlen] at this
    rw [← this, ← reg_xor, BitVec.xor_zero]
    exact reg_congr ones _ h
  unfold S
  rw [e1, e2]
  constructor
  · intro e
    have e := XCrc.xor_right_cancel e
    have := congrArg (fun z => reg (mbit l) ones (8 * l.length) ^^^ z) e
    simp only [XCrc.xself] at this
    simpa using this
  · intro e
    rw [e, BitVec.xor_zero]
theorem xor_front (B : BitVec 32) : Go.bits .xor .u32 4294967295 (XCrc.I B) = XCrc.I (B ^^^ ones) := by rw [BitVec.xor_comm]; exact XCrc.I_xor 4294967295#32 B
theorem sum_f (l : List Int) (hb : byt l) : check_Sum.f l = some (XCrc.I (S l)) := by
  have ey : Go.bits .xor .u32 4294967295 0 = XCrc.I ones := XCrc.I_xor 4294967295#32 0#32
  have ho : check_over.f (Go.bits .xor .u32 4294967295 0) l = some (XCrc.I (XCrc.overB ones l)) := by
    rw [ey]
    unfold check_over.f
    have hr := XCrc.I_lt ones
    rw [if_pos ⟨hr.1, hr.2, hb⟩]; rfl
  unfold check_Sum.f check_More.f
  rw [ho, Option.bind_some, xor_front]; rfl
theorem twin_f (l : List Int) (h : l.length < 140737488355328) : colonnadelaw06_twin.f l = some l := by
  unfold colonnadelaw06_twin.f
  rw [if_pos (by simpa using h)]; rfl
theorem place_rng (a n : Int) (h2 : n ≤ 4611686018427387904) : ∃ r, colonnadelaw06_place.f a n = some r ∧ 0 ≤ r ∧ (1 ≤ n → r < n) ∧ (n < 1 → r = 0) := by
  unfold colonnadelaw06_place.f
  by_cases h1 : n < 1
  · rw [if_pos h1]; exact ⟨0, rfl, by omega, by omega, fun _ => rfl⟩
  · rw [if_neg (by omega), if_neg (by omega)]
    have ht : -n < Int.tmod a n ∧ Int.tmod a n < n := by
      constructor
      · rcases Int.le_total 0 a with g | g
        · have := Int.tmod_nonneg n g; omega
        · have e := Int.neg_tmod (a := a) (b := n)
          have := Int.tmod_lt_of_pos (-a) (show 0 < n by omega)
          omega
      · exact Int.tmod_lt_of_pos a (by omega)
    have hw : wrap64 (Int.tmod a n + n) = Int.tmod a n + n := by unfold wrap64; omega
    rw [hw]
    exact ⟨_, rfl, Int.tmod_nonneg n (by omega), fun _ => Int.tmod_lt_of_pos _ (by omega), fun h => absurd h h1⟩
theorem shl_one (j : Nat) (h : j < 8) : shl .u8 1 (IntKind.u64.wrap (j : Int)) = ((2 ^ j : Nat) : Int) := by
  have : ∀ j : Nat, j < 8 → shl .u8 1 (IntKind.u64.wrap (j : Int)) = ((2 ^ j : Nat) : Int) := by decide +kernel
  exact this j h
/-- a bit turned -/
theorem laid_in (l : List Int) (hb : byt l) (hl : l.length < 140737488355328) (at_ : Nat) (h : at_ < 8 * l.length) :
    ∃ b, colonnadelaw06_laid.f l (at_ : Int) = some b ∧ byt b ∧ b.length = l.length ∧ ∀ p, mbit b p = (mbit l p ^^ (p == at_)) := by
  have hd : wrap64 (Int.tdiv (at_ : Int) 8) = ((at_ / 8 : Nat) : Int) := by
    rw [Int.tdiv_eq_ediv_of_nonneg (by omega)]; unfold wrap64; omega
  have hm : Int.tmod (at_ : Int) 8 = ((at_ % 8 : Nat) : Int) := by
    rw [Int.tmod_eq_emod_of_nonneg (by omega)]; omega
  have hr := rd_rng l hb (at_ / 8) (by omega)
  obtain ⟨x, hx⟩ := Int.eq_ofNat_of_zero_le hr.1
  have hx2 : x < 256 := by omega
  have hp : 2 ^ (at_ % 8) < 256 := by
    have : 2 ^ (at_ % 8) ≤ 2 ^ 7 := Nat.pow_le_pow_right (by decide) (by omega)
    omega
  have hv := u8_xor_nat x (2 ^ (at_ % 8)) hx2 hp
  have hlt := Nat.xor_lt_two_pow (n := 8) (show x < 2 ^ 8 by omega) (show 2 ^ (at_ % 8) < 2 ^ 8 by omega)
  refine ⟨l.set (at_ / 8) ((x ^^^ 2 ^ (at_ % 8) : Nat) : Int), ?_, ?_, by simp, ?_⟩
  · unfold colonnadelaw06_laid.f
    rw [hd, hm, if_pos (by omega), if_pos (by omega), if_pos (by omega), if_pos (by rw [small64 _ (by omega) (by omega)]; omega), shl_one _ (by omega), hx, hv, Int.toNat_natCast]
  · intro y hy
    rcases List.mem_or_eq_of_mem_set hy with h | h
    · exact hb y h
    · rw [h]; omega
  · intro p
    unfold mbit
    by_cases c : p / 8 = at_ / 8
    · have e : rd (l.set (at_ / 8) ((x ^^^ 2 ^ (at_ % 8) : Nat) : Int)) ((p / 8 : Nat) : Int) = ((x ^^^ 2 ^ (at_ % 8) : Nat) : Int) := by
        unfold rd
        rw [Int.toNat_natCast, c, List.getD_eq_getElem?_getD, List.getElem?_eq_getElem (by simp; omega)]
        simp
      rw [e, c, hx, Int.toNat_natCast, Int.toNat_natCast, Nat.testBit_xor, Nat.testBit_two_pow]
      congr 1
      by_cases c2 : p = at_
      · subst c2; simp
      · rw [show (p == at_) = false from by simpa using c2]
        simp; omega
    · have e : rd (l.set (at_ / 8) ((x ^^^ 2 ^ (at_ % 8) : Nat) : Int)) ((p / 8 : Nat) : Int) = rd l ((p / 8 : Nat) : Int) := by
        unfold rd
        rw [Int.toNat_natCast, List.getD_eq_getElem?_getD, List.getD_eq_getElem?_getD, List.getElem?_set_ne (fun h => c h.symm)]
      rw [e, show (p == at_) = false from by simp; rintro rfl; exact c rfl, Bool.xor_false]
theorem pat_bit (r : BitVec 32) (j : Nat) (hj : j < 32) : Go.bits .and .u32 (shr .u32 (XCrc.I r) (IntKind.u64.wrap (j : Int))) 1 = toI (r.getLsbD j) := by
  rw [small64 (j : Int) (by omega) (by omega)]
  unfold shr XCrc.I
  rw [Int.toNat_natCast, show min j (IntKind.bits .u32) = j from Nat.min_eq_left (by simp [IntKind.bits]; omega)]
  have e : (r.toNat : Int) / (2 : Int) ^ j = ((r.toNat / 2 ^ j : Nat) : Int) := by simp
  have hd : r.toNat / 2 ^ j ≤ r.toNat := Nat.div_le_self _ _
  have hr := r.isLt
  have h3 := u32_and_nat (r.toNat / 2 ^ j) 1 (by omega) (by omega)
  have h4 : Go.bits .and .u32 ((r.toNat / 2 ^ j : Nat) : Int) 1 = ((r.toNat / 2 ^ j % 2 : Nat) : Int) := Eq.trans h3 (by rw [Nat.and_one_is_mod])
  rw [e, h4, odd_toI]
  rfl
/-- which bits the first c of the pattern turn -/
def D (r : BitVec 32) (a n c : Nat) (p : Nat) : Bool := decide (a ≤ p) && decide (p - a < c) && decide (p < n) && r.getLsbD (p - a)
def any_ (r : BitVec 32) (a n : Nat) : Nat → Bool
  | 0 => false
  | c + 1 => any_ r a n c || (decide (a + c < n) && r.getLsbD c)
theorem any_iff (r : BitVec 32) (a n c : Nat) : any_ r a n c = true ↔ ∃ p, D r a n c p = true := by
  induction c with
  | zero => simp [any_, D]
  | succ c ih =>
    simp only [any_, Bool.or_eq_true, ih]
    constructor
    · rintro (⟨p, hp⟩ | h)
      · refine ⟨p, ?_⟩
        simp only [D, Bool.and_eq_true, decide_eq_true_eq] at hp ⊢
        exact ⟨⟨⟨hp.1.1.1, by omega⟩, hp.1.2⟩, hp.2⟩
      · refine ⟨a + c, ?_⟩
        simp only [D, Bool.and_eq_true, decide_eq_true_eq] at h ⊢
        rw [show a + c - a = c from by omega]
        exact ⟨⟨⟨by omega, by omega⟩, h.1⟩, h.2⟩
    · rintro ⟨p, hp⟩
      simp only [D, Bool.and_eq_true, decide_eq_true_eq] at hp
      by_cases c2 : p - a < c
      · left; refine ⟨p, ?_⟩
        simp only [D, Bool.and_eq_true, decide_eq_true_eq]
        exact ⟨⟨⟨hp.1.1.1, c2⟩, hp.1.2⟩, hp.2⟩
      · right
        have e : p - a = c := by omega
        rw [e] at hp
        simp only [Bool.and_eq_true, decide_eq_true_eq]
        exact ⟨by omega, hp.2⟩
theorem D_succ (r : BitVec 32) (a n c p : Nat) : D r a n (c + 1) p = (D r a n c p ^^ ((decide (a + c < n) && r.getLsbD c) && (p == a + c))) := by
  unfold D
  by_cases h : p = a + c
  · subst h
    rw [show a + c - a = c from by omega, decide_eq_false (show ¬ c < c by omega), decide_eq_true (show c < c + 1 by omega), decide_eq_true (show a ≤ a + c by omega)]
    simp
  · rw [show (p == a + c) = false from by simpa using h, Bool.and_false, Bool.xor_false]
    by_cases h2 : a ≤ p
    · by_cases h3 : p - a < c
      · rw [decide_eq_true h3, decide_eq_true (show p - a < c + 1 by omega)]
      · rw [decide_eq_false h3, decide_eq_false (show ¬ p - a < c + 1 by omega)]
    · rw [decide_eq_false h2]; simp
section loop
variable (l : List Int) (hl : l.length ≤ 140737488351232) (r : BitVec 32) (o : Int) (a : Nat) (ha : a ≤ 8 * l.length)
include hl ha
theorem pat_loop (K : Nat) (e : Nat) : ∀ (c : Nat) (b : List Int), c ≤ 32 → 32 - c = e → byt b → b.length = l.length → (∀ p, mbit b p = (mbit l p ^^ D r a (8 * l.length) c p)) →
    ∃ b', byt b' ∧ b'.length = l.length ∧ (∀ p, mbit b' p = (mbit l p ^^ D r a (8 * l.length) 32 p)) ∧
      colonnadelaw06_CheckBursts.l0 (e + (K + 1)) l (XCrc.I r) o b (a : Int) (any_ r a (8 * l.length) c) (c : Int) = colonnadelaw06_CheckBursts.l0 (K + 1) l (XCrc.I r) o b' (a : Int) (any_ r a (8 * l.length) 32) 32 := by
  induction e with
  | zero =>
    intro c b hc he h1 h2 h3
    obtain rfl : c = 32 := by omega
    exact ⟨b, h1, h2, h3, by rw [Nat.zero_add]; rfl⟩
  | succ e ih =>
    intro c b hc he h1 h2 h3
    rw [show e + 1 + (K + 1) = (e + (K + 1)) + 1 from by omega]
    have hw : wrap64 ((a : Int) + (c : Int)) = ((a + c : Nat) : Int) := by unfold wrap64; omega
    have hq : wrap64 (Int.tdiv ((a + c : Nat) : Int) 8) = (((a + c) / 8 : Nat) : Int) := by
      rw [Int.tdiv_eq_ediv_of_nonneg (by omega)]; unfold wrap64; omega
    have hn : wrap64 ((c : Int) + 1) = ((c + 1 : Nat) : Int) := by unfold wrap64; omega
    by_cases g : r.getLsbD c = true
    · by_cases g2 : a + c < 8 * l.length
      · obtain ⟨b2, e1, e2, e3, e4⟩ := laid_in b h1 (by omega) (a + c) (by omega)
        have ht : any_ r a (8 * l.length) (c + 1) = true := by
          simp only [any_]; rw [g, decide_eq_true g2]; simp
        obtain ⟨b', i1, i2, i3, i4⟩ := ih (c + 1) b2 (by omega) (by omega) e2 (by omega) (fun p => by
          rw [e4 p, h3 p, D_succ, g, decide_eq_true g2, Bool.true_and, Bool.true_and, Bool.xor_assoc])
        refine ⟨b', i1, i2, i3, ?_⟩
        rw [ht] at i4
        generalize e + (K + 1) = F at i4 ⊢
        rw [← i4]
        simp only [colonnadelaw06_CheckBursts.l0]
        rw [if_pos (by omega), if_pos (by rw [small64 _ (by omega) (by omega)]; omega), pat_bit r c (by omega), g, if_pos (show toI true = 1 from rfl), hw, hq, if_pos (by omega), e1, Option.bind_some, hn]
      · have ht : any_ r a (8 * l.length) (c + 1) = any_ r a (8 * l.length) c := by
          simp only [any_]; rw [decide_eq_false g2]; simp
        obtain ⟨b', i1, i2, i3, i4⟩ := ih (c + 1) b (by omega) (by omega) h1 h2 (fun p => by
          rw [h3 p, D_succ, decide_eq_false g2]; simp)
        refine ⟨b', i1, i2, i3, ?_⟩
        rw [ht] at i4
        generalize e + (K + 1) = F at i4 ⊢
        rw [← i4]
        simp only [colonnadelaw06_CheckBursts.l0]
        rw [if_pos (by omega), if_pos (by rw [small64 _ (by omega) (by omega)]; omega), pat_bit r c (by omega), g, if_pos (show toI true = 1 from rfl), hw, hq, if_neg (by omega), hn]
    · have g' : r.getLsbD c = false := by simpa using g
      have ht : any_ r a (8 * l.length) (c + 1) = any_ r a (8 * l.length) c := by
        simp only [any_]; rw [g']; simp
      obtain ⟨b', i1, i2, i3, i4⟩ := ih (c + 1) b (by omega) (by omega) h1 h2 (fun p => by
        rw [h3 p, D_succ, g']; simp)
      refine ⟨b', i1, i2, i3, ?_⟩
      rw [ht] at i4
      generalize e + (K + 1) = F at i4 ⊢
      rw [← i4]
      simp only [colonnadelaw06_CheckBursts.l0]
      rw [if_pos (by omega), if_pos (by rw [small64 _ (by omega) (by omega)]; omega), pat_bit r c (by omega), g', if_neg (show ¬ toI false = 1 by decide), hn]
end loop
theorem eq_I (x y : BitVec 32) : (XCrc.I x == XCrc.I y) = decide (x = y) := by
  by_cases h : x = y
  · subst h; simp
  · rw [decide_eq_false h]; exact beq_eq_false_iff_ne.2 (fun e => h (XCrc.I_inj e))
theorem ends (K : Nat) (l b : List Int) (hb : byt l) (hl : l.length ≤ 140737488351232) (h1 : byt b) (r : BitVec 32) (o : Int) (a t : Nat) (T : Bool) (ha : l.length = 0 ∨ a < 8 * l.length) (ht : l.length = 0 ∨ t < 8 * l.length)
    (ho : colonnadelaw06_place.f o (wrap64 (8 * (l.length : Int))) = some (t : Int)) (hs : decide (S b = S l) = !T) :
    colonnadelaw06_CheckBursts.l0 (K + 2) l (XCrc.I r) o b (a : Int) T 32 = some true := by
  rw [show K + 2 = (K + 1) + 1 from rfl]
  simp only [colonnadelaw06_CheckBursts.l0]
  rw [if_neg (by omega), sum_f b h1, Option.bind_some, twin_f l (by omega), Option.bind_some, sum_f l hb, Option.bind_some, eq_I, hs, if_neg (by cases T <;> decide), ho, Option.bind_some]
  have hj : colonnadelaw06_CheckBursts.j1 (K + 1) l (a : Int) (t : Int) true = some true := by simp [colonnadelaw06_CheckBursts.j1]
  by_cases c : (l.length : Int) = 0
  · rw [if_pos c]; exact hj
  · rw [if_neg c]
    by_cases c2 : (l.length : Int) ≥ 536870912
    · rw [if_pos c2]; exact hj
    · rw [if_neg c2]
      by_cases c3 : t = a
      · rw [show ((t : Int) == (a : Int)) = true from by rw [c3]; simp]; exact hj
      · rw [show ((t : Int) == (a : Int)) = false from beq_eq_false_iff_ne.2 (by omega)]
        simp only [colonnadelaw06_CheckBursts.j1]
        obtain ⟨b2, e1, e2, e3, e4⟩ := laid_in l hb (by omega) a (by omega)
        obtain ⟨b3, f1, f2, f3, f4⟩ := laid_in b2 e2 (by omega) t (by omega)
        rw [if_neg (by decide), twin_f l (by omega), Option.bind_some, e1, Option.bind_some, f1, Option.bind_some, sum_f b3 f2, Option.bind_some, sum_f l hb, Option.bind_some]
        have hd : ∀ p, mbit b3 p = (mbit l p ^^ ((p == a) ^^ (p == t))) := fun p => by rw [f4 p, e4 p, Bool.xor_assoc]
        have hne : S b3 ≠ S l := by
          intro e
          have hz := (sums l b3 hb f2 (by omega) (fun p => ((p == a) ^^ (p == t))) (fun p _ => hd p)).1 e
          rcases Nat.lt_or_gt_of_ne c3 with g | g
          · exact two _ t a (8 * l.length) g (by omega) (by omega) (fun p => Bool.xor_comm _ _) hz
          · exact two _ a t (8 * l.length) g (by omega) (by omega) (fun p => rfl) hz
        have hq : (XCrc.I (S b3) != XCrc.I (S l)) = true := by
          rw [bne_iff_ne]; exact fun e => hne (XCrc.I_inj e)
        rw [hq]
theorem u32_I (a : Int) (h0 : 0 ≤ a) (h1 : a < 4294967296) : a = XCrc.I (BitVec.ofInt 32 a) := by
  unfold XCrc.I; rw [BitVec.toNat_ofInt]; omega
end CheckBurstsP
open CheckBurstsP
theorem CheckBursts : colonnadelaw06_CheckBursts.Pure := by
  intro l u v o _ hl hw _ hv _
  have hb : byt l := fun x hx => by have := bounds_u8 (hw x hx); omega
  have hv := bounds_u32 hv
  obtain ⟨r, rfl⟩ : ∃ r, v = XCrc.I r := ⟨_, u32_I v hv.1 (by omega)⟩
  have h8 : wrap64 (8 * (l.length : Int)) = 8 * (l.length : Int) := by unfold wrap64; omega
  obtain ⟨A, hA, a0, a1, a2⟩ := place_rng u (wrap64 (8 * (l.length : Int))) (by omega)
  obtain ⟨B, hB, b0, b1, b2⟩ := place_rng o (wrap64 (8 * (l.length : Int))) (by omega)
  obtain ⟨a, rfl⟩ := Int.eq_ofNat_of_zero_le a0
  obtain ⟨t, rfl⟩ := Int.eq_ofNat_of_zero_le b0
  rw [h8] at a1 a2 b1 b2
  refine ⟨34, ?_⟩
  obtain ⟨b', i1, i2, i3, i4⟩ := pat_loop l (by omega) r o a (by omega) 1 32 0 l (by omega) (by omega) hb rfl (fun p => by simp [D])
  have hs : decide (S b' = S l) = !(any_ r a (8 * l.length) 32) := by
    have h := sums l b' hb i1 i2 (D r a (8 * l.length) 32) (fun p _ => i3 p)
    by_cases c : any_ r a (8 * l.length) 32 = true
    · rw [c]
      obtain ⟨p, hp⟩ := (any_iff r a (8 * l.length) 32).1 c
      have hp2 := hp
      simp only [D, Bool.and_eq_true, decide_eq_true_eq] at hp2
      apply decide_eq_false
      intro e
      refine burst (D r a (8 * l.length) 32) a (8 * l.length) (by omega) (fun q hq => ?_) (fun q hq => ?_) ⟨p, hp2.1.1.1, hp2.1.2, hp⟩ (h.1 e)
      · unfold D; rw [decide_eq_false (show ¬ a ≤ q by omega)]; simp
      · unfold D; rw [decide_eq_false (show ¬ q - a < 32 by omega)]; simp
    · rw [show any_ r a (8 * l.length) 32 = false from by simpa using c]
      apply decide_eq_true
      rw [h]
      apply reg_nought
      intro p _
      cases g : D r a (8 * l.length) 32 p
      · rfl
      · exact absurd ((any_iff r a (8 * l.length) 32).2 ⟨p, g⟩) c
  have hend := ends 0 l b' hb (by omega) i1 r o a t _ (by omega) (by omega) hB hs
  unfold colonnadelaw06_CheckBursts.f colonnadelaw06_known.f
  rw [Option.bind_some, if_pos rfl, twin_f l (by omega), Option.bind_some, hA, Option.bind_some]
  exact i4.trans hend
end Go.Proofs.Ytkepimkabfoapaa.Pure
