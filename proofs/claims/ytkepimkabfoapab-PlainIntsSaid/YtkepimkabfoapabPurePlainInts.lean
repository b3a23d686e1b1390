/- Every Ints and every IntAt is the reference's, of any bytes, any count and any place, twice over the same memory; what is handed in stays, the room behind it too. No conditions. -/
import Derived.Test.YtkepimkabfoapabPPlainIntsx2
import Derived.Laws.BitsLemmas
import Derived.OpenShut
namespace Go.Proofs.Ytkepimkabfoapab.Pure
open Go.RowKit Go.Proofs.Ytkepimkabfoapab.PPlainInts Go.Proofs.YtkepimkabfoapabW.PrintWords Go.Proofs.YtkepimkabfoapabW.PrintLast
set_option linter.unusedVariables false
set_option linter.unusedSimpArgs false
namespace PlainIntsP
/-- the number in bytes, the lowest first -/
def lowN : List Int → Int
  | [] => 0
  | b :: l => b + 256 * lowN l
def Byte (l : List Int) : Prop := ∀ x ∈ l, 0 ≤ x ∧ x < 256
theorem Byte.take {l : List Int} (h : Byte l) (n : Nat) : Byte (l.take n) := fun x hx => h x (List.mem_of_mem_take hx)
theorem Byte.drop {l : List Int} (h : Byte l) (n : Nat) : Byte (l.drop n) := fun x hx => h x (List.mem_of_mem_drop hx)
theorem Byte.append {a b : List Int} (h : Byte a) (k : Byte b) : Byte (a ++ b) := fun x hx => (List.mem_append.mp hx).elim (h x) (k x)
theorem p8 (n : Nat) : (2 : Int) ^ (8 * (n + 1)) = 256 * 2 ^ (8 * n) := by
  show (2 : Int) ^ (8 * n + 1 + 1 + 1 + 1 + 1 + 1 + 1 + 1) = _
  simp only [Int.pow_succ]; omega
theorem p8pos (n : Nat) : (0 : Int) < 2 ^ (8 * n) := by
  induction n with
  | zero => decide
  | succ n ih => rw [p8]; omega
theorem lowN_range : ∀ (l : List Int), Byte l → 0 ≤ lowN l ∧ lowN l < 2 ^ (8 * l.length)
  | [], _ => by simp [lowN]
  | b :: l, h => by
    have hb := h b (by simp)
    have ih := lowN_range l fun x hx => h x (by simp [hx])
    rw [lowN, List.length_cons, p8]
    omega
theorem lowN_snoc : ∀ (l : List Int) (b : Int), lowN (l ++ [b]) = lowN l + 2 ^ (8 * l.length) * b
  | [], b => by simp [lowN]
  | a :: l, b => by
    rw [List.cons_append, lowN, lowN_snoc l b, lowN, List.length_cons, p8, Int.mul_add, Int.mul_assoc, Int.add_assoc]
theorem lowN_inj : ∀ (a b : List Int), Byte a → Byte b → a.length = b.length → lowN a = lowN b → a = b
  | [], [], _, _, _, _ => rfl
  | [], _ :: _, _, _, h, _ => by simp at h
  | _ :: _, [], _, _, h, _ => by simp at h
  | x :: a, y :: b, ha, hb, h, e => by
    have h1 := ha x (by simp)
    have h2 := hb y (by simp)
    rw [lowN, lowN] at e
    have e1 : x = y := by omega
    have e2 : lowN a = lowN b := by omega
    rw [e1, lowN_inj a b (fun z hz => ha z (by simp [hz])) (fun z hz => hb z (by simp [hz])) (by simpa using h) e2]
theorem mod_step (v P : Int) (hv : 0 ≤ v) (hP : 0 < P) : v % P + P * (v / P % 256) = v % (256 * P) := by
  obtain ⟨a, rfl⟩ := Int.eq_ofNat_of_zero_le hv
  obtain ⟨b, rfl⟩ := Int.eq_ofNat_of_zero_le (Int.le_of_lt hP)
  have h := @Nat.mod_mul b 256 a
  rw [Nat.mul_comm b 256] at h
  have h2 := congrArg (fun n : Nat => (n : Int)) h.symm
  simp only [Int.natCast_add, Int.natCast_mul, Int.natCast_emod, Int.natCast_ediv] at h2
  exact h2
theorem bytesN_byte (v : Int) : ∀ n, Byte (XPlain.bytesN v n)
  | 0 => fun x hx => by simp [XPlain.bytesN] at hx
  | n + 1 => (bytesN_byte v n).append fun x hx => by rw [List.mem_singleton.mp hx]; exact ⟨Int.emod_nonneg _ (by decide), Int.emod_lt_of_pos _ (by decide)⟩
theorem lowN_bytesN (v : Int) (hv : 0 ≤ v) : ∀ n, lowN (XPlain.bytesN v n) = v % 2 ^ (8 * n)
  | 0 => by simp [XPlain.bytesN, lowN]
  | n + 1 => by rw [XPlain.bytesN, lowN_snoc, XPlain.bytesN_length, lowN_bytesN v hv n, p8, mod_step v _ hv (p8pos n)]
theorem bytesN_lowN (l : List Int) (h : Byte l) : XPlain.bytesN (lowN l) l.length = l := by
  have hr := lowN_range l h
  refine lowN_inj _ _ (bytesN_byte _ _) h (XPlain.bytesN_length _ _) ?_
  rw [lowN_bytesN _ hr.1, Int.emod_eq_of_lt hr.1 hr.2]
theorem byte_of {l : List Int} (h : ∀ y_ ∈ l, (Lit.int .u8 y_).wf = true) : Byte l := fun x hx => by
  have := h x hx
  simp only [Lit.wf, Bool.and_eq_true, decide_eq_true_eq] at this
  obtain ⟨h1, h2⟩ := this
  exact ⟨h1, Int.lt_of_le_of_lt h2 (by decide)⟩
theorem or_low (x b : Int) (i : Nat) (hi : i < 8) (h0 : 0 ≤ x) (h1 : x < 2 ^ (8 * i)) (hb : 0 ≤ b ∧ b < 256) : Go.bits .or .u64 x (shl .u64 (IntKind.u64.wrap b) (wrap64 (8 * (i : Int)))) = x + 2 ^ (8 * i) * b := by
  have hw : wrap64 (8 * (i : Int)) = ((8 * i : Nat) : Int) := by unfold wrap64; omega
  have hbw : IntKind.u64.wrap b = b := by rw [IntKind.wrap_u64]; omega
  have hP : (2 : Int) ^ (8 * i) ≤ 72057594037927936 := by
    have : i = 0 ∨ i = 1 ∨ i = 2 ∨ i = 3 ∨ i = 4 ∨ i = 5 ∨ i = 6 ∨ i = 7 := by omega
    rcases this with rfl | rfl | rfl | rfl | rfl | rfl | rfl | rfl <;> decide
  have hpos := p8pos i
  have hmul : b * 2 ^ (8 * i) ≤ 255 * 2 ^ (8 * i) := Int.mul_le_mul_of_nonneg_right (by omega) (Int.le_of_lt hpos)
  have hmul0 : 0 ≤ b * 2 ^ (8 * i) := Int.mul_nonneg hb.1 (Int.le_of_lt hpos)
  have hs : shl .u64 b ((8 * i : Nat) : Int) = b * 2 ^ (8 * i) := by
    rw [← shl_small (k := .u64) (x := b) (y := ((8 * i : Nat) : Int)) rfl (by simp [IntKind.bits]; omega), Int.toNat_natCast, IntKind.wrap_u64]
    generalize (2 : Int) ^ (8 * i) = P at *
    omega
  rw [hw, hbw, hs]
  have hc : Go.bits .or .u64 x (b * 2 ^ (8 * i)) = Go.bits .or .u64 (b * 2 ^ (8 * i)) x := by simp only [Go.bits, BitVec.or_comm]
  have hm : b * 2 ^ (8 * i) % 2 ^ (8 * i) = 0 := Int.mul_emod_left _ _
  rw [hc, bits_join .u64 64 (by decide) (fun n h0 h1 => by rw [IntKind.wrap_u64]; omega) (8 * i) _ x hmul0 hm (by omega) h0 h1 (by omega), Int.add_comm, Int.mul_comm b]
theorem rd_nat (l : List Int) (i : Nat) (h : i < l.length) : rd l (i : Int) = l[i] := by simp [rd, h]
theorem low_loop (K : Nat) (l : List Int) (h : Byte l) (h8 : l.length ≤ 8) : ∀ m i, i + m = l.length → plain_low.l0 (m + (K + 1)) (lowN (l.take i)) l (l.length : Int) (i : Int) = some (lowN l)
  | 0, i, hi => by
    rw [Nat.zero_add, plain_low.l0, if_neg (by omega), List.take_of_length_le (by omega)]
  | m + 1, i, hi => by
    have hlt : i < l.length := by omega
    have hr := lowN_range (l.take i) (h.take i)
    have hti : (l.take i).length = i := by rw [List.length_take]; omega
    rw [hti] at hr
    have hz : 0 ≤ wrap64 (8 * (i : Int)) := by unfold wrap64; omega
    have hn : wrap64 ((i : Int) + 1) = ((i + 1 : Nat) : Int) := by unfold wrap64; omega
    have hnx : lowN (l.take i) + 2 ^ (8 * i) * l[i] = lowN (l.take (i + 1)) := by rw [List.take_succ_eq_append_getElem hlt, lowN_snoc, hti]
    rw [show m + 1 + (K + 1) = (m + (K + 1)) + 1 from by omega, plain_low.l0, if_pos (by omega), if_pos (by omega), if_pos (by omega), if_pos hz, rd_nat l i hlt, or_low _ _ i (by omega) hr.1 hr.2 (h _ (List.getElem_mem hlt)), hnx, hn]
    exact low_loop K l h h8 m (i + 1) (by omega)
theorem low_eq (K : Nat) (l : List Int) (h : Byte l) (h8 : l.length ≤ 8) (hK : 9 ≤ K) : plain_low.f K l = some (lowN l) := by
  have := low_loop (K - l.length - 1) l h h8 l.length 0 (by omega)
  rw [show l.length + (K - l.length - 1 + 1) = K from by omega, List.take_zero] at this
  exact this
def seg (l : List Int) (o n : Nat) : List Int := (l.take (o + n)).drop o
theorem seg_length {l : List Int} {o n : Nat} (h : o + n ≤ l.length) : (seg l o n).length = n := by rw [seg, List.length_drop, List.length_take]; omega
theorem seg_byte {l : List Int} (h : Byte l) (o n : Nat) : Byte (seg l o n) := (h.take _).drop _
def intAt (b : List Int) (i : Int) : Int × Bool := if 0 ≤ i ∧ i < (b.length / 8 : Nat) then (wrap64 (lowN (seg b (8 * i.toNat) 8)), true) else (0, false)
theorem intAt_eq (K : Nat) (b : List Int) (i : Int) (hb : Byte b) (hl : b.length ≤ 9223372036854775807) (hK : 9 ≤ K) : plain_IntAt.f K b i = some (intAt b i) := by
  have hw : wrap64 ((b.length : Int) / 8) = ((b.length / 8 : Nat) : Int) := by unfold wrap64; omega
  unfold plain_IntAt.f intAt
  rw [hw]
  by_cases c1 : i < 0
  · rw [if_pos c1, if_neg (by omega)]
  rw [if_neg c1]
  by_cases c2 : i ≥ ((b.length / 8 : Nat) : Int)
  · rw [if_pos c2, if_neg (by omega)]
  rw [if_neg c2, if_pos (by omega : 0 ≤ i ∧ i < ((b.length / 8 : Nat) : Int))]
  obtain ⟨j, rfl⟩ := Int.eq_ofNat_of_zero_le (by omega : 0 ≤ i)
  have h1 : wrap64 (8 * (j : Int)) = ((8 * j : Nat) : Int) := by unfold wrap64; omega
  have h2 : wrap64 ((j : Int) + 1) = ((j + 1 : Nat) : Int) := by unfold wrap64; omega
  have h3 : wrap64 (8 * ((j + 1 : Nat) : Int)) = ((8 * j + 8 : Nat) : Int) := by unfold wrap64; omega
  rw [h2, h1, h3, if_pos (by omega), if_pos (by omega), if_pos (by omega), Int.toNat_natCast, Int.toNat_natCast, Int.toNat_natCast]
  show (plain_low.f K (seg b (8 * j) 8)).bind _ = _
  rw [low_eq K _ (seg_byte hb _ _) (by rw [seg_length (by omega)]; omega) hK]
  rfl
theorem fill_set {α : Type} (f : Nat → α) (z : α) (i m : Nat) : ((List.range i).map f ++ List.replicate (m + 1) z).set i (f i) = (List.range (i + 1)).map f ++ List.replicate m z := by
  rw [List.set_append_right _ _ (by simp), List.length_map, List.length_range, Nat.sub_self, List.replicate_succ, List.set_cons_zero, List.range_succ, List.map_append, List.append_assoc]
  rfl
def numAt (b : List Int) (i : Nat) : Int := wrap64 (lowN (seg b (8 * i) 8))
def nums (b : List Int) (n : Nat) : List Int := (List.range n).map (numAt b)
theorem may_eq (n : Int) : plain_may.f n = some (if n < 0 then 2 else if n > 16777216 then 3 else 0) := by
  unfold plain_may.f
  by_cases c1 : n < 0
  · rw [if_pos c1, if_pos c1]
  · rw [if_neg c1, if_neg c1]
    by_cases c2 : n > 16777216
    · rw [if_pos c2, if_pos c2]
    · rw [if_neg c2, if_neg c2]
theorem ints_loop (K : Nat) (b : List Int) (n : Nat) (hb : Byte b) (hl : b.length = 8 * n) (hn : n ≤ 16777216) (hK : 9 ≤ K) : ∀ m i, i + m = n →
    plain_Ints.l0 (m + (K + 1)) b ((List.range i).map (numAt b) ++ List.replicate m 0) (n : Int) (i : Int) = some (nums b n, 0)
  | 0, i, hi => by
    obtain rfl : i = n := by omega
    rw [Nat.zero_add, plain_Ints.l0, if_neg (by omega), List.replicate_zero, List.append_nil]; rfl
  | m + 1, i, hi => by
    have hnx : wrap64 ((i : Int) + 1) = ((i + 1 : Nat) : Int) := by unfold wrap64; omega
    have hv : intAt b (i : Int) = (numAt b i, true) := by rw [intAt, if_pos (by omega), Int.toNat_natCast]; rfl
    rw [show m + 1 + (K + 1) = (m + (K + 1)) + 1 from by omega, plain_Ints.l0, if_pos (by omega), intAt_eq _ b i hb (by show b.length ≤ 9223372036854775807; omega) (by omega), hv]
    rw [Option.bind_some, if_pos (by omega), if_pos (by simp; omega), hnx, Int.toNat_natCast, fill_set]
    exact ints_loop K b n hb hl hn hK m (i + 1) (by omega)
def ints (b : List Int) (n : Int) : List Int × Int := if n < 0 then ([], 2) else if n > 16777216 then ([], 3) else if (b.length : Int) < 8 * n then ([], 71) else if (b.length : Int) > 8 * n then ([], 72) else (nums b n.toNat, 0)
theorem ints_eq (K : Nat) (b : List Int) (n : Int) (hb : Byte b) (hl : b.length ≤ 9223372036854775807) (hK : 16777216 + 10 ≤ K) : plain_Ints.f K b n = some (ints b n) := by
  unfold plain_Ints.f ints
  rw [may_eq]
  by_cases c1 : n < 0
  · rw [if_pos c1, if_pos c1]; rfl
  rw [if_neg c1, if_neg c1]
  by_cases c2 : n > 16777216
  · rw [if_pos c2, if_pos c2]; rfl
  rw [if_neg c2, if_neg c2]
  rw [Option.bind_some, if_pos rfl]
  have h1 : wrap64 (8 * n) = 8 * n := by unfold wrap64; omega
  rw [h1]
  by_cases c3 : (b.length : Int) < 8 * n
  · rw [if_pos c3, if_pos c3]
  rw [if_neg c3, if_neg c3]
  by_cases c4 : (b.length : Int) > 8 * n
  · rw [if_pos c4, if_pos c4]
  rw [if_neg c4, if_neg c4, if_pos (by omega), if_pos (by omega)]
  obtain ⟨j, rfl⟩ := Int.eq_ofNat_of_zero_le (by omega : 0 ≤ n)
  show plain_Ints.l0 K b (List.replicate j 0) ((List.replicate j (0 : Int)).length : Int) 0 = some (nums b j, 0)
  rw [List.length_replicate]
  have h := ints_loop (K - j - 1) b j hb (by omega) (by omega) (by omega) j 0 (by omega)
  rw [show j + (K - j - 1 + 1) = K from by omega] at h
  exact h
theorem sameInts_loop (K : Nat) (a : List Int) (hl : a.length ≤ 9223372036854775806) : ∀ m i, i + m = a.length → colonnaderef08_SameInts.l0 (m + (K + 1)) a a (i : Int) = some true
  | 0, i, hi => by rw [Nat.zero_add, colonnaderef08_SameInts.l0, if_neg (by omega)]
  | m + 1, i, hi => by
    have hnx : wrap64 ((i : Int) + 1) = ((i + 1 : Nat) : Int) := by unfold wrap64; omega
    rw [show m + 1 + (K + 1) = (m + (K + 1)) + 1 from by omega, colonnaderef08_SameInts.l0, if_pos (by omega), if_pos (by omega), if_pos (by omega), if_pos rfl, hnx]
    exact sameInts_loop K a hl m (i + 1) (by omega)
theorem sameInts_refl (K : Nat) (a : List Int) (hl : a.length ≤ 9223372036854775806) (hK : a.length + 1 ≤ K) : colonnaderef08_SameInts.f K a a = some true := by
  unfold colonnaderef08_SameInts.f
  rw [if_pos rfl]
  have h := sameInts_loop (K - a.length - 1) a hl a.length 0 (by omega)
  rw [show a.length + (K - a.length - 1 + 1) = K from by omega] at h
  exact h
theorem refLow_loop (K : Nat) (l : List Int) (h : Byte l) (h8 : l.length ≤ 8) : ∀ i, i ≤ l.length → colonnaderef08_Low.l0 (i + (K + 1)) l (lowN (l.drop i)) ((i : Int) - 1) = some (lowN l)
  | 0, _ => by rw [Nat.zero_add, colonnaderef08_Low.l0, if_neg (by omega), List.drop_zero]
  | i + 1, hi => by
    have hlt : i < l.length := by omega
    have hb := h _ (List.getElem_mem hlt)
    have hr := lowN_range (l.drop (i + 1)) (h.drop _)
    have hp : (2 : Int) ^ (8 * (l.drop (i + 1)).length) ≤ 72057594037927936 := by
      rw [List.length_drop]
      generalize hm : l.length - (i + 1) = m
      have : m = 0 ∨ m = 1 ∨ m = 2 ∨ m = 3 ∨ m = 4 ∨ m = 5 ∨ m = 6 ∨ m = 7 := by omega
      rcases this with h | h | h | h | h | h | h | h <;> subst h <;> decide
    have e : lowN (l.drop i) = l[i] + 256 * lowN (l.drop (i + 1)) := by rw [List.drop_eq_getElem_cons hlt]; rfl
    have hw : IntKind.u64.wrap (IntKind.u64.wrap (lowN (l.drop (i + 1)) * 256) + IntKind.u64.wrap (rd l (i : Int))) = lowN (l.drop i) := by
      rw [rd_nat l i hlt, IntKind.wrap_u64, IntKind.wrap_u64, IntKind.wrap_u64, e]
      generalize (2 : Int) ^ (8 * (l.drop (i + 1)).length) = P at *
      omega
    have hn : wrap64 ((i : Int) - 1) = (i : Int) - 1 := by unfold wrap64; omega
    rw [show i + 1 + (K + 1) = (i + (K + 1)) + 1 from by omega, show ((i + 1 : Nat) : Int) - 1 = (i : Int) from by omega, colonnaderef08_Low.l0, if_pos (by omega), if_pos (by omega), if_pos (by omega), hw, hn]
    exact refLow_loop K l h h8 i (by omega)
theorem refLow_eq (K : Nat) (l : List Int) (h : Byte l) (h8 : l.length ≤ 8) (hK : 9 ≤ K) : colonnaderef08_Low.f K l = some (lowN l) := by
  have hh := refLow_loop (K - l.length - 1) l h h8 l.length (Nat.le_refl _)
  rw [show l.length + (K - l.length - 1 + 1) = K from by omega, List.drop_length] at hh
  have hn : wrap64 ((l.length : Int) - 1) = (l.length : Int) - 1 := by unfold wrap64; omega
  unfold colonnaderef08_Low.f
  rw [hn]
  exact hh
theorem refMay_eq (n : Int) : colonnaderef08_may.f n = some (if n < 0 then 2 else if n > 16777216 then 3 else 0) := by
  unfold colonnaderef08_may.f
  by_cases c1 : n < 0
  · rw [if_pos c1, if_pos c1]
  · rw [if_neg c1, if_neg c1]
    by_cases c2 : n > 16777216
    · rw [if_pos c2, if_pos c2]
    · rw [if_neg c2, if_neg c2]
theorem refIntAt_eq (K : Nat) (b : List Int) (i : Int) (hb : Byte b) (hl : b.length ≤ 9223372036854775807) (hK : 9 ≤ K) : colonnaderef08_IntAt.f K b i = some (intAt b i) := by
  have hw : wrap64 ((b.length : Int) / 8) = ((b.length / 8 : Nat) : Int) := by unfold wrap64; omega
  unfold colonnaderef08_IntAt.f intAt
  rw [hw]
  by_cases c1 : i < 0
  · rw [if_pos c1, if_neg (by omega)]
  rw [if_neg c1]
  by_cases c2 : i ≥ ((b.length / 8 : Nat) : Int)
  · rw [if_pos c2, if_neg (by omega)]
  rw [if_neg c2, if_pos (by omega : 0 ≤ i ∧ i < ((b.length / 8 : Nat) : Int))]
  obtain ⟨j, rfl⟩ := Int.eq_ofNat_of_zero_le (by omega : 0 ≤ i)
  have h1 : wrap64 (8 * (j : Int)) = ((8 * j : Nat) : Int) := by unfold wrap64; omega
  have h3 : wrap64 (((8 * j : Nat) : Int) + 8) = ((8 * j + 8 : Nat) : Int) := by unfold wrap64; omega
  rw [h1, h3, if_pos (by omega), if_pos (by omega), if_pos (by omega), Int.toNat_natCast, Int.toNat_natCast, Int.toNat_natCast]
  show (colonnaderef08_Low.f K (seg b (8 * j) 8)).bind _ = _
  rw [refLow_eq K _ (seg_byte hb _ _) (by rw [seg_length (by omega)]; omega) hK]
  rfl
theorem refInts_loop (K : Nat) (b : List Int) (n : Nat) (hb : Byte b) (hl : b.length = 8 * n) (hn : n ≤ 16777216) (hK : 9 ≤ K) : ∀ m i, i + m = n →
    colonnaderef08_Ints.l0 (m + (K + 1)) b (n : Int) ((List.range i).map (numAt b)) (i : Int) = some (nums b n, 0)
  | 0, i, hi => by
    obtain rfl : i = n := by omega
    rw [Nat.zero_add, colonnaderef08_Ints.l0, if_neg (by omega)]; rfl
  | m + 1, i, hi => by
    have hnx : wrap64 ((i : Int) + 1) = ((i + 1 : Nat) : Int) := by unfold wrap64; omega
    have h1 : wrap64 (8 * (i : Int)) = ((8 * i : Nat) : Int) := by unfold wrap64; omega
    have h3 : wrap64 (((8 * i : Nat) : Int) + 8) = ((8 * i + 8 : Nat) : Int) := by unfold wrap64; omega
    rw [show m + 1 + (K + 1) = (m + (K + 1)) + 1 from by omega, colonnaderef08_Ints.l0, if_pos (by omega), h1, h3, if_pos (by omega), if_pos (by omega), if_pos (by omega), Int.toNat_natCast, Int.toNat_natCast]
    show (colonnaderef08_Low.f _ (seg b (8 * i) 8)).bind _ = _
    rw [refLow_eq _ _ (seg_byte hb _ _) (by rw [seg_length (by omega)]; omega) (by omega), Option.bind_some, if_pos (by rw [List.length_map, List.length_range]; omega), hnx]
    have e : (List.range i).map (numAt b) ++ [wrap64 (lowN (seg b (8 * i) 8))] = (List.range (i + 1)).map (numAt b) := by rw [List.range_succ, List.map_append]; rfl
    rw [e]
    exact refInts_loop K b n hb hl hn hK m (i + 1) (by omega)
theorem refInts_eq (K : Nat) (b : List Int) (n : Int) (hb : Byte b) (hl : b.length ≤ 9223372036854775807) (hK : 16777216 + 10 ≤ K) : colonnaderef08_Ints.f K b n = some (ints b n) := by
  unfold colonnaderef08_Ints.f ints
  rw [refMay_eq]
  by_cases c1 : n < 0
  · rw [if_pos c1, if_pos c1]; rfl
  rw [if_neg c1, if_neg c1]
  by_cases c2 : n > 16777216
  · rw [if_pos c2, if_pos c2]; rfl
  rw [if_neg c2, if_neg c2]
  rw [Option.bind_some, if_pos rfl]
  have h1 : wrap64 (8 * n) = 8 * n := by unfold wrap64; omega
  rw [h1]
  by_cases c3 : (b.length : Int) < 8 * n
  · rw [if_pos c3, if_pos c3]
  rw [if_neg c3, if_neg c3]
  by_cases c4 : (b.length : Int) > 8 * n
  · rw [if_pos c4, if_pos c4]
  rw [if_neg c4, if_neg c4]
  obtain ⟨j, rfl⟩ := Int.eq_ofNat_of_zero_le (by omega : 0 ≤ n)
  have h := refInts_loop (K - j - 1) b j hb (by omega) (by omega) (by omega) j 0 (by omega)
  rw [show j + (K - j - 1 + 1) = K from by omega] at h
  exact h
theorem ints_short (b : List Int) (n : Int) : (ints b n).1.length ≤ 16777216 := by
  unfold ints
  by_cases c1 : n < 0
  · rw [if_pos c1]; simp
  by_cases c2 : n > 16777216
  · rw [if_neg c1, if_pos c2]; simp
  by_cases c3 : (b.length : Int) < 8 * n
  · rw [if_neg c1, if_neg c2, if_pos c3]; simp
  by_cases c4 : (b.length : Int) > 8 * n
  · rw [if_neg c1, if_neg c2, if_neg c3, if_pos c4]; simp
  rw [if_neg c1, if_neg c2, if_neg c3, if_neg c4]
  show (nums b n.toNat).length ≤ _
  rw [nums, List.length_map, List.length_range]; omega
theorem turn_over (K : Nat) (a1 a2 x8 : Int) (n : Nat) (hn : n ≤ 140737488351232) : ∀ m i (l : List Int), Byte l → l.length = n → i + m = n →
    ∃ l', Byte l' ∧ l'.length = n ∧ colonnadelaw08_PlainInts.l1 (m + (K + 1)) a1 a2 l x8 (i : Int) = colonnadelaw08_PlainInts.l0 K a1 a2 l' (wrap64 (x8 + 1))
  | 0, i, l, hb, hl, hi => ⟨l, hb, hl, by rw [Nat.zero_add, colonnadelaw08_PlainInts.l1, if_neg (by omega)]⟩
  | m + 1, i, l, hb, hl, hi => by
    have hnx : wrap64 ((i : Int) + 1) = ((i + 1 : Nat) : Int) := by unfold wrap64; omega
    have hs : Byte (l.set i ((rd l (i : Int) + 3) % 256)) := fun x hx => by
      rcases List.mem_or_eq_of_mem_set hx with h | h
      · exact hb x h
      · subst h; omega
    obtain ⟨l', h1, h2, h3⟩ := turn_over K a1 a2 x8 n hn m (i + 1) _ hs (by rw [List.length_set]; exact hl) (by omega)
    refine ⟨l', h1, h2, ?_⟩
    rw [show m + 1 + (K + 1) = (m + (K + 1)) + 1 from by omega, colonnadelaw08_PlainInts.l1, if_pos (by omega), if_pos (by omega), Int.toNat_natCast, hnx]
    exact h3
theorem turns (a1 a2 : Int) (n : Nat) (hn : n ≤ 140737488351232) : ∀ (t : Nat) (l : List Int) (x8 : Int), Byte l → l.length = n → x8 + t = 2 → 0 ≤ x8 → colonnadelaw08_PlainInts.l0 (50000001 + t * (n + 3)) a1 a2 l x8 = some true
  | 0, l, x8, hb, hl, hx, h0 => by rw [Nat.zero_mul, Nat.add_zero, colonnadelaw08_PlainInts.l0, if_neg (by omega)]
  | t + 1, l, x8, hb, hl, hx, h0 => by
    have e : 50000001 + (t + 1) * (n + 3) = ((n + ((50000001 + t * (n + 3)) + 1)) + 1) + 1 := by rw [Nat.add_mul]; omega
    obtain ⟨l', h1, h2, h3⟩ := turn_over (50000001 + t * (n + 3)) a1 a2 x8 n hn n 0 l hb hl (by omega)
    have ih := turns a1 a2 n hn t l' (wrap64 (x8 + 1)) h1 h2 (by unfold wrap64; omega) (by unfold wrap64; omega)
    rw [ih] at h3
    rw [e]
    generalize hF : n + ((50000001 + t * (n + 3)) + 1) = F at h3 ⊢
    have hFb : 50000001 ≤ F := by omega
    have hj : colonnadelaw08_PlainInts.j1 (F + 1) a1 a2 l x8 (!true) = some true := by
      rw [colonnadelaw08_PlainInts.j1, if_neg (by decide)]; exact h3
    rw [colonnadelaw08_PlainInts.l0, if_pos (by omega), Option.bind_some, if_pos (by rw [List.length_nil]; omega), Option.bind_some, List.nil_append,
      refInts_eq _ l a1 hb (by omega) (by omega), Option.bind_some, ints_eq _ l a1 hb (by omega) (by omega), Option.bind_some, refIntAt_eq _ l a2 hb (by omega) (by omega), Option.bind_some, intAt_eq _ l a2 hb (by omega) (by omega), Option.bind_some]
    have hz := ints_short l a1
    rw [show colonnadelaw08_num.f (ints l a1).2 = some (ints l a1).2 from rfl, Option.bind_some, if_pos rfl, sameInts_refl _ _ (by omega) (by omega), Option.bind_some, if_pos rfl, if_pos rfl, bne_self_eq_false, if_neg (by decide)]
    unfold colonnadelaw08_bytesKept.f
    rw [if_pos (by omega), beq_self_eq_true, Option.bind_some]
    exact hj
theorem main : colonnadelaw08_PlainInts.Pure := by
  intro b n i hl hz hb _ _
  replace hb := byte_of hb
  refine ⟨50000001 + 2 * (b.length + 3), ?_⟩
  unfold colonnadelaw08_PlainInts.f colonnadelaw08_bytesLent.f
  rw [if_pos (by omega), Option.bind_some]
  exact turns n i b.length (by omega) 2 b 0 hb rfl (by omega) (by omega)
end PlainIntsP
theorem PlainInts : colonnadelaw08_PlainInts.Pure := PlainIntsP.main
end Go.Proofs.Ytkepimkabfoapab.Pure
