/- The bytes of numbers behind numbers are the bytes of both, one behind the other; and texts behind texts have the heaps of both, and the ends of the first ones as they were. -/
import Derived.Test.YtkepimkabfoapabPPlainJoinsx4
import Derived.Laws.BitsLemmas
import Derived.OpenShut
namespace Go.Proofs.Ytkepimkabfoapab.Pure
open Go.RowKit Go.Proofs.Ytkepimkabfoapab.PPlainJoins Go.Proofs.YtkepimkabfoapabW.PrintWords Go.Proofs.YtkepimkabfoapabW.PrintLast
set_option linter.unusedVariables false
set_option linter.unusedSimpArgs false
def colonnadelaw08_PlainJoins.PureU : Prop := ∀ (l0 : List Int) (l1 : List Int) (l2 : List ByteArray) (l3 : List ByteArray), (l0.length ≤ maxLen ∧ ∀ y_ ∈ l0, (Lit.int .i64 y_).wf = true) → (l1.length ≤ maxLen ∧ ∀ y_ ∈ l1, (Lit.int .i64 y_).wf = true) → (l2.length ≤ maxLen ∧ ∀ y_ ∈ l2, y_.size ≤ maxLen) → (l3.length ≤ maxLen ∧ ∀ y_ ∈ l3, y_.size ≤ maxLen) → ((l0.map (fun z_ => 1)).sum + 1) + ((l1.map (fun z_ => 1)).sum + 1) + ((l2.map (fun z_ => (z_.size + 1))).sum + 1) + ((l3.map (fun z_ => (z_.size + 1))).sum + 1) ≤ 1048576 → ∃ k, colonnadelaw08_PlainJoins.f k l0 l1 l2 l3 = some true
namespace PlainJoinsP
/-- the number in bytes, the lowest first -/
def lowN : List Int → Int
  | [] => 0
  | b :: l => b + 256 * lowN l
def Byte (l : List Int) : Prop := ∀ x ∈ l, 0 ≤ x ∧ x < 256
theorem Byte.take {l : List Int} (h : Byte l) (n : Nat) : Byte (l.take n) := fun x hx => h x (List.mem_of_mem_take hx)
theorem Byte.drop {l : List Int} (h : Byte l) (n : Nat) : Byte (l.drop n) := fun x hx => h x (List.mem_of_mem_drop hx)
theorem Byte.append {a b : List Int} (h : Byte a) (k : Byte b) : Byte (a ++ b) := fun x hx => (List.mem_append.mp hx).elim (h x) (k x)
theorem p8 (n : Nat) : (2 : Int) ^ (8 * (n + 1)) = 256 * 2 ^ (8 * n) := by
  show (2 : Int) ^ (8 * n + 1 + 1 + 1 + 1 + 1 + 1 + 1 + 1) = _
  simp only [Int.pow_succ]; omega
theorem p8pos (n : Nat) : (0 : Int) < 2 ^ (8 * n) := by
  induction n with
  | zero => decide
  | succ n ih => rw [p8]; omega
theorem lowN_range : ∀ (l : List Int), Byte l → 0 ≤ lowN l ∧ lowN l < 2 ^ (8 * l.length)
  | [], _ => by simp [lowN]
  | b :: l, h => by
    have hb := h b (by simp)
    have ih := lowN_range l fun x hx => h x (by simp [hx])
    rw [lowN, List.length_cons, p8]
    omega
theorem lowN_snoc : ∀ (l : List Int) (b : Int), lowN (l ++ [b]) = lowN l + 2 ^ (8 * l.length) * b
  | [], b => by simp [lowN]
  | a :: l, b => by
    rw [List.cons_append, lowN, lowN_snoc l b, lowN, List.length_cons, p8, Int.mul_add, Int.mul_assoc, Int.add_assoc]
theorem lowN_inj : ∀ (a b : List Int), Byte a → Byte b → a.length = b.length → lowN a = lowN b → a = b
  | [], [], _, _, _, _ => rfl
  | [], _ :: _, _, _, h, _ => by simp at h
  | _ :: _, [], _, _, h, _ => by simp at h
  | x :: a, y :: b, ha, hb, h, e => by
    have h1 := ha x (by simp)
    have h2 := hb y (by simp)
    rw [lowN, lowN] at e
    have e1 : x = y := by omega
    have e2 : lowN a = lowN b := by omega
    rw [e1, lowN_inj a b (fun z hz => ha z (by simp [hz])) (fun z hz => hb z (by simp [hz])) (by simpa using h) e2]
theorem mod_step (v P : Int) (hv : 0 ≤ v) (hP : 0 < P) : v % P + P * (v / P % 256) = v % (256 * P) := by
  obtain ⟨a, rfl⟩ := Int.eq_ofNat_of_zero_le hv
  obtain ⟨b, rfl⟩ := Int.eq_ofNat_of_zero_le (Int.le_of_lt hP)
  have h := @Nat.mod_mul b 256 a
  rw [Nat.mul_comm b 256] at h
  have h2 := congrArg (fun n : Nat => (n : Int)) h.symm
  simp only [Int.natCast_add, Int.natCast_mul, Int.natCast_emod, Int.natCast_ediv] at h2
  exact h2
theorem bytesN_byte (v : Int) : ∀ n, Byte (XPlain.bytesN v n)
  | 0 => fun x hx => by simp [XPlain.bytesN] at hx
  | n + 1 => (bytesN_byte v n).append fun x hx => by rw [List.mem_singleton.mp hx]; exact ⟨Int.emod_nonneg _ (by decide), Int.emod_lt_of_pos _ (by decide)⟩
theorem lowN_bytesN (v : Int) (hv : 0 ≤ v) : ∀ n, lowN (XPlain.bytesN v n) = v % 2 ^ (8 * n)
  | 0 => by simp [XPlain.bytesN, lowN]
  | n + 1 => by rw [XPlain.bytesN, lowN_snoc, XPlain.bytesN_length, lowN_bytesN v hv n, p8, mod_step v _ hv (p8pos n)]
theorem bytesN_lowN (l : List Int) (h : Byte l) : XPlain.bytesN (lowN l) l.length = l := by
  have hr := lowN_range l h
  refine lowN_inj _ _ (bytesN_byte _ _) h (XPlain.bytesN_length _ _) ?_
  rw [lowN_bytesN _ hr.1, Int.emod_eq_of_lt hr.1 hr.2]
theorem byte_of {l : List Int} (h : ∀ y_ ∈ l, (Lit.int .u8 y_).wf = true) : Byte l := fun x hx => by
  have := h x hx
  simp only [Lit.wf, Bool.and_eq_true, decide_eq_true_eq] at this
  obtain ⟨h1, h2⟩ := this
  exact ⟨h1, Int.lt_of_le_of_lt h2 (by decide)⟩
theorem or_low (x b : Int) (i : Nat) (hi : i < 8) (h0 : 0 ≤ x) (h1 : x < 2 ^ (8 * i)) (hb : 0 ≤ b ∧ b < 256) : Go.bits .or .u64 x (shl .u64 (IntKind.u64.wrap b) (wrap64 (8 * (i : Int)))) = x + 2 ^ (8 * i) * b := by
  have hw : wrap64 (8 * (i : Int)) = ((8 * i : Nat) : Int) := by unfold wrap64; omega
  have hbw : IntKind.u64.wrap b = b := by rw [IntKind.wrap_u64]; omega
  have hP : (2 : Int) ^ (8 * i) ≤ 72057594037927936 := by
    have : i = 0 ∨ i = 1 ∨ i = 2 ∨ i = 3 ∨ i = 4 ∨ i = 5 ∨ i = 6 ∨ i = 7 := by omega
    rcases this with rfl | rfl | rfl | rfl | rfl | rfl | rfl | rfl <;> decide
  have hpos := p8pos i
  have hmul : b * 2 ^ (8 * i) ≤ 255 * 2 ^ (8 * i) := Int.mul_le_mul_of_nonneg_right (by omega) (Int.le_of_lt hpos)
  have hmul0 : 0 ≤ b * 2 ^ (8 * i) := Int.mul_nonneg hb.1 (Int.le_of_lt hpos)
  have hs : shl .u64 b ((8 * i : Nat) : Int) = b * 2 ^ (8 * i) := by
    rw [← shl_small (k := .u64) (x := b) (y := ((8 * i : Nat) : Int)) rfl (by simp [IntKind.bits]; omega), Int.toNat_natCast, IntKind.wrap_u64]
    generalize (2 : Int) ^ (8 * i) = P at *
    omega
  rw [hw, hbw, hs]
  have hc : Go.bits .or .u64 x (b * 2 ^ (8 * i)) = Go.bits .or .u64 (b * 2 ^ (8 * i)) x := by simp only [Go.bits, BitVec.or_comm]
  have hm : b * 2 ^ (8 * i) % 2 ^ (8 * i) = 0 := Int.mul_emod_left _ _
  rw [hc, bits_join .u64 64 (by decide) (fun n h0 h1 => by rw [IntKind.wrap_u64]; omega) (8 * i) _ x hmul0 hm (by omega) h0 h1 (by omega), Int.add_comm, Int.mul_comm b]
theorem rd_nat (l : List Int) (i : Nat) (h : i < l.length) : rd l (i : Int) = l[i] := by simp [rd, h]
theorem low_loop (K : Nat) (l : List Int) (h : Byte l) (h8 : l.length ≤ 8) : ∀ m i, i + m = l.length → plain_low.l0 (m + (K + 1)) (lowN (l.take i)) l (l.length : Int) (i : Int) = some (lowN l)
  | 0, i, hi => by
    rw [Nat.zero_add, plain_low.l0, if_neg (by omega), List.take_of_length_le (by omega)]
  | m + 1, i, hi => by
    have hlt : i < l.length := by omega
    have hr := lowN_range (l.take i) (h.take i)
    have hti : (l.take i).length = i := by rw [List.length_take]; omega
    rw [hti] at hr
    have hz : 0 ≤ wrap64 (8 * (i : Int)) := by unfold wrap64; omega
    have hn : wrap64 ((i : Int) + 1) = ((i + 1 : Nat) : Int) := by unfold wrap64; omega
    have hnx : lowN (l.take i) + 2 ^ (8 * i) * l[i] = lowN (l.take (i + 1)) := by rw [List.take_succ_eq_append_getElem hlt, lowN_snoc, hti]
    rw [show m + 1 + (K + 1) = (m + (K + 1)) + 1 from by omega, plain_low.l0, if_pos (by omega), if_pos (by omega), if_pos (by omega), if_pos hz, rd_nat l i hlt, or_low _ _ i (by omega) hr.1 hr.2 (h _ (List.getElem_mem hlt)), hnx, hn]
    exact low_loop K l h h8 m (i + 1) (by omega)
theorem low_eq (K : Nat) (l : List Int) (h : Byte l) (h8 : l.length ≤ 8) (hK : 9 ≤ K) : plain_low.f K l = some (lowN l) := by
  have := low_loop (K - l.length - 1) l h h8 l.length 0 (by omega)
  rw [show l.length + (K - l.length - 1 + 1) = K from by omega, List.take_zero] at this
  exact this
def seg (l : List Int) (o n : Nat) : List Int := (l.take (o + n)).drop o
theorem seg_length {l : List Int} {o n : Nat} (h : o + n ≤ l.length) : (seg l o n).length = n := by rw [seg, List.length_drop, List.length_take]; omega
theorem seg_byte {l : List Int} (h : Byte l) (o n : Nat) : Byte (seg l o n) := (h.take _).drop _
def intAt (b : List Int) (i : Int) : Int × Bool := if 0 ≤ i ∧ i < (b.length / 8 : Nat) then (wrap64 (lowN (seg b (8 * i.toNat) 8)), true) else (0, false)
theorem intAt_eq (K : Nat) (b : List Int) (i : Int) (hb : Byte b) (hl : b.length ≤ 9223372036854775807) (hK : 9 ≤ K) : plain_IntAt.f K b i = some (intAt b i) := by
  have hw : wrap64 ((b.length : Int) / 8) = ((b.length / 8 : Nat) : Int) := by unfold wrap64; omega
  unfold plain_IntAt.f intAt
  rw [hw]
  by_cases c1 : i < 0
  · rw [if_pos c1, if_neg (by omega)]
  rw [if_neg c1]
  by_cases c2 : i ≥ ((b.length / 8 : Nat) : Int)
  · rw [if_pos c2, if_neg (by omega)]
  rw [if_neg c2, if_pos (by omega : 0 ≤ i ∧ i < ((b.length / 8 : Nat) : Int))]
  obtain ⟨j, rfl⟩ := Int.eq_ofNat_of_zero_le (by omega : 0 ≤ i)
  have h1 : wrap64 (8 * (j : Int)) = ((8 * j : Nat) : Int) := by unfold wrap64; omega
  have h2 : wrap64 ((j : Int) + 1) = ((j + 1 : Nat) : Int) := by unfold wrap64; omega
  have h3 : wrap64 (8 * ((j + 1 : Nat) : Int)) = ((8 * j + 8 : Nat) : Int) := by unfold wrap64; omega
  rw [h2, h1, h3, if_pos (by omega), if_pos (by omega), if_pos (by omega), Int.toNat_natCast, Int.toNat_natCast, Int.toNat_natCast]
  show (plain_low.f K (seg b (8 * j) 8)).bind _ = _
  rw [low_eq K _ (seg_byte hb _ _) (by rw [seg_length (by omega)]; omega) hK]
  rfl
theorem fill_set {α : Type} (f : Nat → α) (z : α) (i m : Nat) : ((List.range i).map f ++ List.replicate (m + 1) z).set i (f i) = (List.range (i + 1)).map f ++ List.replicate m z := by
  rw [List.set_append_right _ _ (by simp), List.length_map, List.length_range, Nat.sub_self, List.replicate_succ, List.set_cons_zero, List.range_succ, List.map_append, List.append_assoc]
  rfl
def numAt (b : List Int) (i : Nat) : Int := wrap64 (lowN (seg b (8 * i) 8))
def nums (b : List Int) (n : Nat) : List Int := (List.range n).map (numAt b)
theorem may_eq (n : Int) : plain_may.f n = some (if n < 0 then 2 else if n > 16777216 then 3 else 0) := by
  unfold plain_may.f
  by_cases c1 : n < 0
  · rw [if_pos c1, if_pos c1]
  · rw [if_neg c1, if_neg c1]
    by_cases c2 : n > 16777216
    · rw [if_pos c2, if_pos c2]
    · rw [if_neg c2, if_neg c2]
theorem ints_loop (K : Nat) (b : List Int) (n : Nat) (hb : Byte b) (hl : b.length = 8 * n) (hn : n ≤ 16777216) (hK : 9 ≤ K) : ∀ m i, i + m = n →
    plain_Ints.l0 (m + (K + 1)) b ((List.range i).map (numAt b) ++ List.replicate m 0) (n : Int) (i : Int) = some (nums b n, 0)
  | 0, i, hi => by
    obtain rfl : i = n := by omega
    rw [Nat.zero_add, plain_Ints.l0, if_neg (by omega), List.replicate_zero, List.append_nil]; rfl
  | m + 1, i, hi => by
    have hnx : wrap64 ((i : Int) + 1) = ((i + 1 : Nat) : Int) := by unfold wrap64; omega
    have hv : intAt b (i : Int) = (numAt b i, true) := by rw [intAt, if_pos (by omega), Int.toNat_natCast]; rfl
    rw [show m + 1 + (K + 1) = (m + (K + 1)) + 1 from by omega, plain_Ints.l0, if_pos (by omega), intAt_eq _ b i hb (by show b.length ≤ 9223372036854775807; omega) (by omega), hv]
    rw [Option.bind_some, if_pos (by omega), if_pos (by simp; omega), hnx, Int.toNat_natCast, fill_set]
    exact ints_loop K b n hb hl hn hK m (i + 1) (by omega)
def ints (b : List Int) (n : Int) : List Int × Int := if n < 0 then ([], 2) else if n > 16777216 then ([], 3) else if (b.length : Int) < 8 * n then ([], 71) else if (b.length : Int) > 8 * n then ([], 72) else (nums b n.toNat, 0)
theorem ints_eq (K : Nat) (b : List Int) (n : Int) (hb : Byte b) (hl : b.length ≤ 9223372036854775807) (hK : 16777216 + 10 ≤ K) : plain_Ints.f K b n = some (ints b n) := by
  unfold plain_Ints.f ints
  rw [may_eq]
  by_cases c1 : n < 0
  · rw [if_pos c1, if_pos c1]; rfl
  rw [if_neg c1, if_neg c1]
  by_cases c2 : n > 16777216
  · rw [if_pos c2, if_pos c2]; rfl
  rw [if_neg c2, if_neg c2]
  rw [Option.bind_some, if_pos rfl]
  have h1 : wrap64 (8 * n) = 8 * n := by unfold wrap64; omega
  rw [h1]
  by_cases c3 : (b.length : Int) < 8 * n
  · rw [if_pos c3, if_pos c3]
  rw [if_neg c3, if_neg c3]
  by_cases c4 : (b.length : Int) > 8 * n
  · rw [if_pos c4, if_pos c4]
  rw [if_neg c4, if_neg c4, if_pos (by omega), if_pos (by omega)]
  obtain ⟨j, rfl⟩ := Int.eq_ofNat_of_zero_le (by omega : 0 ≤ n)
  show plain_Ints.l0 K b (List.replicate j 0) ((List.replicate j (0 : Int)).length : Int) 0 = some (nums b j, 0)
  rw [List.length_replicate]
  have h := ints_loop (K - j - 1) b j hb (by omega) (by omega) (by omega) j 0 (by omega)
  rw [show j + (K - j - 1 + 1) = K from by omega] at h
  exact h
def endAt (b : List Int) (i : Nat) : Int := lowN (seg b (4 * i) 4)
theorem endAt_range {b : List Int} (hb : Byte b) {i : Nat} (hi : 4 * (i + 1) ≤ b.length) : 0 ≤ endAt b i ∧ endAt b i < 4294967296 := by
  have h := lowN_range _ (seg_byte hb (4 * i) 4)
  rw [seg_length (by omega)] at h
  exact ⟨h.1, h.2⟩
theorem end_eq (K : Nat) (b : List Int) (i : Nat) (hb : Byte b) (hl : b.length ≤ 9223372036854775807) (hi : 4 * (i + 1) ≤ b.length) (hK : 9 ≤ K) : plain_end.f K b (i : Int) = some (endAt b i) := by
  have h1 : wrap64 (4 * (i : Int)) = ((4 * i : Nat) : Int) := by unfold wrap64; omega
  have h2 : wrap64 ((i : Int) + 1) = ((i + 1 : Nat) : Int) := by unfold wrap64; omega
  have h3 : wrap64 (4 * ((i + 1 : Nat) : Int)) = ((4 * i + 4 : Nat) : Int) := by unfold wrap64; omega
  have hr := endAt_range hb hi
  unfold plain_end.f
  rw [h2, h1, h3, if_pos (by omega), if_pos (by omega), if_pos (by omega), Int.toNat_natCast, Int.toNat_natCast]
  show (plain_low.f K (seg b (4 * i) 4)).bind _ = _
  rw [low_eq K _ (seg_byte hb _ _) (by rw [seg_length (by omega)]; omega) hK]
  show some (wrap64 (endAt b i)) = _
  congr 1
  unfold wrap64; omega
def textAt (b : List Int) (n i : Int) : ByteArray × Bool :=
  if 0 ≤ n ∧ n ≤ 16777216 ∧ 0 ≤ i ∧ i < n ∧ 4 * (n + 1) ≤ b.length then
    if endAt b i.toNat ≤ endAt b (i.toNat + 1) ∧ endAt b (i.toNat + 1) ≤ b.length - 4 * (n + 1) then (strOfNums (((b.drop (4 * (n.toNat + 1))).take (endAt b (i.toNat + 1)).toNat).drop (endAt b i.toNat).toNat), true) else (⟨#[]⟩, false)
  else (⟨#[]⟩, false)
theorem textAt_eq (K : Nat) (b : List Int) (n i : Int) (hb : Byte b) (hl : b.length ≤ 9223372036854775807) (hK : 10 ≤ K) : plain_TextAt.f K b n i = some (textAt b n i) := by
  obtain ⟨K, rfl⟩ : ∃ k, K = k + 1 := ⟨K - 1, by omega⟩
  have hj : plain_TextAt.j0 (K + 1) b n i true = some ((⟨#[]⟩ : ByteArray), false) := by rw [plain_TextAt.j0, if_pos rfl]
  unfold plain_TextAt.f textAt
  rw [may_eq]
  by_cases c1 : n < 0
  · rw [if_pos c1, Option.bind_some, if_neg (by decide), if_neg (by omega)]; exact hj
  rw [if_neg c1]
  by_cases c2 : n > 16777216
  · rw [if_pos c2, Option.bind_some, if_neg (by decide), if_neg (by omega)]; exact hj
  rw [if_neg c2, Option.bind_some, if_pos rfl]
  by_cases c3 : i < 0
  · rw [if_pos c3, if_neg (by omega)]; exact hj
  rw [if_neg c3]
  by_cases c4 : i ≥ n
  · rw [if_pos c4, if_neg (by omega)]; exact hj
  rw [if_neg c4]
  have h1 : wrap64 (n + 1) = n + 1 := by unfold wrap64; omega
  have h2 : wrap64 (4 * (n + 1)) = 4 * (n + 1) := by unfold wrap64; omega
  rw [h1, h2]
  by_cases c5 : (b.length : Int) < 4 * (n + 1)
  · rw [decide_eq_true c5, if_neg (by omega)]; exact hj
  rw [decide_eq_false c5, if_pos (by omega : 0 ≤ n ∧ n ≤ 16777216 ∧ 0 ≤ i ∧ i < n ∧ 4 * (n + 1) ≤ (b.length : Int))]
  obtain ⟨j, rfl⟩ := Int.eq_ofNat_of_zero_le (by omega : 0 ≤ i)
  obtain ⟨n, rfl⟩ := Int.eq_ofNat_of_zero_le (by omega : 0 ≤ n)
  have h3 : wrap64 ((j : Int) + 1) = ((j + 1 : Nat) : Int) := by unfold wrap64; omega
  have hd : (((b.drop (4 * (n + 1))).length : Nat) : Int) = b.length - 4 * ((n : Int) + 1) := by rw [List.length_drop]; omega
  have ht : (4 * ((n : Int) + 1)).toNat = 4 * (n + 1) := by omega
  have r0 := endAt_range hb (i := j) (by omega)
  have r1 := endAt_range hb (i := j + 1) (by omega)
  rw [plain_TextAt.j0, if_neg (by decide), h1, h2, if_pos (by omega), if_pos (by omega), h3, end_eq K b j hb hl (by omega) (by omega), end_eq K b (j + 1) hb hl (by omega) (by omega), ht]
  rw [Option.bind_some, Option.bind_some, hd, Int.toNat_natCast, Int.toNat_natCast]
  by_cases c6 : endAt b j > endAt b (j + 1)
  · rw [if_pos c6, if_neg (by omega)]
  rw [if_neg c6]
  by_cases c7 : endAt b (j + 1) > b.length - 4 * ((n : Int) + 1)
  · rw [if_pos c7, if_neg (by omega)]
  rw [if_neg c7, if_pos r0.1, if_pos (by omega), if_pos (by omega), if_pos (by omega)]
def okEnds (b : List Int) : Nat → Nat → Int → Option Int
  | 0, _, last => some last
  | m + 1, i, last => if endAt b (i + 1) < last then none else if endAt b (i + 1) - last > 65535 then none else okEnds b m (i + 1) (endAt b (i + 1))
def strAt (b : List Int) (n : Nat) (i : Nat) : ByteArray := (textAt b n i).1
def strs (b : List Int) (n : Nat) : List ByteArray := (List.range n).map (strAt b n)
def textsEnd (b : List Int) (n : Nat) : Option Int → List ByteArray × Int
  | none => ([], 70)
  | some last => if (b.length : Int) - 4 * ((n : Int) + 1) < last then ([], 71) else if (b.length : Int) - 4 * ((n : Int) + 1) > last then ([], 72) else (strs b n, 0)
def texts (b : List Int) (n : Int) : List ByteArray × Int := if n < 0 then ([], 2) else if n > 16777216 then ([], 3) else if (b.length : Int) < 4 * (n + 1) then ([], 71) else if endAt b 0 = 0 then textsEnd b n.toNat (okEnds b n.toNat 0 0) else ([], 70)
theorem texts_fill (K : Nat) (b : List Int) (n : Nat) (hb : Byte b) (hl : b.length ≤ 9223372036854775807) (hn : n ≤ 16777216) (hK : 10 ≤ K) : ∀ m i, i + m = n →
    plain_Texts.l1 (m + (K + 1)) b n ((List.range i).map (strAt b n) ++ List.replicate m (⟨#[]⟩ : ByteArray)) (n : Int) (i : Int) = some (strs b n, 0)
  | 0, i, hi => by
    obtain rfl : i = n := by omega
    rw [Nat.zero_add, plain_Texts.l1, if_neg (by omega), List.replicate_zero, List.append_nil]; rfl
  | m + 1, i, hi => by
    have hnx : wrap64 ((i : Int) + 1) = ((i + 1 : Nat) : Int) := by unfold wrap64; omega
    rw [show m + 1 + (K + 1) = (m + (K + 1)) + 1 from by omega, plain_Texts.l1, if_pos (by omega), textAt_eq _ b n i hb hl (by omega)]
    rw [Option.bind_some, if_pos (by omega), if_pos (by simp; omega), hnx, Int.toNat_natCast]
    show plain_Texts.l1 _ b n (((List.range i).map (strAt b n) ++ List.replicate (m + 1) (⟨#[]⟩ : ByteArray)).set i (strAt b n i)) _ _ = _
    rw [fill_set]
    exact texts_fill K b n hb hl hn hK m (i + 1) (by omega)
theorem texts_loop (K : Nat) (b : List Int) (n : Nat) (hb : Byte b) (hl : b.length ≤ 9223372036854775807) (hn : n ≤ 16777216) (hN : 4 * (n + 1) ≤ b.length) (hK : n + 12 ≤ K) : ∀ m i last, 0 ≤ last ∧ last < 4294967296 → i + m = n →
    plain_Texts.l0 (m + (K + 1)) b n last (n : Int) (i : Int) = some (textsEnd b n (okEnds b m i last))
  | 0, i, last, hL, hi => by
    have h1 : wrap64 ((n : Int) + 1) = ((n + 1 : Nat) : Int) := by unfold wrap64; omega
    have h2 : wrap64 (4 * ((n + 1 : Nat) : Int)) = ((4 * (n + 1) : Nat) : Int) := by unfold wrap64; omega
    have h3 : wrap64 ((b.length : Int) - ((4 * (n + 1) : Nat) : Int)) = b.length - 4 * ((n : Int) + 1) := by unfold wrap64; omega
    rw [Nat.zero_add, plain_Texts.l0, if_neg (by omega), h1, h2, h3, okEnds, textsEnd]
    by_cases c1 : (b.length : Int) - 4 * ((n : Int) + 1) < last
    · rw [if_pos c1, if_pos c1]
    rw [if_neg c1, if_neg c1]
    by_cases c2 : (b.length : Int) - 4 * ((n : Int) + 1) > last
    · rw [if_pos c2, if_pos c2]
    rw [if_neg c2, if_neg c2, if_pos (by omega), if_pos (by omega), Int.toNat_natCast]
    show plain_Texts.l1 K b n (List.replicate n (⟨#[]⟩ : ByteArray)) ((List.replicate n (⟨#[]⟩ : ByteArray)).length : Int) 0 = _
    rw [List.length_replicate]
    have h := texts_fill (K - n - 1) b n hb hl hn (by omega) n 0 (by omega)
    rw [show n + (K - n - 1 + 1) = K from by omega] at h
    exact h
  | m + 1, i, last, hL, hi => by
    have hnx : wrap64 ((i : Int) + 1) = ((i + 1 : Nat) : Int) := by unfold wrap64; omega
    have r := endAt_range hb (i := i + 1) (by omega)
    have hs : wrap64 (endAt b (i + 1) - last) = endAt b (i + 1) - last := by unfold wrap64; omega
    rw [show m + 1 + (K + 1) = (m + (K + 1)) + 1 from by omega, plain_Texts.l0, if_pos (by omega), hnx, end_eq _ b (i + 1) hb hl (by omega) (by omega), okEnds]
    rw [Option.bind_some]
    by_cases c1 : endAt b (i + 1) < last
    · rw [if_pos c1, if_pos c1]; rfl
    rw [if_neg c1, if_neg c1, hs]
    by_cases c2 : endAt b (i + 1) - last > 65535
    · rw [if_pos c2, if_pos c2]; rfl
    rw [if_neg c2, if_neg c2]
    exact texts_loop K b n hb hl hn hN hK m (i + 1) _ r (by omega)
theorem texts_eq (K : Nat) (b : List Int) (n : Int) (hb : Byte b) (hl : b.length ≤ 9223372036854775807) (hK : 33554432 + 20 ≤ K) : plain_Texts.f K b n = some (texts b n) := by
  unfold plain_Texts.f texts
  rw [may_eq]
  by_cases c1 : n < 0
  · rw [if_pos c1, if_pos c1]; rfl
  rw [if_neg c1, if_neg c1]
  by_cases c2 : n > 16777216
  · rw [if_pos c2, if_pos c2]; rfl
  rw [if_neg c2, if_neg c2]
  have h1 : wrap64 (n + 1) = n + 1 := by unfold wrap64; omega
  have h2 : wrap64 (4 * (n + 1)) = 4 * (n + 1) := by unfold wrap64; omega
  rw [Option.bind_some, if_pos rfl]
  rw [h1, h2]
  by_cases c3 : (b.length : Int) < 4 * (n + 1)
  · rw [if_pos c3, if_pos c3]
  rw [if_neg c3, if_neg c3]
  obtain ⟨n, rfl⟩ := Int.eq_ofNat_of_zero_le (by omega : 0 ≤ n)
  have he := end_eq K b 0 hb hl (by omega) (by omega)
  rw [show ((0 : Nat) : Int) = 0 from rfl] at he
  rw [he]
  rw [Option.bind_some]
  by_cases c4 : endAt b 0 = 0
  · rw [if_pos c4, if_pos c4, Int.toNat_natCast]
    have h := texts_loop (K - n - 1) b n hb hl (by omega) (by omega) (by omega) n 0 0 (by decide) (by omega)
    rw [show n + (K - n - 1 + 1) = K from by omega] at h
    exact h
  · rw [if_neg c4, if_neg c4]
theorem total_take (l : List ByteArray) (i : Nat) (h : i < l.length) : XPlain.total (l.take (i + 1)) = XPlain.total (l.take i) + (l[i]).size := by
  rw [List.take_succ_eq_append_getElem h, XPlain.total_append]; rfl
theorem total_take_le (l : List ByteArray) (i : Nat) : XPlain.total (l.take i) ≤ XPlain.total l := by
  have h := XPlain.total_append (l.take i) (l.drop i)
  rw [List.take_append_drop] at h
  omega
theorem rdOf_nat (l : List ByteArray) (i : Nat) (h : i < l.length) : rdOf ByteArray.empty l (i : Int) = l[i] := by simp [rdOf, h]
theorem tooLong_fit : ∀ (l : List ByteArray) (n : Nat), (∀ s ∈ l, s.size ≤ 65535) → n + XPlain.total l ≤ 4294967295 → XPlain.tooLong n l = false
  | [], _, _, _ => rfl
  | s :: l, n, h, k => by
    have h1 := h s (by simp)
    rw [XPlain.total] at k
    rw [XPlain.tooLong, tooLong_fit l _ (fun x hx => h x (by simp [hx])) (by omega), decide_eq_false (by omega), decide_eq_false (by omega)]; rfl
theorem putTexts_fit (l : List ByteArray) (hn : l.length ≤ 16777216) (h : ∀ s ∈ l, s.size ≤ 65535) (k : XPlain.total l ≤ 4294967295) : XPlain.putTexts l = (XPlain.bytesN 0 4 ++ (XPlain.ends 0 l ++ XPlain.heap l), 0) := by
  rw [XPlain.putTexts, if_neg (by omega), if_neg (by rw [tooLong_fit l 0 h (by omega)]; decide)]
theorem sum_total (l : List ByteArray) : (l.map (fun z_ => (z_.size + 1))).sum = XPlain.total l + l.length := by
  induction l with
  | nil => rfl
  | cons a l ih => rw [List.map_cons, List.sum_cons, ih, XPlain.total, List.length_cons]; omega
theorem sum_ones (l : List Int) : (l.map (fun z_ => 1)).sum = l.length := by
  induction l with
  | nil => rfl
  | cons a l ih => rw [List.map_cons, List.sum_cons, ih, List.length_cons]; omega
def shorts (l : List ByteArray) : List ByteArray := l.filter fun s => decide (s.size ≤ 65535)
theorem short_loop (K : Nat) (t : List ByteArray) (hn : t.length ≤ 1048576) (hT : XPlain.total t ≤ 1048576) : ∀ m i, i + m = t.length →
    colonnadelaw08_short.l0 (m + (K + 1)) t (shorts (t.take i)) (XPlain.total (t.take i) : Nat) (i : Int) = some (shorts t)
  | 0, i, hi => by rw [Nat.zero_add, colonnadelaw08_short.l0, if_neg (by omega), List.take_of_length_le (by omega)]
  | m + 1, i, hi => by
    have hlt : i < t.length := by omega
    have hnx : wrap64 ((i : Int) + 1) = ((i + 1 : Nat) : Int) := by unfold wrap64; omega
    have h1 := total_take t i hlt
    have h2 := total_take_le t (i + 1)
    have hs : wrap64 (((XPlain.total (t.take i) : Nat) : Int) + ((t[i]).size : Int)) = ((XPlain.total (t.take (i + 1)) : Nat) : Int) := by unfold wrap64; omega
    have hf : (shorts (t.take i)).length ≤ i := Nat.le_trans (List.length_filter_le _ _) (by rw [List.length_take]; omega)
    have ih := short_loop K t hn hT m (i + 1) (by omega)
    have e : shorts (t.take (i + 1)) = shorts (t.take i) ++ shorts [t[i]] := by rw [List.take_succ_eq_append_getElem hlt]; exact List.filter_append _ _
    rw [e] at ih
    rw [show m + 1 + (K + 1) = (m + (K + 1)) + 1 from by omega, colonnadelaw08_short.l0, if_pos (by omega), if_pos (by omega), rdOf_nat t i hlt, hs, hnx]
    by_cases c : ((t[i]).size : Int) ≤ 65535
    · rw [if_pos c, if_pos (by omega), if_pos (by omega), if_pos (by omega)]
      rw [show shorts [t[i]] = [t[i]] from by simp [shorts]; omega] at ih
      exact ih
    · rw [if_neg c]
      rw [show shorts [t[i]] = [] from by simp [shorts]; omega, List.append_nil] at ih
      exact ih
theorem short_eq (K : Nat) (t : List ByteArray) (hn : t.length ≤ 1048576) (hT : XPlain.total t ≤ 1048576) (hK : t.length + 1 ≤ K) : colonnadelaw08_short.f K t = some (shorts t) := by
  have h := short_loop (K - t.length - 1) t hn hT t.length 0 (by omega)
  rw [show t.length + (K - t.length - 1 + 1) = K from by omega] at h
  exact h
theorem shorts_fit (t : List ByteArray) : ∀ s ∈ shorts t, s.size ≤ 65535 := fun s hs => of_decide_eq_true (List.mem_filter.mp hs).2
theorem shorts_total : ∀ t : List ByteArray, XPlain.total (shorts t) ≤ XPlain.total t
  | [] => by simp [shorts, XPlain.total]
  | s :: t => by
    have h := shorts_total t
    by_cases c : s.size ≤ 65535
    · rw [show shorts (s :: t) = s :: shorts t from by simp [shorts, c], XPlain.total, XPlain.total]; omega
    · rw [show shorts (s :: t) = shorts t from by simp [shorts, c], XPlain.total]; omega
theorem shorts_length (t : List ByteArray) : (shorts t).length ≤ t.length := List.length_filter_le _ _
theorem seg_mid (A B C : List Int) (o n : Nat) (ho : o = A.length) (hn : n = B.length) : seg (A ++ (B ++ C)) o n = B := by
  subst ho hn
  rw [seg, ← List.append_assoc, List.take_left' (by rw [List.length_append]), List.drop_left]
theorem longs_append (a b : List Int) : XPlain.longs (a ++ b) = XPlain.longs a ++ XPlain.longs b := by unfold XPlain.longs; rw [List.flatMap_append]
theorem longs_byte (l : List Int) : Byte (XPlain.longs l) := fun x hx => by
  unfold XPlain.longs at hx
  obtain ⟨y, _, h⟩ := List.mem_flatMap.mp hx
  exact bytesN_byte _ _ x h
theorem longs_seg (l : List Int) (i : Nat) (h : i < l.length) : seg (XPlain.longs l) (8 * i) 8 = XPlain.bytesN (l[i] % 18446744073709551616) 8 := by
  have e : XPlain.longs l = XPlain.longs (l.take i) ++ (XPlain.bytesN (l[i] % 18446744073709551616) 8 ++ XPlain.longs (l.drop (i + 1))) := by
    conv => lhs; rw [← List.take_append_drop i l, longs_append, List.drop_eq_getElem_cons h]
    rfl
  rw [e]
  exact seg_mid _ _ _ _ _ (by rw [XPlain.longs_length, List.length_take]; omega) (by rw [XPlain.bytesN_length])
theorem i64_of {l : List Int} (h : ∀ y_ ∈ l, (Lit.int .i64 y_).wf = true) : ∀ x ∈ l, -9223372036854775808 ≤ x ∧ x < 9223372036854775808 := fun x hx => by
  have := h x hx
  simp only [Lit.wf, Bool.and_eq_true, decide_eq_true_eq] at this
  obtain ⟨h1, h2⟩ := this
  exact ⟨h1, Int.lt_of_le_of_lt h2 (by decide)⟩
theorem back_num (x : Int) (h : -9223372036854775808 ≤ x ∧ x < 9223372036854775808) : wrap64 (lowN (XPlain.bytesN (x % 18446744073709551616) 8)) = x := by
  rw [lowN_bytesN _ (by omega), show (2 : Int) ^ (8 * 8) = 18446744073709551616 from by decide]
  unfold wrap64; omega
theorem numAt_longs (l : List Int) (hw : ∀ x ∈ l, -9223372036854775808 ≤ x ∧ x < 9223372036854775808) (i : Nat) (h : i < l.length) : numAt (XPlain.longs l) i = l[i] := by
  rw [numAt, longs_seg l i h, back_num _ (hw _ (List.getElem_mem h))]
theorem nums_longs (l : List Int) (hw : ∀ x ∈ l, -9223372036854775808 ≤ x ∧ x < 9223372036854775808) : nums (XPlain.longs l) l.length = l := by
  apply List.ext_getElem
  · simp [nums]
  · intro i h1 h2
    simp only [nums, List.getElem_map, List.getElem_range]
    exact numAt_longs l hw i h2
theorem ints_longs (l : List Int) (hw : ∀ x ∈ l, -9223372036854775808 ≤ x ∧ x < 9223372036854775808) (hn : l.length ≤ 16777216) : ints (XPlain.longs l) (l.length : Int) = (l, 0) := by
  rw [ints, if_neg (by omega), if_neg (by omega), XPlain.longs_length, if_neg (by omega), if_neg (by omega), Int.toNat_natCast, nums_longs l hw]
theorem ends_append : ∀ (n : Nat) (a b : List ByteArray), XPlain.ends n (a ++ b) = XPlain.ends n a ++ XPlain.ends (n + XPlain.total a) b
  | n, [], b => by simp [XPlain.ends, XPlain.total]
  | n, x :: a, b => by rw [List.cons_append, XPlain.ends, ends_append _ a b, XPlain.ends, XPlain.total, List.append_assoc, show n + x.size + XPlain.total a = n + (x.size + XPlain.total a) from by omega]
theorem heap_append (a b : List ByteArray) : XPlain.heap (a ++ b) = XPlain.heap a ++ XPlain.heap b := by unfold XPlain.heap; rw [List.flatMap_append]
/-- the bytes of texts -/
def form (l : List ByteArray) : List Int := XPlain.bytesN 0 4 ++ (XPlain.ends 0 l ++ XPlain.heap l)
theorem form_length (l : List ByteArray) : (form l).length = 4 * (l.length + 1) + XPlain.total l := by
  rw [form, List.length_append, List.length_append, XPlain.bytesN_length, XPlain.ends_length, XPlain.heap_length]; omega
theorem ends_byte : ∀ (n : Nat) (l : List ByteArray), Byte (XPlain.ends n l)
  | _, [] => fun x hx => by simp [XPlain.ends] at hx
  | n, s :: l => (bytesN_byte _ _).append (ends_byte _ l)
theorem bytesOf_byte (s : ByteArray) : Byte (bytesOf s) := fun x hx => by
  unfold bytesOf at hx
  obtain ⟨b, _, rfl⟩ := List.mem_map.mp hx
  have := b.toNat_lt
  omega
theorem heap_byte (l : List ByteArray) : Byte (XPlain.heap l) := fun x hx => by
  unfold XPlain.heap at hx
  obtain ⟨y, _, h⟩ := List.mem_flatMap.mp hx
  exact bytesOf_byte _ x h
theorem form_byte (l : List ByteArray) : Byte (form l) := (bytesN_byte _ _).append ((ends_byte _ _).append (heap_byte _))
theorem strOf_bytesOf (s : ByteArray) : strOfNums (bytesOf s) = s := by
  have h : (bytesOf s).map (fun n => UInt8.ofNat n.toNat) = s.data.toList := by
    unfold bytesOf
    rw [List.map_map]
    conv => rhs; rw [← List.map_id s.data.toList]
    apply List.map_congr_left
    intro b _
    simp
  unfold strOfNums
  rw [h]
theorem endAt_form (l : List ByteArray) (hT : XPlain.total l ≤ 4294967295) : ∀ i, i ≤ l.length → endAt (form l) i = (XPlain.total (l.take i) : Nat)
  | 0, _ => by
    have h : seg (form l) (4 * 0) 4 = XPlain.bytesN 0 4 := seg_mid [] _ _ _ _ rfl (XPlain.bytesN_length 0 4).symm
    rw [endAt, h, lowN_bytesN _ (by decide)]; simp [XPlain.total]
  | i + 1, hi => by
    have ht := total_take l i hi
    have hle := total_take_le l (i + 1)
    have e : form l = (XPlain.bytesN 0 4 ++ XPlain.ends 0 (l.take i)) ++ (XPlain.bytesN ((XPlain.total (l.take (i + 1)) : Nat) : Int) 4 ++ (XPlain.ends (XPlain.total (l.take (i + 1))) (l.drop (i + 1)) ++ XPlain.heap l)) := by
      have e1 : XPlain.ends 0 l = XPlain.ends 0 (l.take i) ++ (XPlain.bytesN ((XPlain.total (l.take (i + 1)) : Nat) : Int) 4 ++ XPlain.ends (XPlain.total (l.take (i + 1))) (l.drop (i + 1))) := by
        conv => lhs; rw [← List.take_append_drop i l, ends_append, List.drop_eq_getElem_cons hi, XPlain.ends, Nat.zero_add]
        rw [ht]
      rw [form, e1]; simp only [List.append_assoc]
    have h : seg (form l) (4 * (i + 1)) 4 = XPlain.bytesN ((XPlain.total (l.take (i + 1)) : Nat) : Int) 4 := by
      rw [e]
      exact seg_mid _ _ _ _ _ (by rw [List.length_append, XPlain.bytesN_length, XPlain.ends_length, List.length_take]; omega) (by rw [XPlain.bytesN_length])
    rw [endAt, h, lowN_bytesN _ (by omega), show (2 : Int) ^ (8 * 4) = 4294967296 from by decide]
    omega
theorem textAt_form (l : List ByteArray) (hn : l.length ≤ 16777216) (hT : XPlain.total l ≤ 4294967295) (i : Nat) (hi : i < l.length) : textAt (form l) (l.length : Int) (i : Int) = (l[i], true) := by
  have ht := total_take l i hi
  have hle := total_take_le l (i + 1)
  rw [textAt, if_pos (by rw [form_length]; omega), Int.toNat_natCast, Int.toNat_natCast, endAt_form l hT i (by omega), endAt_form l hT (i + 1) hi, if_pos (by rw [form_length]; omega), Int.toNat_natCast, Int.toNat_natCast]
  have hd : (form l).drop (4 * (l.length + 1)) = XPlain.heap l := by
    rw [form, ← List.append_assoc]
    exact List.drop_left' (by rw [List.length_append, XPlain.bytesN_length, XPlain.ends_length]; omega)
  have hh : XPlain.heap l = XPlain.heap (l.take i) ++ (bytesOf l[i] ++ XPlain.heap (l.drop (i + 1))) := by
    conv => lhs; rw [← List.take_append_drop i l, heap_append, List.drop_eq_getElem_cons hi]
    rfl
  have hs : ((XPlain.heap l).take (XPlain.total (l.take (i + 1)))).drop (XPlain.total (l.take i)) = bytesOf l[i] := by
    rw [hh, ht]
    exact seg_mid _ _ _ _ _ (by rw [XPlain.heap_length]) (by rw [bytesOf_length])
  rw [hd, hs, strOf_bytesOf]
theorem strs_form (l : List ByteArray) (hn : l.length ≤ 16777216) (hT : XPlain.total l ≤ 4294967295) : strs (form l) l.length = l := by
  apply List.ext_getElem
  · simp [strs]
  · intro i h1 h2
    simp only [strs, List.getElem_map, List.getElem_range]
    rw [strAt, textAt_form l hn hT i h2]
theorem okEnds_form (l : List ByteArray) (hT : XPlain.total l ≤ 4294967295) (hs : ∀ s ∈ l, s.size ≤ 65535) : ∀ m i, i + m = l.length → okEnds (form l) m i (XPlain.total (l.take i) : Nat) = some ((XPlain.total l : Nat) : Int)
  | 0, i, hi => by rw [okEnds, List.take_of_length_le (by omega)]
  | m + 1, i, hi => by
    have hlt : i < l.length := by omega
    have ht := total_take l i hlt
    have hz := hs _ (List.getElem_mem hlt)
    rw [okEnds, endAt_form l hT (i + 1) (by omega), if_neg (by omega), if_neg (by omega)]
    exact okEnds_form l hT hs m (i + 1) (by omega)
theorem texts_form (l : List ByteArray) (hn : l.length ≤ 16777216) (hT : XPlain.total l ≤ 4294967295) (hs : ∀ s ∈ l, s.size ≤ 65535) : texts (form l) (l.length : Int) = (l, 0) := by
  have h0 := endAt_form l hT 0 (by omega)
  have hk := okEnds_form l hT hs l.length 0 (by omega)
  rw [List.take_zero] at h0 hk
  rw [texts, if_neg (by omega), if_neg (by omega), if_neg (by rw [form_length]; omega), if_pos (by rw [h0]; rfl), Int.toNat_natCast]
  rw [show ((XPlain.total [] : Nat) : Int) = 0 from rfl] at hk
  rw [hk, textsEnd, if_neg (by rw [form_length]; omega), if_neg (by rw [form_length]; omega), strs_form l hn hT]
theorem le_of_mono {α : Type} {f : Nat → Option α} (h : ∀ k, LeO (f k) (f (k + 1))) {k : Nat} {r : α} (hr : f k = some r) : ∀ {K : Nat}, k ≤ K → f K = some r
  | K, hK => by
    obtain ⟨d, rfl⟩ : ∃ d, K = k + d := ⟨K - k, by omega⟩
    clear hK
    induction d with
    | zero => exact hr
    | succ d ih => exact h (k + d) r ih
set_option maxRecDepth 100000 in
theorem awake0 : colonnadelaw08_awake.f 40 = some true := by decide +kernel
theorem strs_app (a b : List Int) : strOfNums (a ++ b) = strOfNums a ++ strOfNums b := by
  apply ByteArray.ext
  unfold strOfNums
  rw [List.map_append]
  simp
theorem form_drop (l : List ByteArray) (n : Nat) (hn : n = 4 * (l.length + 1)) : (form l).drop n = XPlain.heap l := by
  rw [form, ← List.append_assoc]
  exact List.drop_left' (by rw [List.length_append, XPlain.bytesN_length, XPlain.ends_length]; omega)
theorem form_take (l m : List ByteArray) (n : Nat) (hn : n = 4 * (l.length + 1)) : (form (l ++ m)).take n = (form l).take n := by
  have hl : (XPlain.bytesN 0 4 ++ XPlain.ends 0 l).length = n := by rw [List.length_append, XPlain.bytesN_length, XPlain.ends_length]; omega
  have e1 : form (l ++ m) = (XPlain.bytesN 0 4 ++ XPlain.ends 0 l) ++ (XPlain.ends (0 + XPlain.total l) m ++ XPlain.heap (l ++ m)) := by rw [form, ends_append]; simp only [List.append_assoc]
  have e2 : form l = (XPlain.bytesN 0 4 ++ XPlain.ends 0 l) ++ XPlain.heap l := by rw [form]; simp only [List.append_assoc]
  rw [e1, e2, List.take_left' hl, List.take_left' hl]
theorem wr4 (n : Nat) (h : n ≤ 4194304) : wrap64 (4 * wrap64 ((n : Int) + 1)) = ((4 * (n + 1) : Nat) : Int) := by
  have e : wrap64 ((n : Int) + 1) = ((n + 1 : Nat) : Int) := by unfold wrap64; omega
  rw [e]; unfold wrap64; omega
theorem wrs (a b : Nat) (h : a + b ≤ 67108864) : wrap64 ((a : Int) + (b : Int)) = ((a + b : Nat) : Int) := by unfold wrap64; omega
theorem wrm (n a b : Nat) (h : a + b ≤ 67108864) (k : n + 4 = a + b) : (n : Int) = wrap64 (wrap64 ((a : Int) + (b : Int)) - 4) := by
  rw [wrs a b h]; unfold wrap64; omega
theorem main : colonnadelaw08_PlainJoins.PureU := by
  intro l m t u hl hm ht hu hB
  rw [sum_ones, sum_ones, sum_total, sum_total] at hB
  have a1 := shorts_length t
  have a2 := shorts_total t
  have a3 := shorts_fit t
  have b1 := shorts_length u
  have b2 := shorts_total u
  have b3 := shorts_fit u
  refine ⟨100000000, ?_⟩
  obtain ⟨K, hK⟩ : ∃ K, K = 100000000 := ⟨_, rfl⟩
  rw [← hK]
  have hs := short_eq K t (by omega) (by omega) (by omega)
  have hv := short_eq K u (by omega) (by omega) (by omega)
  generalize shorts t = s at a1 a2 a3 hs
  generalize shorts u = v at b1 b2 b3 hv
  have ha : colonnadelaw08_awake.f K = some true := le_of_mono colonnadelaw08_awake.mono awake0 (by omega)
  have p1 : plain_PutInts.f l = some (XPlain.longs l) := by rw [plain_PutInts.f, if_pos (by omega)]
  have p2 : plain_PutInts.f m = some (XPlain.longs m) := by rw [plain_PutInts.f, if_pos (by omega)]
  have p3 : plain_PutInts.f (l ++ m) = some (XPlain.longs l ++ XPlain.longs m) := by rw [plain_PutInts.f, if_pos (by rw [List.length_append]; omega), longs_append]
  have q1 : plain_PutTexts.f s = some (form s, 0) := by rw [plain_PutTexts.f, putTexts_fit s (by omega) a3 (by omega)]; rfl
  have q2 : plain_PutTexts.f v = some (form v, 0) := by rw [plain_PutTexts.f, putTexts_fit v (by omega) b3 (by omega)]; rfl
  have c3 : ∀ x ∈ s ++ v, x.size ≤ 65535 := fun x hx => (List.mem_append.mp hx).elim (a3 x) (b3 x)
  have q3 : plain_PutTexts.f (s ++ v) = some (form (s ++ v), 0) := by rw [plain_PutTexts.f, putTexts_fit (s ++ v) (by rw [List.length_append]; omega) c3 (by rw [XPlain.total_append]; omega)]; rfl
  have ll := XPlain.longs_length l
  have lm := XPlain.longs_length m
  have f1 := form_length s
  have f2 := form_length v
  have f3 := form_length (s ++ v)
  have h1 := XPlain.heap_length s
  have h2 := XPlain.heap_length v
  rw [List.length_append, XPlain.total_append] at f3
  have z1 : s.length ≤ 4194304 := by omega
  have z2 : v.length ≤ 4194304 := by omega
  have z3 : s.length + v.length ≤ 67108864 := by omega
  have z4 : s.length + v.length ≤ 4194304 := by omega
  have z5 : (form s).length + (form v).length ≤ 67108864 := by omega
  have z6 : (form (s ++ v)).length + 4 = (form s).length + (form v).length := by omega
  have g1 : (XPlain.longs l).length + (XPlain.longs m).length ≤ 9223372036854775807 := by omega
  have g2 : ([] : List Int).length + l.length < 17592186044416 := by rw [List.length_nil]; omega
  have g3 : l.length + m.length < 17592186044416 := by omega
  have g4 : ¬ (((s.length + v.length : Nat) : Int) > 1048576) := by omega
  have g5 : ([] : List ByteArray).length + s.length < 8796093022208 := by rw [List.length_nil]; omega
  have g6 : s.length + v.length < 8796093022208 := by omega
  have g7 : (0 : Int) ≤ ((4 * (s.length + 1) : Nat) : Int) := by omega
  have g8 : ((4 * (s.length + 1) : Nat) : Int) ≤ ((form s).length : Int) := by omega
  have g9 : (0 : Int) ≤ ((4 * (v.length + 1) : Nat) : Int) := by omega
  have g10 : ((4 * (v.length + 1) : Nat) : Int) ≤ ((form v).length : Int) := by omega
  have g11 : (XPlain.heap s).length + (XPlain.heap v).length ≤ 9223372036854775807 := by omega
  have g12 : (0 : Int) ≤ ((4 * (s.length + v.length + 1) : Nat) : Int) := by omega
  have g13 : ((4 * (s.length + v.length + 1) : Nat) : Int) ≤ ((form (s ++ v)).length : Int) := by omega
  have g14 : ((4 * (s.length + 1) : Nat) : Int) ≤ ((form (s ++ v)).length : Int) := by omega
  have w1 := wr4 s.length z1
  have w2 := wr4 v.length z2
  have w0 := wrs s.length v.length z3
  have w3 := wr4 (s.length + v.length) z4
  have w4 := wrm (form (s ++ v)).length (form s).length (form v).length z5 z6
  have d1 := form_drop s _ rfl
  have d2 := form_drop v _ rfl
  have d3 : (form (s ++ v)).drop (4 * (s.length + v.length + 1)) = XPlain.heap s ++ XPlain.heap v := by rw [form_drop (s ++ v) _ (by rw [List.length_append]), heap_append]
  have d4 := form_take s v _ rfl
  have n0 : colonnadelaw08_num.f 0 = some 0 := rfl
  unfold colonnadelaw08_PlainJoins.f
  rw [ha, Option.bind_some, if_pos rfl, p1, Option.bind_some, p2, Option.bind_some, strOfNums_size, strOfNums_size, if_pos g1, Option.bind_some, if_pos g2, Option.bind_some,
    List.nil_append, if_pos g3, p3, Option.bind_some, strs_app, if_pos rfl, hs, Option.bind_some, hv, Option.bind_some, w0, if_neg g4, q1, Option.bind_some, q2, Option.bind_some, Option.bind_some,
    if_pos g5, Option.bind_some, List.nil_append, if_pos g6, q3, Option.bind_some]
  dsimp only
  rw [n0, Option.bind_some, if_pos rfl, Option.bind_some, if_pos rfl, Option.bind_some, if_pos rfl]
  rw [w1, w2, w3, if_pos w4, if_pos g7, if_pos g8, Option.bind_some, if_pos g9, if_pos g10, Option.bind_some]
  rw [Int.toNat_natCast, Int.toNat_natCast, Int.toNat_natCast]
  rw [d1, d2, strOfNums_size, strOfNums_size, if_pos g11, if_pos g12, if_pos g13, d3, strs_app, if_pos rfl, if_pos g14, d4, beq_self_eq_true]
end PlainJoinsP
theorem PlainJoins : colonnadelaw08_PlainJoins.PureU := PlainJoinsP.main
end Go.Proofs.Ytkepimkabfoapab.Pure
