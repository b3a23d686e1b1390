/- Numbers and texts put and read again and again answer alike, and each answer is memory of its own. -/
import Derived.Test.YtkepimkabfoapabPPlainOwnx4
import Derived.Laws.BitsLemmas
import Derived.OpenShut
namespace Go.Proofs.Ytkepimkabfoapab.Pure
open Go.RowKit Go.Proofs.Ytkepimkabfoapab.PPlainOwn Go.Proofs.YtkepimkabfoapabW.PrintWords Go.Proofs.YtkepimkabfoapabW.PrintLast
set_option linter.unusedVariables false
set_option linter.unusedSimpArgs false
def colonnadelaw08_PlainOwn.PureU : Prop := ∀ (l0 : List Int) (l1 : List Int) (l2 : List ByteArray) (l3 : List ByteArray), (l0.length ≤ maxLen ∧ ∀ y_ ∈ l0, (Lit.int .i64 y_).wf = true) → (l1.length ≤ maxLen ∧ ∀ y_ ∈ l1, (Lit.int .i64 y_).wf = true) → (l2.length ≤ maxLen ∧ ∀ y_ ∈ l2, y_.size ≤ maxLen) → (l3.length ≤ maxLen ∧ ∀ y_ ∈ l3, y_.size ≤ maxLen) → ((l0.map (fun z_ => 1)).sum + 1) + ((l1.map (fun z_ => 1)).sum + 1) + ((l2.map (fun z_ => (z_.size + 1))).sum + 1) + ((l3.map (fun z_ => (z_.size + 1))).sum + 1) ≤ 1048576 → ∃ k, colonnadelaw08_PlainOwn.f k l0 l1 l2 l3 = some true
namespace PlainOwnP
/-- the number in bytes, the lowest first -/
def lowN : List Int → Int
  | [] => 0
  | b :: l => b + 256 * lowN l
def Byte (l : List Int) : Prop := ∀ x ∈ l, 0 ≤ x ∧ x < 256
theorem Byte.take {l : List Int} (h : Byte l) (n : Nat) : Byte (l.take n) := fun x hx => h x (List.mem_of_mem_take hx)
theorem Byte.drop {l : List Int} (h : Byte l) (n : Nat) : Byte (l.drop n) := fun x hx => h x (List.mem_of_mem_drop hx)
theorem Byte.append {a b : List Int} (h : Byte a) (k : Byte b) : Byte (a ++ b) := fun x hx => (List.mem_append.mp hx).elim (h x) (k x)
theorem p8 (n : Nat) : (2 : Int) ^ (8 * (n + 1)) = 256 * 2 ^ (8 * n) := by
  show (2 : Int) ^ (8 * n + 1 + 1 + 1 + 1 + 1 + 1 + 1 + 1) = _
  simp only [Int.pow_succ]; omega
theorem p8pos (n : Nat) : (0 : Int) < 2 ^ (8 * n) := by
  induction n with
  | zero => decide
  | succ n ih => rw [p8]; omega
theorem lowN_range : ∀ (l : List Int), Byte l → 0 ≤ lowN l ∧ lowN l < 2 ^ (8 * l.length)
  | [], _ => by simp [lowN]
  | b :: l, h => by
    have hb := h b (by simp)
    have ih := lowN_range l fun x hx => h x (by simp [hx])
    rw [lowN, List.length_cons, p8]
    omega
theorem lowN_snoc : ∀ (l : List Int) (b : Int), lowN (l ++ [b]) = lowN l + 2 ^ (8 * l.length) * b
  | [], b => by simp [lowN]
  | a :: l, b => by
    rw [List.cons_append, lowN, lowN_snoc l b, lowN, List.length_cons, p8, Int.mul_add, Int.mul_assoc, Int.add_assoc]
theorem lowN_inj : ∀ (a b : List Int), Byte a → Byte b → a.length = b.length → lowN a = lowN b → a = b
  | [], [], _, _, _, _ => rfl
  | [], _ :: _, _, _, h, _ => by simp at h
  | _ :: _, [], _, _, h, _ => by simp at h
  | x :: a, y :: b, ha, hb, h, e => by
    have h1 := ha x (by simp)
    have h2 := hb y (by simp)
    rw [lowN, lowN] at e
    have e1 : x = y := by omega
    have e2 : lowN a = lowN b := by omega
    rw [e1, lowN_inj a b (fun z hz => ha z (by simp [hz])) (fun z hz => hb z (by simp [hz])) (by simpa using h) e2]
theorem mod_step (v P : Int) (hv : 0 ≤ v) (hP : 0 < P) : v % P + P * (v / P % 256) = v % (256 * P) := by
  obtain ⟨a, rfl⟩ := Int.eq_ofNat_of_zero_le hv
  obtain ⟨b, rfl⟩ := Int.eq_ofNat_of_zero_le (Int.le_of_lt hP)
  have h := @Nat.mod_mul b 256 a
  rw [Nat.mul_comm b 256] at h
  have h2 := congrArg (fun n : Nat => (n : Int)) h.symm
  simp only [Int.natCast_add, Int.natCast_mul, Int.natCast_emod, Int.natCast_ediv] at h2
  exact h2
theorem bytesN_byte (v : Int) : ∀ n, Byte (XPlain.bytesN v n)
  | 0 => fun x hx => by simp [XPlain.bytesN] at hx
  | n + 1 => (bytesN_byte v n).append fun x hx => by rw [List.mem_singleton.mp hx]; exact ⟨Int.emod_nonneg _ (by decide), Int.emod_lt_of_pos _ (by decide)⟩
theorem lowN_bytesN (v : Int) (hv : 0 ≤ v) : ∀ n, lowN (XPlain.bytesN v n) = v % 2 ^ (8 * n)
  | 0 => by simp [XPlain.bytesN, lowN]
  | n + 1 => by rw [XPlain.bytesN, lowN_snoc, XPlain.bytesN_length, lowN_bytesN v hv n, p8, mod_step v _ hv (p8pos n)]
theorem bytesN_lowN (l : List Int) (h : Byte l) : XPlain.bytesN (lowN l) l.length = l := by
  have hr := lowN_range l h
  refine lowN_inj _ _ (bytesN_byte _ _) h (XPlain.bytesN_length _ _) ?_
  rw [lowN_bytesN _ hr.1, Int.emod_eq_of_lt hr.1 hr.2]
theorem byte_of {l : List Int} (h : ∀ y_ ∈ l, (Lit.int .u8 y_).wf = true) : Byte l := fun x hx => by
  have := h x hx
  simp only [Lit.wf, Bool.and_eq_true, decide_eq_true_eq] at this
  obtain ⟨h1, h2⟩ := this
  exact ⟨h1, Int.lt_of_le_of_lt h2 (by decide)⟩
theorem or_low (x b : Int) (i : Nat) (hi : i < 8) (h0 : 0 ≤ x) (h1 : x < 2 ^ (8 * i)) (hb : 0 ≤ b ∧ b < 256) : Go.bits .or .u64 x (shl .u64 (IntKind.u64.wrap b) (wrap64 (8 * (i : Int)))) = x + 2 ^ (8 * i) * b := by
  have hw : wrap64 (8 * (i : Int)) = ((8 * i : Nat) : Int) := by unfold wrap64; omega
  have hbw : IntKind.u64.wrap b = b := by rw [IntKind.wrap_u64]; omega
  have hP : (2 : Int) ^ (8 * i) ≤ 72057594037927936 := by
    have : i = 0 ∨ i = 1 ∨ i = 2 ∨ i = 3 ∨ i = 4 ∨ i = 5 ∨ i = 6 ∨ i = 7 := by omega
    rcases this with rfl | rfl | rfl | rfl | rfl | rfl | rfl | rfl <;> decide
  have hpos := p8pos i
  have hmul : b * 2 ^ (8 * i) ≤ 255 * 2 ^ (8 * i) := Int.mul_le_mul_of_nonneg_right (by omega) (Int.le_of_lt hpos)
  have hmul0 : 0 ≤ b * 2 ^ (8 * i) := Int.mul_nonneg hb.1 (Int.le_of_lt hpos)
  have hs : shl .u64 b ((8 * i : Nat) : Int) = b * 2 ^ (8 * i) := by
    rw [← shl_small (k := .u64) (x := b) (y := ((8 * i : Nat) : Int)) rfl (by simp [IntKind.bits]; omega), Int.toNat_natCast, IntKind.wrap_u64]
    generalize (2 : Int) ^ (8 * i) = P at *
    omega
  rw [hw, hbw, hs]
  have hc : Go.bits .or .u64 x (b * 2 ^ (8 * i)) = Go.bits .or .u64 (b * 2 ^ (8 * i)) x := by simp only [Go.bits, BitVec.or_comm]
  have hm : b * 2 ^ (8 * i) % 2 ^ (8 * i) = 0 := Int.mul_emod_left _ _
  rw [hc, bits_join .u64 64 (by decide) (fun n h0 h1 => by rw [IntKind.wrap_u64]; omega) (8 * i) _ x hmul0 hm (by omega) h0 h1 (by omega), Int.add_comm, Int.mul_comm b]
theorem rd_nat (l : List Int) (i : Nat) (h : i < l.length) : rd l (i : Int) = l[i] := by simp [rd, h]
theorem low_loop (K : Nat) (l : List Int) (h : Byte l) (h8 : l.length ≤ 8) : ∀ m i, i + m = l.length → plain_low.l0 (m + (K + 1)) (lowN (l.take i)) l (l.length : Int) (i : Int) = some (lowN l)
  | 0, i, hi => by
    rw [Nat.zero_add, plain_low.l0, if_neg (by omega), List.take_of_length_le (by omega)]
  | m + 1, i, hi => by
    have hlt : i < l.length := by omega
    have hr := lowN_range (l.take i) (h.take i)
    have hti : (l.take i).length = i := by rw [List.length_take]; omega
    rw [hti] at hr
    have hz : 0 ≤ wrap64 (8 * (i : Int)) := by unfold wrap64; omega
    have hn : wrap64 ((i : Int) + 1) = ((i + 1 : Nat) : Int) := by unfold wrap64; omega
    have hnx : lowN (l.take i) + 2 ^ (8 * i) * l[i] = lowN (l.take (i + 1)) := by rw [List.take_succ_eq_append_getElem hlt, lowN_snoc, hti]
    rw [show m + 1 + (K + 1) = (m + (K + 1)) + 1 from by omega, plain_low.l0, if_pos (by omega), if_pos (by omega), if_pos (by omega), if_pos hz, rd_nat l i hlt, or_low _ _ i (by omega) hr.1 hr.2 (h _ (List.getElem_mem hlt)), hnx, hn]
    exact low_loop K l h h8 m (i + 1) (by omega)
theorem low_eq (K : Nat) (l : List Int) (h : Byte l) (h8 : l.length ≤ 8) (hK : 9 ≤ K) : plain_low.f K l = some (lowN l) := by
  have := low_loop (K - l.length - 1) l h h8 l.length 0 (by omega)
  rw [show l.length + (K - l.length - 1 + 1) = K from by omega, List.take_zero] at this
  exact this
def seg (l : List Int) (o n : Nat) : List Int := (l.take (o + n)).drop o
theorem seg_length {l : List Int} {o n : Nat} (h : o + n ≤ l.length) : (seg l o n).length = n := by rw [seg, List.length_drop, List.length_take]; omega
theorem seg_byte {l : List Int} (h : Byte l) (o n : Nat) : Byte (seg l o n) := (h.take _).drop _
theorem fill_set {α : Type} (f : Nat → α) (z : α) (i m : Nat) : ((List.range i).map f ++ List.replicate (m + 1) z).set i (f i) = (List.range (i + 1)).map f ++ List.replicate m z := by
  rw [List.set_append_right _ _ (by simp), List.length_map, List.length_range, Nat.sub_self, List.replicate_succ, List.set_cons_zero, List.range_succ, List.map_append, List.append_assoc]
  rfl
theorem may_eq (n : Int) : plain_may.f n = some (if n < 0 then 2 else if n > 16777216 then 3 else 0) := by
  unfold plain_may.f
  by_cases c1 : n < 0
  · rw [if_pos c1, if_pos c1]
  · rw [if_neg c1, if_neg c1]
    by_cases c2 : n > 16777216
    · rw [if_pos c2, if_pos c2]
    · rw [if_neg c2, if_neg c2]
def intAt (b : List Int) (i : Int) : Int × Bool := if 0 ≤ i ∧ i < (b.length / 8 : Nat) then (wrap64 (lowN (seg b (8 * i.toNat) 8)), true) else (0, false)
theorem intAt_eq (K : Nat) (b : List Int) (i : Int) (hb : Byte b) (hl : b.length ≤ 9223372036854775807) (hK : 9 ≤ K) : plain_IntAt.f K b i = some (intAt b i) := by
  have hw : wrap64 ((b.length : Int) / 8) = ((b.length / 8 : Nat) : Int) := by unfold wrap64; omega
  unfold plain_IntAt.f intAt
  rw [hw]
  by_cases c1 : i < 0
  · rw [if_pos c1, if_neg (by omega)]
  rw [if_neg c1]
  by_cases c2 : i ≥ ((b.length / 8 : Nat) : Int)
  · rw [if_pos c2, if_neg (by omega)]
  rw [if_neg c2, if_pos (by omega : 0 ≤ i ∧ i < ((b.length / 8 : Nat) : Int))]
  obtain ⟨j, rfl⟩ := Int.eq_ofNat_of_zero_le (by omega : 0 ≤ i)
  have h1 : wrap64 (8 * (j : Int)) = ((8 * j : Nat) : Int) := by unfold wrap64; omega
  have h2 : wrap64 ((j : Int) + 1) = ((j + 1 : Nat) : Int) := by unfold wrap64; omega
  have h3 : wrap64 (8 * ((j + 1 : Nat) : Int)) = ((8 * j + 8 : Nat) : Int) := by unfold wrap64; omega
  rw [h2, h1, h3, if_pos (by omega), if_pos (by omega), if_pos (by omega), Int.toNat_natCast, Int.toNat_natCast, Int.toNat_natCast]
  show (plain_low.f K (seg b (8 * j) 8)).bind _ = _
  rw [low_eq K _ (seg_byte hb _ _) (by rw [seg_length (by omega)]; omega) hK]
  rfl
def numAt (b : List Int) (i : Nat) : Int := wrap64 (lowN (seg b (8 * i) 8))
def nums (b : List Int) (n : Nat) : List Int := (List.range n).map (numAt b)
theorem ints_loop (K : Nat) (b : List Int) (n : Nat) (hb : Byte b) (hl : b.length = 8 * n) (hn : n ≤ 16777216) (hK : 9 ≤ K) : ∀ m i, i + m = n →
    plain_Ints.l0 (m + (K + 1)) b ((List.range i).map (numAt b) ++ List.replicate m 0) (n : Int) (i : Int) = some (nums b n, 0)
  | 0, i, hi => by
    obtain rfl : i = n := by omega
    rw [Nat.zero_add, plain_Ints.l0, if_neg (by omega), List.replicate_zero, List.append_nil]; rfl
  | m + 1, i, hi => by
    have hnx : wrap64 ((i : Int) + 1) = ((i + 1 : Nat) : Int) := by unfold wrap64; omega
    have hv : intAt b (i : Int) = (numAt b i, true) := by rw [intAt, if_pos (by omega), Int.toNat_natCast]; rfl
    rw [show m + 1 + (K + 1) = (m + (K + 1)) + 1 from by omega, plain_Ints.l0, if_pos (by omega), intAt_eq _ b i hb (by show b.length ≤ 9223372036854775807; omega) (by omega), hv]
    rw [Option.bind_some, if_pos (by omega), if_pos (by simp; omega), hnx, Int.toNat_natCast, fill_set]
    exact ints_loop K b n hb hl hn hK m (i + 1) (by omega)
def ints (b : List Int) (n : Int) : List Int × Int := if n < 0 then ([], 2) else if n > 16777216 then ([], 3) else if (b.length : Int) < 8 * n then ([], 71) else if (b.length : Int) > 8 * n then ([], 72) else (nums b n.toNat, 0)
theorem ints_eq (K : Nat) (b : List Int) (n : Int) (hb : Byte b) (hl : b.length ≤ 9223372036854775807) (hK : 16777216 + 10 ≤ K) : plain_Ints.f K b n = some (ints b n) := by
  unfold plain_Ints.f ints
  rw [may_eq]
  by_cases c1 : n < 0
  · rw [if_pos c1, if_pos c1]; rfl
  rw [if_neg c1, if_neg c1]
  by_cases c2 : n > 16777216
  · rw [if_pos c2, if_pos c2]; rfl
  rw [if_neg c2, if_neg c2]
  rw [Option.bind_some, if_pos rfl]
  have h1 : wrap64 (8 * n) = 8 * n := by unfold wrap64; omega
  rw [h1]
  by_cases c3 : (b.length : Int) < 8 * n
  · rw [if_pos c3, if_pos c3]
  rw [if_neg c3, if_neg c3]
  by_cases c4 : (b.length : Int) > 8 * n
  · rw [if_pos c4, if_pos c4]
  rw [if_neg c4, if_neg c4, if_pos (by omega), if_pos (by omega)]
  obtain ⟨j, rfl⟩ := Int.eq_ofNat_of_zero_le (by omega : 0 ≤ n)
  show plain_Ints.l0 K b (List.replicate j 0) ((List.replicate j (0 : Int)).length : Int) 0 = some (nums b j, 0)
  rw [List.length_replicate]
  have h := ints_loop (K - j - 1) b j hb (by omega) (by omega) (by omega) j 0 (by omega)
  rw [show j + (K - j - 1 + 1) = K from by omega] at h
  exact h
def endAt (b : List Int) (i : Nat) : Int := lowN (seg b (4 * i) 4)
theorem endAt_range {b : List Int} (hb : Byte b) {i : Nat} (hi : 4 * (i + 1) ≤ b.length) : 0 ≤ endAt b i ∧ endAt b i < 4294967296 := by
  have h := lowN_range _ (seg_byte hb (4 * i) 4)
  rw [seg_length (by omega)] at h
  exact ⟨h.1, h.2⟩
theorem end_eq (K : Nat) (b : List Int) (i : Nat) (hb : Byte b) (hl : b.length ≤ 9223372036854775807) (hi : 4 * (i + 1) ≤ b.length) (hK : 9 ≤ K) : plain_end.f K b (i : Int) = some (endAt b i) := by
  have h1 : wrap64 (4 * (i : Int)) = ((4 * i : Nat) : Int) := by unfold wrap64; omega
  have h2 : wrap64 ((i : Int) + 1) = ((i + 1 : Nat) : Int) := by unfold wrap64; omega
  have h3 : wrap64 (4 * ((i + 1 : Nat) : Int)) = ((4 * i + 4 : Nat) : Int) := by unfold wrap64; omega
  have hr := endAt_range hb hi
  unfold plain_end.f
  rw [h2, h1, h3, if_pos (by omega), if_pos (by omega), if_pos (by omega), Int.toNat_natCast, Int.toNat_natCast]
  show (plain_low.f K (seg b (4 * i) 4)).bind _ = _
  rw [low_eq K _ (seg_byte hb _ _) (by rw [seg_length (by omega)]; omega) hK]
  show some (wrap64 (endAt b i)) = _
  congr 1
  unfold wrap64; omega
def textAt (b : List Int) (n i : Int) : ByteArray × Bool :=
  if 0 ≤ n ∧ n ≤ 16777216 ∧ 0 ≤ i ∧ i < n ∧ 4 * (n + 1) ≤ b.length then
    if endAt b i.toNat ≤ endAt b (i.toNat + 1) ∧ endAt b (i.toNat + 1) ≤ b.length - 4 * (n + 1) then (strOfNums (((b.drop (4 * (n.toNat + 1))).take (endAt b (i.toNat + 1)).toNat).drop (endAt b i.toNat).toNat), true) else (⟨#[]⟩, false)
  else (⟨#[]⟩, false)
theorem textAt_eq (K : Nat) (b : List Int) (n i : Int) (hb : Byte b) (hl : b.length ≤ 9223372036854775807) (hK : 10 ≤ K) : plain_TextAt.f K b n i = some (textAt b n i) := by
  obtain ⟨K, rfl⟩ : ∃ k, K = k + 1 := ⟨K - 1, by omega⟩
  have hj : plain_TextAt.j0 (K + 1) b n i true = some ((⟨#[]⟩ : ByteArray), false) := by rw [plain_TextAt.j0, if_pos rfl]
  unfold plain_TextAt.f textAt
  rw [may_eq]
  by_cases c1 : n < 0
  · rw [if_pos c1, Option.bind_some, if_neg (by decide), if_neg (by omega)]; exact hj
  rw [if_neg c1]
  by_cases c2 : n > 16777216
  · rw [if_pos c2, Option.bind_some, if_neg (by decide), if_neg (by omega)]; exact hj
  rw [if_neg c2, Option.bind_some, if_pos rfl]
  by_cases c3 : i < 0
  · rw [if_pos c3, if_neg (by omega)]; exact hj
  rw [if_neg c3]
  by_cases c4 : i ≥ n
  · rw [if_pos c4, if_neg (by omega)]; exact hj
  rw [if_neg c4]
  have h1 : wrap64 (n + 1) = n + 1 := by unfold wrap64; omega
  have h2 : wrap64 (4 * (n + 1)) = 4 * (n + 1) := by unfold wrap64; omega
  rw [h1, h2]
  by_cases c5 : (b.length : Int) < 4 * (n + 1)
  · rw [decide_eq_true c5, if_neg (by omega)]; exact hj
  rw [decide_eq_false c5, if_pos (by omega : 0 ≤ n ∧ n ≤ 16777216 ∧ 0 ≤ i ∧ i < n ∧ 4 * (n + 1) ≤ (b.length : Int))]
  obtain ⟨j, rfl⟩ := Int.eq_ofNat_of_zero_le (by omega : 0 ≤ i)
  obtain ⟨n, rfl⟩ := Int.eq_ofNat_of_zero_le (by omega : 0 ≤ n)
  have h3 : wrap64 ((j : Int) + 1) = ((j + 1 : Nat) : Int) := by unfold wrap64; omega
  have hd : (((b.drop (4 * (n + 1))).length : Nat) : Int) = b.length - 4 * ((n : Int) + 1) := by rw [List.length_drop]; omega
  have ht : (4 * ((n : Int) + 1)).toNat = 4 * (n + 1) := by omega
  have r0 := endAt_range hb (i := j) (by omega)
  have r1 := endAt_range hb (i := j + 1) (by omega)
  rw [plain_TextAt.j0, if_neg (by decide), h1, h2, if_pos (by omega), if_pos (by omega), h3, end_eq K b j hb hl (by omega) (by omega), end_eq K b (j + 1) hb hl (by omega) (by omega), ht]
  rw [Option.bind_some, Option.bind_some, hd, Int.toNat_natCast, Int.toNat_natCast]
  by_cases c6 : endAt b j > endAt b (j + 1)
  · rw [if_pos c6, if_neg (by omega)]
  rw [if_neg c6]
  by_cases c7 : endAt b (j + 1) > b.length - 4 * ((n : Int) + 1)
  · rw [if_pos c7, if_neg (by omega)]
  rw [if_neg c7, if_pos r0.1, if_pos (by omega), if_pos (by omega), if_pos (by omega)]
def okEnds (b : List Int) : Nat → Nat → Int → Option Int
  | 0, _, last => some last
  | m + 1, i, last => if endAt b (i + 1) < last then none else if endAt b (i + 1) - last > 65535 then none else okEnds b m (i + 1) (endAt b (i + 1))
def strAt (b : List Int) (n : Nat) (i : Nat) : ByteArray := (textAt b n i).1
def strs (b : List Int) (n : Nat) : List ByteArray := (List.range n).map (strAt b n)
def textsEnd (b : List Int) (n : Nat) : Option Int → List ByteArray × Int
  | none => ([], 70)
  | some last => if (b.length : Int) - 4 * ((n : Int) + 1) < last then ([], 71) else if (b.length : Int) - 4 * ((n : Int) + 1) > last then ([], 72) else (strs b n, 0)
def texts (b : List Int) (n : Int) : List ByteArray × Int := if n < 0 then ([], 2) else if n > 16777216 then ([], 3) else if (b.length : Int) < 4 * (n + 1) then ([], 71) else if endAt b 0 = 0 then textsEnd b n.toNat (okEnds b n.toNat 0 0) else ([], 70)
theorem texts_fill (K : Nat) (b : List Int) (n : Nat) (hb : Byte b) (hl : b.length ≤ 9223372036854775807) (hn : n ≤ 16777216) (hK : 10 ≤ K) : ∀ m i, i + m = n →
    plain_Texts.l1 (m + (K + 1)) b n ((List.range i).map (strAt b n) ++ List.replicate m (⟨#[]⟩ : ByteArray)) (n : Int) (i : Int) = some (strs b n, 0)
  | 0, i, hi => by
    obtain rfl : i = n := by omega
    rw [Nat.zero_add, plain_Texts.l1, if_neg (by omega), List.replicate_zero, List.append_nil]; rfl
  | m + 1, i, hi => by
    have hnx : wrap64 ((i : Int) + 1) = ((i + 1 : Nat) : Int) := by unfold wrap64; omega
    rw [show m + 1 + (K + 1) = (m + (K + 1)) + 1 from by omega, plain_Texts.l1, if_pos (by omega), textAt_eq _ b n i hb hl (by omega)]
    rw [Option.bind_some, if_pos (by omega), if_pos (by simp; omega), hnx, Int.toNat_natCast]
    show plain_Texts.l1 _ b n (((List.range i).map (strAt b n) ++ List.replicate (m + 1) (⟨#[]⟩ : ByteArray)).set i (strAt b n i)) _ _ = _
    rw [fill_set]
    exact texts_fill K b n hb hl hn hK m (i + 1) (by omega)
theorem texts_loop (K : Nat) (b : List Int) (n : Nat) (hb : Byte b) (hl : b.length ≤ 9223372036854775807) (hn : n ≤ 16777216) (hN : 4 * (n + 1) ≤ b.length) (hK : n + 12 ≤ K) : ∀ m i last, 0 ≤ last ∧ last < 4294967296 → i + m = n →
    plain_Texts.l0 (m + (K + 1)) b n last (n : Int) (i : Int) = some (textsEnd b n (okEnds b m i last))
  | 0, i, last, hL, hi => by
    have h1 : wrap64 ((n : Int) + 1) = ((n + 1 : Nat) : Int) := by unfold wrap64; omega
    have h2 : wrap64 (4 * ((n + 1 : Nat) : Int)) = ((4 * (n + 1) : Nat) : Int) := by unfold wrap64; omega
    have h3 : wrap64 ((b.length : Int) - ((4 * (n + 1) : Nat) : Int)) = b.length - 4 * ((n : Int) + 1) := by unfold wrap64; omega
    rw [Nat.zero_add, plain_Texts.l0, if_neg (by omega), h1, h2, h3, okEnds, textsEnd]
    by_cases c1 : (b.length : Int) - 4 * ((n : Int) + 1) < last
    · rw [if_pos c1, if_pos c1]
    rw [if_neg c1, if_neg c1]
    by_cases c2 : (b.length : Int) - 4 * ((n : Int) + 1) > last
    · rw [if_pos c2, if_pos c2]
    rw [if_neg c2, if_neg c2, if_pos (by omega), if_pos (by omega), Int.toNat_natCast]
    show plain_Texts.l1 K b n (List.replicate n (⟨#[]⟩ : ByteArray)) ((List.replicate n (⟨#[]⟩ : ByteArray)).length : Int) 0 = _
    rw [List.length_replicate]
    have h := texts_fill (K - n - 1) b n hb hl hn (by omega) n 0 (by omega)
    rw [show n + (K - n - 1 + 1) = K from by omega] at h
    exact h
  | m + 1, i, last, hL, hi => by
    have hnx : wrap64 ((i : Int) + 1) = ((i + 1 : Nat) : Int) := by unfold wrap64; omega
    have r := endAt_range hb (i := i + 1) (by omega)
    have hs : wrap64 (endAt b (i + 1) - last) = endAt b (i + 1) - last := by unfold wrap64; omega
    rw [show m + 1 + (K + 1) = (m + (K + 1)) + 1 from by omega, plain_Texts.l0, if_pos (by omega), hnx, end_eq _ b (i + 1) hb hl (by omega) (by omega), okEnds]
    rw [Option.bind_some]
    by_cases c1 : endAt b (i + 1) < last
    · rw [if_pos c1, if_pos c1]; rfl
    rw [if_neg c1, if_neg c1, hs]
    by_cases c2 : endAt b (i + 1) - last > 65535
    · rw [if_pos c2, if_pos c2]; rfl
    rw [if_neg c2, if_neg c2]
    exact texts_loop K b n hb hl hn hN hK m (i + 1) _ r (by omega)
theorem texts_eq (K : Nat) (b : List Int) (n : Int) (hb : Byte b) (hl : b.length ≤ 9223372036854775807) (hK : 33554432 + 20 ≤ K) : plain_Texts.f K b n = some (texts b n) := by
  unfold plain_Texts.f texts
  rw [may_eq]
  by_cases c1 : n < 0
  · rw [if_pos c1, if_pos c1]; rfl
  rw [if_neg c1, if_neg c1]
  by_cases c2 : n > 16777216
  · rw [if_pos c2, if_pos c2]; rfl
  rw [if_neg c2, if_neg c2]
  have h1 : wrap64 (n + 1) = n + 1 := by unfold wrap64; omega
  have h2 : wrap64 (4 * (n + 1)) = 4 * (n + 1) := by unfold wrap64; omega
  rw [Option.bind_some, if_pos rfl]
  rw [h1, h2]
  by_cases c3 : (b.length : Int) < 4 * (n + 1)
  · rw [if_pos c3, if_pos c3]
  rw [if_neg c3, if_neg c3]
  obtain ⟨n, rfl⟩ := Int.eq_ofNat_of_zero_le (by omega : 0 ≤ n)
  have he := end_eq K b 0 hb hl (by omega) (by omega)
  rw [show ((0 : Nat) : Int) = 0 from rfl] at he
  rw [he]
  rw [Option.bind_some]
  by_cases c4 : endAt b 0 = 0
  · rw [if_pos c4, if_pos c4, Int.toNat_natCast]
    have h := texts_loop (K - n - 1) b n hb hl (by omega) (by omega) (by omega) n 0 0 (by decide) (by omega)
    rw [show n + (K - n - 1 + 1) = K from by omega] at h
    exact h
  · rw [if_neg c4, if_neg c4]
theorem sameInts_loop (K : Nat) (a : List Int) (hl : a.length ≤ 9223372036854775806) : ∀ m i, i + m = a.length → colonnaderef08_SameInts.l0 (m + (K + 1)) a a (i : Int) = some true
  | 0, i, hi => by rw [Nat.zero_add, colonnaderef08_SameInts.l0, if_neg (by omega)]
  | m + 1, i, hi => by
    have hnx : wrap64 ((i : Int) + 1) = ((i + 1 : Nat) : Int) := by unfold wrap64; omega
    rw [show m + 1 + (K + 1) = (m + (K + 1)) + 1 from by omega, colonnaderef08_SameInts.l0, if_pos (by omega), if_pos (by omega), if_pos (by omega), if_pos rfl, hnx]
    exact sameInts_loop K a hl m (i + 1) (by omega)
theorem sameInts_refl (K : Nat) (a : List Int) (hl : a.length ≤ 9223372036854775806) (hK : a.length + 1 ≤ K) : colonnaderef08_SameInts.f K a a = some true := by
  unfold colonnaderef08_SameInts.f
  rw [if_pos rfl]
  have h := sameInts_loop (K - a.length - 1) a hl a.length 0 (by omega)
  rw [show a.length + (K - a.length - 1 + 1) = K from by omega] at h
  exact h
theorem sameTexts_loop (K : Nat) (a : List ByteArray) (hl : a.length ≤ 9223372036854775806) : ∀ m i, i + m = a.length → colonnaderef08_SameTexts.l0 (m + (K + 1)) a a (i : Int) = some true
  | 0, i, hi => by rw [Nat.zero_add, colonnaderef08_SameTexts.l0, if_neg (by omega)]
  | m + 1, i, hi => by
    have hnx : wrap64 ((i : Int) + 1) = ((i + 1 : Nat) : Int) := by unfold wrap64; omega
    rw [show m + 1 + (K + 1) = (m + (K + 1)) + 1 from by omega, colonnaderef08_SameTexts.l0, if_pos (by omega), if_pos (by omega), if_pos (by omega), if_pos rfl, hnx]
    exact sameTexts_loop K a hl m (i + 1) (by omega)
theorem sameTexts_refl (K : Nat) (a : List ByteArray) (hl : a.length ≤ 9223372036854775806) (hK : a.length + 1 ≤ K) : colonnaderef08_SameTexts.f K a a = some true := by
  unfold colonnaderef08_SameTexts.f
  rw [if_pos rfl]
  have h := sameTexts_loop (K - a.length - 1) a hl a.length 0 (by omega)
  rw [show a.length + (K - a.length - 1 + 1) = K from by omega] at h
  exact h
theorem total_take (l : List ByteArray) (i : Nat) (h : i < l.length) : XPlain.total (l.take (i + 1)) = XPlain.total (l.take i) + (l[i]).size := by
  rw [List.take_succ_eq_append_getElem h, XPlain.total_append]; rfl
theorem total_take_le (l : List ByteArray) (i : Nat) : XPlain.total (l.take i) ≤ XPlain.total l := by
  have h := XPlain.total_append (l.take i) (l.drop i)
  rw [List.take_append_drop] at h
  omega
theorem rdOf_nat (l : List ByteArray) (i : Nat) (h : i < l.length) : rdOf ByteArray.empty l (i : Int) = l[i] := by simp [rdOf, h]
theorem tooLong_fit : ∀ (l : List ByteArray) (n : Nat), (∀ s ∈ l, s.size ≤ 65535) → n + XPlain.total l ≤ 4294967295 → XPlain.tooLong n l = false
  | [], _, _, _ => rfl
  | s :: l, n, h, k => by
    have h1 := h s (by simp)
    rw [XPlain.total] at k
    rw [XPlain.tooLong, tooLong_fit l _ (fun x hx => h x (by simp [hx])) (by omega), decide_eq_false (by omega), decide_eq_false (by omega)]; rfl
theorem putTexts_fit (l : List ByteArray) (hn : l.length ≤ 16777216) (h : ∀ s ∈ l, s.size ≤ 65535) (k : XPlain.total l ≤ 4294967295) : XPlain.putTexts l = (XPlain.bytesN 0 4 ++ (XPlain.ends 0 l ++ XPlain.heap l), 0) := by
  rw [XPlain.putTexts, if_neg (by omega), if_neg (by rw [tooLong_fit l 0 h (by omega)]; decide)]
theorem sum_total (l : List ByteArray) : (l.map (fun z_ => (z_.size + 1))).sum = XPlain.total l + l.length := by
  induction l with
  | nil => rfl
  | cons a l ih => rw [List.map_cons, List.sum_cons, ih, XPlain.total, List.length_cons]; omega
theorem sum_ones (l : List Int) : (l.map (fun z_ => 1)).sum = l.length := by
  induction l with
  | nil => rfl
  | cons a l ih => rw [List.map_cons, List.sum_cons, ih, List.length_cons]; omega
def shorts (l : List ByteArray) : List ByteArray := l.filter fun s => decide (s.size ≤ 65535)
theorem short_loop (K : Nat) (t : List ByteArray) (hn : t.length ≤ 1048576) (hT : XPlain.total t ≤ 1048576) : ∀ m i, i + m = t.length →
    colonnadelaw08_short.l0 (m + (K + 1)) t (shorts (t.take i)) (XPlain.total (t.take i) : Nat) (i : Int) = some (shorts t)
  | 0, i, hi => by rw [Nat.zero_add, colonnadelaw08_short.l0, if_neg (by omega), List.take_of_length_le (by omega)]
  | m + 1, i, hi => by
    have hlt : i < t.length := by omega
    have hnx : wrap64 ((i : Int) + 1) = ((i + 1 : Nat) : Int) := by unfold wrap64; omega
    have h1 := total_take t i hlt
    have h2 := total_take_le t (i + 1)
    have hs : wrap64 (((XPlain.total (t.take i) : Nat) : Int) + ((t[i]).size : Int)) = ((XPlain.total (t.take (i + 1)) : Nat) : Int) := by unfold wrap64; omega
    have hf : (shorts (t.take i)).length ≤ i := Nat.le_trans (List.length_filter_le _ _) (by rw [List.length_take]; omega)
    have ih := short_loop K t hn hT m (i + 1) (by omega)
    have e : shorts (t.take (i + 1)) = shorts (t.take i) ++ shorts [t[i]] := by rw [List.take_succ_eq_append_getElem hlt]; exact List.filter_append _ _
    rw [e] at ih
    rw [show m + 1 + (K + 1) = (m + (K + 1)) + 1 from by omega, colonnadelaw08_short.l0, if_pos (by omega), if_pos (by omega), rdOf_nat t i hlt, hs, hnx]
    by_cases c : ((t[i]).size : Int) ≤ 65535
    · rw [if_pos c, if_pos (by omega), if_pos (by omega), if_pos (by omega)]
      rw [show shorts [t[i]] = [t[i]] from by simp [shorts]; omega] at ih
      exact ih
    · rw [if_neg c]
      rw [show shorts [t[i]] = [] from by simp [shorts]; omega, List.append_nil] at ih
      exact ih
theorem short_eq (K : Nat) (t : List ByteArray) (hn : t.length ≤ 1048576) (hT : XPlain.total t ≤ 1048576) (hK : t.length + 1 ≤ K) : colonnadelaw08_short.f K t = some (shorts t) := by
  have h := short_loop (K - t.length - 1) t hn hT t.length 0 (by omega)
  rw [show t.length + (K - t.length - 1 + 1) = K from by omega] at h
  exact h
theorem shorts_fit (t : List ByteArray) : ∀ s ∈ shorts t, s.size ≤ 65535 := fun s hs => of_decide_eq_true (List.mem_filter.mp hs).2
theorem shorts_total : ∀ t : List ByteArray, XPlain.total (shorts t) ≤ XPlain.total t
  | [] => by simp [shorts, XPlain.total]
  | s :: t => by
    have h := shorts_total t
    by_cases c : s.size ≤ 65535
    · rw [show shorts (s :: t) = s :: shorts t from by simp [shorts, c], XPlain.total, XPlain.total]; omega
    · rw [show shorts (s :: t) = shorts t from by simp [shorts, c], XPlain.total]; omega
theorem shorts_length (t : List ByteArray) : (shorts t).length ≤ t.length := List.length_filter_le _ _
theorem seg_mid (A B C : List Int) (o n : Nat) (ho : o = A.length) (hn : n = B.length) : seg (A ++ (B ++ C)) o n = B := by
  subst ho hn
  rw [seg, ← List.append_assoc, List.take_left' (by rw [List.length_append]), List.drop_left]
theorem longs_append (a b : List Int) : XPlain.longs (a ++ b) = XPlain.longs a ++ XPlain.longs b := by unfold XPlain.longs; rw [List.flatMap_append]
theorem longs_byte (l : List Int) : Byte (XPlain.longs l) := fun x hx => by
  unfold XPlain.longs at hx
  obtain ⟨y, _, h⟩ := List.mem_flatMap.mp hx
  exact bytesN_byte _ _ x h
theorem longs_seg (l : List Int) (i : Nat) (h : i < l.length) : seg (XPlain.longs l) (8 * i) 8 = XPlain.bytesN (l[i] % 18446744073709551616) 8 := by
  have e : XPlain.longs l = XPlain.longs (l.take i) ++ (XPlain.bytesN (l[i] % 18446744073709551616) 8 ++ XPlain.longs (l.drop (i + 1))) := by
    conv => lhs; rw [← List.take_append_drop i l, longs_append, List.drop_eq_getElem_cons h]
    rfl
  rw [e]
  exact seg_mid _ _ _ _ _ (by rw [XPlain.longs_length, List.length_take]; omega) (by rw [XPlain.bytesN_length])
theorem i64_of {l : List Int} (h : ∀ y_ ∈ l, (Lit.int .i64 y_).wf = true) : ∀ x ∈ l, -9223372036854775808 ≤ x ∧ x < 9223372036854775808 := fun x hx => by
  have := h x hx
  simp only [Lit.wf, Bool.and_eq_true, decide_eq_true_eq] at this
  obtain ⟨h1, h2⟩ := this
  exact ⟨h1, Int.lt_of_le_of_lt h2 (by decide)⟩
theorem back_num (x : Int) (h : -9223372036854775808 ≤ x ∧ x < 9223372036854775808) : wrap64 (lowN (XPlain.bytesN (x % 18446744073709551616) 8)) = x := by
  rw [lowN_bytesN _ (by omega), show (2 : Int) ^ (8 * 8) = 18446744073709551616 from by decide]
  unfold wrap64; omega
theorem numAt_longs (l : List Int) (hw : ∀ x ∈ l, -9223372036854775808 ≤ x ∧ x < 9223372036854775808) (i : Nat) (h : i < l.length) : numAt (XPlain.longs l) i = l[i] := by
  rw [numAt, longs_seg l i h, back_num _ (hw _ (List.getElem_mem h))]
theorem nums_longs (l : List Int) (hw : ∀ x ∈ l, -9223372036854775808 ≤ x ∧ x < 9223372036854775808) : nums (XPlain.longs l) l.length = l := by
  apply List.ext_getElem
  · simp [nums]
  · intro i h1 h2
    simp only [nums, List.getElem_map, List.getElem_range]
    exact numAt_longs l hw i h2
theorem ints_longs (l : List Int) (hw : ∀ x ∈ l, -9223372036854775808 ≤ x ∧ x < 9223372036854775808) (hn : l.length ≤ 16777216) : ints (XPlain.longs l) (l.length : Int) = (l, 0) := by
  rw [ints, if_neg (by omega), if_neg (by omega), XPlain.longs_length, if_neg (by omega), if_neg (by omega), Int.toNat_natCast, nums_longs l hw]
theorem ends_append : ∀ (n : Nat) (a b : List ByteArray), XPlain.ends n (a ++ b) = XPlain.ends n a ++ XPlain.ends (n + XPlain.total a) b
  | n, [], b => by simp [XPlain.ends, XPlain.total]
  | n, x :: a, b => by rw [List.cons_append, XPlain.ends, ends_append _ a b, XPlain.ends, XPlain.total, List.append_assoc, show n + x.size + XPlain.total a = n + (x.size + XPlain.total a) from by omega]
theorem heap_append (a b : List ByteArray) : XPlain.heap (a ++ b) = XPlain.heap a ++ XPlain.heap b := by unfold XPlain.heap; rw [List.flatMap_append]
/-- the bytes of texts -/
def form (l : List ByteArray) : List Int := XPlain.bytesN 0 4 ++ (XPlain.ends 0 l ++ XPlain.heap l)
theorem form_length (l : List ByteArray) : (form l).length = 4 * (l.length + 1) + XPlain.total l := by
  rw [form, List.length_append, List.length_append, XPlain.bytesN_length, XPlain.ends_length, XPlain.heap_length]; omega
theorem ends_byte : ∀ (n : Nat) (l : List ByteArray), Byte (XPlain.ends n l)
  | _, [] => fun x hx => by simp [XPlain.ends] at hx
  | n, s :: l => (bytesN_byte _ _).append (ends_byte _ l)
theorem bytesOf_byte (s : ByteArray) : Byte (bytesOf s) := fun x hx => by
  unfold bytesOf at hx
  obtain ⟨b, _, rfl⟩ := List.mem_map.mp hx
  have := b.toNat_lt
  omega
theorem heap_byte (l : List ByteArray) : Byte (XPlain.heap l) := fun x hx => by
  unfold XPlain.heap at hx
  obtain ⟨y, _, h⟩ := List.mem_flatMap.mp hx
  exact bytesOf_byte _ x h
theorem form_byte (l : List ByteArray) : Byte (form l) := (bytesN_byte _ _).append ((ends_byte _ _).append (heap_byte _))
theorem strOf_bytesOf (s : ByteArray) : strOfNums (bytesOf s) = s := by
  have h : (bytesOf s).map (fun n => UInt8.ofNat n.toNat) = s.data.toList := by
    unfold bytesOf
    rw [List.map_map]
    conv => rhs; rw [← List.map_id s.data.toList]
    apply List.map_congr_left
    intro b _
    simp
  unfold strOfNums
  rw [h]
theorem endAt_form (l : List ByteArray) (hT : XPlain.total l ≤ 4294967295) : ∀ i, i ≤ l.length → endAt (form l) i = (XPlain.total (l.take i) : Nat)
  | 0, _ => by
    have h : seg (form l) (4 * 0) 4 = XPlain.bytesN 0 4 := seg_mid [] _ _ _ _ rfl (XPlain.bytesN_length 0 4).symm
    rw [endAt, h, lowN_bytesN _ (by decide)]; simp [XPlain.total]
  | i + 1, hi => by
    have ht := total_take l i hi
    have hle := total_take_le l (i + 1)
    have e : form l = (XPlain.bytesN 0 4 ++ XPlain.ends 0 (l.take i)) ++ (XPlain.bytesN ((XPlain.total (l.take (i + 1)) : Nat) : Int) 4 ++ (XPlain.ends (XPlain.total (l.take (i + 1))) (l.drop (i + 1)) ++ XPlain.heap l)) := by
      have e1 : XPlain.ends 0 l = XPlain.ends 0 (l.take i) ++ (XPlain.bytesN ((XPlain.total (l.take (i + 1)) : Nat) : Int) 4 ++ XPlain.ends (XPlain.total (l.take (i + 1))) (l.drop (i + 1))) := by
        conv => lhs; rw [← List.take_append_drop i l, ends_append, List.drop_eq_getElem_cons hi, XPlain.ends, Nat.zero_add]
        rw [ht]
      rw [form, e1]; simp only [List.append_assoc]
    have h : seg (form l) (4 * (i + 1)) 4 = XPlain.bytesN ((XPlain.total (l.take (i + 1)) : Nat) : Int) 4 := by
      rw [e]
      exact seg_mid _ _ _ _ _ (by rw [List.length_append, XPlain.bytesN_length, XPlain.ends_length, List.length_take]; omega) (by rw [XPlain.bytesN_length])
    rw [endAt, h, lowN_bytesN _ (by omega), show (2 : Int) ^ (8 * 4) = 4294967296 from by decide]
    omega
theorem textAt_form (l : List ByteArray) (hn : l.length ≤ 16777216) (hT : XPlain.total l ≤ 4294967295) (i : Nat) (hi : i < l.length) : textAt (form l) (l.length : Int) (i : Int) = (l[i], true) := by
  have ht := total_take l i hi
  have hle := total_take_le l (i + 1)
  rw [textAt, if_pos (by rw [form_length]; omega), Int.toNat_natCast, Int.toNat_natCast, endAt_form l hT i (by omega), endAt_form l hT (i + 1) hi, if_pos (by rw [form_length]; omega), Int.toNat_natCast, Int.toNat_natCast]
  have hd : (form l).drop (4 * (l.length + 1)) = XPlain.heap l := by
    rw [form, ← List.append_assoc]
    exact List.drop_left' (by rw [List.length_append, XPlain.bytesN_length, XPlain.ends_length]; omega)
  have hh : XPlain.heap l = XPlain.heap (l.take i) ++ (bytesOf l[i] ++ XPlain.heap (l.drop (i + 1))) := by
    conv => lhs; rw [← List.take_append_drop i l, heap_append, List.drop_eq_getElem_cons hi]
    rfl
  have hs : ((XPlain.heap l).take (XPlain.total (l.take (i + 1)))).drop (XPlain.total (l.take i)) = bytesOf l[i] := by
    rw [hh, ht]
    exact seg_mid _ _ _ _ _ (by rw [XPlain.heap_length]) (by rw [bytesOf_length])
  rw [hd, hs, strOf_bytesOf]
theorem strs_form (l : List ByteArray) (hn : l.length ≤ 16777216) (hT : XPlain.total l ≤ 4294967295) : strs (form l) l.length = l := by
  apply List.ext_getElem
  · simp [strs]
  · intro i h1 h2
    simp only [strs, List.getElem_map, List.getElem_range]
    rw [strAt, textAt_form l hn hT i h2]
theorem okEnds_form (l : List ByteArray) (hT : XPlain.total l ≤ 4294967295) (hs : ∀ s ∈ l, s.size ≤ 65535) : ∀ m i, i + m = l.length → okEnds (form l) m i (XPlain.total (l.take i) : Nat) = some ((XPlain.total l : Nat) : Int)
  | 0, i, hi => by rw [okEnds, List.take_of_length_le (by omega)]
  | m + 1, i, hi => by
    have hlt : i < l.length := by omega
    have ht := total_take l i hlt
    have hz := hs _ (List.getElem_mem hlt)
    rw [okEnds, endAt_form l hT (i + 1) (by omega), if_neg (by omega), if_neg (by omega)]
    exact okEnds_form l hT hs m (i + 1) (by omega)
theorem texts_form (l : List ByteArray) (hn : l.length ≤ 16777216) (hT : XPlain.total l ≤ 4294967295) (hs : ∀ s ∈ l, s.size ≤ 65535) : texts (form l) (l.length : Int) = (l, 0) := by
  have h0 := endAt_form l hT 0 (by omega)
  have hk := okEnds_form l hT hs l.length 0 (by omega)
  rw [List.take_zero] at h0 hk
  rw [texts, if_neg (by omega), if_neg (by omega), if_neg (by rw [form_length]; omega), if_pos (by rw [h0]; rfl), Int.toNat_natCast]
  rw [show ((XPlain.total [] : Nat) : Int) = 0 from rfl] at hk
  rw [hk, textsEnd, if_neg (by rw [form_length]; omega), if_neg (by rw [form_length]; omega), strs_form l hn hT]
theorem bytesOf_strOf (l : List Int) (h : Byte l) : bytesOf (strOfNums l) = l := by
  have h2 : bytesOf (strOfNums l) = l.map fun n => ((UInt8.ofNat n.toNat).toNat : Int) := by
    unfold bytesOf strOfNums
    simp [List.map_map, Function.comp_def]
  rw [h2]
  conv => rhs; rw [← List.map_id l]
  apply List.map_congr_left
  intro n hn
  have := h n hn
  simp only [UInt8.toNat_ofNat', id]
  omega
theorem seg_join (b : List Int) (o n : Nat) : b.take o ++ seg b o n = b.take (o + n) := by
  have h : (b.take (o + n)).take o = b.take o := by rw [List.take_take, Nat.min_eq_left (by omega)]
  rw [seg, ← h, List.take_append_drop]
theorem longs_nums (b : List Int) (hb : Byte b) : ∀ n, 8 * n ≤ b.length → XPlain.longs (nums b n) = b.take (8 * n)
  | 0, _ => by simp [nums, XPlain.longs]
  | n + 1, h => by
    have e : nums b (n + 1) = nums b n ++ [numAt b n] := by simp only [nums, List.range_succ, List.map_append]; rfl
    have hl := seg_length (l := b) (o := 8 * n) (n := 8) (by omega)
    have hr := lowN_range _ (seg_byte hb (8 * n) 8)
    rw [hl, show (2 : Int) ^ (8 * 8) = 18446744073709551616 from by decide] at hr
    have hv : numAt b n % 18446744073709551616 = lowN (seg b (8 * n) 8) := by unfold numAt wrap64; omega
    have hs := bytesN_lowN _ (seg_byte hb (8 * n) 8)
    rw [hl] at hs
    rw [e, XPlain.longs_snoc, longs_nums b hb n (by omega), hv, hs, seg_join]
    rfl
theorem okEnds_some (b : List Int) : ∀ (m i : Nat) (r : Int), okEnds b m i (endAt b i) = some r → (∀ j, i ≤ j → j < i + m → endAt b j ≤ endAt b (j + 1) ∧ endAt b (j + 1) - endAt b j ≤ 65535) ∧ r = endAt b (i + m)
  | 0, i, r, h => by
    rw [okEnds] at h
    exact ⟨fun j h1 h2 => by omega, (Option.some.inj h).symm⟩
  | m + 1, i, r, h => by
    rw [okEnds] at h
    by_cases c1 : endAt b (i + 1) < endAt b i
    · rw [if_pos c1] at h; cases h
    rw [if_neg c1] at h
    by_cases c2 : endAt b (i + 1) - endAt b i > 65535
    · rw [if_pos c2] at h; cases h
    rw [if_neg c2] at h
    obtain ⟨h1, h2⟩ := okEnds_some b m (i + 1) r h
    refine ⟨fun j hj hk => ?_, by rw [h2, show i + 1 + m = i + (m + 1) from by omega]⟩
    by_cases c : j = i
    · subst c; omega
    · exact h1 j (by omega) (by omega)
theorem ends_up (b : List Int) (n : Nat) (h : ∀ j, j < n → endAt b j ≤ endAt b (j + 1)) : ∀ d j, j + d = n → endAt b j ≤ endAt b n
  | 0, j, hj => by rw [show n = j from by omega]; exact Int.le_refl _
  | d + 1, j, hj => Int.le_trans (h j (by omega)) (ends_up b n h d (j + 1) (by omega))
theorem strs_form_of (b : List Int) (hb : Byte b) (n : Nat) (hn : n ≤ 16777216) (hl : (b.length : Int) = 4 * ((n : Int) + 1) + endAt b n) (h0 : endAt b 0 = 0)
    (hm : ∀ j, j < n → endAt b j ≤ endAt b (j + 1) ∧ endAt b (j + 1) - endAt b j ≤ 65535) :
    ∀ i, i ≤ n → XPlain.total ((List.range i).map (strAt b n)) = (endAt b i).toNat ∧ XPlain.bytesN 0 4 ++ XPlain.ends 0 ((List.range i).map (strAt b n)) = b.take (4 * (i + 1)) ∧ XPlain.heap ((List.range i).map (strAt b n)) = (b.drop (4 * (n + 1))).take (endAt b i).toNat ∧ ∀ s ∈ (List.range i).map (strAt b n), s.size ≤ 65535
  | 0, _ => by
    have hs := bytesN_lowN _ (seg_byte hb (4 * 0) 4)
    have hp : 0 ≤ endAt b n := by
      have := ends_up b n (fun j hj => (hm j hj).1) n 0 (by omega)
      omega
    rw [seg_length (by omega)] at hs
    rw [show lowN (seg b (4 * 0) 4) = 0 from h0] at hs
    refine ⟨by rw [h0]; rfl, ?_, by rw [h0]; simp [XPlain.heap], by simp⟩
    rw [show (List.range 0).map (strAt b n) = [] from rfl, show XPlain.ends 0 [] = [] from rfl, List.append_nil, hs]
    simp [seg]
  | i + 1, hi => by
    obtain ⟨h1, h2, h3, h4⟩ := strs_form_of b hb n hn hl h0 hm i (by omega)
    have hup := ends_up b n (fun j hj => (hm j hj).1) (n - (i + 1)) (i + 1) (by omega)
    have hpn : 0 ≤ endAt b n := by
      have := ends_up b n (fun j hj => (hm j hj).1) n 0 (by omega)
      omega
    have r0 := endAt_range hb (i := i) (by omega)
    have r1 := endAt_range hb (i := i + 1) (by omega)
    obtain ⟨m1, m2⟩ := hm i (by omega)
    have e : (List.range (i + 1)).map (strAt b n) = (List.range i).map (strAt b n) ++ [strAt b n i] := by rw [List.range_succ, List.map_append]; rfl
    have hs : strAt b n i = strOfNums (((b.drop (4 * (n + 1))).take (endAt b (i + 1)).toNat).drop (endAt b i).toNat) := by
      rw [strAt, textAt, if_pos (by omega), Int.toNat_natCast, Int.toNat_natCast, if_pos (by omega)]
    have hbs : bytesOf (strAt b n i) = ((b.drop (4 * (n + 1))).take (endAt b (i + 1)).toNat).drop (endAt b i).toNat := by rw [hs]; exact bytesOf_strOf _ (((hb.drop _).take _).drop _)
    have hsz : (strAt b n i).size = (endAt b (i + 1)).toNat - (endAt b i).toNat := by
      rw [← bytesOf_length, hbs, List.length_drop, List.length_take, List.length_drop]; omega
    have hseg := bytesN_lowN _ (seg_byte hb (4 * (i + 1)) 4)
    rw [seg_length (by omega)] at hseg
    have hend : ((0 + XPlain.total ((List.range i).map (strAt b n)) + (strAt b n i).size : Nat) : Int) = endAt b (i + 1) := by rw [h1, hsz]; omega
    rw [e]
    refine ⟨?_, ?_, ?_, ?_⟩
    · rw [XPlain.total_append, h1]
      show _ + ((strAt b n i).size + 0) = _
      rw [hsz]; omega
    · rw [XPlain.ends_snoc, hend, ← List.append_assoc, h2]
      show _ ++ XPlain.bytesN (lowN (seg b (4 * (i + 1)) 4)) 4 = _
      rw [hseg, seg_join]
      congr 1
    · rw [XPlain.heap_snoc, h3, hbs]
      have h : ((b.drop (4 * (n + 1))).take (endAt b (i + 1)).toNat).take (endAt b i).toNat = (b.drop (4 * (n + 1))).take (endAt b i).toNat := by rw [List.take_take, Nat.min_eq_left (by omega)]
      rw [← h, List.take_append_drop]
    · intro s hs
      rcases List.mem_append.mp hs with h | h
      · exact h4 s h
      · rw [List.mem_singleton.mp h, hsz]; omega
theorem putTexts_back (b : List Int) (hb : Byte b) (n : Int) (t : List ByteArray) (h : texts b n = (t, 0)) : XPlain.putTexts t = (b, 0) ∧ (t.length : Int) = n := by
  unfold texts at h
  by_cases c1 : n < 0
  · rw [if_pos c1] at h; cases h
  rw [if_neg c1] at h
  by_cases c2 : n > 16777216
  · rw [if_pos c2] at h; cases h
  rw [if_neg c2] at h
  by_cases c3 : (b.length : Int) < 4 * (n + 1)
  · rw [if_pos c3] at h; cases h
  rw [if_neg c3] at h
  by_cases c4 : endAt b 0 = 0
  · rw [if_pos c4] at h
    obtain ⟨n, rfl⟩ := Int.eq_ofNat_of_zero_le (by omega : 0 ≤ n)
    rw [Int.toNat_natCast] at h
    cases ho : okEnds b n 0 0 with
    | none => rw [ho] at h; cases h
    | some last =>
      rw [ho, textsEnd] at h
      by_cases c5 : (b.length : Int) - 4 * ((n : Int) + 1) < last
      · rw [if_pos c5] at h; cases h
      rw [if_neg c5] at h
      by_cases c6 : (b.length : Int) - 4 * ((n : Int) + 1) > last
      · rw [if_pos c6] at h; cases h
      rw [if_neg c6] at h
      obtain ⟨rfl, _⟩ := Prod.mk.inj h
      obtain ⟨hm, hr⟩ := okEnds_some b n 0 last (by rw [c4]; exact ho)
      rw [Nat.zero_add] at hr
      obtain ⟨k1, k2, k3, k4⟩ := strs_form_of b hb n (by omega) (by omega) c4 (fun j hj => hm j (by omega) (by omega)) n (by omega)
      have r1 := endAt_range hb (i := n) (by omega)
      refine ⟨?_, by simp [strs]⟩
      show XPlain.putTexts ((List.range n).map (strAt b n)) = _
      rw [putTexts_fit _ (by simp; omega) k4 (by omega), ← List.append_assoc, k2, k3, show (b.drop (4 * (n + 1))).take (endAt b n).toNat = b.drop (4 * (n + 1)) from List.take_of_length_le (by rw [List.length_drop]; omega), List.take_append_drop]
  · rw [if_neg c4] at h; cases h
theorem texts_bad (b : List Int) (n : Int) (h : (texts b n).2 ≠ 0) : (texts b n).1 = [] := by
  unfold texts at h ⊢
  by_cases c1 : n < 0
  · rw [if_pos c1]
  by_cases c2 : n > 16777216
  · rw [if_neg c1, if_pos c2]
  by_cases c3 : (b.length : Int) < 4 * (n + 1)
  · rw [if_neg c1, if_neg c2, if_pos c3]
  by_cases c4 : endAt b 0 = 0
  · rw [if_neg c1, if_neg c2, if_neg c3, if_pos c4] at h ⊢
    cases ho : okEnds b n.toNat 0 0 with
    | none => rfl
    | some last =>
      rw [ho, textsEnd] at h
      rw [textsEnd]
      by_cases c5 : (b.length : Int) - 4 * ((n.toNat : Int) + 1) < last
      · rw [if_pos c5]
      by_cases c6 : (b.length : Int) - 4 * ((n.toNat : Int) + 1) > last
      · rw [if_neg c5, if_pos c6]
      · rw [if_neg c5, if_neg c6] at h; exact absurd rfl h
  · rw [if_neg c1, if_neg c2, if_neg c3, if_neg c4]
theorem ints_bad (b : List Int) (n : Int) (h : (ints b n).2 ≠ 0) : (ints b n).1 = [] := by
  unfold ints at h ⊢
  by_cases c1 : n < 0
  · rw [if_pos c1]
  by_cases c2 : n > 16777216
  · rw [if_neg c1, if_pos c2]
  by_cases c3 : (b.length : Int) < 8 * n
  · rw [if_neg c1, if_neg c2, if_pos c3]
  by_cases c4 : (b.length : Int) > 8 * n
  · rw [if_neg c1, if_neg c2, if_neg c3, if_pos c4]
  · rw [if_neg c1, if_neg c2, if_neg c3, if_neg c4] at h; exact absurd rfl h
theorem ints_good (b : List Int) (hb : Byte b) (n : Int) (h : (ints b n).2 = 0) : XPlain.longs (ints b n).1 = b ∧ ((ints b n).1.length : Int) = n ∧ (ints b n).1.length ≤ 16777216 := by
  unfold ints at h ⊢
  by_cases c1 : n < 0
  · rw [if_pos c1] at h; cases h
  by_cases c2 : n > 16777216
  · rw [if_neg c1, if_pos c2] at h; cases h
  by_cases c3 : (b.length : Int) < 8 * n
  · rw [if_neg c1, if_neg c2, if_pos c3] at h; cases h
  by_cases c4 : (b.length : Int) > 8 * n
  · rw [if_neg c1, if_neg c2, if_neg c3, if_pos c4] at h; cases h
  rw [if_neg c1, if_neg c2, if_neg c3, if_neg c4]
  have hl : (nums b n.toNat).length = n.toNat := by simp [nums]
  refine ⟨?_, by rw [hl]; omega, by rw [hl]; omega⟩
  rw [longs_nums b hb n.toNat (by omega), List.take_of_length_le (by omega)]
theorem le_of_mono {α : Type} {f : Nat → Option α} (h : ∀ k, LeO (f k) (f (k + 1))) {k : Nat} {r : α} (hr : f k = some r) : ∀ {K : Nat}, k ≤ K → f K = some r
  | K, hK => by
    obtain ⟨d, rfl⟩ : ∃ d, K = k + d := ⟨K - k, by omega⟩
    clear hK
    induction d with
    | zero => exact hr
    | succ d ih => exact h (k + d) r ih
set_option maxRecDepth 100000 in
theorem awake0 : colonnadelaw08_awake.f 40 = some true := by decide +kernel
theorem texts_len (b : List Int) (hb : Byte b) (n : Nat) : (texts b (n : Int)).1.length ≤ n := by
  by_cases h : (texts b (n : Int)).2 = 0
  · have := (putTexts_back b hb n (texts b (n : Int)).1 (by rw [← h])).2
    omega
  · rw [texts_bad b _ h]; simp
theorem inc_range (l : List Int) : ∀ x ∈ colonnadelaw08_PlainOwn.inc l, -9223372036854775808 ≤ x ∧ x < 9223372036854775808 := by
  intro x hx
  obtain ⟨y, _, rfl⟩ := List.mem_map.mp hx
  unfold wrap64; omega
theorem main : colonnadelaw08_PlainOwn.PureU := by
  intro l m t u hl hm ht hu hB
  rw [sum_ones, sum_ones, sum_total, sum_total] at hB
  have hw := i64_of hl.2
  have a1 := shorts_length t
  have a2 := shorts_total t
  have a3 := shorts_fit t
  have b1 := shorts_length u
  have b2 := shorts_total u
  have b3 := shorts_fit u
  refine ⟨100000000, ?_⟩
  obtain ⟨K, hK⟩ : ∃ K, K = 100000000 := ⟨_, rfl⟩
  rw [← hK]
  have hs := short_eq K t (by omega) (by omega) (by omega)
  have hv := short_eq K u (by omega) (by omega) (by omega)
  generalize shorts t = s at a1 a2 a3 hs
  generalize shorts u = v at b1 b2 b3 hv
  have ha : colonnadelaw08_awake.f K = some true := le_of_mono colonnadelaw08_awake.mono awake0 (by omega)
  obtain ⟨L, hL⟩ : ∃ L, L = l.take 65536 := ⟨_, rfl⟩
  have hLl : L.length ≤ 65536 := by rw [hL, List.length_take]; omega
  have hLw : ∀ x ∈ L, -9223372036854775808 ≤ x ∧ x < 9223372036854775808 := fun x hx => hw x (by rw [hL] at hx; exact List.mem_of_mem_take hx)
  have hIl := colonnadelaw08_PlainOwn.inc_len L
  have hIw := inc_range L
  have p1 : plain_PutInts.f L = some (XPlain.longs L) := by rw [plain_PutInts.f, if_pos (by omega)]
  have p2 : plain_PutInts.f m = some (XPlain.longs m) := by rw [plain_PutInts.f, if_pos (by omega)]
  have p3 : plain_PutInts.f (colonnadelaw08_PlainOwn.inc L) = some (XPlain.longs (colonnadelaw08_PlainOwn.inc L)) := by rw [plain_PutInts.f, if_pos (by omega)]
  have q1 : plain_PutTexts.f s = some (form s, 0) := by rw [plain_PutTexts.f, putTexts_fit s (by omega) a3 (by omega)]; rfl
  have q2 : plain_PutTexts.f v = some (form v, 0) := by rw [plain_PutTexts.f, putTexts_fit v (by omega) b3 (by omega)]; rfl
  have ll := XPlain.longs_length L
  have li := XPlain.longs_length (colonnadelaw08_PlainOwn.inc L)
  have f1 := form_length s
  unfold colonnadelaw08_PlainOwn.f
  rw [if_pos]
  refine ⟨L, _, _, _, s, v, _, _, 0, 0, 0, (ints [] 0).1, (ints [] 0).2, 0, (texts [0, 0, 0, 0] 0).1, (texts [0, 0, 0, 0] 0).2, 0, hL, by omega, by omega, ha, hs, hv, p1, p2, p3, q1, q2, by omega, longs_byte _, by omega, ?_, ?_, form_byte _, by omega, ?_, ?_, by omega, ?_, ?_, sameInts_refl K L (by omega) (by omega), sameInts_refl K _ (by omega) (by omega), sameTexts_refl K s (by omega) (by omega)⟩
  · rw [ints_eq K _ _ (longs_byte L) (by omega) (by omega), ints_longs L hLw (by omega)]
  · exact ints_eq K [] 0 (fun x hx => by cases hx) (by simp) (by omega)
  · rw [texts_eq K _ _ (form_byte s) (by omega) (by omega), texts_form s (by omega) (by omega) a3]
  · exact texts_eq K [0, 0, 0, 0] 0 (fun x hx => by simp at hx; omega) (by simp) (by omega)
  · have h := ints_longs (colonnadelaw08_PlainOwn.inc L) hIw (by omega)
    rw [hIl] at h
    rw [ints_eq K _ _ (longs_byte _) (by omega) (by omega), h]
  · intro Y hY hYb
    have hlen := texts_len Y hYb s.length
    have he := texts_eq K Y (s.length : Int) hYb (by omega) (by omega)
    generalize texts Y (s.length : Int) = r at hlen he
    obtain ⟨r1, r2⟩ := r
    exact ⟨r1, r2, he, by simp only at hlen; omega, sameTexts_refl K r1 (by simp only at hlen; omega) (by simp only at hlen; omega)⟩
end PlainOwnP
theorem PlainOwn : colonnadelaw08_PlainOwn.PureU := PlainOwnP.main
end Go.Proofs.Ytkepimkabfoapab.Pure
