/- Every PutInts and every PutTexts is the reference's, of any numbers and any texts, twice over the same memory; what is handed in stays, what lies behind it too. No conditions. -/
import Derived.Test.YtkepimkabfoapabPPlainPutsx3
import Derived.Laws.BitsLemmas
import Derived.OpenShut
namespace Go.Proofs.Ytkepimkabfoapab.Pure
open Go.RowKit Go.Proofs.Ytkepimkabfoapab.PPlainPuts Go.Proofs.YtkepimkabfoapabW.PrintWords Go.Proofs.YtkepimkabfoapabW.PrintLast
set_option linter.unusedVariables false
set_option linter.unusedSimpArgs false
def colonnadelaw08_PlainPuts.PureX : Prop := ∀ (l0 : List Int) (l1 : List ByteArray), (l0.length ≤ maxLen ∧ ∀ y_ ∈ l0, (Lit.int .i64 y_).wf = true) → (l1.length ≤ maxLen ∧ ∀ y_ ∈ l1, y_.size ≤ maxLen) → l0.length * 8 ≤ 140737488351232 → l1.length * 16 ≤ 140737488351232 → ∃ k, colonnadelaw08_PlainPuts.f k l0 l1 = some true
namespace PlainPutsP
/-- the number in bytes, the lowest first -/
def lowN : List Int → Int
  | [] => 0
  | b :: l => b + 256 * lowN l
def Byte (l : List Int) : Prop := ∀ x ∈ l, 0 ≤ x ∧ x < 256
theorem Byte.take {l : List Int} (h : Byte l) (n : Nat) : Byte (l.take n) := fun x hx => h x (List.mem_of_mem_take hx)
theorem Byte.drop {l : List Int} (h : Byte l) (n : Nat) : Byte (l.drop n) := fun x hx => h x (List.mem_of_mem_drop hx)
theorem Byte.append {a b : List Int} (h : Byte a) (k : Byte b) : Byte (a ++ b) := fun x hx => (List.mem_append.mp hx).elim (h x) (k x)
theorem p8 (n : Nat) : (2 : Int) ^ (8 * (n + 1)) = 256 * 2 ^ (8 * n) := by
  show (2 : Int) ^ (8 * n + 1 + 1 + 1 + 1 + 1 + 1 + 1 + 1) = _
  simp only [Int.pow_succ]; omega
theorem p8pos (n : Nat) : (0 : Int) < 2 ^ (8 * n) := by
  induction n with
  | zero => decide
  | succ n ih => rw [p8]; omega
theorem lowN_range : ∀ (l : List Int), Byte l → 0 ≤ lowN l ∧ lowN l < 2 ^ (8 * l.length)
  | [], _ => by simp [lowN]
  | b :: l, h => by
    have hb := h b (by simp)
    have ih := lowN_range l fun x hx => h x (by simp [hx])
    rw [lowN, List.length_cons, p8]
    omega
theorem lowN_snoc : ∀ (l : List Int) (b : Int), lowN (l ++ [b]) = lowN l + 2 ^ (8 * l.length) * b
  | [], b => by simp [lowN]
  | a :: l, b => by
    rw [List.cons_append, lowN, lowN_snoc l b, lowN, List.length_cons, p8, Int.mul_add, Int.mul_assoc, Int.add_assoc]
theorem lowN_inj : ∀ (a b : List Int), Byte a → Byte b → a.length = b.length → lowN a = lowN b → a = b
  | [], [], _, _, _, _ => rfl
  | [], _ :: _, _, _, h, _ => by simp at h
  | _ :: _, [], _, _, h, _ => by simp at h
  | x :: a, y :: b, ha, hb, h, e => by
    have h1 := ha x (by simp)
    have h2 := hb y (by simp)
    rw [lowN, lowN] at e
    have e1 : x = y := by omega
    have e2 : lowN a = lowN b := by omega
    rw [e1, lowN_inj a b (fun z hz => ha z (by simp [hz])) (fun z hz => hb z (by simp [hz])) (by simpa using h) e2]
theorem mod_step (v P : Int) (hv : 0 ≤ v) (hP : 0 < P) : v % P + P * (v / P % 256) = v % (256 * P) := by
  obtain ⟨a, rfl⟩ := Int.eq_ofNat_of_zero_le hv
  obtain ⟨b, rfl⟩ := Int.eq_ofNat_of_zero_le (Int.le_of_lt hP)
  have h := @Nat.mod_mul b 256 a
  rw [Nat.mul_comm b 256] at h
  have h2 := congrArg (fun n : Nat => (n : Int)) h.symm
  simp only [Int.natCast_add, Int.natCast_mul, Int.natCast_emod, Int.natCast_ediv] at h2
  exact h2
theorem bytesN_byte (v : Int) : ∀ n, Byte (XPlain.bytesN v n)
  | 0 => fun x hx => by simp [XPlain.bytesN] at hx
  | n + 1 => (bytesN_byte v n).append fun x hx => by rw [List.mem_singleton.mp hx]; exact ⟨Int.emod_nonneg _ (by decide), Int.emod_lt_of_pos _ (by decide)⟩
theorem lowN_bytesN (v : Int) (hv : 0 ≤ v) : ∀ n, lowN (XPlain.bytesN v n) = v % 2 ^ (8 * n)
  | 0 => by simp [XPlain.bytesN, lowN]
  | n + 1 => by rw [XPlain.bytesN, lowN_snoc, XPlain.bytesN_length, lowN_bytesN v hv n, p8, mod_step v _ hv (p8pos n)]
theorem bytesN_lowN (l : List Int) (h : Byte l) : XPlain.bytesN (lowN l) l.length = l := by
  have hr := lowN_range l h
  refine lowN_inj _ _ (bytesN_byte _ _) h (XPlain.bytesN_length _ _) ?_
  rw [lowN_bytesN _ hr.1, Int.emod_eq_of_lt hr.1 hr.2]
theorem byte_of {l : List Int} (h : ∀ y_ ∈ l, (Lit.int .u8 y_).wf = true) : Byte l := fun x hx => by
  have := h x hx
  simp only [Lit.wf, Bool.and_eq_true, decide_eq_true_eq] at this
  obtain ⟨h1, h2⟩ := this
  exact ⟨h1, Int.lt_of_le_of_lt h2 (by decide)⟩
theorem or_low (x b : Int) (i : Nat) (hi : i < 8) (h0 : 0 ≤ x) (h1 : x < 2 ^ (8 * i)) (hb : 0 ≤ b ∧ b < 256) : Go.bits .or .u64 x (shl .u64 (IntKind.u64.wrap b) (wrap64 (8 * (i : Int)))) = x + 2 ^ (8 * i) * b := by
  have hw : wrap64 (8 * (i : Int)) = ((8 * i : Nat) : Int) := by unfold wrap64; omega
  have hbw : IntKind.u64.wrap b = b := by rw [IntKind.wrap_u64]; omega
  have hP : (2 : Int) ^ (8 * i) ≤ 72057594037927936 := by
    have : i = 0 ∨ i = 1 ∨ i = 2 ∨ i = 3 ∨ i = 4 ∨ i = 5 ∨ i = 6 ∨ i = 7 := by omega
    rcases this with rfl | rfl | rfl | rfl | rfl | rfl | rfl | rfl <;> decide
  have hpos := p8pos i
  have hmul : b * 2 ^ (8 * i) ≤ 255 * 2 ^ (8 * i) := Int.mul_le_mul_of_nonneg_right (by omega) (Int.le_of_lt hpos)
  have hmul0 : 0 ≤ b * 2 ^ (8 * i) := Int.mul_nonneg hb.1 (Int.le_of_lt hpos)
  have hs : shl .u64 b ((8 * i : Nat) : Int) = b * 2 ^ (8 * i) := by
    rw [← shl_small (k := .u64) (x := b) (y := ((8 * i : Nat) : Int)) rfl (by simp [IntKind.bits]; omega), Int.toNat_natCast, IntKind.wrap_u64]
    generalize (2 : Int) ^ (8 * i) = P at *
    omega
  rw [hw, hbw, hs]
  have hc : Go.bits .or .u64 x (b * 2 ^ (8 * i)) = Go.bits .or .u64 (b * 2 ^ (8 * i)) x := by simp only [Go.bits, BitVec.or_comm]
  have hm : b * 2 ^ (8 * i) % 2 ^ (8 * i) = 0 := Int.mul_emod_left _ _
  rw [hc, bits_join .u64 64 (by decide) (fun n h0 h1 => by rw [IntKind.wrap_u64]; omega) (8 * i) _ x hmul0 hm (by omega) h0 h1 (by omega), Int.add_comm, Int.mul_comm b]
theorem rd_nat (l : List Int) (i : Nat) (h : i < l.length) : rd l (i : Int) = l[i] := by simp [rd, h]
theorem sameInts_loop (K : Nat) (a : List Int) (hl : a.length ≤ 9223372036854775806) : ∀ m i, i + m = a.length → colonnaderef08_SameInts.l0 (m + (K + 1)) a a (i : Int) = some true
  | 0, i, hi => by rw [Nat.zero_add, colonnaderef08_SameInts.l0, if_neg (by omega)]
  | m + 1, i, hi => by
    have hnx : wrap64 ((i : Int) + 1) = ((i + 1 : Nat) : Int) := by unfold wrap64; omega
    rw [show m + 1 + (K + 1) = (m + (K + 1)) + 1 from by omega, colonnaderef08_SameInts.l0, if_pos (by omega), if_pos (by omega), if_pos (by omega), if_pos rfl, hnx]
    exact sameInts_loop K a hl m (i + 1) (by omega)
theorem sameInts_refl (K : Nat) (a : List Int) (hl : a.length ≤ 9223372036854775806) (hK : a.length + 1 ≤ K) : colonnaderef08_SameInts.f K a a = some true := by
  unfold colonnaderef08_SameInts.f
  rw [if_pos rfl]
  have h := sameInts_loop (K - a.length - 1) a hl a.length 0 (by omega)
  rw [show a.length + (K - a.length - 1 + 1) = K from by omega] at h
  exact h
theorem sameTexts_loop (K : Nat) (a : List ByteArray) (hl : a.length ≤ 9223372036854775806) : ∀ m i, i + m = a.length → colonnaderef08_SameTexts.l0 (m + (K + 1)) a a (i : Int) = some true
  | 0, i, hi => by rw [Nat.zero_add, colonnaderef08_SameTexts.l0, if_neg (by omega)]
  | m + 1, i, hi => by
    have hnx : wrap64 ((i : Int) + 1) = ((i + 1 : Nat) : Int) := by unfold wrap64; omega
    rw [show m + 1 + (K + 1) = (m + (K + 1)) + 1 from by omega, colonnaderef08_SameTexts.l0, if_pos (by omega), if_pos (by omega), if_pos (by omega), if_pos rfl, hnx]
    exact sameTexts_loop K a hl m (i + 1) (by omega)
theorem sameTexts_refl (K : Nat) (a : List ByteArray) (hl : a.length ≤ 9223372036854775806) (hK : a.length + 1 ≤ K) : colonnaderef08_SameTexts.f K a a = some true := by
  unfold colonnaderef08_SameTexts.f
  rw [if_pos rfl]
  have h := sameTexts_loop (K - a.length - 1) a hl a.length 0 (by omega)
  rw [show a.length + (K - a.length - 1 + 1) = K from by omega] at h
  exact h
theorem total_take (l : List ByteArray) (i : Nat) (h : i < l.length) : XPlain.total (l.take (i + 1)) = XPlain.total (l.take i) + (l[i]).size := by
  rw [List.take_succ_eq_append_getElem h, XPlain.total_append]; rfl
theorem total_take_le (l : List ByteArray) (i : Nat) : XPlain.total (l.take i) ≤ XPlain.total l := by
  have h := XPlain.total_append (l.take i) (l.drop i)
  rw [List.take_append_drop] at h
  omega
theorem rdOf_nat (l : List ByteArray) (i : Nat) (h : i < l.length) : rdOf ByteArray.empty l (i : Int) = l[i] := by simp [rdOf, h]
theorem tooLong_fit : ∀ (l : List ByteArray) (n : Nat), (∀ s ∈ l, s.size ≤ 65535) → n + XPlain.total l ≤ 4294967295 → XPlain.tooLong n l = false
  | [], _, _, _ => rfl
  | s :: l, n, h, k => by
    have h1 := h s (by simp)
    rw [XPlain.total] at k
    rw [XPlain.tooLong, tooLong_fit l _ (fun x hx => h x (by simp [hx])) (by omega), decide_eq_false (by omega), decide_eq_false (by omega)]; rfl
theorem putTexts_fit (l : List ByteArray) (hn : l.length ≤ 16777216) (h : ∀ s ∈ l, s.size ≤ 65535) (k : XPlain.total l ≤ 4294967295) : XPlain.putTexts l = (XPlain.bytesN 0 4 ++ (XPlain.ends 0 l ++ XPlain.heap l), 0) := by
  rw [XPlain.putTexts, if_neg (by omega), if_neg (by rw [tooLong_fit l 0 h (by omega)]; decide)]
theorem sum_total (l : List ByteArray) : (l.map (fun z_ => (z_.size + 1))).sum = XPlain.total l + l.length := by
  induction l with
  | nil => rfl
  | cons a l ih => rw [List.map_cons, List.sum_cons, ih, XPlain.total, List.length_cons]; omega
theorem sum_ones (l : List Int) : (l.map (fun z_ => 1)).sum = l.length := by
  induction l with
  | nil => rfl
  | cons a l ih => rw [List.map_cons, List.sum_cons, ih, List.length_cons]; omega
theorem refMay_eq (n : Int) : colonnaderef08_may.f n = some (if n < 0 then 2 else if n > 16777216 then 3 else 0) := by
  unfold colonnaderef08_may.f
  by_cases c1 : n < 0
  · rw [if_pos c1, if_pos c1]
  · rw [if_neg c1, if_neg c1]
    by_cases c2 : n > 16777216
    · rw [if_pos c2, if_pos c2]
    · rw [if_neg c2, if_neg c2]
theorem div_step (v : Int) (hv : 0 ≤ v) (i : Nat) : v / 2 ^ (8 * i) / 256 = v / 2 ^ (8 * (i + 1)) := by
  obtain ⟨a, rfl⟩ := Int.eq_ofNat_of_zero_le hv
  have hp := p8pos i
  have h8 := p8 i
  obtain ⟨P, hP⟩ := Int.eq_ofNat_of_zero_le (Int.le_of_lt hp)
  rw [h8, hP]
  have h := Nat.div_div_eq_div_mul a P 256
  rw [Nat.mul_comm P 256] at h
  have h2 := congrArg (fun n : Nat => (n : Int)) h
  simp only [Int.natCast_ediv, Int.natCast_mul] at h2
  exact h2
theorem fixed_loop (K : Nat) (v : Int) (n : Nat) (hv : 0 ≤ v ∧ v < 18446744073709551616) (hn : n ≤ 8) : ∀ m i, i + m = n →
    colonnaderef08_Fixed.l0 (m + (K + 1)) (v / 2 ^ (8 * i)) (n : Int) (XPlain.bytesN v i) (i : Int) = some (XPlain.bytesN v n)
  | 0, i, hi => by
    obtain rfl : i = n := by omega
    rw [Nat.zero_add, colonnaderef08_Fixed.l0, if_neg (by omega)]
  | m + 1, i, hi => by
    have hnx : wrap64 ((i : Int) + 1) = ((i + 1 : Nat) : Int) := by unfold wrap64; omega
    have hp := p8pos i
    have hq : 0 ≤ v / 2 ^ (8 * i) := Int.ediv_nonneg hv.1 (Int.le_of_lt hp)
    have hq2 : v / 2 ^ (8 * i) ≤ v := Int.ediv_le_self _ hv.1
    have hd : IntKind.u64.wrap (Int.tdiv (v / 2 ^ (8 * i)) 256) = v / 2 ^ (8 * (i + 1)) := by
      rw [Int.tdiv_eq_ediv_of_nonneg hq, IntKind.wrap_u64, ← div_step v hv.1 i]
      generalize v / 2 ^ (8 * i) = q at hq hq2 ⊢
      omega
    have hm : Int.tmod (v / 2 ^ (8 * i)) 256 % 256 = v / 2 ^ (8 * i) % 256 := by
      rw [Int.tmod_eq_emod_of_nonneg hq]
      generalize v / 2 ^ (8 * i) = q
      omega
    rw [show m + 1 + (K + 1) = (m + (K + 1)) + 1 from by omega, colonnaderef08_Fixed.l0, if_pos (by omega), if_pos (by rw [XPlain.bytesN_length]; omega), hd, hm, hnx]
    exact fixed_loop K v n hv hn m (i + 1) (by omega)
theorem fixed_eq (K : Nat) (v : Int) (n : Nat) (hv : 0 ≤ v ∧ v < 18446744073709551616) (hn : n ≤ 8) (hK : 10 ≤ K) : colonnaderef08_Fixed.f K v (n : Int) = some (XPlain.bytesN v n) := by
  have h := fixed_loop (K - n - 1) v n hv hn n 0 (by omega)
  rw [show n + (K - n - 1 + 1) = K from by omega, show (2 : Int) ^ (8 * 0) = 1 from rfl, Int.ediv_one] at h
  exact h
theorem refPutInts_loop (K : Nat) (l : List Int) (hl : 8 * l.length ≤ 140737488351232) (hK : 12 ≤ K) : ∀ m i, i + m = l.length →
    colonnaderef08_PutInts.l0 (m + (K + 1)) l (XPlain.longs (l.take i)) (i : Int) = some (XPlain.longs l)
  | 0, i, hi => by rw [Nat.zero_add, colonnaderef08_PutInts.l0, if_neg (by omega), List.take_of_length_le (by omega)]
  | m + 1, i, hi => by
    have hlt : i < l.length := by omega
    have hnx : wrap64 ((i : Int) + 1) = ((i + 1 : Nat) : Int) := by unfold wrap64; omega
    have hf := fixed_eq (m + (K + 1)) (l[i] % 18446744073709551616) 8 (by omega) (by omega) (by omega)
    rw [show ((8 : Nat) : Int) = 8 from rfl] at hf
    rw [show m + 1 + (K + 1) = (m + (K + 1)) + 1 from by omega, colonnaderef08_PutInts.l0, if_pos (by omega), if_pos (by omega), rd_nat l i hlt, IntKind.wrap_u64, hf, Option.bind_some,
      if_pos (by rw [XPlain.longs_length, XPlain.bytesN_length, List.length_take]; omega), ← XPlain.longs_snoc, ← List.take_succ_eq_append_getElem hlt, hnx]
    exact refPutInts_loop K l hl hK m (i + 1) (by omega)
theorem refPutInts_eq (K : Nat) (l : List Int) (hl : 8 * l.length ≤ 140737488351232) (hK : l.length + 20 ≤ K) : colonnaderef08_PutInts.f K l = some (XPlain.longs l) := by
  have h := refPutInts_loop (K - l.length - 1) l hl (by omega) l.length 0 (by omega)
  rw [show l.length + (K - l.length - 1 + 1) = K from by omega] at h
  exact h
theorem refPutTexts_loop (K : Nat) (l : List ByteArray) (hl : l.length ≤ 16777216) (hK : 12 ≤ K) : ∀ m i, i + m = l.length → XPlain.total (l.take i) ≤ 4294967295 → XPlain.tooLong 0 l = XPlain.tooLong (XPlain.total (l.take i)) (l.drop i) →
    colonnaderef08_PutTexts.l0 (m + (K + 1)) l (XPlain.total (l.take i) : Nat) (XPlain.bytesN 0 4 ++ XPlain.ends 0 (l.take i)) (XPlain.heap (l.take i)) (i : Int) = some (XPlain.putTexts l)
  | 0, i, hi, hT, hL => by
    have hL2 : XPlain.tooLong 0 l = false := by rw [hL, List.drop_of_length_le (by omega)]; rfl
    have hle : (l.take i).length ≤ 16777216 := by rw [List.length_take]; omega
    rw [Nat.zero_add, colonnaderef08_PutTexts.l0, if_neg (by omega), if_pos (by rw [List.length_append, XPlain.bytesN_length, XPlain.ends_length, XPlain.heap_length]; omega), List.take_of_length_le (by omega), XPlain.putTexts, if_neg (by omega), if_neg (by rw [hL2]; decide), List.append_assoc]
  | m + 1, i, hi, hT, hL => by
    have hlt : i < l.length := by omega
    have hnx : wrap64 ((i : Int) + 1) = ((i + 1 : Nat) : Int) := by unfold wrap64; omega
    have ht := total_take l i hlt
    have hle : (l.take i).length ≤ 16777216 := by rw [List.length_take]; omega
    have hL3 := hL
    rw [List.drop_eq_getElem_cons hlt, XPlain.tooLong] at hL3
    have hbad : XPlain.tooLong 0 l = true → XPlain.putTexts l = ([], 3) := fun h => by rw [XPlain.putTexts, if_neg (by omega), if_pos h]
    rw [show m + 1 + (K + 1) = (m + (K + 1)) + 1 from by omega, colonnaderef08_PutTexts.l0, if_pos (by omega), if_pos (by omega), rdOf_nat l i hlt]
    generalize hs : l[i] = s at *
    by_cases c1 : (s.size : Int) > 65535
    · rw [if_pos c1, hbad (by rw [hL3, decide_eq_true (by omega : s.size > 65535)]; rfl)]
    rw [if_neg c1]
    have hw : wrap64 (((XPlain.total (l.take i) : Nat) : Int) + (s.size : Int)) = ((XPlain.total (l.take i) + s.size : Nat) : Int) := by unfold wrap64; omega
    rw [hw]
    by_cases c2 : ((XPlain.total (l.take i) + s.size : Nat) : Int) > 4294967295
    · rw [if_pos c2, hbad (by rw [hL3, decide_eq_true (by omega : XPlain.total (l.take i) + s.size > 4294967295)]; simp)]
    rw [if_neg c2]
    have hf := fixed_eq (m + (K + 1)) ((XPlain.total (l.take i) + s.size : Nat) : Int) 4 (by omega) (by omega) (by omega)
    rw [show ((4 : Nat) : Int) = 4 from rfl] at hf
    have hu : IntKind.u64.wrap ((XPlain.total (l.take i) + s.size : Nat) : Int) = ((XPlain.total (l.take i) + s.size : Nat) : Int) := by rw [IntKind.wrap_u64]; omega
    have e1 : XPlain.bytesN 0 4 ++ XPlain.ends 0 (l.take i) ++ XPlain.bytesN ((XPlain.total (l.take i) + s.size : Nat) : Int) 4 = XPlain.bytesN 0 4 ++ XPlain.ends 0 (l.take (i + 1)) := by
      rw [List.take_succ_eq_append_getElem hlt, hs, XPlain.ends_snoc, Nat.zero_add, List.append_assoc]
    have e2 : XPlain.heap (l.take i) ++ bytesOf s = XPlain.heap (l.take (i + 1)) := by rw [List.take_succ_eq_append_getElem hlt, hs, XPlain.heap_snoc]
    rw [hu, hf, Option.bind_some, if_pos (by rw [List.length_append, XPlain.bytesN_length, XPlain.ends_length, XPlain.bytesN_length]; omega), if_pos (by rw [XPlain.heap_length]; omega), e1, e2, hnx, ← ht]
    refine refPutTexts_loop K l hl hK m (i + 1) (by omega) (by omega) ?_
    rw [hL3, decide_eq_false (by omega : ¬ s.size > 65535), decide_eq_false (by omega : ¬ XPlain.total (l.take i) + s.size > 4294967295), ht]
    rfl
theorem refPutTexts_eq (K : Nat) (l : List ByteArray) (hK : 16777216 + 30 ≤ K) : colonnaderef08_PutTexts.f K l = some (XPlain.putTexts l) := by
  unfold colonnaderef08_PutTexts.f
  rw [refMay_eq, if_neg (by omega)]
  by_cases c : (l.length : Int) > 16777216
  · rw [if_pos c, XPlain.putTexts, if_pos (by omega)]; rfl
  rw [if_neg c, Option.bind_some, if_pos rfl]
  have hf := fixed_eq K 0 4 (by omega) (by omega) (by omega)
  rw [show ((4 : Nat) : Int) = 4 from rfl] at hf
  rw [hf, Option.bind_some]
  have h := refPutTexts_loop (K - l.length - 1) l (by omega) (by omega) l.length 0 (by omega) (by simp [XPlain.total]) (by simp [XPlain.total])
  rw [show l.length + (K - l.length - 1 + 1) = K from by omega, List.take_zero] at h
  rw [show XPlain.bytesN 0 4 ++ XPlain.ends 0 [] = XPlain.bytesN 0 4 from by rw [show XPlain.ends 0 [] = [] from rfl, List.append_nil]] at h
  exact h
def mk1 : ByteArray := ⟨#[109, 97, 114, 107]⟩
def mk2 : ByteArray := ⟨#[109, 97, 114, 107, 115]⟩
theorem mk1_list : mk1.toList = [109, 97, 114, 107] := by decide +kernel
theorem mk2_list : (mk2.toList != ([109, 97, 114, 107, 115] : List UInt8)) = false := by decide +kernel
theorem ints_over (K : Nat) (l0 : List Int) (l1 : List ByteArray) (x6 : List ByteArray) (x7 : Int) (hn : l0.length ≤ 17592186043904) : ∀ m i (l : List Int), l.length = l0.length → i + m = l0.length →
    ∃ l', l'.length = l0.length ∧ colonnadelaw08_PlainPuts.l1 (m + (K + 1)) l0 l1 (l ++ [71, 72]) x6 x7 (i : Int) = colonnadelaw08_PlainPuts.l2 K l0 l1 (l' ++ [71, 72]) x6 x7 0
  | 0, i, l, hl, hi => ⟨l, hl, by rw [Nat.zero_add, colonnadelaw08_PlainPuts.l1, if_neg (by omega)]⟩
  | m + 1, i, l, hl, hi => by
    have hnx : wrap64 ((i : Int) + 1) = ((i + 1 : Nat) : Int) := by unfold wrap64; omega
    obtain ⟨l', h1, h2⟩ := ints_over K l0 l1 x6 x7 hn m (i + 1) (l.set i (Go.bits .xor .i64 (rd (l ++ [71, 72]) (i : Int)) 5)) (by rw [List.length_set]; exact hl) (by omega)
    refine ⟨l', h1, ?_⟩
    have hs : (l ++ [71, 72]).set i (Go.bits .xor .i64 (rd (l ++ [71, 72]) (i : Int)) 5) = l.set i (Go.bits .xor .i64 (rd (l ++ [71, 72]) (i : Int)) 5) ++ [71, 72] := List.set_append_left _ _ (by omega)
    rw [show m + 1 + (K + 1) = (m + (K + 1)) + 1 from by omega, colonnadelaw08_PlainPuts.l1, if_pos (by omega), if_pos (by omega), if_pos (by rw [List.length_append]; omega), Int.toNat_natCast, hs, hnx]
    exact h2
theorem texts_over (K : Nat) (l0 : List Int) (l1 : List ByteArray) (x5 : List Int) (x7 : Int) (hn : l1.length ≤ 17592186043904) : ∀ m i (t : List ByteArray), t.length = l1.length → i + m = l1.length →
    ∃ t', t'.length = l1.length ∧ colonnadelaw08_PlainPuts.l2 (m + (K + 1)) l0 l1 x5 (t ++ [mk1, mk2]) x7 (i : Int) = colonnadelaw08_PlainPuts.l0 K l0 l1 x5 (t' ++ [mk1, mk2]) (wrap64 (x7 + 1))
  | 0, i, t, ht, hi => ⟨t, ht, by rw [Nat.zero_add, colonnadelaw08_PlainPuts.l2, if_neg (by omega)]⟩
  | m + 1, i, t, ht, hi => by
    have hnx : wrap64 ((i : Int) + 1) = ((i + 1 : Nat) : Int) := by unfold wrap64; omega
    obtain ⟨t', h1, h2⟩ := texts_over K l0 l1 x5 x7 hn m (i + 1) (t.set i ⟨#[120]⟩) (by rw [List.length_set]; exact ht) (by omega)
    refine ⟨t', h1, ?_⟩
    have hs : (t ++ [mk1, mk2]).set i ⟨#[120]⟩ = t.set i ⟨#[120]⟩ ++ [mk1, mk2] := List.set_append_left _ _ (by omega)
    rw [show m + 1 + (K + 1) = (m + (K + 1)) + 1 from by omega, colonnadelaw08_PlainPuts.l2, if_pos (by omega), if_pos (by omega), if_pos (by rw [List.length_append]; omega), Int.toNat_natCast, hs, hnx]
    exact h2
theorem rd_at (l : List Int) (a b : Int) (i : Nat) (h : i = l.length) : rd (l ++ [a, b]) (i : Int) = a ∧ rd (l ++ [a, b]) ((i + 1 : Nat) : Int) = b := by
  subst h
  constructor
  · unfold rd; rw [Int.toNat_natCast, List.getD_eq_getElem?_getD, List.getElem?_append_right (Nat.le_refl _), Nat.sub_self]; rfl
  · unfold rd; rw [Int.toNat_natCast, List.getD_eq_getElem?_getD, List.getElem?_append_right (by omega), Nat.add_sub_cancel_left]; rfl
theorem rdOf_at (l : List ByteArray) (a b : ByteArray) (i : Nat) (h : i = l.length) : rdOf ByteArray.empty (l ++ [a, b]) (i : Int) = a ∧ rdOf ByteArray.empty (l ++ [a, b]) ((i + 1 : Nat) : Int) = b := by
  subst h
  constructor
  · unfold rdOf; rw [Int.toNat_natCast, List.getD_eq_getElem?_getD, List.getElem?_append_right (Nat.le_refl _), Nat.sub_self]; rfl
  · unfold rdOf; rw [Int.toNat_natCast, List.getD_eq_getElem?_getD, List.getElem?_append_right (by omega), Nat.add_sub_cancel_left]; rfl
theorem wrap_succ (n : Nat) (h : n ≤ 17592186043904) : wrap64 ((n : Int) + 1) = ((n + 1 : Nat) : Int) := by unfold wrap64; omega
theorem turns (l0 : List Int) (l1 : List ByteArray) (hn : l0.length ≤ 17592186043904) (hm : l1.length ≤ 8796093021952) : ∀ (t : Nat) (l : List Int) (s : List ByteArray) (x7 : Int), l.length = l0.length → s.length = l1.length → x7 + t = 2 → 0 ≤ x7 →
    colonnadelaw08_PlainPuts.l0 (50000000 + l0.length + l1.length + t * (l0.length + l1.length + 5)) l0 l1 (l ++ [71, 72]) (s ++ [mk1, mk2]) x7 = some true
  | 0, l, s, x7, hl, hs, hx, h0 => by
    rw [Nat.zero_mul, Nat.add_zero, show 50000000 + l0.length + l1.length = (49999999 + l0.length + l1.length) + 1 from by omega, colonnadelaw08_PlainPuts.l0, if_neg (by omega)]
  | t + 1, l, s, x7, hl, hs, hx, h0 => by
    obtain ⟨B, hB⟩ : ∃ B, B = 50000000 + l0.length + l1.length + t * (l0.length + l1.length + 5) := ⟨_, rfl⟩
    have e : 50000000 + l0.length + l1.length + (t + 1) * (l0.length + l1.length + 5) = ((l0.length + (l1.length + (B + 1) + 1)) + 1 + 1) + 1 := by rw [Nat.add_mul, hB]; omega
    obtain ⟨l', k1, k2⟩ := ints_over (l1.length + (B + 1)) l0 l1 (s ++ [mk1, mk2]) x7 hn l0.length 0 l hl (by omega)
    obtain ⟨s', k3, k4⟩ := texts_over B l0 l1 (l' ++ [71, 72]) x7 (by omega) l1.length 0 s hs (by omega)
    have ih := turns l0 l1 hn hm t l' s' (wrap64 (x7 + 1)) k1 k3 (by unfold wrap64; omega) (by unfold wrap64; omega)
    rw [← hB] at ih
    rw [show ((0 : Nat) : Int) = 0 from rfl] at k2 k4
    rw [ih] at k4
    rw [k4] at k2
    rw [e]
    have hBb : 50000000 + l0.length + l1.length ≤ B := by rw [hB]; exact Nat.le_add_right _ _
    clear hB
    generalize hF : l0.length + (l1.length + (B + 1) + 1) = F at k2 ⊢
    have hFb : 50000000 + l0.length + l1.length ≤ F := by omega
    have hLl : (l ++ [71, 72]).length = l0.length + 2 := by rw [List.length_append, hl]; rfl
    have hSl : (s ++ [mk1, mk2]).length = l1.length + 2 := by rw [List.length_append, hs]; rfl
    have htk : (l ++ [71, 72]).take ((l0.length : Int)).toNat = l := by rw [Int.toNat_natCast, ← hl, List.take_left]
    have htt : (s ++ [mk1, mk2]).take ((l1.length : Int)).toNat = s := by rw [Int.toNat_natCast, ← hs, List.take_left]
    have g1 : (0 : Int) ≤ (l0.length : Int) := by omega
    have g2 : (l0.length : Int) ≤ ((l ++ [71, 72]).length : Int) := by rw [hLl]; omega
    have g3 : (0 : Int) ≤ (l1.length : Int) := by omega
    have g4 : (l1.length : Int) ≤ ((s ++ [mk1, mk2]).length : Int) := by rw [hSl]; omega
    have g5 : (l0.length : Int) < ((l ++ [71, 72]).length : Int) := by rw [hLl]; omega
    have g6 : (0 : Int) ≤ ((l0.length + 1 : Nat) : Int) := by omega
    have g7 : ((l0.length + 1 : Nat) : Int) < ((l ++ [71, 72]).length : Int) := by rw [hLl]; omega
    have g8 : (l1.length : Int) < ((s ++ [mk1, mk2]).length : Int) := by rw [hSl]; omega
    have g9 : (0 : Int) ≤ ((l1.length + 1 : Nat) : Int) := by omega
    have g10 : ((l1.length + 1 : Nat) : Int) < ((s ++ [mk1, mk2]).length : Int) := by rw [hSl]; omega
    have g11 : ([] : List Int).length + l.length < 17592186044416 := by rw [List.length_nil]; omega
    have g12 : ([] : List ByteArray).length + s.length < 8796093022208 := by rw [List.length_nil]; omega
    have g13 : l.length ≤ 9223372036854775806 := by omega
    have g14 : l.length + 1 ≤ F + 1 := by omega
    have g15 : s.length ≤ 9223372036854775806 := by omega
    have g16 : s.length + 1 ≤ F + 1 := by omega
    have g17 : 8 * l.length ≤ 281474976710656 := by omega
    have g18 : 8 * l.length ≤ 140737488351232 := by omega
    have g19 : l.length + 20 ≤ F + 1 + 1 := by omega
    have g21 : l0.length ≤ 17592186043904 := hn
    have g22 : l1.length ≤ 17592186043904 := by omega
    have g20 : 16777216 + 30 ≤ F + 1 + 1 := by omega
    have hx2 : x7 < 2 := by omega
    obtain ⟨r1, r2⟩ := rd_at l 71 72 l0.length hl.symm
    obtain ⟨r3, r4⟩ := rdOf_at s mk1 mk2 l1.length hs.symm
    have w1 := wrap_succ l0.length g21
    have w2 := wrap_succ l1.length g22
    have hj2 : colonnadelaw08_PlainPuts.j2 (F + 1) l0 l1 (l ++ [71, 72]) (s ++ [mk1, mk2]) x7 false = some true := by rw [colonnadelaw08_PlainPuts.j2, if_neg (by decide)]; exact k2
    have hj1 : colonnadelaw08_PlainPuts.j1 (F + 1 + 1) l0 l1 (l ++ [71, 72]) (s ++ [mk1, mk2]) x7 l s false = some true := by
      rw [colonnadelaw08_PlainPuts.j1, if_neg (by decide), if_pos g1, if_pos g2, htk, sameInts_refl _ l g13 g14, Option.bind_some, if_pos rfl, if_pos g3, if_pos g4, htt, sameTexts_refl _ s g15 g16, Option.bind_some, if_pos rfl,
        if_pos g5, r1, if_pos rfl, w1, if_pos g6, if_pos g7, r2, if_pos rfl, if_pos g8, r3, mk1_list, if_pos rfl, w2, if_pos g9, if_pos g10, r4, mk2_list]
      exact hj2
    have p1 : plain_PutInts.f l = some (XPlain.longs l) := by rw [plain_PutInts.f, if_pos g17]
    have p2 := refPutInts_eq (F + 1 + 1) l g18 g19
    have p3 := refPutTexts_eq (F + 1 + 1) s g20
    have p4 : plain_PutTexts.f s = some (XPlain.putTexts s) := rfl
    rw [colonnadelaw08_PlainPuts.l0, if_pos hx2, Option.bind_some, if_pos g1, if_pos g2, htk, Option.bind_some, if_pos g11, Option.bind_some, Option.bind_some, if_pos g3, if_pos g4, htt, Option.bind_some, if_pos g12, Option.bind_some, List.nil_append, List.nil_append,
      p3, Option.bind_some, p1, Option.bind_some, p4, Option.bind_some, p2, Option.bind_some, if_pos rfl, show colonnadelaw08_num.f (XPlain.putTexts s).2 = some (XPlain.putTexts s).2 from rfl, Option.bind_some, if_pos rfl, bne_self_eq_false]
    exact hj1
theorem main : colonnadelaw08_PlainPuts.PureX := by
  intro l t _ _ hl ht
  refine ⟨50000000 + l.length + t.length + 2 * (l.length + t.length + 5), ?_⟩
  have h := turns l t (by omega) (by omega) 2 l t 0 rfl rfl (by omega) (by omega)
  have q1 : ([] : List Int).length + l.length < 17592186044416 := by rw [List.length_nil]; omega
  have q2 : l.length + ([71, 72] : List Int).length < 17592186044416 := by show l.length + 2 < _; omega
  have q3 : ([] : List ByteArray).length + t.length < 8796093022208 := by rw [List.length_nil]; omega
  have q4 : t.length + ([mk1, mk2] : List ByteArray).length < 8796093022208 := by show t.length + 2 < _; omega
  unfold colonnadelaw08_PlainPuts.f
  rw [Option.bind_some, if_pos q1, Option.bind_some, List.nil_append, Option.bind_some, if_pos q2, Option.bind_some, if_pos q3, Option.bind_some, List.nil_append, Option.bind_some]
  refine (if_pos q4).trans ?_
  exact h
end PlainPutsP
theorem PlainPuts : colonnadelaw08_PlainPuts.PureX := PlainPutsP.main
end Go.Proofs.Ytkepimkabfoapab.Pure
