/- Every Texts and every TextAt is the reference's, of any bytes, any count and any place, twice over the same memory; what is handed in stays, the room behind it too, and what was answered stays when the bytes are written over. No conditions. -/
import Derived.Test.YtkepimkabfoapabPPlainTextsx4
import Derived.Laws.BitsLemmas
import Derived.OpenShut
namespace Go.Proofs.Ytkepimkabfoapab.Pure
open Go.RowKit Go.Proofs.Ytkepimkabfoapab.PPlainTexts Go.Proofs.YtkepimkabfoapabW.PrintWords Go.Proofs.YtkepimkabfoapabW.PrintLast
set_option linter.unusedVariables false
set_option linter.unusedSimpArgs false
namespace PlainTextsP
/-- the number in bytes, the lowest first -/
def lowN : List Int → Int
  | [] => 0
  | b :: l => b + 256 * lowN l
def Byte (l : List Int) : Prop := ∀ x ∈ l, 0 ≤ x ∧ x < 256
theorem Byte.take {l : List Int} (h : Byte l) (n : Nat) : Byte (l.take n) := fun x hx => h x (List.mem_of_mem_take hx)
theorem Byte.drop {l : List Int} (h : Byte l) (n : Nat) : Byte (l.drop n) := fun x hx => h x (List.mem_of_mem_drop hx)
theorem Byte.append {a b : List Int} (h : Byte a) (k : Byte b) : Byte (a ++ b) := fun x hx => (List.mem_append.mp hx).elim (h x) (k x)
theorem p8 (n : Nat) : (2 : Int) ^ (8 * (n + 1)) = 256 * 2 ^ (8 * n) := by
  show (2 : Int) ^ (8 * n + 1 + 1 + 1 + 1 + 1 + 1 + 1 + 1) = _
  simp only [Int.pow_succ]; omega
theorem p8pos (n : Nat) : (0 : Int) < 2 ^ (8 * n) := by
  induction n with
  | zero => decide
  | succ n ih => rw [p8]; omega
theorem lowN_range : ∀ (l : List Int), Byte l → 0 ≤ lowN l ∧ lowN l < 2 ^ (8 * l.length)
  | [], _ => by simp [lowN]
  | b :: l, h => by
    have hb := h b (by simp)
    have ih := lowN_range l fun x hx => h x (by simp [hx])
    rw [lowN, List.length_cons, p8]
    omega
theorem lowN_snoc : ∀ (l : List Int) (b : Int), lowN (l ++ [b]) = lowN l + 2 ^ (8 * l.length) * b
  | [], b => by simp [lowN]
  | a :: l, b => by
    rw [List.cons_append, lowN, lowN_snoc l b, lowN, List.length_cons, p8, Int.mul_add, Int.mul_assoc, Int.add_assoc]
theorem lowN_inj : ∀ (a b : List Int), Byte a → Byte b → a.length = b.length → lowN a = lowN b → a = b
  | [], [], _, _, _, _ => rfl
  | [], _ :: _, _, _, h, _ => by simp at h
  | _ :: _, [], _, _, h, _ => by simp at h
  | x :: a, y :: b, ha, hb, h, e => by
    have h1 := ha x (by simp)
    have h2 := hb y (by simp)
    rw [lowN, lowN] at e
    have e1 : x = y := by omega
    have e2 : lowN a = lowN b := by omega
    rw [e1, lowN_inj a b (fun z hz => ha z (by simp [hz])) (fun z hz => hb z (by simp [hz])) (by simpa using h) e2]
theorem mod_step (v P : Int) (hv : 0 ≤ v) (hP : 0 < P) : v % P + P * (v / P % 256) = v % (256 * P) := by
  obtain ⟨a, rfl⟩ := Int.eq_ofNat_of_zero_le hv
  obtain ⟨b, rfl⟩ := Int.eq_ofNat_of_zero_le (Int.le_of_lt hP)
  have h := @Nat.mod_mul b 256 a
  rw [Nat.mul_comm b 256] at h
  have h2 := congrArg (fun n : Nat => (n : Int)) h.symm
  simp only [Int.natCast_add, Int.natCast_mul, Int.natCast_emod, Int.natCast_ediv] at h2
  exact h2
theorem bytesN_byte (v : Int) : ∀ n, Byte (XPlain.bytesN v n)
  | 0 => fun x hx => by simp [XPlain.bytesN] at hx
  | n + 1 => (bytesN_byte v n).append fun x hx => by rw [List.mem_singleton.mp hx]; exact ⟨Int.emod_nonneg _ (by decide), Int.emod_lt_of_pos _ (by decide)⟩
theorem lowN_bytesN (v : Int) (hv : 0 ≤ v) : ∀ n, lowN (XPlain.bytesN v n) = v % 2 ^ (8 * n)
  | 0 => by simp [XPlain.bytesN, lowN]
  | n + 1 => by rw [XPlain.bytesN, lowN_snoc, XPlain.bytesN_length, lowN_bytesN v hv n, p8, mod_step v _ hv (p8pos n)]
theorem bytesN_lowN (l : List Int) (h : Byte l) : XPlain.bytesN (lowN l) l.length = l := by
  have hr := lowN_range l h
  refine lowN_inj _ _ (bytesN_byte _ _) h (XPlain.bytesN_length _ _) ?_
  rw [lowN_bytesN _ hr.1, Int.emod_eq_of_lt hr.1 hr.2]
theorem byte_of {l : List Int} (h : ∀ y_ ∈ l, (Lit.int .u8 y_).wf = true) : Byte l := fun x hx => by
  have := h x hx
  simp only [Lit.wf, Bool.and_eq_true, decide_eq_true_eq] at this
  obtain ⟨h1, h2⟩ := this
  exact ⟨h1, Int.lt_of_le_of_lt h2 (by decide)⟩
theorem or_low (x b : Int) (i : Nat) (hi : i < 8) (h0 : 0 ≤ x) (h1 : x < 2 ^ (8 * i)) (hb : 0 ≤ b ∧ b < 256) : Go.bits .or .u64 x (shl .u64 (IntKind.u64.wrap b) (wrap64 (8 * (i : Int)))) = x + 2 ^ (8 * i) * b := by
  have hw : wrap64 (8 * (i : Int)) = ((8 * i : Nat) : Int) := by unfold wrap64; omega
  have hbw : IntKind.u64.wrap b = b := by rw [IntKind.wrap_u64]; omega
  have hP : (2 : Int) ^ (8 * i) ≤ 72057594037927936 := by
    have : i = 0 ∨ i = 1 ∨ i = 2 ∨ i = 3 ∨ i = 4 ∨ i = 5 ∨ i = 6 ∨ i = 7 := by omega
    rcases this with rfl | rfl | rfl | rfl | rfl | rfl | rfl | rfl <;> decide
  have hpos := p8pos i
  have hmul : b * 2 ^ (8 * i) ≤ 255 * 2 ^ (8 * i) := Int.mul_le_mul_of_nonneg_right (by omega) (Int.le_of_lt hpos)
  have hmul0 : 0 ≤ b * 2 ^ (8 * i) := Int.mul_nonneg hb.1 (Int.le_of_lt hpos)
  have hs : shl .u64 b ((8 * i : Nat) : Int) = b * 2 ^ (8 * i) := by
    rw [← shl_small (k := .u64) (x := b) (y := ((8 * i : Nat) : Int)) rfl (by simp [IntKind.bits]; omega), Int.toNat_natCast, IntKind.wrap_u64]
    generalize (2 : Int) ^ (8 * i) = P at *
    omega
  rw [hw, hbw, hs]
  have hc : Go.bits .or .u64 x (b * 2 ^ (8 * i)) = Go.bits .or .u64 (b * 2 ^ (8 * i)) x := by simp only [Go.bits, BitVec.or_comm]
  have hm : b * 2 ^ (8 * i) % 2 ^ (8 * i) = 0 := Int.mul_emod_left _ _
  rw [hc, bits_join .u64 64 (by decide) (fun n h0 h1 => by rw [IntKind.wrap_u64]; omega) (8 * i) _ x hmul0 hm (by omega) h0 h1 (by omega), Int.add_comm, Int.mul_comm b]
theorem rd_nat (l : List Int) (i : Nat) (h : i < l.length) : rd l (i : Int) = l[i] := by simp [rd, h]
theorem low_loop (K : Nat) (l : List Int) (h : Byte l) (h8 : l.length ≤ 8) : ∀ m i, i + m = l.length → plain_low.l0 (m + (K + 1)) (lowN (l.take i)) l (l.length : Int) (i : Int) = some (lowN l)
  | 0, i, hi => by
    rw [Nat.zero_add, plain_low.l0, if_neg (by omega), List.take_of_length_le (by omega)]
  | m + 1, i, hi => by
    have hlt : i < l.length := by omega
    have hr := lowN_range (l.take i) (h.take i)
    have hti : (l.take i).length = i := by rw [List.length_take]; omega
    rw [hti] at hr
    have hz : 0 ≤ wrap64 (8 * (i : Int)) := by unfold wrap64; omega
    have hn : wrap64 ((i : Int) + 1) = ((i + 1 : Nat) : Int) := by unfold wrap64; omega
    have hnx : lowN (l.take i) + 2 ^ (8 * i) * l[i] = lowN (l.take (i + 1)) := by rw [List.take_succ_eq_append_getElem hlt, lowN_snoc, hti]
    rw [show m + 1 + (K + 1) = (m + (K + 1)) + 1 from by omega, plain_low.l0, if_pos (by omega), if_pos (by omega), if_pos (by omega), if_pos hz, rd_nat l i hlt, or_low _ _ i (by omega) hr.1 hr.2 (h _ (List.getElem_mem hlt)), hnx, hn]
    exact low_loop K l h h8 m (i + 1) (by omega)
theorem low_eq (K : Nat) (l : List Int) (h : Byte l) (h8 : l.length ≤ 8) (hK : 9 ≤ K) : plain_low.f K l = some (lowN l) := by
  have := low_loop (K - l.length - 1) l h h8 l.length 0 (by omega)
  rw [show l.length + (K - l.length - 1 + 1) = K from by omega, List.take_zero] at this
  exact this
def seg (l : List Int) (o n : Nat) : List Int := (l.take (o + n)).drop o
theorem seg_length {l : List Int} {o n : Nat} (h : o + n ≤ l.length) : (seg l o n).length = n := by rw [seg, List.length_drop, List.length_take]; omega
theorem seg_byte {l : List Int} (h : Byte l) (o n : Nat) : Byte (seg l o n) := (h.take _).drop _
theorem fill_set {α : Type} (f : Nat → α) (z : α) (i m : Nat) : ((List.range i).map f ++ List.replicate (m + 1) z).set i (f i) = (List.range (i + 1)).map f ++ List.replicate m z := by
  rw [List.set_append_right _ _ (by simp), List.length_map, List.length_range, Nat.sub_self, List.replicate_succ, List.set_cons_zero, List.range_succ, List.map_append, List.append_assoc]
  rfl
theorem may_eq (n : Int) : plain_may.f n = some (if n < 0 then 2 else if n > 16777216 then 3 else 0) := by
  unfold plain_may.f
  by_cases c1 : n < 0
  · rw [if_pos c1, if_pos c1]
  · rw [if_neg c1, if_neg c1]
    by_cases c2 : n > 16777216
    · rw [if_pos c2, if_pos c2]
    · rw [if_neg c2, if_neg c2]
def endAt (b : List Int) (i : Nat) : Int := lowN (seg b (4 * i) 4)
theorem endAt_range {b : List Int} (hb : Byte b) {i : Nat} (hi : 4 * (i + 1) ≤ b.length) : 0 ≤ endAt b i ∧ endAt b i < 4294967296 := by
  have h := lowN_range _ (seg_byte hb (4 * i) 4)
  rw [seg_length (by omega)] at h
  exact ⟨h.1, h.2⟩
theorem end_eq (K : Nat) (b : List Int) (i : Nat) (hb : Byte b) (hl : b.length ≤ 9223372036854775807) (hi : 4 * (i + 1) ≤ b.length) (hK : 9 ≤ K) : plain_end.f K b (i : Int) = some (endAt b i) := by
  have h1 : wrap64 (4 * (i : Int)) = ((4 * i : Nat) : Int) := by unfold wrap64; omega
  have h2 : wrap64 ((i : Int) + 1) = ((i + 1 : Nat) : Int) := by unfold wrap64; omega
  have h3 : wrap64 (4 * ((i + 1 : Nat) : Int)) = ((4 * i + 4 : Nat) : Int) := by unfold wrap64; omega
  have hr := endAt_range hb hi
  unfold plain_end.f
  rw [h2, h1, h3, if_pos (by omega), if_pos (by omega), if_pos (by omega), Int.toNat_natCast, Int.toNat_natCast]
  show (plain_low.f K (seg b (4 * i) 4)).bind _ = _
  rw [low_eq K _ (seg_byte hb _ _) (by rw [seg_length (by omega)]; omega) hK]
  show some (wrap64 (endAt b i)) = _
  congr 1
  unfold wrap64; omega
def textAt (b : List Int) (n i : Int) : ByteArray × Bool :=
  if 0 ≤ n ∧ n ≤ 16777216 ∧ 0 ≤ i ∧ i < n ∧ 4 * (n + 1) ≤ b.length then
    if endAt b i.toNat ≤ endAt b (i.toNat + 1) ∧ endAt b (i.toNat + 1) ≤ b.length - 4 * (n + 1) then (strOfNums (((b.drop (4 * (n.toNat + 1))).take (endAt b (i.toNat + 1)).toNat).drop (endAt b i.toNat).toNat), true) else (⟨#[]⟩, false)
  else (⟨#[]⟩, false)
theorem textAt_eq (K : Nat) (b : List Int) (n i : Int) (hb : Byte b) (hl : b.length ≤ 9223372036854775807) (hK : 10 ≤ K) : plain_TextAt.f K b n i = some (textAt b n i) := by
  obtain ⟨K, rfl⟩ : ∃ k, K = k + 1 := ⟨K - 1, by omega⟩
  have hj : plain_TextAt.j0 (K + 1) b n i true = some ((⟨#[]⟩ : ByteArray), false) := by rw [plain_TextAt.j0, if_pos rfl]
  unfold plain_TextAt.f textAt
  rw [may_eq]
  by_cases c1 : n < 0
  · rw [if_pos c1, Option.bind_some, if_neg (by decide), if_neg (by omega)]; exact hj
  rw [if_neg c1]
  by_cases c2 : n > 16777216
  · rw [if_pos c2, Option.bind_some, if_neg (by decide), if_neg (by omega)]; exact hj
  rw [if_neg c2, Option.bind_some, if_pos rfl]
  by_cases c3 : i < 0
  · rw [if_pos c3, if_neg (by omega)]; exact hj
  rw [if_neg c3]
  by_cases c4 : i ≥ n
  · rw [if_pos c4, if_neg (by omega)]; exact hj
  rw [if_neg c4]
  have h1 : wrap64 (n + 1) = n + 1 := by unfold wrap64; omega
  have h2 : wrap64 (4 * (n + 1)) = 4 * (n + 1) := by unfold wrap64; omega
  rw [h1, h2]
  by_cases c5 : (b.length : Int) < 4 * (n + 1)
  · rw [decide_eq_true c5, if_neg (by omega)]; exact hj
  rw [decide_eq_false c5, if_pos (by omega : 0 ≤ n ∧ n ≤ 16777216 ∧ 0 ≤ i ∧ i < n ∧ 4 * (n + 1) ≤ (b.length : Int))]
  obtain ⟨j, rfl⟩ := Int.eq_ofNat_of_zero_le (by omega : 0 ≤ i)
  obtain ⟨n, rfl⟩ := Int.eq_ofNat_of_zero_le (by omega : 0 ≤ n)
  have h3 : wrap64 ((j : Int) + 1) = ((j + 1 : Nat) : Int) := by unfold wrap64; omega
  have hd : (((b.drop (4 * (n + 1))).length : Nat) : Int) = b.length - 4 * ((n : Int) + 1) := by rw [List.length_drop]; omega
  have ht : (4 * ((n : Int) + 1)).toNat = 4 * (n + 1) := by omega
  have r0 := endAt_range hb (i := j) (by omega)
  have r1 := endAt_range hb (i := j + 1) (by omega)
  rw [plain_TextAt.j0, if_neg (by decide), h1, h2, if_pos (by omega), if_pos (by omega), h3, end_eq K b j hb hl (by omega) (by omega), end_eq K b (j + 1) hb hl (by omega) (by omega), ht]
  rw [Option.bind_some, Option.bind_some, hd, Int.toNat_natCast, Int.toNat_natCast]
  by_cases c6 : endAt b j > endAt b (j + 1)
  · rw [if_pos c6, if_neg (by omega)]
  rw [if_neg c6]
  by_cases c7 : endAt b (j + 1) > b.length - 4 * ((n : Int) + 1)
  · rw [if_pos c7, if_neg (by omega)]
  rw [if_neg c7, if_pos r0.1, if_pos (by omega), if_pos (by omega), if_pos (by omega)]
def okEnds (b : List Int) : Nat → Nat → Int → Option Int
  | 0, _, last => some last
  | m + 1, i, last => if endAt b (i + 1) < last then none else if endAt b (i + 1) - last > 65535 then none else okEnds b m (i + 1) (endAt b (i + 1))
def strAt (b : List Int) (n : Nat) (i : Nat) : ByteArray := (textAt b n i).1
def strs (b : List Int) (n : Nat) : List ByteArray := (List.range n).map (strAt b n)
def textsEnd (b : List Int) (n : Nat) : Option Int → List ByteArray × Int
  | none => ([], 70)
  | some last => if (b.length : Int) - 4 * ((n : Int) + 1) < last then ([], 71) else if (b.length : Int) - 4 * ((n : Int) + 1) > last then ([], 72) else (strs b n, 0)
def texts (b : List Int) (n : Int) : List ByteArray × Int := if n < 0 then ([], 2) else if n > 16777216 then ([], 3) else if (b.length : Int) < 4 * (n + 1) then ([], 71) else if endAt b 0 = 0 then textsEnd b n.toNat (okEnds b n.toNat 0 0) else ([], 70)
theorem texts_fill (K : Nat) (b : List Int) (n : Nat) (hb : Byte b) (hl : b.length ≤ 9223372036854775807) (hn : n ≤ 16777216) (hK : 10 ≤ K) : ∀ m i, i + m = n →
    plain_Texts.l1 (m + (K + 1)) b n ((List.range i).map (strAt b n) ++ List.replicate m (⟨#[]⟩ : ByteArray)) (n : Int) (i : Int) = some (strs b n, 0)
  | 0, i, hi => by
    obtain rfl : i = n := by omega
    rw [Nat.zero_add, plain_Texts.l1, if_neg (by omega), List.replicate_zero, List.append_nil]; rfl
  | m + 1, i, hi => by
    have hnx : wrap64 ((i : Int) + 1) = ((i + 1 : Nat) : Int) := by unfold wrap64; omega
    rw [show m + 1 + (K + 1) = (m + (K + 1)) + 1 from by omega, plain_Texts.l1, if_pos (by omega), textAt_eq _ b n i hb hl (by omega)]
    rw [Option.bind_some, if_pos (by omega), if_pos (by simp; omega), hnx, Int.toNat_natCast]
    show plain_Texts.l1 _ b n (((List.range i).map (strAt b n) ++ List.replicate (m + 1) (⟨#[]⟩ : ByteArray)).set i (strAt b n i)) _ _ = _
    rw [fill_set]
    exact texts_fill K b n hb hl hn hK m (i + 1) (by omega)
theorem texts_loop (K : Nat) (b : List Int) (n : Nat) (hb : Byte b) (hl : b.length ≤ 9223372036854775807) (hn : n ≤ 16777216) (hN : 4 * (n + 1) ≤ b.length) (hK : n + 12 ≤ K) : ∀ m i last, 0 ≤ last ∧ last < 4294967296 → i + m = n →
    plain_Texts.l0 (m + (K + 1)) b n last (n : Int) (i : Int) = some (textsEnd b n (okEnds b m i last))
  | 0, i, last, hL, hi => by
    have h1 : wrap64 ((n : Int) + 1) = ((n + 1 : Nat) : Int) := by unfold wrap64; omega
    have h2 : wrap64 (4 * ((n + 1 : Nat) : Int)) = ((4 * (n + 1) : Nat) : Int) := by unfold wrap64; omega
    have h3 : wrap64 ((b.length : Int) - ((4 * (n + 1) : Nat) : Int)) = b.length - 4 * ((n : Int) + 1) := by unfold wrap64; omega
    rw [Nat.zero_add, plain_Texts.l0, if_neg (by omega), h1, h2, h3, okEnds, textsEnd]
    by_cases c1 : (b.length : Int) - 4 * ((n : Int) + 1) < last
    · rw [if_pos c1, if_pos c1]
    rw [if_neg c1, if_neg c1]
    by_cases c2 : (b.length : Int) - 4 * ((n : Int) + 1) > last
    · rw [if_pos c2, if_pos c2]
    rw [if_neg c2, if_neg c2, if_pos (by omega), if_pos (by omega), Int.toNat_natCast]
    show plain_Texts.l1 K b n (List.replicate n (⟨#[]⟩ : ByteArray)) ((List.replicate n (⟨#[]⟩ : ByteArray)).length : Int) 0 = _
    rw [List.length_replicate]
    have h := texts_fill (K - n - 1) b n hb hl hn (by omega) n 0 (by omega)
    rw [show n + (K - n - 1 + 1) = K from by omega] at h
    exact h
  | m + 1, i, last, hL, hi => by
    have hnx : wrap64 ((i : Int) + 1) = ((i + 1 : Nat) : Int) := by unfold wrap64; omega
    have r := endAt_range hb (i := i + 1) (by omega)
    have hs : wrap64 (endAt b (i + 1) - last) = endAt b (i + 1) - last := by unfold wrap64; omega
    rw [show m + 1 + (K + 1) = (m + (K + 1)) + 1 from by omega, plain_Texts.l0, if_pos (by omega), hnx, end_eq _ b (i + 1) hb hl (by omega) (by omega), okEnds]
    rw [Option.bind_some]
    by_cases c1 : endAt b (i + 1) < last
    · rw [if_pos c1, if_pos c1]; rfl
    rw [if_neg c1, if_neg c1, hs]
    by_cases c2 : endAt b (i + 1) - last > 65535
    · rw [if_pos c2, if_pos c2]; rfl
    rw [if_neg c2, if_neg c2]
    exact texts_loop K b n hb hl hn hN hK m (i + 1) _ r (by omega)
theorem texts_eq (K : Nat) (b : List Int) (n : Int) (hb : Byte b) (hl : b.length ≤ 9223372036854775807) (hK : 33554432 + 20 ≤ K) : plain_Texts.f K b n = some (texts b n) := by
  unfold plain_Texts.f texts
  rw [may_eq]
  by_cases c1 : n < 0
  · rw [if_pos c1, if_pos c1]; rfl
  rw [if_neg c1, if_neg c1]
  by_cases c2 : n > 16777216
  · rw [if_pos c2, if_pos c2]; rfl
  rw [if_neg c2, if_neg c2]
  have h1 : wrap64 (n + 1) = n + 1 := by unfold wrap64; omega
  have h2 : wrap64 (4 * (n + 1)) = 4 * (n + 1) := by unfold wrap64; omega
  rw [Option.bind_some, if_pos rfl]
  rw [h1, h2]
  by_cases c3 : (b.length : Int) < 4 * (n + 1)
  · rw [if_pos c3, if_pos c3]
  rw [if_neg c3, if_neg c3]
  obtain ⟨n, rfl⟩ := Int.eq_ofNat_of_zero_le (by omega : 0 ≤ n)
  have he := end_eq K b 0 hb hl (by omega) (by omega)
  rw [show ((0 : Nat) : Int) = 0 from rfl] at he
  rw [he]
  rw [Option.bind_some]
  by_cases c4 : endAt b 0 = 0
  · rw [if_pos c4, if_pos c4, Int.toNat_natCast]
    have h := texts_loop (K - n - 1) b n hb hl (by omega) (by omega) (by omega) n 0 0 (by decide) (by omega)
    rw [show n + (K - n - 1 + 1) = K from by omega] at h
    exact h
  · rw [if_neg c4, if_neg c4]
theorem sameTexts_loop (K : Nat) (a : List ByteArray) (hl : a.length ≤ 9223372036854775806) : ∀ m i, i + m = a.length → colonnaderef08_SameTexts.l0 (m + (K + 1)) a a (i : Int) = some true
  | 0, i, hi => by rw [Nat.zero_add, colonnaderef08_SameTexts.l0, if_neg (by omega)]
  | m + 1, i, hi => by
    have hnx : wrap64 ((i : Int) + 1) = ((i + 1 : Nat) : Int) := by unfold wrap64; omega
    rw [show m + 1 + (K + 1) = (m + (K + 1)) + 1 from by omega, colonnaderef08_SameTexts.l0, if_pos (by omega), if_pos (by omega), if_pos (by omega), if_pos rfl, hnx]
    exact sameTexts_loop K a hl m (i + 1) (by omega)
theorem sameTexts_refl (K : Nat) (a : List ByteArray) (hl : a.length ≤ 9223372036854775806) (hK : a.length + 1 ≤ K) : colonnaderef08_SameTexts.f K a a = some true := by
  unfold colonnaderef08_SameTexts.f
  rw [if_pos rfl]
  have h := sameTexts_loop (K - a.length - 1) a hl a.length 0 (by omega)
  rw [show a.length + (K - a.length - 1 + 1) = K from by omega] at h
  exact h
theorem refLow_loop (K : Nat) (l : List Int) (h : Byte l) (h8 : l.length ≤ 8) : ∀ i, i ≤ l.length → colonnaderef08_Low.l0 (i + (K + 1)) l (lowN (l.drop i)) ((i : Int) - 1) = some (lowN l)
  | 0, _ => by rw [Nat.zero_add, colonnaderef08_Low.l0, if_neg (by omega), List.drop_zero]
  | i + 1, hi => by
    have hlt : i < l.length := by omega
    have hb := h _ (List.getElem_mem hlt)
    have hr := lowN_range (l.drop (i + 1)) (h.drop _)
    have hp : (2 : Int) ^ (8 * (l.drop (i + 1)).length) ≤ 72057594037927936 := by
      rw [List.length_drop]
      generalize hm : l.length - (i + 1) = m
      have : m = 0 ∨ m = 1 ∨ m = 2 ∨ m = 3 ∨ m = 4 ∨ m = 5 ∨ m = 6 ∨ m = 7 := by omega
      rcases this with h | h | h | h | h | h | h | h <;> subst h <;> decide
    have e : lowN (l.drop i) = l[i] + 256 * lowN (l.drop (i + 1)) := by rw [List.drop_eq_getElem_cons hlt]; rfl
    have hw : IntKind.u64.wrap (IntKind.u64.wrap (lowN (l.drop (i + 1)) * 256) + IntKind.u64.wrap (rd l (i : Int))) = lowN (l.drop i) := by
      rw [rd_nat l i hlt, IntKind.wrap_u64, IntKind.wrap_u64, IntKind.wrap_u64, e]
      generalize (2 : Int) ^ (8 * (l.drop (i + 1)).length) = P at *
      omega
    have hn : wrap64 ((i : Int) - 1) = (i : Int) - 1 := by unfold wrap64; omega
    rw [show i + 1 + (K + 1) = (i + (K + 1)) + 1 from by omega, show ((i + 1 : Nat) : Int) - 1 = (i : Int) from by omega, colonnaderef08_Low.l0, if_pos (by omega), if_pos (by omega), if_pos (by omega), hw, hn]
    exact refLow_loop K l h h8 i (by omega)
theorem refLow_eq (K : Nat) (l : List Int) (h : Byte l) (h8 : l.length ≤ 8) (hK : 9 ≤ K) : colonnaderef08_Low.f K l = some (lowN l) := by
  have hh := refLow_loop (K - l.length - 1) l h h8 l.length (Nat.le_refl _)
  rw [show l.length + (K - l.length - 1 + 1) = K from by omega, List.drop_length] at hh
  have hn : wrap64 ((l.length : Int) - 1) = (l.length : Int) - 1 := by unfold wrap64; omega
  unfold colonnaderef08_Low.f
  rw [hn]
  exact hh
theorem refMay_eq (n : Int) : colonnaderef08_may.f n = some (if n < 0 then 2 else if n > 16777216 then 3 else 0) := by
  unfold colonnaderef08_may.f
  by_cases c1 : n < 0
  · rw [if_pos c1, if_pos c1]
  · rw [if_neg c1, if_neg c1]
    by_cases c2 : n > 16777216
    · rw [if_pos c2, if_pos c2]
    · rw [if_neg c2, if_neg c2]
theorem refEnd_eq (K : Nat) (b : List Int) (i : Nat) (hb : Byte b) (hl : b.length ≤ 9223372036854775807) (hi : 4 * (i + 1) ≤ b.length) (hK : 9 ≤ K) : colonnaderef08_End.f K b (i : Int) = some (endAt b i) := by
  have h1 : wrap64 (4 * (i : Int)) = ((4 * i : Nat) : Int) := by unfold wrap64; omega
  have h3 : wrap64 (((4 * i : Nat) : Int) + 4) = ((4 * i + 4 : Nat) : Int) := by unfold wrap64; omega
  have hr := endAt_range hb hi
  unfold colonnaderef08_End.f
  rw [h1, h3, if_pos (by omega), if_pos (by omega), if_pos (by omega), Int.toNat_natCast, Int.toNat_natCast]
  show (colonnaderef08_Low.f K (seg b (4 * i) 4)).bind _ = _
  rw [refLow_eq K _ (seg_byte hb _ _) (by rw [seg_length (by omega)]; omega) hK]
  show some (wrap64 (endAt b i)) = _
  congr 1
  unfold wrap64; omega
theorem ends_mono (b : List Int) (n : Nat) (h : ∀ j, j < n → endAt b j ≤ endAt b (j + 1)) : ∀ d j, j + d = n → endAt b j ≤ endAt b n
  | 0, j, hj => by rw [show n = j from by omega]; exact Int.le_refl _
  | d + 1, j, hj => Int.le_trans (h j (by omega)) (ends_mono b n h d (j + 1) (by omega))
theorem refTexts_fill (K : Nat) (b : List Int) (n : Nat) (hb : Byte b) (hl : b.length ≤ 9223372036854775807) (hn : n ≤ 16777216) (hN : (b.length : Int) = 4 * ((n : Int) + 1) + endAt b n) (hm : ∀ j, j < n → endAt b j ≤ endAt b (j + 1)) (h0 : 0 ≤ endAt b n) (hK : 10 ≤ K) : ∀ m i, i + m = n →
    colonnaderef08_Texts.l1 (m + (K + 1)) b (n : Int) (b.drop (4 * (n + 1))) ((List.range i).map (strAt b n)) (i : Int) = some (strs b n, 0)
  | 0, i, hi => by
    obtain rfl : i = n := by omega
    rw [Nat.zero_add, colonnaderef08_Texts.l1, if_neg (by omega)]; rfl
  | m + 1, i, hi => by
    have hnx : wrap64 ((i : Int) + 1) = ((i + 1 : Nat) : Int) := by unfold wrap64; omega
    have r0 := endAt_range hb (i := i) (by omega)
    have r1 := endAt_range hb (i := i + 1) (by omega)
    have hup := ends_mono b n hm (n - (i + 1)) (i + 1) (by omega)
    have hst := hm i (by omega)
    have hd : (((b.drop (4 * (n + 1))).length : Nat) : Int) = b.length - 4 * ((n : Int) + 1) := by rw [List.length_drop]; omega
    have hs : strOfNums (((b.drop (4 * (n + 1))).take (endAt b (i + 1)).toNat).drop (endAt b i).toNat) = strAt b n i := by
      rw [strAt, textAt, if_pos (by omega), Int.toNat_natCast, Int.toNat_natCast, if_pos (by omega)]
    rw [show m + 1 + (K + 1) = (m + (K + 1)) + 1 from by omega, colonnaderef08_Texts.l1, if_pos (by omega), hnx, refEnd_eq _ b i hb hl (by omega) (by omega), Option.bind_some, refEnd_eq _ b (i + 1) hb hl (by omega) (by omega), Option.bind_some,
      if_pos r0.1, if_pos hst, if_pos (by omega), if_pos (by rw [List.length_map, List.length_range]; omega), hs]
    have e : (List.range i).map (strAt b n) ++ [strAt b n i] = (List.range (i + 1)).map (strAt b n) := by rw [List.range_succ, List.map_append]; rfl
    rw [e]
    exact refTexts_fill K b n hb hl hn hN hm h0 hK m (i + 1) (by omega)
theorem refTexts_loop (K : Nat) (b : List Int) (n : Nat) (hb : Byte b) (hl : b.length ≤ 9223372036854775807) (hn : n ≤ 16777216) (hN : 4 * (n + 1) ≤ b.length) (hK : n + 12 ≤ K) : ∀ m i, i + m = n → (∀ j, j < i → endAt b j ≤ endAt b (j + 1)) →
    colonnaderef08_Texts.l0 (m + (K + 1)) b (n : Int) (i : Int) = some (textsEnd b n (okEnds b m i (endAt b i)))
  | 0, i, hi, hm => by
    obtain rfl : i = n := by omega
    have h1 : wrap64 ((i : Int) + 1) = ((i + 1 : Nat) : Int) := by unfold wrap64; omega
    have h2 : wrap64 (4 * ((i + 1 : Nat) : Int)) = ((4 * (i + 1) : Nat) : Int) := by unfold wrap64; omega
    have r1 := endAt_range hb (i := i) (by omega)
    have hd : (((b.drop (4 * (i + 1))).length : Nat) : Int) = b.length - 4 * ((i : Int) + 1) := by rw [List.length_drop]; omega
    rw [Nat.zero_add, colonnaderef08_Texts.l0, if_neg (by omega), h1, h2, if_pos (by omega), if_pos (by omega), Int.toNat_natCast, refEnd_eq _ b i hb hl (by omega) (by omega), Option.bind_some, Option.bind_some, okEnds, textsEnd, hd]
    by_cases c1 : (b.length : Int) - 4 * ((i : Int) + 1) < endAt b i
    · rw [if_pos c1, if_pos c1]
    rw [if_neg c1, if_neg c1]
    by_cases c2 : (b.length : Int) - 4 * ((i : Int) + 1) > endAt b i
    · rw [if_pos c2, if_pos c2]
    rw [if_neg c2, if_neg c2]
    have h := refTexts_fill (K - i - 1) b i hb hl hn (by omega) hm r1.1 (by omega) i 0 (by omega)
    rw [show i + (K - i - 1 + 1) = K from by omega] at h
    exact h
  | m + 1, i, hi, hm => by
    have hnx : wrap64 ((i : Int) + 1) = ((i + 1 : Nat) : Int) := by unfold wrap64; omega
    have r0 := endAt_range hb (i := i) (by omega)
    have r1 := endAt_range hb (i := i + 1) (by omega)
    have hs : wrap64 (endAt b (i + 1) - endAt b i) = endAt b (i + 1) - endAt b i := by unfold wrap64; omega
    rw [show m + 1 + (K + 1) = (m + (K + 1)) + 1 from by omega, colonnaderef08_Texts.l0, if_pos (by omega), hnx, refEnd_eq _ b (i + 1) hb hl (by omega) (by omega), Option.bind_some, refEnd_eq _ b i hb hl (by omega) (by omega), Option.bind_some, okEnds]
    by_cases c1 : endAt b (i + 1) < endAt b i
    · rw [if_pos c1, if_pos c1]; rfl
    rw [if_neg c1, if_neg c1, Option.bind_some, Option.bind_some, hs]
    by_cases c2 : endAt b (i + 1) - endAt b i > 65535
    · rw [if_pos c2, if_pos c2]; rfl
    rw [if_neg c2, if_neg c2]
    refine refTexts_loop K b n hb hl hn hN hK m (i + 1) (by omega) (fun j hj => ?_)
    by_cases c : j = i
    · subst c; omega
    · exact hm j (by omega)
theorem refTexts_eq (K : Nat) (b : List Int) (n : Int) (hb : Byte b) (hl : b.length ≤ 9223372036854775807) (hK : 33554432 + 20 ≤ K) : colonnaderef08_Texts.f K b n = some (texts b n) := by
  unfold colonnaderef08_Texts.f texts
  rw [refMay_eq]
  by_cases c1 : n < 0
  · rw [if_pos c1, if_pos c1]; rfl
  rw [if_neg c1, if_neg c1]
  by_cases c2 : n > 16777216
  · rw [if_pos c2, if_pos c2]; rfl
  rw [if_neg c2, if_neg c2]
  have h1 : wrap64 (n + 1) = n + 1 := by unfold wrap64; omega
  have h2 : wrap64 (4 * (n + 1)) = 4 * (n + 1) := by unfold wrap64; omega
  rw [Option.bind_some, if_pos rfl, h1, h2]
  by_cases c3 : (b.length : Int) < 4 * (n + 1)
  · rw [if_pos c3, if_pos c3]
  rw [if_neg c3, if_neg c3]
  obtain ⟨n, rfl⟩ := Int.eq_ofNat_of_zero_le (by omega : 0 ≤ n)
  have he := refEnd_eq K b 0 hb hl (by omega) (by omega)
  rw [show ((0 : Nat) : Int) = 0 from rfl] at he
  rw [he, Option.bind_some]
  by_cases c4 : endAt b 0 = 0
  · rw [if_pos c4, if_pos c4, Int.toNat_natCast]
    have h := refTexts_loop (K - n - 1) b n hb hl (by omega) (by omega) (by omega) n 0 (by omega) (fun j hj => by omega)
    rw [show n + (K - n - 1 + 1) = K from by omega, c4] at h
    exact h
  · rw [if_neg c4, if_neg c4]
theorem refTextAt_eq (K : Nat) (b : List Int) (n i : Int) (hb : Byte b) (hl : b.length ≤ 9223372036854775807) (hK : 12 ≤ K) : colonnaderef08_TextAt.f K b n i = some (textAt b n i) := by
  obtain ⟨K, rfl⟩ : ∃ k, K = k + 2 := ⟨K - 2, by omega⟩
  have hj : colonnaderef08_TextAt.j0 (K + 2) b n i true = some ((⟨#[]⟩ : ByteArray), false) := by rw [colonnaderef08_TextAt.j0, if_pos rfl]
  unfold colonnaderef08_TextAt.f textAt
  rw [refMay_eq]
  by_cases c1 : n < 0
  · rw [if_pos c1, Option.bind_some, if_neg (by decide), if_neg (by omega)]; exact hj
  rw [if_neg c1]
  by_cases c2 : n > 16777216
  · rw [if_pos c2, Option.bind_some, if_neg (by decide), if_neg (by omega)]; exact hj
  rw [if_neg c2, Option.bind_some, if_pos rfl]
  by_cases c3 : i < 0
  · rw [if_pos c3, if_neg (by omega)]; exact hj
  rw [if_neg c3]
  by_cases c4 : i ≥ n
  · rw [if_pos c4, if_neg (by omega)]; exact hj
  rw [if_neg c4]
  have h1 : wrap64 (n + 1) = n + 1 := by unfold wrap64; omega
  have h2 : wrap64 (4 * (n + 1)) = 4 * (n + 1) := by unfold wrap64; omega
  rw [h1, h2]
  by_cases c5 : (b.length : Int) < 4 * (n + 1)
  · rw [decide_eq_true c5, if_neg (by omega)]; exact hj
  rw [decide_eq_false c5, if_pos (by omega : 0 ≤ n ∧ n ≤ 16777216 ∧ 0 ≤ i ∧ i < n ∧ 4 * (n + 1) ≤ (b.length : Int))]
  obtain ⟨j, rfl⟩ := Int.eq_ofNat_of_zero_le (by omega : 0 ≤ i)
  obtain ⟨n, rfl⟩ := Int.eq_ofNat_of_zero_le (by omega : 0 ≤ n)
  have h3 : wrap64 ((j : Int) + 1) = ((j + 1 : Nat) : Int) := by unfold wrap64; omega
  have hd : (((b.drop (4 * (n + 1))).length : Nat) : Int) = b.length - 4 * ((n : Int) + 1) := by rw [List.length_drop]; omega
  have ht : (4 * ((n : Int) + 1)).toNat = 4 * (n + 1) := by omega
  have r0 := endAt_range hb (i := j) (by omega)
  have r1 := endAt_range hb (i := j + 1) (by omega)
  rw [colonnaderef08_TextAt.j0, if_neg (by decide), h1, h2, if_pos (by omega), if_pos (by omega), h3, refEnd_eq _ b j hb hl (by omega) (by omega), Option.bind_some, refEnd_eq _ b (j + 1) hb hl (by omega) (by omega), Option.bind_some, ht, hd, Int.toNat_natCast, Int.toNat_natCast]
  by_cases c6 : endAt b j > endAt b (j + 1)
  · rw [if_pos c6, if_neg (by omega), colonnaderef08_TextAt.j1, if_pos rfl]
  rw [if_neg c6, Option.bind_some]
  by_cases c7 : endAt b (j + 1) > b.length - 4 * ((n : Int) + 1)
  · rw [decide_eq_true c7, if_neg (by omega), colonnaderef08_TextAt.j1, if_pos rfl]
  rw [decide_eq_false c7, if_pos (by omega), colonnaderef08_TextAt.j1, if_neg (by decide), h3, refEnd_eq _ b j hb hl (by omega) (by omega), Option.bind_some, refEnd_eq _ b (j + 1) hb hl (by omega) (by omega), Option.bind_some, if_pos r0.1, if_pos (by omega), if_pos (by omega)]
theorem texts_short (b : List Int) (n : Int) : (texts b n).1.length ≤ 16777216 := by
  unfold texts
  by_cases c1 : n < 0
  · rw [if_pos c1]; simp
  by_cases c2 : n > 16777216
  · rw [if_neg c1, if_pos c2]; simp
  by_cases c3 : (b.length : Int) < 4 * (n + 1)
  · rw [if_neg c1, if_neg c2, if_pos c3]; simp
  by_cases c4 : endAt b 0 = 0
  · rw [if_neg c1, if_neg c2, if_neg c3, if_pos c4]
    cases okEnds b n.toNat 0 0 with
    | none => simp [textsEnd]
    | some last =>
      rw [textsEnd]
      by_cases c5 : (b.length : Int) - 4 * ((n.toNat : Int) + 1) < last
      · rw [if_pos c5]; simp
      by_cases c6 : (b.length : Int) - 4 * ((n.toNat : Int) + 1) > last
      · rw [if_neg c5, if_pos c6]; simp
      · rw [if_neg c5, if_neg c6]
        show (strs b n.toNat).length ≤ _
        rw [strs, List.length_map, List.length_range]; omega
  · rw [if_neg c1, if_neg c2, if_neg c3, if_neg c4]; simp
theorem xor_byte (x : Int) : 0 ≤ Go.bits .xor .u8 x 1 ∧ Go.bits .xor .u8 x 1 < 256 := by
  unfold Go.bits
  simp only []
  rw [IntKind.wrap_u8]
  omega
theorem turn_over (K : Nat) (a1 a2 x10 : Int) (x8 x9 : List (List ByteArray)) (n : Nat) (hn : n ≤ 140737488351232) : ∀ m i (l : List Int), Byte l → l.length = n → i + m = n →
    ∃ l', Byte l' ∧ l'.length = n ∧ colonnadelaw08_PlainTexts.l1 (m + (K + 1)) a1 a2 l x8 x9 x10 (i : Int) = colonnadelaw08_PlainTexts.l0 K a1 a2 l' x8 x9 (wrap64 (x10 + 1))
  | 0, i, l, hb, hl, hi => ⟨l, hb, hl, by rw [Nat.zero_add, colonnadelaw08_PlainTexts.l1, if_neg (by omega)]⟩
  | m + 1, i, l, hb, hl, hi => by
    have hnx : wrap64 ((i : Int) + 1) = ((i + 1 : Nat) : Int) := by unfold wrap64; omega
    have hs : Byte (l.set i (Go.bits .xor .u8 (rd l (i : Int)) 1)) := fun x hx => by
      rcases List.mem_or_eq_of_mem_set hx with h | h
      · exact hb x h
      · subst h; exact xor_byte _
    obtain ⟨l', h1, h2, h3⟩ := turn_over K a1 a2 x10 x8 x9 n hn m (i + 1) _ hs (by rw [List.length_set]; exact hl) (by omega)
    refine ⟨l', h1, h2, ?_⟩
    rw [show m + 1 + (K + 1) = (m + (K + 1)) + 1 from by omega, colonnadelaw08_PlainTexts.l1, if_pos (by omega), if_pos (by omega), Int.toNat_natCast, hnx]
    exact h3
theorem last_look (K : Nat) (x : List (List ByteArray)) (hx : ∀ l ∈ x, l.length ≤ 16777216) (hl : x.length ≤ 10) (hK : 16777216 + 5 ≤ K) : ∀ m i, i + m = x.length → colonnadelaw08_PlainTexts.l2 (m + (K + 1)) x x (i : Int) = some true
  | 0, i, hi => by rw [Nat.zero_add, colonnadelaw08_PlainTexts.l2, if_neg (by omega)]
  | m + 1, i, hi => by
    have hnx : wrap64 ((i : Int) + 1) = ((i + 1 : Nat) : Int) := by unfold wrap64; omega
    have hlt : i < x.length := by omega
    have e : rd_L3 x (i : Int) = x[i] := by unfold rd_L3; simp [hlt]
    have hz := hx _ (List.getElem_mem hlt)
    rw [show m + 1 + (K + 1) = (m + (K + 1)) + 1 from by omega, colonnadelaw08_PlainTexts.l2, if_pos (by omega), if_pos (by omega), if_pos (by omega), e, sameTexts_refl _ _ (by omega) (by omega), Option.bind_some, if_pos rfl, hnx]
    exact last_look K x hx hl hK m (i + 1) (by omega)
theorem turns (a1 a2 : Int) (n : Nat) (hn : n ≤ 140737488351232) : ∀ (t : Nat) (l : List Int) (x : List (List ByteArray)) (x10 : Int), Byte l → l.length = n → x10 + t = 2 → 0 ≤ x10 → (∀ s ∈ x, s.length ≤ 16777216) → x.length + 2 * t ≤ 4 →
    colonnadelaw08_PlainTexts.l0 (50000001 + t * (n + 3)) a1 a2 l x x x10 = some true
  | 0, l, x, x10, hb, hl, hx, h0, hs, hn2 => by
    rw [Nat.zero_mul, Nat.add_zero, colonnadelaw08_PlainTexts.l0, if_neg (by omega)]
    have h := last_look (50000000 - x.length - 1) x hs (by omega) (by omega) x.length 0 (by omega)
    rw [show x.length + (50000000 - x.length - 1 + 1) = 50000000 from by omega] at h
    exact h
  | t + 1, l, x, x10, hb, hl, hx, h0, hs, hn2 => by
    have e : 50000001 + (t + 1) * (n + 3) = ((n + ((50000001 + t * (n + 3)) + 1)) + 1) + 1 := by rw [Nat.add_mul]; omega
    have hz := texts_short l a1
    obtain ⟨l', h1, h2, h3⟩ := turn_over (50000001 + t * (n + 3)) a1 a2 x10 (x ++ [(texts l a1).1, [(textAt l a1 a2).1]]) (x ++ [(texts l a1).1, [(textAt l a1 a2).1]]) n hn n 0 l hb hl (by omega)
    have ih := turns a1 a2 n hn t l' (x ++ [(texts l a1).1, [(textAt l a1 a2).1]]) (wrap64 (x10 + 1)) h1 h2 (by unfold wrap64; omega) (by unfold wrap64; omega) (fun s hm => by
      rcases List.mem_append.mp hm with h | h
      · exact hs s h
      · simp only [List.mem_cons, List.not_mem_nil, or_false] at h
        rcases h with h | h
        · subst h; exact hz
        · subst h; simp) (by rw [List.length_append]; simp only [List.length_cons, List.length_nil]; omega)
    rw [ih] at h3
    rw [e]
    generalize hF : n + ((50000001 + t * (n + 3)) + 1) = F at h3 ⊢
    have hFb : 50000001 ≤ F := by omega
    have hj : colonnadelaw08_PlainTexts.j1 (F + 1) a1 a2 l x x x10 (texts l a1).1 (texts l a1).1 (textAt l a1 a2).1 (textAt l a1 a2).1 (!true) = some true := by
      rw [colonnadelaw08_PlainTexts.j1, if_neg (by decide), Option.bind_some, if_pos (by simp only [List.length_cons, List.length_nil]; omega), Option.bind_some, if_pos (by simp only [List.length_cons, List.length_nil]; omega)]
      exact h3
    rw [colonnadelaw08_PlainTexts.l0, if_pos (by omega), Option.bind_some, if_pos (by rw [List.length_nil]; omega), Option.bind_some, List.nil_append,
      refTexts_eq _ l a1 hb (by omega) (by omega), Option.bind_some, texts_eq _ l a1 hb (by omega) (by omega), Option.bind_some, refTextAt_eq _ l a1 a2 hb (by omega) (by omega), Option.bind_some, textAt_eq _ l a1 a2 hb (by omega) (by omega), Option.bind_some]
    rw [show colonnadelaw08_num.f (texts l a1).2 = some (texts l a1).2 from rfl, Option.bind_some, if_pos rfl, sameTexts_refl _ _ (by omega) (by omega), Option.bind_some, if_pos rfl, if_pos rfl, bne_self_eq_false, if_neg (by decide)]
    unfold colonnadelaw08_bytesKept.f
    rw [if_pos (by omega), beq_self_eq_true, Option.bind_some]
    exact hj
theorem main : colonnadelaw08_PlainTexts.Pure := by
  intro b n i hl hz hb _ _
  replace hb := byte_of hb
  refine ⟨50000001 + 2 * (b.length + 3), ?_⟩
  unfold colonnadelaw08_PlainTexts.f colonnadelaw08_bytesLent.f
  rw [if_pos (by omega), Option.bind_some]
  exact turns n i b.length (by omega) 2 b [] 0 hb rfl (by omega) (by omega) (fun s hs => by simp at hs) (by simp)
end PlainTextsP
theorem PlainTexts : colonnadelaw08_PlainTexts.Pure := PlainTextsP.main
end Go.Proofs.Ytkepimkabfoapab.Pure
