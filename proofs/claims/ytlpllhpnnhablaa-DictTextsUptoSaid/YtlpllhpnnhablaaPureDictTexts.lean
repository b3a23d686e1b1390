/- dict.Build of any Texts: the keys, rising, each once, and of each Text how many keys are below it. Of lists of at most 1048576 elements. -/
import Derived.Test.YtlpllhpnnhablaaPDictTextsx8
namespace Go.Proofs.Ytlpllhpnnhablaa.Pure
open Go.RowKit Go.Proofs.Ytlpllhpnnhablaa.PDictTexts Go.Proofs.YtlpllhpnnhablaaW.PrintWords Go.Proofs.YtlpllhpnnhablaaW.PrintLast
set_option linter.unusedVariables false
set_option linter.unusedSimpArgs false
def colonnadelaw09_DictTexts.PureU : Prop := ∀ (l0 : List ByteArray), (l0.length ≤ maxLen ∧ ∀ y_ ∈ l0, y_.size ≤ maxLen) → ((l0.map (fun z_ => (z_.size + 1))).sum + 1) ≤ 1048576 → ∃ k, colonnadelaw09_DictTexts.f k l0 = some true
namespace DictTextsP
namespace Tx
open XMapS (lt)
theorem rdn (l : List ByteArray) (i : Nat) (h : i < l.length) : rdOf ByteArray.empty l (i : Int) = l[i] := by simp [rdOf, h]
theorem wr1 (i : Nat) (h : i < 9223372036854775807) : wrap64 ((i : Int) + 1) = ((i + 1 : Nat) : Int) := by unfold wrap64; omega
theorem eqL (a b : ByteArray) : (a.toList = b.toList) ↔ a = b := ⟨XMapS.injL, fun h => by rw [h]⟩
def below (ks : List ByteArray) (x : ByteArray) : Nat := (ks.filter fun y => lt y x).length
theorem below_cons (y x : ByteArray) (r : List ByteArray) : below (y :: r) x = (if lt y x = true then 1 else 0) + below r x := by
  unfold below
  by_cases h : lt y x = true
  · rw [List.filter_cons_of_pos (p := fun y => lt y x) (by simpa using h), if_pos h, List.length_cons]; omega
  · rw [List.filter_cons_of_neg (p := fun y => lt y x) (by simpa using h), if_neg h]; omega
theorem below_idx (x : ByteArray) : ∀ ks : List ByteArray, XMapS.Rising ks → x ∈ ks → below ks x = ks.idxOf x
  | [], _, h => by simp at h
  | y :: r, hr, h => by
    have hp := List.pairwise_cons.1 hr
    by_cases e : y = x
    · subst e
      have : (r.filter fun z => lt z y) = [] := by
        rw [List.filter_eq_nil_iff]
        intro z hz; rw [XMapS.lt_asymm (hp.1 z hz)]; simp
      rw [below_cons, XMapS.lt_irrefl]
      simp [below, this]
    · have hx : x ∈ r := by
        rcases List.mem_cons.1 h with h | h
        · exact absurd h.symm e
        · exact h
      have hlt := hp.1 x hx
      rw [List.idxOf_cons, show (y == x) = false by simp [e], ← below_idx x r hp.2 hx, below_cons, if_pos hlt]
      simp; omega
theorem below_mono (ks : List ByteArray) (a b : ByteArray) (h : lt b a = false) : below ks a ≤ below ks b := by
  induction ks with
  | nil => simp [below]
  | cons y r ih =>
    rw [below_cons, below_cons]
    by_cases h1 : lt y a = true
    · have : lt y b = true := by
        cases e : lt y b with
        | true => rfl
        | false =>
          cases e2 : lt b y with
          | true => have := XMapS.lt_trans e2 h1; rw [h] at this; cases this
          | false => have := XMapS.lt_tri e e2; subst this; rw [h] at h1; cases h1
      rw [if_pos h1, if_pos this]; omega
    · rw [if_neg h1]; split <;> omega
theorem below_lt (ks : List ByteArray) (a b : ByteArray) (h : lt a b = true) (hm : a ∈ ks) : below ks a < below ks b := by
  induction ks with
  | nil => simp at hm
  | cons y r ih =>
    rw [below_cons, below_cons]
    rcases List.mem_cons.1 hm with rfl | hm
    · rw [XMapS.lt_irrefl, if_pos h, if_neg (by simp)]
      have := below_mono r a b (XMapS.lt_asymm h)
      omega
    · have := ih hm
      by_cases h1 : lt y a = true
      · rw [if_pos h1, if_pos (XMapS.lt_trans h1 h)]; omega
      · rw [if_neg h1]; split <;> omega
theorem below_iff (ks : List ByteArray) (a b : ByteArray) (hm : a ∈ ks) : lt a b = true ↔ below ks a < below ks b := by
  constructor
  · intro h; exact below_lt ks a b h hm
  · intro h
    cases e : lt a b with
    | true => rfl
    | false => have := below_mono ks b a e; omega
end Tx
namespace Tx
open XMapS (lt)
/-- what one round of the reference makes of the keys -/
def put (x : ByteArray) : Bool → List ByteArray → List ByteArray
  | d, [] => if d then [] else [x]
  | d, y :: r => (if d = false ∧ lt y x = false then [x] else []) ++ ((if y = x then [] else [y]) ++ put x (d || !lt y x) r)
theorem put_true (x : ByteArray) : ∀ l : List ByteArray, (∀ y ∈ l, lt x y = true) → put x true l = l
  | [], _ => by simp [put]
  | y :: r, h => by
    have h1 := h y (by simp)
    rw [put, if_neg (by simp), if_neg (fun e => XMapS.lt_ne h1 e.symm)]
    simp [put_true x r (fun z hz => h z (by simp [hz]))]
theorem put_ins (x : ByteArray) : ∀ l : List ByteArray, XMapS.Rising l → put x false l = XMapS.ins x l
  | [], _ => by simp [put, XMapS.ins]
  | y :: r, h => by
    have hp := List.pairwise_cons.1 h
    rw [put, XMapS.ins]
    by_cases h1 : lt x y = true
    · have h0 := XMapS.lt_asymm h1
      rw [if_pos ⟨rfl, h0⟩, if_neg (fun e => XMapS.lt_ne h1 e.symm), if_pos h1, show (false || !lt y x) = true by simp [h0], put_true x r (fun z hz => XMapS.lt_trans h1 (hp.1 z hz))]; rfl
    · by_cases h2 : x = y
      · subst h2
        have h0 := XMapS.lt_irrefl x
        rw [if_pos ⟨rfl, h0⟩, if_pos rfl, if_neg h1, if_pos rfl, show (false || !lt x x) = true by simp [h0], put_true x r (fun z hz => hp.1 z hz)]; rfl
      · have h0 : lt y x = true := by
          cases e : lt y x with
          | true => rfl
          | false => exact absurd (XMapS.lt_tri (by simpa using h1) e) h2
        rw [if_neg (by simp [h0]), if_neg (fun e => h2 e.symm), if_neg h1, if_neg h2, show (false || !lt y x) = false by simp [h0], put_ins x r hp.2]; rfl
theorem keys_inner (x0 ks : List ByteArray) (i : Nat) (hi : i < x0.length) (h0 : x0.length < 9223372036854775807) (hks : ks.length < 9223372036854775807) (r : List ByteArray) : ∀ m j (next : List ByteArray) (d : Bool), j + m = ks.length → next.length + m + (cond d 0 1) < 8796093022208 →
    (∃ K, colonnaderef09_TextKeys.l0 K x0 (next ++ put x0[i] d (ks.drop j)) ((i + 1 : Nat) : Int) = some r) → ∃ K, colonnaderef09_TextKeys.l1 K x0 ks (i : Int) next d (j : Int) = some r
  | 0, j, next, d, hj, hn, ⟨K, hK⟩ => by
    rw [List.drop_eq_nil_of_le (by omega), put] at hK
    refine ⟨K + 1, ?_⟩
    rw [colonnaderef09_TextKeys.l1, if_neg (by omega)]
    cases d with
    | true => rw [if_pos rfl, wr1 i (by omega)]; simpa using hK
    | false => replace hn : next.length + 0 + 1 < 8796093022208 := hn; rw [if_neg (by simp), if_pos (by omega), if_pos (by omega), if_pos (by omega), wr1 i (by omega), rdn x0 i hi]; simpa using hK
  | m + 1, j, next, d, hj, hn, hr => by
    have hjl : j < ks.length := by omega
    rw [List.drop_eq_getElem_cons hjl, put] at hr
    have nx := wr1 j (by omega : j < 9223372036854775807)
    cases d with
    | true =>
      replace hn : next.length + (m + 1) < 8796093022208 := hn
      rw [if_neg (by simp), List.nil_append, Bool.true_or] at hr
      by_cases he : ks[j] = x0[i]
      · rw [if_pos he, List.nil_append] at hr
        obtain ⟨K, hK⟩ := keys_inner x0 ks i hi h0 hks r m (j + 1) next true (by omega) (by simp; omega) hr
        refine ⟨K + 2, ?_⟩
        rw [colonnaderef09_TextKeys.l1, if_pos (by omega), if_pos rfl, colonnaderef09_TextKeys.j2, if_neg (by simp), if_pos (by omega), if_pos (by omega), if_pos (by omega), if_pos (by omega), rdn ks j hjl, rdn x0 i hi, if_pos ((eqL _ _).2 he), nx]
        exact hK
      · rw [if_neg he, ← List.append_assoc] at hr
        obtain ⟨K, hK⟩ := keys_inner x0 ks i hi h0 hks r m (j + 1) (next ++ [ks[j]]) true (by omega) (by simp; omega) hr
        refine ⟨K + 2, ?_⟩
        rw [colonnaderef09_TextKeys.l1, if_pos (by omega), if_pos rfl, colonnaderef09_TextKeys.j2, if_neg (by simp), if_pos (by omega), if_pos (by omega), if_pos (by omega), if_pos (by omega), rdn ks j hjl, rdn x0 i hi, if_neg (fun e => he ((eqL _ _).1 e)), if_pos (by omega), nx]
        exact hK
    | false =>
      replace hn : next.length + (m + 1) + 1 < 8796093022208 := hn
      by_cases hle : lt ks[j] x0[i] = false
      · have hle' : (!(Op.bytesLess (ks[j]).toList (x0[i]).toList)) = true := by rw [show Op.bytesLess (ks[j]).toList (x0[i]).toList = false from hle]; rfl
        rw [if_pos ⟨rfl, hle⟩, show (false || !lt ks[j] x0[i]) = true by simp [hle]] at hr
        by_cases he : ks[j] = x0[i]
        · rw [if_pos he, List.nil_append, ← List.append_assoc] at hr
          obtain ⟨K, hK⟩ := keys_inner x0 ks i hi h0 hks r m (j + 1) (next ++ [x0[i]]) true (by omega) (by simp; omega) hr
          refine ⟨K + 2, ?_⟩
          rw [colonnaderef09_TextKeys.l1, if_pos (by omega), if_neg (by simp), if_pos (by omega), if_pos (by omega), if_pos (by omega), colonnaderef09_TextKeys.j2, rdn ks j hjl, rdn x0 i hi, if_pos hle', if_pos (by omega), if_pos (by omega), if_pos (by omega), Option.bind_some, if_pos (by omega), if_pos (by omega), if_pos ((eqL _ _).2 he), nx]
          exact hK
        · rw [if_neg he, ← List.append_assoc, ← List.append_assoc] at hr
          obtain ⟨K, hK⟩ := keys_inner x0 ks i hi h0 hks r m (j + 1) (next ++ [x0[i]] ++ [ks[j]]) true (by omega) (by simp; omega) hr
          refine ⟨K + 2, ?_⟩
          rw [colonnaderef09_TextKeys.l1, if_pos (by omega), if_neg (by simp), if_pos (by omega), if_pos (by omega), if_pos (by omega), colonnaderef09_TextKeys.j2, rdn ks j hjl, rdn x0 i hi, if_pos hle', if_pos (by omega), if_pos (by omega), if_pos (by omega), Option.bind_some, if_pos (by omega), if_pos (by omega), if_neg (fun e => he ((eqL _ _).1 e)), if_pos (by simp; omega), nx]
          exact hK
      · have hlt : lt ks[j] x0[i] = true := by simpa using hle
        have hle' : ¬ (!(Op.bytesLess (ks[j]).toList (x0[i]).toList)) = true := by rw [show Op.bytesLess (ks[j]).toList (x0[i]).toList = true from hlt]; simp
        rw [if_neg (by simp [hlt]), List.nil_append, show (false || !lt ks[j] x0[i]) = false by simp [hlt]] at hr
        have he : ¬ ks[j] = x0[i] := XMapS.lt_ne hlt
        rw [if_neg he, ← List.append_assoc] at hr
        obtain ⟨K, hK⟩ := keys_inner x0 ks i hi h0 hks r m (j + 1) (next ++ [ks[j]]) false (by omega) (by simp; omega) hr
        refine ⟨K + 2, ?_⟩
        rw [colonnaderef09_TextKeys.l1, if_pos (by omega), if_neg (by simp), if_pos (by omega), if_pos (by omega), if_pos (by omega), colonnaderef09_TextKeys.j2, rdn ks j hjl, rdn x0 i hi, if_neg hle', if_pos (by omega), if_pos (by omega), if_pos (by omega), if_pos (by omega), if_neg (fun e => he ((eqL _ _).1 e)), if_pos (by omega), nx]
        exact hK
theorem keys_outer (x0 : List ByteArray) (h0 : x0.length < 8796093022208) : ∀ m i (ks : List ByteArray), i + m = x0.length → XMapS.Rising ks → ks.length ≤ i → ∃ K, colonnaderef09_TextKeys.l0 K x0 ks (i : Int) = some ((x0.drop i).foldl (fun ks x => XMapS.ins x ks) ks)
  | 0, i, ks, hi, _, _ => ⟨1, by rw [colonnaderef09_TextKeys.l0, if_neg (by omega), List.drop_eq_nil_of_le (by omega)]; rfl⟩
  | m + 1, i, ks, hi, hr, hl => by
    have hil : i < x0.length := by omega
    have hlen := XMapS.ins_length x0[i] ks
    obtain ⟨K, hK⟩ := keys_outer x0 h0 m (i + 1) (XMapS.ins x0[i] ks) (by omega) (XMapS.rising_ins _ _ hr) (by omega)
    obtain ⟨K1, hK1⟩ := keys_inner x0 ks i hil (by omega) (by omega) _ ks.length 0 [] false (by omega) (by simp; omega) ⟨K, by rw [List.drop_zero, List.nil_append, put_ins _ _ hr]; exact hK⟩
    refine ⟨K1 + 1, ?_⟩
    rw [colonnaderef09_TextKeys.l0, if_pos (by omega)]
    rw [List.drop_eq_getElem_cons hil, List.foldl_cons]
    exact hK1
theorem keys_f (x0 : List ByteArray) (h0 : x0.length < 8796093022208) : ∃ K, colonnaderef09_TextKeys.f K x0 = some (XMapS.keysOf x0) := by
  have h := keys_outer x0 h0 x0.length 0 [] (by omega) .nil (by simp)
  rw [List.drop_zero] at h
  exact h
end Tx
namespace Tx
open XMapS (lt)
theorem codes_inner (ks x1 : List ByteArray) (i : Nat) (hi : i < x1.length) (h0 : ks.length < 4294967296) (h1 : x1.length < 17592186044416) (c : List Int) (hc : c.length ≤ i) (r : List Int) : ∀ m j (n : Nat), j + m = ks.length → n ≤ j →
    (∃ K, colonnaderef09_TextCodes.l0 K ks x1 (c ++ [((n + below (ks.drop j) x1[i] : Nat) : Int)]) ((i + 1 : Nat) : Int) = some r) → ∃ K, colonnaderef09_TextCodes.l1 K ks x1 c (i : Int) (n : Int) (j : Int) = some r
  | 0, j, n, hj, hn, ⟨K, hK⟩ => by
    rw [List.drop_eq_nil_of_le (by omega)] at hK
    refine ⟨K + 1, ?_⟩
    rw [colonnaderef09_TextCodes.l1, if_neg (by omega), if_pos (by omega), wr1 i (by omega)]
    exact hK
  | m + 1, j, n, hj, hn, hr => by
    have hjl : j < ks.length := by omega
    rw [List.drop_eq_getElem_cons hjl] at hr
    have nx := wr1 j (by omega : j < 9223372036854775807)
    by_cases hlt : lt ks[j] x1[i] = true
    · have hb : n + below (ks[j] :: ks.drop (j + 1)) x1[i] = (n + 1) + below (ks.drop (j + 1)) x1[i] := by rw [below_cons, if_pos hlt]; omega
      rw [hb] at hr
      obtain ⟨K, hK⟩ := codes_inner ks x1 i hi h0 h1 c hc r m (j + 1) (n + 1) (by omega) (by omega) hr
      refine ⟨K + 1, ?_⟩
      have hw : IntKind.u64.wrap ((n : Int) + 1) = ((n + 1 : Nat) : Int) := by rw [IntKind.wrap_u64]; omega
      rw [colonnaderef09_TextCodes.l1, if_pos (by omega), if_pos (by omega), if_pos (by omega), if_pos (by omega), rdn ks j hjl, rdn x1 i hi, if_pos (show Op.bytesLess (ks[j]).toList (x1[i]).toList = true from hlt), nx, hw]
      exact hK
    · have hb : n + below (ks[j] :: ks.drop (j + 1)) x1[i] = n + below (ks.drop (j + 1)) x1[i] := by rw [below_cons, if_neg hlt]; omega
      rw [hb] at hr
      obtain ⟨K, hK⟩ := codes_inner ks x1 i hi h0 h1 c hc r m (j + 1) n (by omega) (by omega) hr
      refine ⟨K + 1, ?_⟩
      rw [colonnaderef09_TextCodes.l1, if_pos (by omega), if_pos (by omega), if_pos (by omega), if_pos (by omega), rdn ks j hjl, rdn x1 i hi, if_neg (show ¬ Op.bytesLess (ks[j]).toList (x1[i]).toList = true from hlt), nx]
      exact hK
theorem codes_outer (ks x1 : List ByteArray) (h0 : ks.length < 4294967296) (h1 : x1.length < 17592186044416) : ∀ m i (c : List Int), i + m = x1.length → c.length = i → ∃ K, colonnaderef09_TextCodes.l0 K ks x1 c (i : Int) = some (c ++ (x1.drop i).map (fun x => ((below ks x : Nat) : Int)))
  | 0, i, c, hi, _ => ⟨1, by rw [colonnaderef09_TextCodes.l0, if_neg (by omega), List.drop_eq_nil_of_le (by omega)]; simp⟩
  | m + 1, i, c, hi, hc => by
    have hil : i < x1.length := by omega
    obtain ⟨K, hK⟩ := codes_outer ks x1 h0 h1 m (i + 1) (c ++ [((below ks x1[i] : Nat) : Int)]) (by omega) (by simp [hc])
    obtain ⟨K1, hK1⟩ := codes_inner ks x1 i hil h0 h1 c (by omega) _ ks.length 0 0 (by omega) (by omega) ⟨K, by rw [List.drop_zero, Nat.zero_add]; exact hK⟩
    refine ⟨K1 + 1, ?_⟩
    rw [colonnaderef09_TextCodes.l0, if_pos (by omega)]
    rw [List.drop_eq_getElem_cons hil, List.map_cons]
    rw [List.append_assoc] at hK1
    exact hK1
theorem codes_f (ks x1 : List ByteArray) (h0 : ks.length < 4294967296) (h1 : x1.length < 17592186044416) : ∃ K, colonnaderef09_TextCodes.f K ks x1 = some (x1.map (fun x => ((below ks x : Nat) : Int))) := by
  have h := codes_outer ks x1 h0 h1 x1.length 0 [] (by omega) rfl
  rw [List.drop_zero, List.nil_append] at h
  exact h
theorem below_code (l : List ByteArray) : l.map (fun x => ((below (XMapS.keysOf l) x : Nat) : Int)) = l.map (XBuildS.code (XMapS.keysOf l)) := by
  apply List.map_congr_left
  intro x hx
  have hs := XMapS.keysOf_spec l
  rw [below_idx x _ hs.1 ((hs.2 x).2 hx)]
  rfl
theorem sameTexts_loop (K : Nat) (a : List ByteArray) (hl : a.length ≤ 9223372036854775806) : ∀ m i, i + m = a.length → colonnadelaw09_sameTexts.l0 (m + (K + 1)) a a (i : Int) = some true
  | 0, i, hi => by rw [Nat.zero_add, colonnadelaw09_sameTexts.l0, if_neg (by omega)]
  | m + 1, i, hi => by
    have hnx : wrap64 ((i : Int) + 1) = ((i + 1 : Nat) : Int) := by unfold wrap64; omega
    rw [show m + 1 + (K + 1) = (m + (K + 1)) + 1 from by omega, colonnadelaw09_sameTexts.l0, if_pos (by omega), if_pos (by omega), if_pos (by omega), if_pos rfl, hnx]
    exact sameTexts_loop K a hl m (i + 1) (by omega)
theorem sameTexts_refl (K : Nat) (a : List ByteArray) (hl : a.length ≤ 9223372036854775806) (hK : a.length + 1 ≤ K) : colonnadelaw09_sameTexts.f K a a = some true := by
  unfold colonnadelaw09_sameTexts.f
  rw [if_pos rfl]
  have h := sameTexts_loop (K - a.length - 1) a hl a.length 0 (by omega)
  rw [show a.length + (K - a.length - 1 + 1) = K from by omega] at h
  exact h
end Tx
theorem sameInts_loop (K : Nat) (a : List Int) (hl : a.length ≤ 9223372036854775806) : ∀ m i, i + m = a.length → colonnadelaw09_sameInts.l0 (m + (K + 1)) a a (i : Int) = some true
  | 0, i, hi => by rw [Nat.zero_add, colonnadelaw09_sameInts.l0, if_neg (by omega)]
  | m + 1, i, hi => by
    have hnx : wrap64 ((i : Int) + 1) = ((i + 1 : Nat) : Int) := by unfold wrap64; omega
    rw [show m + 1 + (K + 1) = (m + (K + 1)) + 1 from by omega, colonnadelaw09_sameInts.l0, if_pos (by omega), if_pos (by omega), if_pos (by omega), if_pos rfl, hnx]
    exact sameInts_loop K a hl m (i + 1) (by omega)
theorem sameInts_refl (K : Nat) (a : List Int) (hl : a.length ≤ 9223372036854775806) (hK : a.length + 1 ≤ K) : colonnadelaw09_sameInts.f K a a = some true := by
  unfold colonnadelaw09_sameInts.f
  rw [if_pos rfl]
  have h := sameInts_loop (K - a.length - 1) a hl a.length 0 (by omega)
  rw [show a.length + (K - a.length - 1 + 1) = K from by omega] at h
  exact h
theorem sameCodes_loop (K : Nat) (a : List Int) (hl : a.length ≤ 9223372036854775806) (ha : ∀ x ∈ a, 0 ≤ x ∧ x < 18446744073709551616) : ∀ m i, i + m = a.length → colonnadelaw09_sameCodes.l0 (m + (K + 1)) a a (i : Int) = some true
  | 0, i, hi => by rw [Nat.zero_add, colonnadelaw09_sameCodes.l0, if_neg (by omega)]
  | m + 1, i, hi => by
    have hnx : wrap64 ((i : Int) + 1) = ((i + 1 : Nat) : Int) := by unfold wrap64; omega
    have hx : IntKind.u64.wrap (rd a (i : Int)) = rd a (i : Int) := by
      have h := ha (a[i]'(by omega)) (List.getElem_mem _)
      rw [IntKind.wrap_u64, show rd a (i : Int) = a[i]'(by omega) from by simp [rd, show i < a.length by omega]]
      omega
    rw [show m + 1 + (K + 1) = (m + (K + 1)) + 1 from by omega, colonnadelaw09_sameCodes.l0, if_pos (by omega), if_pos (by omega), if_pos (by omega), if_pos hx, hnx]
    exact sameCodes_loop K a hl ha m (i + 1) (by omega)
theorem sameCodes_refl (K : Nat) (a : List Int) (hl : a.length ≤ 9223372036854775806) (ha : ∀ x ∈ a, 0 ≤ x ∧ x < 18446744073709551616) (hK : a.length + 1 ≤ K) : colonnadelaw09_sameCodes.f K a a = some true := by
  unfold colonnadelaw09_sameCodes.f
  rw [if_pos rfl]
  have h := sameCodes_loop (K - a.length - 1) a hl ha a.length 0 (by omega)
  rw [show a.length + (K - a.length - 1 + 1) = K from by omega] at h
  exact h
end DictTextsP
theorem DictTexts : colonnadelaw09_DictTexts.PureU := by
  intro l0 hw hM
  have hl : l0.length ≤ 1048576 := by
    have : l0.length ≤ (l0.map (fun z_ => z_.size + 1)).sum := by
      clear hw hM
      induction l0 with
      | nil => simp
      | cons x r ih => simp only [List.map_cons, List.sum_cons, List.length_cons]; omega
    omega
  obtain ⟨K1, h1⟩ := DictTextsP.Tx.keys_f l0 (by omega)
  have hkl := XMapS.keysOf_length l0
  obtain ⟨K2, h2⟩ := DictTextsP.Tx.codes_f (XMapS.keysOf l0) l0 (by omega) (by omega)
  rw [DictTextsP.Tx.below_code] at h2
  refine ⟨K1 + K2 + l0.length + 2, ?_⟩
  unfold colonnadelaw09_DictTexts.f
  rw [if_pos]
  refine ⟨hl, hw.2, at_rounds (colonnaderef09_TextKeys.mono l0) (by omega) h1, at_rounds (colonnaderef09_TextCodes.mono _ l0) (by omega) h2, ?_, DictTextsP.Tx.sameTexts_refl _ _ (by omega) (by omega), DictTextsP.sameCodes_refl _ _ (by simp; omega) (fun x hx => ?_) (by simp; omega)⟩
  · unfold colonnadelaw09_texts.f
    rw [if_pos (by simp; omega)]; rfl
  · obtain ⟨y, hy, rfl⟩ := List.mem_map.mp hx
    have : (XMapS.keysOf l0).idxOf y ≤ (XMapS.keysOf l0).length := List.idxOf_le_length
    unfold XBuildS.code
    omega
end Go.Proofs.Ytlpllhpnnhablaa.Pure
