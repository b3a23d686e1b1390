/- Codes of Texts: those that begin with a text are those whose codes are from its Floor on, up to the first key that does not begin with it. Of lists of at most 1048576 bytes and elements. -/
import Derived.Test.YtlpllhpnnhablaaPDictTextOrderx8
namespace Go.Proofs.Ytlpllhpnnhablaa.Pure
open Go.RowKit Go.Proofs.Ytlpllhpnnhablaa.PDictTextOrder Go.Proofs.YtlpllhpnnhablaaW.PrintWords Go.Proofs.YtlpllhpnnhablaaW.PrintLast
set_option linter.unusedVariables false
set_option linter.unusedSimpArgs false
def colonnadelaw09_DictTextOrder.PureU : Prop := ∀ (l0 : List ByteArray) (a1 : ByteArray), (l0.length ≤ maxLen ∧ ∀ y_ ∈ l0, y_.size ≤ maxLen) → a1.size ≤ maxLen → ((l0.map (fun z_ => (z_.size + 1))).sum + 1) + (a1.size + 1) ≤ 1048576 → ∃ k, colonnadelaw09_DictTextOrder.f k l0 a1 = some true
namespace DictTextOrderP
namespace Tx
open XMapS (lt)
theorem rdn (l : List ByteArray) (i : Nat) (h : i < l.length) : rdOf ByteArray.empty l (i : Int) = l[i] := by simp [rdOf, h]
theorem wr1 (i : Nat) (h : i < 9223372036854775807) : wrap64 ((i : Int) + 1) = ((i + 1 : Nat) : Int) := by unfold wrap64; omega
theorem eqL (a b : ByteArray) : (a.toList = b.toList) ↔ a = b := ⟨XMapS.injL, fun h => by rw [h]⟩
def below (ks : List ByteArray) (x : ByteArray) : Nat := (ks.filter fun y => lt y x).length
theorem below_cons (y x : ByteArray) (r : List ByteArray) : below (y :: r) x = (if lt y x = true then 1 else 0) + below r x := by
  unfold below
  by_cases h : lt y x = true
  · rw [List.filter_cons_of_pos (p := fun y => lt y x) (by simpa using h), if_pos h, List.length_cons]; omega
  · rw [List.filter_cons_of_neg (p := fun y => lt y x) (by simpa using h), if_neg h]; omega
theorem below_idx (x : ByteArray) : ∀ ks : List ByteArray, XMapS.Rising ks → x ∈ ks → below ks x = ks.idxOf x
  | [], _, h => by simp at h
  | y :: r, hr, h => by
    have hp := List.pairwise_cons.1 hr
    by_cases e : y = x
    · subst e
      have : (r.filter fun z => lt z y) = [] := by
        rw [List.filter_eq_nil_iff]
        intro z hz; rw [XMapS.lt_asymm (hp.1 z hz)]; simp
      rw [below_cons, XMapS.lt_irrefl]
      simp [below, this]
    · have hx : x ∈ r := by
        rcases List.mem_cons.1 h with h | h
        · exact absurd h.symm e
        · exact h
      have hlt := hp.1 x hx
      rw [List.idxOf_cons, show (y == x) = false by simp [e], ← below_idx x r hp.2 hx, below_cons, if_pos hlt]
      simp; omega
theorem below_mono (ks : List ByteArray) (a b : ByteArray) (h : lt b a = false) : below ks a ≤ below ks b := by
  induction ks with
  | nil => simp [below]
  | cons y r ih =>
    rw [below_cons, below_cons]
    by_cases h1 : lt y a = true
    · have : lt y b = true := by
        cases e : lt y b with
        | true => rfl
        | false =>
          cases e2 : lt b y with
          | true => have := XMapS.lt_trans e2 h1; rw [h] at this; cases this
          | false => have := XMapS.lt_tri e e2; subst this; rw [h] at h1; cases h1
      rw [if_pos h1, if_pos this]; omega
    · rw [if_neg h1]; split <;> omega
theorem below_lt (ks : List ByteArray) (a b : ByteArray) (h : lt a b = true) (hm : a ∈ ks) : below ks a < below ks b := by
  induction ks with
  | nil => simp at hm
  | cons y r ih =>
    rw [below_cons, below_cons]
    rcases List.mem_cons.1 hm with rfl | hm
    · rw [XMapS.lt_irrefl, if_pos h, if_neg (by simp)]
      have := below_mono r a b (XMapS.lt_asymm h)
      omega
    · have := ih hm
      by_cases h1 : lt y a = true
      · rw [if_pos h1, if_pos (XMapS.lt_trans h1 h)]; omega
      · rw [if_neg h1]; split <;> omega
theorem below_iff (ks : List ByteArray) (a b : ByteArray) (hm : a ∈ ks) : lt a b = true ↔ below ks a < below ks b := by
  constructor
  · intro h; exact below_lt ks a b h hm
  · intro h
    cases e : lt a b with
    | true => rfl
    | false => have := below_mono ks b a e; omega
end Tx
namespace Tx
open XMapS (lt)
theorem less_str (a b : ByteArray) : cmp_Less_string.f a b = some (lt a b) := by
  unfold cmp_Less_string.f cmp_isNaN_string.f lt
  simp
theorem nan_str (a : ByteArray) : slices_isNaN_string.f a = some false := by
  unfold slices_isNaN_string.f
  simp
theorem below_split (ks : List ByteArray) (v : ByteArray) (i : Nat) (hi : i ≤ ks.length) (h1 : ∀ j (h : j < ks.length), j < i → lt ks[j] v = true) (h2 : ∀ j (h : j < ks.length), i ≤ j → lt ks[j] v = false) : below ks v = i := by
  have e1 : (ks.take i).filter (fun y => lt y v) = ks.take i := by
    rw [List.filter_eq_self]
    intro x hx
    obtain ⟨j, hj, rfl⟩ := List.getElem_of_mem hx
    have hj' : j < i ∧ j < ks.length := by rw [List.length_take] at hj; omega
    rw [List.getElem_take]
    exact h1 j hj'.2 hj'.1
  have e2 : (ks.drop i).filter (fun y => lt y v) = [] := by
    rw [List.filter_eq_nil_iff]
    intro x hx
    obtain ⟨j, hj, rfl⟩ := List.getElem_of_mem hx
    have hj' : i + j < ks.length := by rw [List.length_drop] at hj; omega
    rw [List.getElem_drop]
    rw [h2 (i + j) hj' (by omega)]; simp
  unfold below
  conv => lhs; rw [← List.take_append_drop i ks]
  rw [List.filter_append, e1, e2, List.append_nil, List.length_take]
  omega
theorem mem_split (ks : List ByteArray) (v : ByteArray) (i : Nat) (hr : XMapS.Rising ks) (h1 : ∀ j (h : j < ks.length), j < i → lt ks[j] v = true) (h2 : ∀ j (h : j < ks.length), i ≤ j → lt ks[j] v = false) : v ∈ ks ↔ ∃ h : i < ks.length, ks[i] = v := by
  constructor
  · intro hv
    obtain ⟨j, hj, he⟩ := List.getElem_of_mem hv
    have hp := List.pairwise_iff_getElem.1 hr
    rcases Nat.lt_trichotomy j i with h | h | h
    · have := h1 j hj h; rw [he, XMapS.lt_irrefl] at this; cases this
    · subst h; exact ⟨hj, he⟩
    · have hil : i < ks.length := by omega
      have a := hp i j hil hj h
      have b := h2 i hil (Nat.le_refl _)
      rw [he, b] at a; cases a
  · rintro ⟨h, rfl⟩
    exact List.getElem_mem h
theorem bs_loop (ks : List ByteArray) (v : ByteArray) (hr : XMapS.Rising ks) (hn : ks.length < 4611686018427387904) : ∀ m (lo hi : Nat), hi ≤ lo + m → lo ≤ hi → hi ≤ ks.length → (∀ j (h : j < ks.length), j < lo → lt ks[j] v = true) → (∀ j (h : j < ks.length), hi ≤ j → lt ks[j] v = false) →
    ∃ K, slices_BinarySearch_string_string.l0 K ks v (ks.length : Int) (lo : Int) (hi : Int) = some (((below ks v : Nat) : Int), decide (v ∈ ks))
  | 0, lo, hi, hm, hle, hh, h1, h2 => by
    obtain rfl : lo = hi := by omega
    have hb := below_split ks v lo hh h1 h2
    have hm := mem_split ks v lo hr h1 h2
    refine ⟨1, ?_⟩
    rw [slices_BinarySearch_string_string.l0, if_neg (by omega), hb]
    by_cases hl : lo < ks.length
    · rw [if_pos (by omega), if_pos (by omega), if_pos (by omega), rdn ks lo hl]
      by_cases he : ks[lo] = v
      · rw [if_pos ((eqL _ _).2 he), decide_eq_true (hm.2 ⟨hl, he⟩)]
      · rw [if_neg (fun e => he ((eqL _ _).1 e)), nan_str, Option.bind_some, if_neg (by simp), decide_eq_false (fun h => he (hm.1 h).2)]
    · rw [if_neg (by omega), decide_eq_false (fun h => hl (hm.1 h).1)]
  | m + 1, lo, hi, hm, hle, hh, h1, h2 => by
    by_cases hlt : lo < hi
    · obtain ⟨h, hhe⟩ : ∃ h, h = (lo + hi) / 2 := ⟨_, rfl⟩
      have hw : wrap64 ((IntKind.u64.wrap (wrap64 ((lo : Int) + (hi : Int)))) / 2) = (h : Int) := by rw [IntKind.wrap_u64]; unfold wrap64; omega
      have hw1 : wrap64 ((h : Int) + 1) = ((h + 1 : Nat) : Int) := wr1 h (by omega)
      have hhl : h < ks.length := by omega
      have hp := List.pairwise_iff_getElem.1 hr
      by_cases hc : lt ks[h] v = true
      · obtain ⟨K, hK⟩ := bs_loop ks v hr hn m (h + 1) hi (by omega) (by omega) hh (fun j hj hjl => by
          by_cases e : j = h
          · subst e; exact hc
          · exact XMapS.lt_trans (hp j h hj hhl (by omega)) hc) h2
        refine ⟨K + 1, ?_⟩
        rw [slices_BinarySearch_string_string.l0, if_pos (by omega), hw, if_pos (by omega), if_pos (by omega), rdn ks h hhl, less_str, Option.bind_some, if_pos hc, hw1]
        exact hK
      · obtain ⟨K, hK⟩ := bs_loop ks v hr hn m lo h (by omega) (by omega) (by omega) h1 (fun j hj hjl => by
          by_cases e : j = h
          · subst e; simpa using hc
          · cases e3 : lt ks[j] v with
            | false => rfl
            | true => exact absurd (XMapS.lt_trans (hp h j hhl hj (by omega)) e3) hc)
        refine ⟨K + 1, ?_⟩
        rw [slices_BinarySearch_string_string.l0, if_pos (by omega), hw, if_pos (by omega), if_pos (by omega), rdn ks h hhl, less_str, Option.bind_some, if_neg hc]
        exact hK
    · obtain rfl : lo = hi := by omega
      exact bs_loop ks v hr hn m lo lo (by omega) (by omega) hh h1 h2
theorem search_f (ks : List ByteArray) (v : ByteArray) (hr : XMapS.Rising ks) (hn : ks.length < 4611686018427387904) : ∃ K, slices_BinarySearch_string_string.f K ks v = some (((below ks v : Nat) : Int), decide (v ∈ ks)) :=
  bs_loop ks v hr hn ks.length 0 ks.length (by omega) (by omega) (by omega) (fun j _ h => by omega) (fun j h h' => by omega)
theorem floor_f (ks : List ByteArray) (v : ByteArray) (hr : XMapS.Rising ks) (hn : ks.length < 4611686018427387904) : ∃ K, dict_Floor_string.f K ks v = some ((below ks v : Nat) : Int) := by
  obtain ⟨K, h⟩ := search_f ks v hr hn
  exact ⟨K, by unfold dict_Floor_string.f; rw [h]; rfl⟩
/-- of any list: a number in its bounds -/
theorem bs_any (ks : List ByteArray) (v : ByteArray) (hn : ks.length < 4611686018427387904) : ∀ m (lo hi : Nat), hi ≤ lo + m → lo ≤ hi → hi ≤ ks.length →
    ∃ K i b, slices_BinarySearch_string_string.l0 K ks v (ks.length : Int) (lo : Int) (hi : Int) = some (((i : Nat) : Int), b) ∧ i ≤ ks.length
  | 0, lo, hi, hm, hle, hh => by
    obtain rfl : lo = hi := by omega
    by_cases hl : lo < ks.length
    · by_cases he : ks[lo] = v
      · refine ⟨1, lo, true, ?_, hh⟩
        rw [slices_BinarySearch_string_string.l0, if_neg (by omega), if_pos (by omega), if_pos (by omega), if_pos (by omega), rdn ks lo hl, if_pos ((eqL _ _).2 he)]
      · refine ⟨1, lo, false, ?_, hh⟩
        rw [slices_BinarySearch_string_string.l0, if_neg (by omega), if_pos (by omega), if_pos (by omega), if_pos (by omega), rdn ks lo hl, if_neg (fun e => he ((eqL _ _).1 e)), nan_str, Option.bind_some, if_neg (by simp)]
    · refine ⟨1, lo, false, ?_, hh⟩
      rw [slices_BinarySearch_string_string.l0, if_neg (by omega), if_neg (by omega)]
  | m + 1, lo, hi, hm, hle, hh => by
    by_cases hlt : lo < hi
    · obtain ⟨h, hhe⟩ : ∃ h, h = (lo + hi) / 2 := ⟨_, rfl⟩
      have hw : wrap64 ((IntKind.u64.wrap (wrap64 ((lo : Int) + (hi : Int)))) / 2) = (h : Int) := by rw [IntKind.wrap_u64]; unfold wrap64; omega
      have hw1 : wrap64 ((h : Int) + 1) = ((h + 1 : Nat) : Int) := wr1 h (by omega)
      have hhl : h < ks.length := by omega
      by_cases hc : lt ks[h] v = true
      · obtain ⟨K, i, b, hK, hi'⟩ := bs_any ks v hn m (h + 1) hi (by omega) (by omega) hh
        refine ⟨K + 1, i, b, ?_, hi'⟩
        rw [slices_BinarySearch_string_string.l0, if_pos (by omega), hw, if_pos (by omega), if_pos (by omega), rdn ks h hhl, less_str, Option.bind_some, if_pos hc, hw1]
        exact hK
      · obtain ⟨K, i, b, hK, hi'⟩ := bs_any ks v hn m lo h (by omega) (by omega) (by omega)
        refine ⟨K + 1, i, b, ?_, hi'⟩
        rw [slices_BinarySearch_string_string.l0, if_pos (by omega), hw, if_pos (by omega), if_pos (by omega), rdn ks h hhl, less_str, Option.bind_some, if_neg hc]
        exact hK
    · exact bs_any ks v hn m lo hi (by omega) (by omega) hh
theorem floor_any (ks : List ByteArray) (v : ByteArray) (hn : ks.length < 4611686018427387904) : ∃ K i, dict_Floor_string.f K ks v = some ((i : Nat) : Int) ∧ i ≤ ks.length := by
  obtain ⟨K, i, b, h, hi⟩ := bs_any ks v hn ks.length 0 ks.length (by omega) (by omega) (by omega)
  exact ⟨K, i, by unfold dict_Floor_string.f slices_BinarySearch_string_string.f; rw [show ((0 : Nat) : Int) = 0 from rfl] at h; rw [h]; rfl, hi⟩
end Tx
namespace Tx
open XMapS (lt)
theorem pre_ge : ∀ (v x : List UInt8), v <+: x → ¬ x < v
  | [], x, _ => List.not_lt_nil x
  | a :: v, [], h => by simp at h
  | a :: v, b :: x, h => by
    rw [List.cons_prefix_cons] at h
    obtain ⟨rfl, h⟩ := h
    rw [List.cons_lt_cons_iff]
    rintro (h1 | ⟨_, h1⟩)
    · exact absurd h1 (UInt8.lt_irrefl _)
    · exact pre_ge v x h h1
theorem pre_mid : ∀ (v y x : List UInt8), v <+: x → ¬ y < v → ¬ x < y → v <+: y
  | [], y, x, _, _, _ => List.nil_prefix
  | a :: v, y, [], h, _, _ => by simp at h
  | a :: v, [], b :: x, _, h2, _ => absurd (List.nil_lt_cons a v) h2
  | a :: v, c :: y, b :: x, h, h2, h3 => by
    rw [List.cons_prefix_cons] at h
    obtain ⟨rfl, h⟩ := h
    rw [List.cons_lt_cons_iff] at h2 h3
    have e : c = a := by
      rcases Nat.lt_trichotomy c.toNat a.toNat with h | h | h
      · exact absurd (Or.inl (UInt8.lt_iff_toNat_lt.2 h)) h2
      · exact UInt8.toNat_inj.1 h
      · exact absurd (Or.inl (UInt8.lt_iff_toNat_lt.2 h)) h3
    subst e
    rw [List.cons_prefix_cons]
    exact ⟨rfl, pre_mid v y x h (fun h => h2 (.inr ⟨rfl, h⟩)) (fun h => h3 (.inr ⟨rfl, h⟩))⟩
/-- does a text begin so -/
def bg (v x : ByteArray) : Bool := decide (v.toList <+: x.toList)
theorem bg_f (v x : ByteArray) : colonnadelaw09_begins.f x v = some (bg v x) := by
  have hsv : v.size = v.toList.length := by rw [XMapS.toList_data, Array.length_toList]; rfl
  have hsx : x.size = x.toList.length := by rw [XMapS.toList_data, Array.length_toList]; rfl
  unfold colonnadelaw09_begins.f bg
  by_cases h : v.size ≤ x.size
  · rw [if_pos (by omega), if_pos (by omega), if_pos (by omega)]
    have e : (x.extract 0 ((v.size : Int) : Int).toNat).toList = x.toList.take v.size := by
      rw [Int.toNat_natCast, XMapS.toList_data, XMapS.toList_data, ByteArray.data_extract, Array.toList_extract]
      simp
    rw [e, hsv]
    congr 1
    by_cases h2 : v.toList <+: x.toList
    · rw [decide_eq_true h2, List.prefix_iff_eq_take.1 h2]; simp
    · rw [decide_eq_false h2]
      have : ¬ x.toList.take v.toList.length = v.toList := fun e => h2 (List.prefix_iff_eq_take.2 e.symm)
      simpa using this
  · rw [if_neg (by omega)]
    have : ¬ v.toList <+: x.toList := fun h2 => by have := h2.length_le; omega
    rw [decide_eq_false this]
theorem bg_ge {v x : ByteArray} (h : bg v x = true) : lt x v = false := by
  rw [XMapS.lt_def]; exact decide_eq_false (pre_ge _ _ (of_decide_eq_true h))
theorem bg_mid {v y x : ByteArray} (h : bg v x = true) (h1 : lt y v = false) (h2 : lt x y = false) : bg v y = true := by
  rw [XMapS.lt_def] at h1 h2
  exact decide_eq_true (pre_mid _ _ _ (of_decide_eq_true h) (of_decide_eq_false h1) (of_decide_eq_false h2))
theorem upto (p : ByteArray → Bool) : ∀ L : List ByteArray, ∃ n, n ≤ L.length ∧ (∀ i (h : i < L.length), i < n → p L[i] = true) ∧ (∀ h : n < L.length, p L[n] = false)
  | [] => ⟨0, Nat.le_refl _, fun i h => by simp at h, fun h => by simp at h⟩
  | x :: r => by
    cases hx : p x with
    | false => exact ⟨0, Nat.zero_le _, fun i _ h => by omega, fun _ => hx⟩
    | true =>
      obtain ⟨n, h1, h2, h3⟩ := upto p r
      refine ⟨n + 1, by simp; omega, fun i h hi => ?_, fun h => ?_⟩
      · cases i with
        | zero => exact hx
        | succ i => exact h2 i (by simpa using h) (by omega)
      · exact h3 (by simpa using h)
end Tx
end DictTextOrderP
open DictTextOrderP in
theorem DictTextOrder : colonnadelaw09_DictTextOrder.PureU := by
  intro l0 v hw hv hM
  have hl : l0.length ≤ 1048576 := by
    have : l0.length ≤ (l0.map (fun z_ => z_.size + 1)).sum := by
      clear hw hM
      induction l0 with
      | nil => simp
      | cons x r ih => simp only [List.map_cons, List.sum_cons, List.length_cons]; omega
    omega
  have hkl := XMapS.keysOf_length l0
  have hs := XMapS.keysOf_spec l0
  have hmem : ∀ x ∈ l0, x ∈ XMapS.keysOf l0 := fun x hx => (hs.2 x).2 hx
  obtain ⟨K1, h1⟩ := Tx.floor_f (XMapS.keysOf l0) v hs.1 (by omega)
  refine ⟨K1, ?_⟩
  generalize hSK : XMapS.keysOf l0 = SK at *
  have hFl : Tx.below SK v ≤ SK.length := List.length_filter_le _ _
  obtain ⟨n, hn1, hn2, hn3⟩ := Tx.upto (Tx.bg v) (SK.drop (Tx.below SK v))
  rw [List.length_drop] at hn1
  have hp := List.pairwise_iff_getElem.1 hs.1
  have hidx : ∀ j (h : j < SK.length), Tx.below SK SK[j] = j := fun j h => by
    rw [Tx.below_split SK SK[j] j (Nat.le_of_lt h) (fun i hi hij => hp i j hi h hij) (fun i hi hij => by
      by_cases e : i = j
      · subst e; exact XMapS.lt_irrefl _
      · exact XMapS.lt_asymm (hp j i h hi (by omega)))]
  have hltj : ∀ j (h : j < SK.length), XMapS.lt SK[j] v = decide (j < Tx.below SK v) := fun j h => by
    rw [Bool.eq_iff_iff, Tx.below_iff SK SK[j] v (List.getElem_mem h), hidx j h]; simp
  have hlt : ∀ x ∈ l0, SK.idxOf x < SK.length := fun x hx => List.idxOf_lt_length_iff.2 (hmem x hx)
  have hat : ∀ x (hx : x ∈ l0), SK[SK.idxOf x]'(hlt x hx) = x := fun x hx => List.getElem_idxOf _
  unfold colonnadelaw09_DictTextOrder.f
  rw [if_pos]
  refine ⟨fun x => SK.idxOf x, Tx.bg v, Tx.below SK v, Tx.below SK v + n, hl, hw.2, fun x _ => by rw [hSK]; rfl, ?_, by rw [hSK]; exact h1, ?_⟩
  · unfold colonnadelaw09_texts.f
    rw [if_pos (by simp; omega)]; rfl
  · rw [hSK]
    have hrun : ∀ j, Tx.below SK v ≤ j → j < Tx.below SK v + n → ∀ h : j < SK.length, Tx.bg v SK[j] = true := fun j h1 h2 h => by
      have := hn2 (j - Tx.below SK v) (by rw [List.length_drop]; omega) (by omega)
      rw [List.getElem_drop] at this
      rw [← this]; congr 2; omega
    have hstop : ∀ h : Tx.below SK v + n < SK.length, Tx.bg v SK[Tx.below SK v + n] = false := fun h => by
      have := hn3 (by rw [List.length_drop]; omega)
      rwa [List.getElem_drop] at this
    exact {
      lt := hlt
      key := fun x hx h => hat x hx
      less := fun x hx => by
        have := hltj (SK.idxOf x) (hlt x hx)
        rw [hat x hx] at this
        exact this
      fe := by omega
      el := by omega
      says := fun x _ => Tx.bg_f v x
      run := hrun
      stop := hstop
      bgn := fun x hx => by
        have hl1 := hltj (SK.idxOf x) (hlt x hx)
        rw [hat x hx] at hl1
        by_cases h1 : Tx.below SK v ≤ SK.idxOf x
        · by_cases h2 : SK.idxOf x < Tx.below SK v + n
          · have := hrun _ h1 h2 (hlt x hx)
            rw [hat x hx] at this
            rw [this, decide_eq_true h1, decide_eq_true h2]; rfl
          · rw [decide_eq_true h1, decide_eq_false h2]
            have hE : Tx.below SK v + n < SK.length := by have := hlt x hx; omega
            cases e : Tx.bg v x with
            | false => rfl
            | true =>
              have hm := Tx.bg_mid (y := SK[Tx.below SK v + n]) e (by rw [hltj _ hE]; simp) (by
                by_cases e2 : Tx.below SK v + n = SK.idxOf x
                · have : SK[Tx.below SK v + n] = x := by simp only [e2]; exact hat x hx
                  rw [this]; exact XMapS.lt_irrefl _
                · have := hp (Tx.below SK v + n) (SK.idxOf x) hE (hlt x hx) (by omega)
                  rw [hat x hx] at this
                  exact XMapS.lt_asymm this)
              rw [hstop hE] at hm
              cases hm
        · rw [decide_eq_false h1]
          cases e : Tx.bg v x with
          | false => rfl
          | true =>
            have := Tx.bg_ge e
            rw [hl1] at this
            have := of_decide_eq_false this
            omega }
end Go.Proofs.Ytlpllhpnnhablaa.Pure
