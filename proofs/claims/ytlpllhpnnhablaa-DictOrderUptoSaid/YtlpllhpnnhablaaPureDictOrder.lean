/- Codes compare as values do, with one another and by Floor and Find with anything else; the keys rise, and each is in use. Of lists of at most 1048576 elements. -/
import Derived.Test.YtlpllhpnnhablaaPDictOrderx8
namespace Go.Proofs.Ytlpllhpnnhablaa.Pure
open Go.RowKit Go.Proofs.Ytlpllhpnnhablaa.PDictOrder Go.Proofs.YtlpllhpnnhablaaW.PrintWords Go.Proofs.YtlpllhpnnhablaaW.PrintLast
set_option linter.unusedVariables false
set_option linter.unusedSimpArgs false
def colonnadelaw09_DictOrder.PureU : Prop := ∀ (l0 : List Int) (a1 : Int), (l0.length ≤ maxLen ∧ ∀ y_ ∈ l0, (Lit.int .i64 y_).wf = true) → (Lit.int .i64 a1).wf = true → ((l0.map (fun z_ => 1)).sum + 1) + 1 ≤ 1048576 → ∃ k, colonnadelaw09_DictOrder.f k l0 a1 = some true
namespace DictOrderP
theorem rdn (l : List Int) (i : Nat) (h : i < l.length) : rd l (i : Int) = l[i] := by simp [rd, h]
theorem wr1 (i : Nat) (h : i < 9223372036854775807) : wrap64 ((i : Int) + 1) = ((i + 1 : Nat) : Int) := by unfold wrap64; omega
/-- how many of the keys are below -/
def below (ks : List Int) (x : Int) : Nat := (ks.filter fun y => decide (y < x)).length
theorem below_cons (y x : Int) (r : List Int) : below (y :: r) x = (if y < x then 1 else 0) + below r x := by
  unfold below
  by_cases h : y < x
  · rw [List.filter_cons_of_pos (by simpa using h), if_pos h, List.length_cons]; omega
  · rw [List.filter_cons_of_neg (by simpa using h), if_neg h]; omega
theorem below_idx (x : Int) : ∀ ks : List Int, XMap.Rising ks → x ∈ ks → below ks x = ks.idxOf x
  | [], _, h => by simp at h
  | y :: r, hr, h => by
    have hp := List.pairwise_cons.1 hr
    by_cases e : y = x
    · subst e
      have : (r.filter fun z => decide (z < y)) = [] := by
        rw [List.filter_eq_nil_iff]
        intro z hz; have := hp.1 z hz; simp; omega
      simp [below, this]
    · have hx : x ∈ r := by
        rcases List.mem_cons.1 h with h | h
        · exact absurd h.symm e
        · exact h
      have hlt := hp.1 x hx
      rw [List.idxOf_cons, show (y == x) = false by simp [e], ← below_idx x r hp.2 hx, below_cons, if_pos hlt]
      simp; omega
theorem less_int (a b : Int) : cmp_Less_int64.f a b = some (decide (a < b)) := by
  unfold cmp_Less_int64.f cmp_isNaN_int64.f
  simp
theorem nan_int (a : Int) : slices_isNaN_int64.f a = some false := by
  unfold slices_isNaN_int64.f
  simp
theorem below_split (ks : List Int) (v : Int) (i : Nat) (hi : i ≤ ks.length) (h1 : ∀ j (h : j < ks.length), j < i → ks[j] < v) (h2 : ∀ j (h : j < ks.length), i ≤ j → ¬ ks[j] < v) : below ks v = i := by
  have e1 : (ks.take i).filter (fun y => decide (y < v)) = ks.take i := by
    rw [List.filter_eq_self]
    intro x hx
    obtain ⟨j, hj, rfl⟩ := List.getElem_of_mem hx
    have hj' : j < i ∧ j < ks.length := by rw [List.length_take] at hj; omega
    rw [List.getElem_take]
    exact decide_eq_true (h1 j hj'.2 hj'.1)
  have e2 : (ks.drop i).filter (fun y => decide (y < v)) = [] := by
    rw [List.filter_eq_nil_iff]
    intro x hx
    obtain ⟨j, hj, rfl⟩ := List.getElem_of_mem hx
    have hj' : i + j < ks.length := by rw [List.length_drop] at hj; omega
    rw [List.getElem_drop]
    have := h2 (i + j) hj' (by omega)
    simpa using this
  unfold below
  conv => lhs; rw [← List.take_append_drop i ks]
  rw [List.filter_append, e1, e2, List.append_nil, List.length_take]
  omega
theorem mem_split (ks : List Int) (v : Int) (i : Nat) (hr : XMap.Rising ks) (h1 : ∀ j (h : j < ks.length), j < i → ks[j] < v) (h2 : ∀ j (h : j < ks.length), i ≤ j → ¬ ks[j] < v) : v ∈ ks ↔ ∃ h : i < ks.length, ks[i] = v := by
  constructor
  · intro hv
    obtain ⟨j, hj, he⟩ := List.getElem_of_mem hv
    have hp := List.pairwise_iff_getElem.1 hr
    rcases Nat.lt_trichotomy j i with h | h | h
    · have := h1 j hj h; omega
    · subst h; exact ⟨hj, he⟩
    · have hil : i < ks.length := by omega
      have := hp i j hil hj h
      have := h2 i hil (Nat.le_refl _)
      omega
  · rintro ⟨h, rfl⟩
    exact List.getElem_mem h
theorem bs_loop (ks : List Int) (v : Int) (hr : XMap.Rising ks) (hn : ks.length < 4611686018427387904) : ∀ m (lo hi : Nat), hi ≤ lo + m → lo ≤ hi → hi ≤ ks.length → (∀ j (h : j < ks.length), j < lo → ks[j] < v) → (∀ j (h : j < ks.length), hi ≤ j → ¬ ks[j] < v) →
    ∃ K, slices_BinarySearch_int64_int64.l0 K ks v (ks.length : Int) (lo : Int) (hi : Int) = some (((below ks v : Nat) : Int), decide (v ∈ ks))
  | 0, lo, hi, hm, hle, hh, h1, h2 => by
    obtain rfl : lo = hi := by omega
    have hb := below_split ks v lo hh h1 h2
    have hm := mem_split ks v lo hr h1 h2
    refine ⟨1, ?_⟩
    rw [slices_BinarySearch_int64_int64.l0, if_neg (by omega), hb]
    by_cases hl : lo < ks.length
    · rw [if_pos (by omega), if_pos (by omega), if_pos (by omega), rdn ks lo hl]
      by_cases he : ks[lo] = v
      · rw [if_pos he, decide_eq_true (hm.2 ⟨hl, he⟩)]
      · rw [if_neg he, nan_int, Option.bind_some, if_neg (by simp), decide_eq_false (fun h => he (hm.1 h).2)]
    · rw [if_neg (by omega), decide_eq_false (fun h => hl (hm.1 h).1)]
  | m + 1, lo, hi, hm, hle, hh, h1, h2 => by
    by_cases hlt : lo < hi
    · obtain ⟨h, hhe⟩ : ∃ h, h = (lo + hi) / 2 := ⟨_, rfl⟩
      have hw : wrap64 ((IntKind.u64.wrap (wrap64 ((lo : Int) + (hi : Int)))) / 2) = (h : Int) := by rw [IntKind.wrap_u64]; unfold wrap64; omega
      have hw1 : wrap64 ((h : Int) + 1) = ((h + 1 : Nat) : Int) := wr1 h (by omega)
      have hhl : h < ks.length := by omega
      have hp := List.pairwise_iff_getElem.1 hr
      by_cases hc : ks[h] < v
      · obtain ⟨K, hK⟩ := bs_loop ks v hr hn m (h + 1) hi (by omega) (by omega) hh (fun j hj hjl => by
          by_cases e : j = h
          · subst e; exact hc
          · have := hp j h hj hhl (by omega); omega) h2
        refine ⟨K + 1, ?_⟩
        rw [slices_BinarySearch_int64_int64.l0, if_pos (by omega), hw, if_pos (by omega), if_pos (by omega), rdn ks h hhl, less_int, Option.bind_some, if_pos (decide_eq_true hc), hw1]
        exact hK
      · obtain ⟨K, hK⟩ := bs_loop ks v hr hn m lo h (by omega) (by omega) (by omega) h1 (fun j hj hjl => by
          by_cases e : j = h
          · subst e; exact hc
          · have := hp h j hhl hj (by omega); omega)
        refine ⟨K + 1, ?_⟩
        rw [slices_BinarySearch_int64_int64.l0, if_pos (by omega), hw, if_pos (by omega), if_pos (by omega), rdn ks h hhl, less_int, Option.bind_some, if_neg (by simpa using hc)]
        exact hK
    · obtain rfl : lo = hi := by omega
      exact bs_loop ks v hr hn m lo lo (by omega) (by omega) hh h1 h2
theorem search_f (ks : List Int) (v : Int) (hr : XMap.Rising ks) (hn : ks.length < 4611686018427387904) : ∃ K, slices_BinarySearch_int64_int64.f K ks v = some (((below ks v : Nat) : Int), decide (v ∈ ks)) :=
  bs_loop ks v hr hn ks.length 0 ks.length (by omega) (by omega) (by omega) (fun j _ h => by omega) (fun j h h' => by omega)
theorem floor_f (ks : List Int) (v : Int) (hr : XMap.Rising ks) (hn : ks.length < 4611686018427387904) : ∃ K, dict_Floor_int64.f K ks v = some ((below ks v : Nat) : Int) := by
  obtain ⟨K, h⟩ := search_f ks v hr hn
  exact ⟨K, by unfold dict_Floor_int64.f; rw [h]; rfl⟩
theorem find_f (ks : List Int) (v : Int) (hr : XMap.Rising ks) (hn : ks.length < 4611686018427387904) : ∃ K, dict_Find_int64.f K ks v = some (if v ∈ ks then ((below ks v : Nat) : Int) else 0, decide (v ∈ ks)) := by
  obtain ⟨K, h⟩ := search_f ks v hr hn
  refine ⟨K, ?_⟩
  unfold dict_Find_int64.f
  rw [h]
  by_cases hv : v ∈ ks
  · simp [hv]
  · simp [hv]
/-- of any list: a number in its bounds -/
theorem bs_any (ks : List Int) (v : Int) (hn : ks.length < 4611686018427387904) : ∀ m (lo hi : Nat), hi ≤ lo + m → lo ≤ hi → hi ≤ ks.length →
    ∃ K i b, slices_BinarySearch_int64_int64.l0 K ks v (ks.length : Int) (lo : Int) (hi : Int) = some (((i : Nat) : Int), b) ∧ i ≤ ks.length
  | 0, lo, hi, hm, hle, hh => by
    obtain rfl : lo = hi := by omega
    by_cases hl : lo < ks.length
    · by_cases he : ks[lo] = v
      · refine ⟨1, lo, true, ?_, hh⟩
        rw [slices_BinarySearch_int64_int64.l0, if_neg (by omega), if_pos (by omega), if_pos (by omega), if_pos (by omega), rdn ks lo hl, if_pos he]
      · refine ⟨1, lo, false, ?_, hh⟩
        rw [slices_BinarySearch_int64_int64.l0, if_neg (by omega), if_pos (by omega), if_pos (by omega), if_pos (by omega), rdn ks lo hl, if_neg he, nan_int, Option.bind_some, if_neg (by simp)]
    · refine ⟨1, lo, false, ?_, hh⟩
      rw [slices_BinarySearch_int64_int64.l0, if_neg (by omega), if_neg (by omega)]
  | m + 1, lo, hi, hm, hle, hh => by
    by_cases hlt : lo < hi
    · obtain ⟨h, hhe⟩ : ∃ h, h = (lo + hi) / 2 := ⟨_, rfl⟩
      have hw : wrap64 ((IntKind.u64.wrap (wrap64 ((lo : Int) + (hi : Int)))) / 2) = (h : Int) := by rw [IntKind.wrap_u64]; unfold wrap64; omega
      have hw1 : wrap64 ((h : Int) + 1) = ((h + 1 : Nat) : Int) := wr1 h (by omega)
      have hhl : h < ks.length := by omega
      by_cases hc : ks[h] < v
      · obtain ⟨K, i, b, hK, hi'⟩ := bs_any ks v hn m (h + 1) hi (by omega) (by omega) hh
        refine ⟨K + 1, i, b, ?_, hi'⟩
        rw [slices_BinarySearch_int64_int64.l0, if_pos (by omega), hw, if_pos (by omega), if_pos (by omega), rdn ks h hhl, less_int, Option.bind_some, if_pos (decide_eq_true hc), hw1]
        exact hK
      · obtain ⟨K, i, b, hK, hi'⟩ := bs_any ks v hn m lo h (by omega) (by omega) (by omega)
        refine ⟨K + 1, i, b, ?_, hi'⟩
        rw [slices_BinarySearch_int64_int64.l0, if_pos (by omega), hw, if_pos (by omega), if_pos (by omega), rdn ks h hhl, less_int, Option.bind_some, if_neg (by simpa using hc)]
        exact hK
    · exact bs_any ks v hn m lo hi (by omega) (by omega) hh
theorem floor_any (ks : List Int) (v : Int) (hn : ks.length < 4611686018427387904) : ∃ K i, dict_Floor_int64.f K ks v = some ((i : Nat) : Int) ∧ i ≤ ks.length := by
  obtain ⟨K, i, b, h, hi⟩ := bs_any ks v hn ks.length 0 ks.length (by omega) (by omega) (by omega)
  exact ⟨K, i, by unfold dict_Floor_int64.f slices_BinarySearch_int64_int64.f; rw [show ((0 : Nat) : Int) = 0 from rfl] at h; rw [h]; rfl, hi⟩
theorem below_mono (ks : List Int) (a b : Int) (h : a ≤ b) : below ks a ≤ below ks b := by
  induction ks with
  | nil => simp [below]
  | cons y r ih =>
    rw [below_cons, below_cons]
    split <;> split <;> omega
theorem below_lt (ks : List Int) (a b : Int) (h : a < b) (hm : a ∈ ks) : below ks a < below ks b := by
  induction ks with
  | nil => simp at hm
  | cons y r ih =>
    rw [below_cons, below_cons]
    rcases List.mem_cons.1 hm with rfl | hm
    · rw [if_neg (by omega), if_pos h]
      have := below_mono r a b (by omega)
      omega
    · have := ih hm
      split <;> split <;> omega
theorem below_iff (ks : List Int) (a b : Int) (hm : a ∈ ks) : a < b ↔ below ks a < below ks b := by
  constructor
  · intro h; exact below_lt ks a b h hm
  · intro h
    by_cases hab : a < b
    · exact hab
    · have := below_mono ks b a (by omega)
      omega
theorem idx_at (ks : List Int) (hr : XMap.Rising ks) (j : Nat) (hj : j < ks.length) : ks.idxOf ks[j] = j := by
  have hm : ks[j] ∈ ks := List.getElem_mem hj
  have hl : ks.idxOf ks[j] < ks.length := List.idxOf_lt_length_iff.2 hm
  have he : ks[ks.idxOf ks[j]] = ks[j] := List.getElem_idxOf hl
  have hp := List.pairwise_iff_getElem.1 hr
  rcases Nat.lt_trichotomy (ks.idxOf ks[j]) j with h | h | h
  · have := hp _ _ hl hj h; omega
  · exact h
  · have := hp _ _ hj hl h; omega
end DictOrderP
theorem DictOrder : colonnadelaw09_DictOrder.PureU := by
  intro l0 v hw hv hM
  have hl : l0.length ≤ 1048576 := by
    have : (l0.map (fun _ => 1)).sum = l0.length := by
      clear hw hM
      induction l0 with
      | nil => rfl
      | cons x r ih => simp only [List.map_cons, List.sum_cons, ih, List.length_cons]; omega
    omega
  have hkl := XMap.keysOf_length l0
  have hs := XMap.keysOf_spec l0
  have hmem : ∀ x ∈ l0, x ∈ XMap.keysOf l0 := fun x hx => (hs.2 x).2 hx
  obtain ⟨K1, h1⟩ := DictOrderP.floor_f (XMap.keysOf l0) v hs.1 (by omega)
  obtain ⟨K2, h2⟩ := DictOrderP.find_f (XMap.keysOf l0) v hs.1 (by omega)
  refine ⟨K1 + K2, ?_⟩
  unfold colonnadelaw09_DictOrder.f
  rw [if_pos]
  refine ⟨fun x => (XMap.keysOf l0).idxOf x, DictOrderP.below (XMap.keysOf l0) v, if v ∈ XMap.keysOf l0 then DictOrderP.below (XMap.keysOf l0) v else 0, decide (v ∈ XMap.keysOf l0), hl, hw.2, fun x _ => rfl, ?_, at_rounds (dict_Floor_int64.mono _ _) (by omega) h1, ?_, ?_⟩
  · unfold colonnadelaw09_ints.f
    rw [if_pos (by simp; omega)]; rfl
  · have := at_rounds (dict_Find_int64.mono _ _) (show K2 ≤ K1 + K2 by omega) h2
    rw [this]
    split <;> rfl
  · have hb : ∀ x ∈ l0, DictOrderP.below (XMap.keysOf l0) x = (XMap.keysOf l0).idxOf x := fun x hx => DictOrderP.below_idx x _ hs.1 (hmem x hx)
    have hlt : ∀ x ∈ l0, (XMap.keysOf l0).idxOf x < (XMap.keysOf l0).length := fun x hx => List.idxOf_lt_length_iff.2 (hmem x hx)
    exact {
      rise := fun j h => List.pairwise_iff_getElem.1 hs.1 j (j + 1) (by omega) h (by omega)
      lt := hlt
      key := fun x hx h => List.getElem_idxOf h
      less := fun x hx => by rw [← hb x hx]; exact DictOrderP.below_iff _ x v (hmem x hx)
      alike := fun x hx => by
        constructor
        · rintro rfl
          exact ⟨decide_eq_true (hmem x hx), by rw [if_pos (hmem x hx), hb x hx]⟩
        · rintro ⟨h, e⟩
          have hv' : v ∈ XMap.keysOf l0 := of_decide_eq_true h
          rw [if_pos hv', DictOrderP.below_idx v _ hs.1 hv'] at e
          have h1 : (XMap.keysOf l0)[(XMap.keysOf l0).idxOf x]'(hlt x hx) = x := List.getElem_idxOf _
          have h2 : (XMap.keysOf l0)[(XMap.keysOf l0).idxOf v]'(List.idxOf_lt_length_iff.2 hv') = v := List.getElem_idxOf _
          rw [← h1, ← h2]
          congr 1
      mono := fun x hx y hy => by rw [← hb x hx, ← hb y hy]; exact DictOrderP.below_iff _ x y (hmem x hx)
      used := fun j h => ⟨(XMap.keysOf l0)[j], (hs.2 _).1 (List.getElem_mem h), DictOrderP.idx_at _ hs.1 j h⟩ }
end Go.Proofs.Ytlpllhpnnhablaa.Pure
