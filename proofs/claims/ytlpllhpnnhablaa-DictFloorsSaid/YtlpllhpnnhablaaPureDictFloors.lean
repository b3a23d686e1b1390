/- dict.Floor and dict.Find of any value over the keys of any Ints and Texts, as the document's; of Ints that do not rise a number in its bounds. -/
import Derived.Test.YtlpllhpnnhablaaPDictFloorsx10
namespace Go.Proofs.Ytlpllhpnnhablaa.Pure
open Go.RowKit Go.Proofs.Ytlpllhpnnhablaa.PDictFloors Go.Proofs.YtlpllhpnnhablaaW.PrintWords Go.Proofs.YtlpllhpnnhablaaW.PrintLast
set_option linter.unusedVariables false
set_option linter.unusedSimpArgs false
def colonnadelaw09_DictFloors.PureX : Prop := ∀ (l0 : List Int) (a1 : Int) (l2 : List ByteArray), (l0.length ≤ maxLen ∧ ∀ y_ ∈ l0, (Lit.int .i64 y_).wf = true) → (Lit.int .i64 a1).wf = true → (l2.length ≤ maxLen ∧ ∀ y_ ∈ l2, y_.size ≤ maxLen) → l0.length * 8 ≤ 140737488351232 → l2.length * 16 ≤ 140737488351232 → ∃ k, colonnadelaw09_DictFloors.f k l0 a1 l2 = some true
namespace DictFloorsP
theorem rdn (l : List Int) (i : Nat) (h : i < l.length) : rd l (i : Int) = l[i] := by simp [rd, h]
theorem wr1 (i : Nat) (h : i < 9223372036854775807) : wrap64 ((i : Int) + 1) = ((i + 1 : Nat) : Int) := by unfold wrap64; omega
/-- how many of the keys are below -/
def below (ks : List Int) (x : Int) : Nat := (ks.filter fun y => decide (y < x)).length
theorem below_cons (y x : Int) (r : List Int) : below (y :: r) x = (if y < x then 1 else 0) + below r x := by
  unfold below
  by_cases h : y < x
  · rw [List.filter_cons_of_pos (by simpa using h), if_pos h, List.length_cons]; omega
  · rw [List.filter_cons_of_neg (by simpa using h), if_neg h]; omega
theorem below_idx (x : Int) : ∀ ks : List Int, XMap.Rising ks → x ∈ ks → below ks x = ks.idxOf x
  | [], _, h => by simp at h
  | y :: r, hr, h => by
    have hp := List.pairwise_cons.1 hr
    by_cases e : y = x
    · subst e
      have : (r.filter fun z => decide (z < y)) = [] := by
        rw [List.filter_eq_nil_iff]
        intro z hz; have := hp.1 z hz; simp; omega
      simp [below, this]
    · have hx : x ∈ r := by
        rcases List.mem_cons.1 h with h | h
        · exact absurd h.symm e
        · exact h
      have hlt := hp.1 x hx
      rw [List.idxOf_cons, show (y == x) = false by simp [e], ← below_idx x r hp.2 hx, below_cons, if_pos hlt]
      simp; omega
/-- what one round of the reference makes of the keys -/
def put (x : Int) : Bool → List Int → List Int
  | d, [] => if d then [] else [x]
  | d, y :: r => (if d = false ∧ x ≤ y then [x] else []) ++ ((if y = x then [] else [y]) ++ put x (d || decide (x ≤ y)) r)
theorem put_true (x : Int) : ∀ l : List Int, (∀ y ∈ l, x < y) → put x true l = l
  | [], _ => by simp [put]
  | y :: r, h => by
    have h1 := h y (by simp)
    rw [put, if_neg (by simp), if_neg (by omega)]
    simp [put_true x r (fun z hz => h z (by simp [hz]))]
theorem put_ins (x : Int) : ∀ l : List Int, XMap.Rising l → put x false l = XMap.ins x l
  | [], _ => by simp [put, XMap.ins]
  | y :: r, h => by
    have hp := List.pairwise_cons.1 h
    rw [put, XMap.ins]
    by_cases h1 : x < y
    · rw [if_pos ⟨rfl, by omega⟩, if_neg (by omega), if_pos h1, show (false || decide (x ≤ y)) = true by simp; omega, put_true x r (fun z hz => by have := hp.1 z hz; omega)]; rfl
    · by_cases h2 : x = y
      · subst h2
        rw [if_pos ⟨rfl, by omega⟩, if_pos rfl, if_neg h1, if_pos rfl, show (false || decide (x ≤ x)) = true by simp, put_true x r (fun z hz => hp.1 z hz)]; rfl
      · rw [if_neg (by omega), if_neg (fun e => h2 e.symm), if_neg h1, if_neg h2, show (false || decide (x ≤ y)) = false by simp; omega, put_ins x r hp.2]; rfl
theorem keys_inner (x0 ks : List Int) (i : Nat) (hi : i < x0.length) (h0 : x0.length < 9223372036854775807) (hks : ks.length < 9223372036854775807) (r : List Int) : ∀ m j (next : List Int) (d : Bool), j + m = ks.length → next.length + m + (cond d 0 1) < 17592186044416 →
    (∃ K, colonnaderef09_Keys.l0 K x0 (next ++ put x0[i] d (ks.drop j)) ((i + 1 : Nat) : Int) = some r) → ∃ K, colonnaderef09_Keys.l1 K x0 ks (i : Int) next d (j : Int) = some r
  | 0, j, next, d, hj, hn, ⟨K, hK⟩ => by
    rw [List.drop_eq_nil_of_le (by omega), put] at hK
    refine ⟨K + 1, ?_⟩
    rw [colonnaderef09_Keys.l1, if_neg (by omega)]
    cases d with
    | true => rw [if_pos rfl, wr1 i (by omega)]; simpa using hK
    | false => replace hn : next.length + 0 + 1 < 17592186044416 := hn; rw [if_neg (by simp), if_pos (by omega), if_pos (by omega), if_pos (by omega), wr1 i (by omega), rdn x0 i hi]; simpa using hK
  | m + 1, j, next, d, hj, hn, hr => by
    have hjl : j < ks.length := by omega
    rw [List.drop_eq_getElem_cons hjl, put] at hr
    have nx := wr1 j (by omega : j < 9223372036854775807)
    cases d with
    | true =>
      replace hn : next.length + (m + 1) < 17592186044416 := hn
      rw [if_neg (by simp), List.nil_append, Bool.true_or] at hr
      by_cases he : ks[j] = x0[i]
      · rw [if_pos he, List.nil_append] at hr
        obtain ⟨K, hK⟩ := keys_inner x0 ks i hi h0 hks r m (j + 1) next true (by omega) (by simp; omega) hr
        refine ⟨K + 2, ?_⟩
        rw [colonnaderef09_Keys.l1, if_pos (by omega), if_pos rfl, colonnaderef09_Keys.j2, if_neg (by simp), if_pos (by omega), if_pos (by omega), if_pos (by omega), if_pos (by omega), rdn ks j hjl, rdn x0 i hi, if_pos he, nx]
        exact hK
      · rw [if_neg he, ← List.append_assoc] at hr
        obtain ⟨K, hK⟩ := keys_inner x0 ks i hi h0 hks r m (j + 1) (next ++ [ks[j]]) true (by omega) (by simp; omega) hr
        refine ⟨K + 2, ?_⟩
        rw [colonnaderef09_Keys.l1, if_pos (by omega), if_pos rfl, colonnaderef09_Keys.j2, if_neg (by simp), if_pos (by omega), if_pos (by omega), if_pos (by omega), if_pos (by omega), rdn ks j hjl, rdn x0 i hi, if_neg he, if_pos (by omega), nx]
        exact hK
    | false =>
      replace hn : next.length + (m + 1) + 1 < 17592186044416 := hn
      by_cases hle : x0[i] ≤ ks[j]
      · rw [if_pos ⟨rfl, hle⟩, show (false || decide (x0[i] ≤ ks[j])) = true by simp [hle]] at hr
        by_cases he : ks[j] = x0[i]
        · rw [if_pos he, List.nil_append, ← List.append_assoc] at hr
          obtain ⟨K, hK⟩ := keys_inner x0 ks i hi h0 hks r m (j + 1) (next ++ [x0[i]]) true (by omega) (by simp; omega) hr
          refine ⟨K + 2, ?_⟩
          rw [colonnaderef09_Keys.l1, if_pos (by omega), if_neg (by simp), if_pos (by omega), if_pos (by omega), if_pos (by omega), colonnaderef09_Keys.j2, rdn ks j hjl, rdn x0 i hi, if_pos (decide_eq_true hle), if_pos (by omega), if_pos (by omega), if_pos (by omega), Option.bind_some, if_pos (by omega), if_pos (by omega), if_pos he, nx]
          exact hK
        · rw [if_neg he, ← List.append_assoc, ← List.append_assoc] at hr
          obtain ⟨K, hK⟩ := keys_inner x0 ks i hi h0 hks r m (j + 1) (next ++ [x0[i]] ++ [ks[j]]) true (by omega) (by simp; omega) hr
          refine ⟨K + 2, ?_⟩
          rw [colonnaderef09_Keys.l1, if_pos (by omega), if_neg (by simp), if_pos (by omega), if_pos (by omega), if_pos (by omega), colonnaderef09_Keys.j2, rdn ks j hjl, rdn x0 i hi, if_pos (decide_eq_true hle), if_pos (by omega), if_pos (by omega), if_pos (by omega), Option.bind_some, if_pos (by omega), if_pos (by omega), if_neg he, if_pos (by simp; omega), nx]
          exact hK
      · rw [if_neg (by simp [hle]), List.nil_append, show (false || decide (x0[i] ≤ ks[j])) = false by simp [hle]] at hr
        have he : ¬ ks[j] = x0[i] := by omega
        rw [if_neg he, ← List.append_assoc] at hr
        obtain ⟨K, hK⟩ := keys_inner x0 ks i hi h0 hks r m (j + 1) (next ++ [ks[j]]) false (by omega) (by simp; omega) hr
        refine ⟨K + 2, ?_⟩
        rw [colonnaderef09_Keys.l1, if_pos (by omega), if_neg (by simp), if_pos (by omega), if_pos (by omega), if_pos (by omega), colonnaderef09_Keys.j2, rdn ks j hjl, rdn x0 i hi, if_neg (by simp [hle]), if_pos (by omega), if_pos (by omega), if_pos (by omega), if_pos (by omega), if_neg he, if_pos (by omega), nx]
        exact hK
theorem keys_outer (x0 : List Int) (h0 : x0.length < 17592186044416) : ∀ m i (ks : List Int), i + m = x0.length → XMap.Rising ks → ks.length ≤ i → ∃ K, colonnaderef09_Keys.l0 K x0 ks (i : Int) = some ((x0.drop i).foldl (fun ks x => XMap.ins x ks) ks)
  | 0, i, ks, hi, _, _ => ⟨1, by rw [colonnaderef09_Keys.l0, if_neg (by omega), List.drop_eq_nil_of_le (by omega)]; rfl⟩
  | m + 1, i, ks, hi, hr, hl => by
    have hil : i < x0.length := by omega
    have hlen := XMap.ins_length x0[i] ks
    obtain ⟨K, hK⟩ := keys_outer x0 h0 m (i + 1) (XMap.ins x0[i] ks) (by omega) (XMap.rising_ins _ _ hr) (by omega)
    obtain ⟨K1, hK1⟩ := keys_inner x0 ks i hil (by omega) (by omega) _ ks.length 0 [] false (by omega) (by simp; omega) ⟨K, by rw [List.drop_zero, List.nil_append, put_ins _ _ hr]; exact hK⟩
    refine ⟨K1 + 1, ?_⟩
    rw [colonnaderef09_Keys.l0, if_pos (by omega)]
    rw [List.drop_eq_getElem_cons hil, List.foldl_cons]
    exact hK1
theorem keys_f (x0 : List Int) (h0 : x0.length < 17592186044416) : ∃ K, colonnaderef09_Keys.f K x0 = some (XMap.keysOf x0) := by
  have h := keys_outer x0 h0 x0.length 0 [] (by omega) .nil (by simp)
  rw [List.drop_zero] at h
  exact h
theorem less_int (a b : Int) : cmp_Less_int64.f a b = some (decide (a < b)) := by
  unfold cmp_Less_int64.f cmp_isNaN_int64.f
  simp
theorem nan_int (a : Int) : slices_isNaN_int64.f a = some false := by
  unfold slices_isNaN_int64.f
  simp
theorem below_split (ks : List Int) (v : Int) (i : Nat) (hi : i ≤ ks.length) (h1 : ∀ j (h : j < ks.length), j < i → ks[j] < v) (h2 : ∀ j (h : j < ks.length), i ≤ j → ¬ ks[j] < v) : below ks v = i := by
  have e1 : (ks.take i).filter (fun y => decide (y < v)) = ks.take i := by
    rw [List.filter_eq_self]
    intro x hx
    obtain ⟨j, hj, rfl⟩ := List.getElem_of_mem hx
    have hj' : j < i ∧ j < ks.length := by rw [List.length_take] at hj; omega
    rw [List.getElem_take]
    exact decide_eq_true (h1 j hj'.2 hj'.1)
  have e2 : (ks.drop i).filter (fun y => decide (y < v)) = [] := by
    rw [List.filter_eq_nil_iff]
    intro x hx
    obtain ⟨j, hj, rfl⟩ := List.getElem_of_mem hx
    have hj' : i + j < ks.length := by rw [List.length_drop] at hj; omega
    rw [List.getElem_drop]
    have := h2 (i + j) hj' (by omega)
    simpa using this
  unfold below
  conv => lhs; rw [← List.take_append_drop i ks]
  rw [List.filter_append, e1, e2, List.append_nil, List.length_take]
  omega
theorem mem_split (ks : List Int) (v : Int) (i : Nat) (hr : XMap.Rising ks) (h1 : ∀ j (h : j < ks.length), j < i → ks[j] < v) (h2 : ∀ j (h : j < ks.length), i ≤ j → ¬ ks[j] < v) : v ∈ ks ↔ ∃ h : i < ks.length, ks[i] = v := by
  constructor
  · intro hv
    obtain ⟨j, hj, he⟩ := List.getElem_of_mem hv
    have hp := List.pairwise_iff_getElem.1 hr
    rcases Nat.lt_trichotomy j i with h | h | h
    · have := h1 j hj h; omega
    · subst h; exact ⟨hj, he⟩
    · have hil : i < ks.length := by omega
      have := hp i j hil hj h
      have := h2 i hil (Nat.le_refl _)
      omega
  · rintro ⟨h, rfl⟩
    exact List.getElem_mem h
theorem bs_loop (ks : List Int) (v : Int) (hr : XMap.Rising ks) (hn : ks.length < 4611686018427387904) : ∀ m (lo hi : Nat), hi ≤ lo + m → lo ≤ hi → hi ≤ ks.length → (∀ j (h : j < ks.length), j < lo → ks[j] < v) → (∀ j (h : j < ks.length), hi ≤ j → ¬ ks[j] < v) →
    ∃ K, slices_BinarySearch_int64_int64.l0 K ks v (ks.length : Int) (lo : Int) (hi : Int) = some (((below ks v : Nat) : Int), decide (v ∈ ks))
  | 0, lo, hi, hm, hle, hh, h1, h2 => by
    obtain rfl : lo = hi := by omega
    have hb := below_split ks v lo hh h1 h2
    have hm := mem_split ks v lo hr h1 h2
    refine ⟨1, ?_⟩
    rw [slices_BinarySearch_int64_int64.l0, if_neg (by omega), hb]
    by_cases hl : lo < ks.length
    · rw [if_pos (by omega), if_pos (by omega), if_pos (by omega), rdn ks lo hl]
      by_cases he : ks[lo] = v
      · rw [if_pos he, decide_eq_true (hm.2 ⟨hl, he⟩)]
      · rw [if_neg he, nan_int, Option.bind_some, if_neg (by simp), decide_eq_false (fun h => he (hm.1 h).2)]
    · rw [if_neg (by omega), decide_eq_false (fun h => hl (hm.1 h).1)]
  | m + 1, lo, hi, hm, hle, hh, h1, h2 => by
    by_cases hlt : lo < hi
    · obtain ⟨h, hhe⟩ : ∃ h, h = (lo + hi) / 2 := ⟨_, rfl⟩
      have hw : wrap64 ((IntKind.u64.wrap (wrap64 ((lo : Int) + (hi : Int)))) / 2) = (h : Int) := by rw [IntKind.wrap_u64]; unfold wrap64; omega
      have hw1 : wrap64 ((h : Int) + 1) = ((h + 1 : Nat) : Int) := wr1 h (by omega)
      have hhl : h < ks.length := by omega
      have hp := List.pairwise_iff_getElem.1 hr
      by_cases hc : ks[h] < v
      · obtain ⟨K, hK⟩ := bs_loop ks v hr hn m (h + 1) hi (by omega) (by omega) hh (fun j hj hjl => by
          by_cases e : j = h
          · subst e; exact hc
          · have := hp j h hj hhl (by omega); omega) h2
        refine ⟨K + 1, ?_⟩
        rw [slices_BinarySearch_int64_int64.l0, if_pos (by omega), hw, if_pos (by omega), if_pos (by omega), rdn ks h hhl, less_int, Option.bind_some, if_pos (decide_eq_true hc), hw1]
        exact hK
      · obtain ⟨K, hK⟩ := bs_loop ks v hr hn m lo h (by omega) (by omega) (by omega) h1 (fun j hj hjl => by
          by_cases e : j = h
          · subst e; exact hc
          · have := hp h j hhl hj (by omega); omega)
        refine ⟨K + 1, ?_⟩
        rw [slices_BinarySearch_int64_int64.l0, if_pos (by omega), hw, if_pos (by omega), if_pos (by omega), rdn ks h hhl, less_int, Option.bind_some, if_neg (by simpa using hc)]
        exact hK
    · obtain rfl : lo = hi := by omega
      exact bs_loop ks v hr hn m lo lo (by omega) (by omega) hh h1 h2
theorem search_f (ks : List Int) (v : Int) (hr : XMap.Rising ks) (hn : ks.length < 4611686018427387904) : ∃ K, slices_BinarySearch_int64_int64.f K ks v = some (((below ks v : Nat) : Int), decide (v ∈ ks)) :=
  bs_loop ks v hr hn ks.length 0 ks.length (by omega) (by omega) (by omega) (fun j _ h => by omega) (fun j h h' => by omega)
theorem floor_f (ks : List Int) (v : Int) (hr : XMap.Rising ks) (hn : ks.length < 4611686018427387904) : ∃ K, dict_Floor_int64.f K ks v = some ((below ks v : Nat) : Int) := by
  obtain ⟨K, h⟩ := search_f ks v hr hn
  exact ⟨K, by unfold dict_Floor_int64.f; rw [h]; rfl⟩
theorem find_f (ks : List Int) (v : Int) (hr : XMap.Rising ks) (hn : ks.length < 4611686018427387904) : ∃ K, dict_Find_int64.f K ks v = some (if v ∈ ks then ((below ks v : Nat) : Int) else 0, decide (v ∈ ks)) := by
  obtain ⟨K, h⟩ := search_f ks v hr hn
  refine ⟨K, ?_⟩
  unfold dict_Find_int64.f
  rw [h]
  by_cases hv : v ∈ ks
  · simp [hv]
  · simp [hv]
/-- of any list: a number in its bounds -/
theorem bs_any (ks : List Int) (v : Int) (hn : ks.length < 4611686018427387904) : ∀ m (lo hi : Nat), hi ≤ lo + m → lo ≤ hi → hi ≤ ks.length →
    ∃ K i b, slices_BinarySearch_int64_int64.l0 K ks v (ks.length : Int) (lo : Int) (hi : Int) = some (((i : Nat) : Int), b) ∧ i ≤ ks.length
  | 0, lo, hi, hm, hle, hh => by
    obtain rfl : lo = hi := by omega
    by_cases hl : lo < ks.length
    · by_cases he : ks[lo] = v
      · refine ⟨1, lo, true, ?_, hh⟩
        rw [slices_BinarySearch_int64_int64.l0, if_neg (by omega), if_pos (by omega), if_pos (by omega), if_pos (by omega), rdn ks lo hl, if_pos he]
      · refine ⟨1, lo, false, ?_, hh⟩
        rw [slices_BinarySearch_int64_int64.l0, if_neg (by omega), if_pos (by omega), if_pos (by omega), if_pos (by omega), rdn ks lo hl, if_neg he, nan_int, Option.bind_some, if_neg (by simp)]
    · refine ⟨1, lo, false, ?_, hh⟩
      rw [slices_BinarySearch_int64_int64.l0, if_neg (by omega), if_neg (by omega)]
  | m + 1, lo, hi, hm, hle, hh => by
    by_cases hlt : lo < hi
    · obtain ⟨h, hhe⟩ : ∃ h, h = (lo + hi) / 2 := ⟨_, rfl⟩
      have hw : wrap64 ((IntKind.u64.wrap (wrap64 ((lo : Int) + (hi : Int)))) / 2) = (h : Int) := by rw [IntKind.wrap_u64]; unfold wrap64; omega
      have hw1 : wrap64 ((h : Int) + 1) = ((h + 1 : Nat) : Int) := wr1 h (by omega)
      have hhl : h < ks.length := by omega
      by_cases hc : ks[h] < v
      · obtain ⟨K, i, b, hK, hi'⟩ := bs_any ks v hn m (h + 1) hi (by omega) (by omega) hh
        refine ⟨K + 1, i, b, ?_, hi'⟩
        rw [slices_BinarySearch_int64_int64.l0, if_pos (by omega), hw, if_pos (by omega), if_pos (by omega), rdn ks h hhl, less_int, Option.bind_some, if_pos (decide_eq_true hc), hw1]
        exact hK
      · obtain ⟨K, i, b, hK, hi'⟩ := bs_any ks v hn m lo h (by omega) (by omega) (by omega)
        refine ⟨K + 1, i, b, ?_, hi'⟩
        rw [slices_BinarySearch_int64_int64.l0, if_pos (by omega), hw, if_pos (by omega), if_pos (by omega), rdn ks h hhl, less_int, Option.bind_some, if_neg (by simpa using hc)]
        exact hK
    · exact bs_any ks v hn m lo hi (by omega) (by omega) hh
theorem floor_any (ks : List Int) (v : Int) (hn : ks.length < 4611686018427387904) : ∃ K i, dict_Floor_int64.f K ks v = some ((i : Nat) : Int) ∧ i ≤ ks.length := by
  obtain ⟨K, i, b, h, hi⟩ := bs_any ks v hn ks.length 0 ks.length (by omega) (by omega) (by omega)
  exact ⟨K, i, by unfold dict_Floor_int64.f slices_BinarySearch_int64_int64.f; rw [show ((0 : Nat) : Int) = 0 from rfl] at h; rw [h]; rfl, hi⟩
namespace Tx
open XMapS (lt)
theorem rdn (l : List ByteArray) (i : Nat) (h : i < l.length) : rdOf ByteArray.empty l (i : Int) = l[i] := by simp [rdOf, h]
theorem wr1 (i : Nat) (h : i < 9223372036854775807) : wrap64 ((i : Int) + 1) = ((i + 1 : Nat) : Int) := by unfold wrap64; omega
theorem eqL (a b : ByteArray) : (a.toList = b.toList) ↔ a = b := ⟨XMapS.injL, fun h => by rw [h]⟩
def below (ks : List ByteArray) (x : ByteArray) : Nat := (ks.filter fun y => lt y x).length
theorem below_cons (y x : ByteArray) (r : List ByteArray) : below (y :: r) x = (if lt y x = true then 1 else 0) + below r x := by
  unfold below
  by_cases h : lt y x = true
  · rw [List.filter_cons_of_pos (p := fun y => lt y x) (by simpa using h), if_pos h, List.length_cons]; omega
  · rw [List.filter_cons_of_neg (p := fun y => lt y x) (by simpa using h), if_neg h]; omega
theorem below_idx (x : ByteArray) : ∀ ks : List ByteArray, XMapS.Rising ks → x ∈ ks → below ks x = ks.idxOf x
  | [], _, h => by simp at h
  | y :: r, hr, h => by
    have hp := List.pairwise_cons.1 hr
    by_cases e : y = x
    · subst e
      have : (r.filter fun z => lt z y) = [] := by
        rw [List.filter_eq_nil_iff]
        intro z hz; rw [XMapS.lt_asymm (hp.1 z hz)]; simp
      rw [below_cons, XMapS.lt_irrefl]
      simp [below, this]
    · have hx : x ∈ r := by
        rcases List.mem_cons.1 h with h | h
        · exact absurd h.symm e
        · exact h
      have hlt := hp.1 x hx
      rw [List.idxOf_cons, show (y == x) = false by simp [e], ← below_idx x r hp.2 hx, below_cons, if_pos hlt]
      simp; omega
theorem below_mono (ks : List ByteArray) (a b : ByteArray) (h : lt b a = false) : below ks a ≤ below ks b := by
  induction ks with
  | nil => simp [below]
  | cons y r ih =>
    rw [below_cons, below_cons]
    by_cases h1 : lt y a = true
    · have : lt y b = true := by
        cases e : lt y b with
        | true => rfl
        | false =>
          cases e2 : lt b y with
          | true => have := XMapS.lt_trans e2 h1; rw [h] at this; cases this
          | false => have := XMapS.lt_tri e e2; subst this; rw [h] at h1; cases h1
      rw [if_pos h1, if_pos this]; omega
    · rw [if_neg h1]; split <;> omega
theorem below_lt (ks : List ByteArray) (a b : ByteArray) (h : lt a b = true) (hm : a ∈ ks) : below ks a < below ks b := by
  induction ks with
  | nil => simp at hm
  | cons y r ih =>
    rw [below_cons, below_cons]
    rcases List.mem_cons.1 hm with rfl | hm
    · rw [XMapS.lt_irrefl, if_pos h, if_neg (by simp)]
      have := below_mono r a b (XMapS.lt_asymm h)
      omega
    · have := ih hm
      by_cases h1 : lt y a = true
      · rw [if_pos h1, if_pos (XMapS.lt_trans h1 h)]; omega
      · rw [if_neg h1]; split <;> omega
theorem below_iff (ks : List ByteArray) (a b : ByteArray) (hm : a ∈ ks) : lt a b = true ↔ below ks a < below ks b := by
  constructor
  · intro h; exact below_lt ks a b h hm
  · intro h
    cases e : lt a b with
    | true => rfl
    | false => have := below_mono ks b a e; omega
end Tx
namespace Tx
open XMapS (lt)
/-- what one round of the reference makes of the keys -/
def put (x : ByteArray) : Bool → List ByteArray → List ByteArray
  | d, [] => if d then [] else [x]
  | d, y :: r => (if d = false ∧ lt y x = false then [x] else []) ++ ((if y = x then [] else [y]) ++ put x (d || !lt y x) r)
theorem put_true (x : ByteArray) : ∀ l : List ByteArray, (∀ y ∈ l, lt x y = true) → put x true l = l
  | [], _ => by simp [put]
  | y :: r, h => by
    have h1 := h y (by simp)
    rw [put, if_neg (by simp), if_neg (fun e => XMapS.lt_ne h1 e.symm)]
    simp [put_true x r (fun z hz => h z (by simp [hz]))]
theorem put_ins (x : ByteArray) : ∀ l : List ByteArray, XMapS.Rising l → put x false l = XMapS.ins x l
  | [], _ => by simp [put, XMapS.ins]
  | y :: r, h => by
    have hp := List.pairwise_cons.1 h
    rw [put, XMapS.ins]
    by_cases h1 : lt x y = true
    · have h0 := XMapS.lt_asymm h1
      rw [if_pos ⟨rfl, h0⟩, if_neg (fun e => XMapS.lt_ne h1 e.symm), if_pos h1, show (false || !lt y x) = true by simp [h0], put_true x r (fun z hz => XMapS.lt_trans h1 (hp.1 z hz))]; rfl
    · by_cases h2 : x = y
      · subst h2
        have h0 := XMapS.lt_irrefl x
        rw [if_pos ⟨rfl, h0⟩, if_pos rfl, if_neg h1, if_pos rfl, show (false || !lt x x) = true by simp [h0], put_true x r (fun z hz => hp.1 z hz)]; rfl
      · have h0 : lt y x = true := by
          cases e : lt y x with
          | true => rfl
          | false => exact absurd (XMapS.lt_tri (by simpa using h1) e) h2
        rw [if_neg (by simp [h0]), if_neg (fun e => h2 e.symm), if_neg h1, if_neg h2, show (false || !lt y x) = false by simp [h0], put_ins x r hp.2]; rfl
theorem keys_inner (x0 ks : List ByteArray) (i : Nat) (hi : i < x0.length) (h0 : x0.length < 9223372036854775807) (hks : ks.length < 9223372036854775807) (r : List ByteArray) : ∀ m j (next : List ByteArray) (d : Bool), j + m = ks.length → next.length + m + (cond d 0 1) < 8796093022208 →
    (∃ K, colonnaderef09_TextKeys.l0 K x0 (next ++ put x0[i] d (ks.drop j)) ((i + 1 : Nat) : Int) = some r) → ∃ K, colonnaderef09_TextKeys.l1 K x0 ks (i : Int) next d (j : Int) = some r
  | 0, j, next, d, hj, hn, ⟨K, hK⟩ => by
    rw [List.drop_eq_nil_of_le (by omega), put] at hK
    refine ⟨K + 1, ?_⟩
    rw [colonnaderef09_TextKeys.l1, if_neg (by omega)]
    cases d with
    | true => rw [if_pos rfl, wr1 i (by omega)]; simpa using hK
    | false => replace hn : next.length + 0 + 1 < 8796093022208 := hn; rw [if_neg (by simp), if_pos (by omega), if_pos (by omega), if_pos (by omega), wr1 i (by omega), rdn x0 i hi]; simpa using hK
  | m + 1, j, next, d, hj, hn, hr => by
    have hjl : j < ks.length := by omega
    rw [List.drop_eq_getElem_cons hjl, put] at hr
    have nx := wr1 j (by omega : j < 9223372036854775807)
    cases d with
    | true =>
      replace hn : next.length + (m + 1) < 8796093022208 := hn
      rw [if_neg (by simp), List.nil_append, Bool.true_or] at hr
      by_cases he : ks[j] = x0[i]
      · rw [if_pos he, List.nil_append] at hr
        obtain ⟨K, hK⟩ := keys_inner x0 ks i hi h0 hks r m (j + 1) next true (by omega) (by simp; omega) hr
        refine ⟨K + 2, ?_⟩
        rw [colonnaderef09_TextKeys.l1, if_pos (by omega), if_pos rfl, colonnaderef09_TextKeys.j2, if_neg (by simp), if_pos (by omega), if_pos (by omega), if_pos (by omega), if_pos (by omega), rdn ks j hjl, rdn x0 i hi, if_pos ((eqL _ _).2 he), nx]
        exact hK
      · rw [if_neg he, ← List.append_assoc] at hr
        obtain ⟨K, hK⟩ := keys_inner x0 ks i hi h0 hks r m (j + 1) (next ++ [ks[j]]) true (by omega) (by simp; omega) hr
        refine ⟨K + 2, ?_⟩
        rw [colonnaderef09_TextKeys.l1, if_pos (by omega), if_pos rfl, colonnaderef09_TextKeys.j2, if_neg (by simp), if_pos (by omega), if_pos (by omega), if_pos (by omega), if_pos (by omega), rdn ks j hjl, rdn x0 i hi, if_neg (fun e => he ((eqL _ _).1 e)), if_pos (by omega), nx]
        exact hK
    | false =>
      replace hn : next.length + (m + 1) + 1 < 8796093022208 := hn
      by_cases hle : lt ks[j] x0[i] = false
      · have hle' : (!(Op.bytesLess (ks[j]).toList (x0[i]).toList)) = true := by rw [show Op.bytesLess (ks[j]).toList (x0[i]).toList = false from hle]; rfl
        rw [if_pos ⟨rfl, hle⟩, show (false || !lt ks[j] x0[i]) = true by simp [hle]] at hr
        by_cases he : ks[j] = x0[i]
        · rw [if_pos he, List.nil_append, ← List.append_assoc] at hr
          obtain ⟨K, hK⟩ := keys_inner x0 ks i hi h0 hks r m (j + 1) (next ++ [x0[i]]) true (by omega) (by simp; omega) hr
          refine ⟨K + 2, ?_⟩
          rw [colonnaderef09_TextKeys.l1, if_pos (by omega), if_neg (by simp), if_pos (by omega), if_pos (by omega), if_pos (by omega), colonnaderef09_TextKeys.j2, rdn ks j hjl, rdn x0 i hi, if_pos hle', if_pos (by omega), if_pos (by omega), if_pos (by omega), Option.bind_some, if_pos (by omega), if_pos (by omega), if_pos ((eqL _ _).2 he), nx]
          exact hK
        · rw [if_neg he, ← List.append_assoc, ← List.append_assoc] at hr
          obtain ⟨K, hK⟩ := keys_inner x0 ks i hi h0 hks r m (j + 1) (next ++ [x0[i]] ++ [ks[j]]) true (by omega) (by simp; omega) hr
          refine ⟨K + 2, ?_⟩
          rw [colonnaderef09_TextKeys.l1, if_pos (by omega), if_neg (by simp), if_pos (by omega), if_pos (by omega), if_pos (by omega), colonnaderef09_TextKeys.j2, rdn ks j hjl, rdn x0 i hi, if_pos hle', if_pos (by omega), if_pos (by omega), if_pos (by omega), Option.bind_some, if_pos (by omega), if_pos (by omega), if_neg (fun e => he ((eqL _ _).1 e)), if_pos (by simp; omega), nx]
          exact hK
      · have hlt : lt ks[j] x0[i] = true := by simpa using hle
        have hle' : ¬ (!(Op.bytesLess (ks[j]).toList (x0[i]).toList)) = true := by rw [show Op.bytesLess (ks[j]).toList (x0[i]).toList = true from hlt]; simp
        rw [if_neg (by simp [hlt]), List.nil_append, show (false || !lt ks[j] x0[i]) = false by simp [hlt]] at hr
        have he : ¬ ks[j] = x0[i] := XMapS.lt_ne hlt
        rw [if_neg he, ← List.append_assoc] at hr
        obtain ⟨K, hK⟩ := keys_inner x0 ks i hi h0 hks r m (j + 1) (next ++ [ks[j]]) false (by omega) (by simp; omega) hr
        refine ⟨K + 2, ?_⟩
        rw [colonnaderef09_TextKeys.l1, if_pos (by omega), if_neg (by simp), if_pos (by omega), if_pos (by omega), if_pos (by omega), colonnaderef09_TextKeys.j2, rdn ks j hjl, rdn x0 i hi, if_neg hle', if_pos (by omega), if_pos (by omega), if_pos (by omega), if_pos (by omega), if_neg (fun e => he ((eqL _ _).1 e)), if_pos (by omega), nx]
        exact hK
theorem keys_outer (x0 : List ByteArray) (h0 : x0.length < 8796093022208) : ∀ m i (ks : List ByteArray), i + m = x0.length → XMapS.Rising ks → ks.length ≤ i → ∃ K, colonnaderef09_TextKeys.l0 K x0 ks (i : Int) = some ((x0.drop i).foldl (fun ks x => XMapS.ins x ks) ks)
  | 0, i, ks, hi, _, _ => ⟨1, by rw [colonnaderef09_TextKeys.l0, if_neg (by omega), List.drop_eq_nil_of_le (by omega)]; rfl⟩
  | m + 1, i, ks, hi, hr, hl => by
    have hil : i < x0.length := by omega
    have hlen := XMapS.ins_length x0[i] ks
    obtain ⟨K, hK⟩ := keys_outer x0 h0 m (i + 1) (XMapS.ins x0[i] ks) (by omega) (XMapS.rising_ins _ _ hr) (by omega)
    obtain ⟨K1, hK1⟩ := keys_inner x0 ks i hil (by omega) (by omega) _ ks.length 0 [] false (by omega) (by simp; omega) ⟨K, by rw [List.drop_zero, List.nil_append, put_ins _ _ hr]; exact hK⟩
    refine ⟨K1 + 1, ?_⟩
    rw [colonnaderef09_TextKeys.l0, if_pos (by omega)]
    rw [List.drop_eq_getElem_cons hil, List.foldl_cons]
    exact hK1
theorem keys_f (x0 : List ByteArray) (h0 : x0.length < 8796093022208) : ∃ K, colonnaderef09_TextKeys.f K x0 = some (XMapS.keysOf x0) := by
  have h := keys_outer x0 h0 x0.length 0 [] (by omega) .nil (by simp)
  rw [List.drop_zero] at h
  exact h
end Tx
namespace Tx
open XMapS (lt)
theorem less_str (a b : ByteArray) : cmp_Less_string.f a b = some (lt a b) := by
  unfold cmp_Less_string.f cmp_isNaN_string.f lt
  simp
theorem nan_str (a : ByteArray) : slices_isNaN_string.f a = some false := by
  unfold slices_isNaN_string.f
  simp
theorem below_split (ks : List ByteArray) (v : ByteArray) (i : Nat) (hi : i ≤ ks.length) (h1 : ∀ j (h : j < ks.length), j < i → lt ks[j] v = true) (h2 : ∀ j (h : j < ks.length), i ≤ j → lt ks[j] v = false) : below ks v = i := by
  have e1 : (ks.take i).filter (fun y => lt y v) = ks.take i := by
    rw [List.filter_eq_self]
    intro x hx
    obtain ⟨j, hj, rfl⟩ := List.getElem_of_mem hx
    have hj' : j < i ∧ j < ks.length := by rw [List.length_take] at hj; omega
    rw [List.getElem_take]
    exact h1 j hj'.2 hj'.1
  have e2 : (ks.drop i).filter (fun y => lt y v) = [] := by
    rw [List.filter_eq_nil_iff]
    intro x hx
    obtain ⟨j, hj, rfl⟩ := List.getElem_of_mem hx
    have hj' : i + j < ks.length := by rw [List.length_drop] at hj; omega
    rw [List.getElem_drop]
    rw [h2 (i + j) hj' (by omega)]; simp
  unfold below
  conv => lhs; rw [← List.take_append_drop i ks]
  rw [List.filter_append, e1, e2, List.append_nil, List.length_take]
  omega
theorem mem_split (ks : List ByteArray) (v : ByteArray) (i : Nat) (hr : XMapS.Rising ks) (h1 : ∀ j (h : j < ks.length), j < i → lt ks[j] v = true) (h2 : ∀ j (h : j < ks.length), i ≤ j → lt ks[j] v = false) : v ∈ ks ↔ ∃ h : i < ks.length, ks[i] = v := by
  constructor
  · intro hv
    obtain ⟨j, hj, he⟩ := List.getElem_of_mem hv
    have hp := List.pairwise_iff_getElem.1 hr
    rcases Nat.lt_trichotomy j i with h | h | h
    · have := h1 j hj h; rw [he, XMapS.lt_irrefl] at this; cases this
    · subst h; exact ⟨hj, he⟩
    · have hil : i < ks.length := by omega
      have a := hp i j hil hj h
      have b := h2 i hil (Nat.le_refl _)
      rw [he, b] at a; cases a
  · rintro ⟨h, rfl⟩
    exact List.getElem_mem h
theorem bs_loop (ks : List ByteArray) (v : ByteArray) (hr : XMapS.Rising ks) (hn : ks.length < 4611686018427387904) : ∀ m (lo hi : Nat), hi ≤ lo + m → lo ≤ hi → hi ≤ ks.length → (∀ j (h : j < ks.length), j < lo → lt ks[j] v = true) → (∀ j (h : j < ks.length), hi ≤ j → lt ks[j] v = false) →
    ∃ K, slices_BinarySearch_string_string.l0 K ks v (ks.length : Int) (lo : Int) (hi : Int) = some (((below ks v : Nat) : Int), decide (v ∈ ks))
  | 0, lo, hi, hm, hle, hh, h1, h2 => by
    obtain rfl : lo = hi := by omega
    have hb := below_split ks v lo hh h1 h2
    have hm := mem_split ks v lo hr h1 h2
    refine ⟨1, ?_⟩
    rw [slices_BinarySearch_string_string.l0, if_neg (by omega), hb]
    by_cases hl : lo < ks.length
    · rw [if_pos (by omega), if_pos (by omega), if_pos (by omega), rdn ks lo hl]
      by_cases he : ks[lo] = v
      · rw [if_pos ((eqL _ _).2 he), decide_eq_true (hm.2 ⟨hl, he⟩)]
      · rw [if_neg (fun e => he ((eqL _ _).1 e)), nan_str, Option.bind_some, if_neg (by simp), decide_eq_false (fun h => he (hm.1 h).2)]
    · rw [if_neg (by omega), decide_eq_false (fun h => hl (hm.1 h).1)]
  | m + 1, lo, hi, hm, hle, hh, h1, h2 => by
    by_cases hlt : lo < hi
    · obtain ⟨h, hhe⟩ : ∃ h, h = (lo + hi) / 2 := ⟨_, rfl⟩
      have hw : wrap64 ((IntKind.u64.wrap (wrap64 ((lo : Int) + (hi : Int)))) / 2) = (h : Int) := by rw [IntKind.wrap_u64]; unfold wrap64; omega
      have hw1 : wrap64 ((h : Int) + 1) = ((h + 1 : Nat) : Int) := wr1 h (by omega)
      have hhl : h < ks.length := by omega
      have hp := List.pairwise_iff_getElem.1 hr
      by_cases hc : lt ks[h] v = true
      · obtain ⟨K, hK⟩ := bs_loop ks v hr hn m (h + 1) hi (by omega) (by omega) hh (fun j hj hjl => by
          by_cases e : j = h
          · subst e; exact hc
          · exact XMapS.lt_trans (hp j h hj hhl (by omega)) hc) h2
        refine ⟨K + 1, ?_⟩
        rw [slices_BinarySearch_string_string.l0, if_pos (by omega), hw, if_pos (by omega), if_pos (by omega), rdn ks h hhl, less_str, Option.bind_some, if_pos hc, hw1]
        exact hK
      · obtain ⟨K, hK⟩ := bs_loop ks v hr hn m lo h (by omega) (by omega) (by omega) h1 (fun j hj hjl => by
          by_cases e : j = h
          · subst e; simpa using hc
          · cases e3 : lt ks[j] v with
            | false => rfl
            | true => exact absurd (XMapS.lt_trans (hp h j hhl hj (by omega)) e3) hc)
        refine ⟨K + 1, ?_⟩
        rw [slices_BinarySearch_string_string.l0, if_pos (by omega), hw, if_pos (by omega), if_pos (by omega), rdn ks h hhl, less_str, Option.bind_some, if_neg hc]
        exact hK
    · obtain rfl : lo = hi := by omega
      exact bs_loop ks v hr hn m lo lo (by omega) (by omega) hh h1 h2
theorem search_f (ks : List ByteArray) (v : ByteArray) (hr : XMapS.Rising ks) (hn : ks.length < 4611686018427387904) : ∃ K, slices_BinarySearch_string_string.f K ks v = some (((below ks v : Nat) : Int), decide (v ∈ ks)) :=
  bs_loop ks v hr hn ks.length 0 ks.length (by omega) (by omega) (by omega) (fun j _ h => by omega) (fun j h h' => by omega)
theorem floor_f (ks : List ByteArray) (v : ByteArray) (hr : XMapS.Rising ks) (hn : ks.length < 4611686018427387904) : ∃ K, dict_Floor_string.f K ks v = some ((below ks v : Nat) : Int) := by
  obtain ⟨K, h⟩ := search_f ks v hr hn
  exact ⟨K, by unfold dict_Floor_string.f; rw [h]; rfl⟩
/-- of any list: a number in its bounds -/
theorem bs_any (ks : List ByteArray) (v : ByteArray) (hn : ks.length < 4611686018427387904) : ∀ m (lo hi : Nat), hi ≤ lo + m → lo ≤ hi → hi ≤ ks.length →
    ∃ K i b, slices_BinarySearch_string_string.l0 K ks v (ks.length : Int) (lo : Int) (hi : Int) = some (((i : Nat) : Int), b) ∧ i ≤ ks.length
  | 0, lo, hi, hm, hle, hh => by
    obtain rfl : lo = hi := by omega
    by_cases hl : lo < ks.length
    · by_cases he : ks[lo] = v
      · refine ⟨1, lo, true, ?_, hh⟩
        rw [slices_BinarySearch_string_string.l0, if_neg (by omega), if_pos (by omega), if_pos (by omega), if_pos (by omega), rdn ks lo hl, if_pos ((eqL _ _).2 he)]
      · refine ⟨1, lo, false, ?_, hh⟩
        rw [slices_BinarySearch_string_string.l0, if_neg (by omega), if_pos (by omega), if_pos (by omega), if_pos (by omega), rdn ks lo hl, if_neg (fun e => he ((eqL _ _).1 e)), nan_str, Option.bind_some, if_neg (by simp)]
    · refine ⟨1, lo, false, ?_, hh⟩
      rw [slices_BinarySearch_string_string.l0, if_neg (by omega), if_neg (by omega)]
  | m + 1, lo, hi, hm, hle, hh => by
    by_cases hlt : lo < hi
    · obtain ⟨h, hhe⟩ : ∃ h, h = (lo + hi) / 2 := ⟨_, rfl⟩
      have hw : wrap64 ((IntKind.u64.wrap (wrap64 ((lo : Int) + (hi : Int)))) / 2) = (h : Int) := by rw [IntKind.wrap_u64]; unfold wrap64; omega
      have hw1 : wrap64 ((h : Int) + 1) = ((h + 1 : Nat) : Int) := wr1 h (by omega)
      have hhl : h < ks.length := by omega
      by_cases hc : lt ks[h] v = true
      · obtain ⟨K, i, b, hK, hi'⟩ := bs_any ks v hn m (h + 1) hi (by omega) (by omega) hh
        refine ⟨K + 1, i, b, ?_, hi'⟩
        rw [slices_BinarySearch_string_string.l0, if_pos (by omega), hw, if_pos (by omega), if_pos (by omega), rdn ks h hhl, less_str, Option.bind_some, if_pos hc, hw1]
        exact hK
      · obtain ⟨K, i, b, hK, hi'⟩ := bs_any ks v hn m lo h (by omega) (by omega) (by omega)
        refine ⟨K + 1, i, b, ?_, hi'⟩
        rw [slices_BinarySearch_string_string.l0, if_pos (by omega), hw, if_pos (by omega), if_pos (by omega), rdn ks h hhl, less_str, Option.bind_some, if_neg hc]
        exact hK
    · exact bs_any ks v hn m lo hi (by omega) (by omega) hh
theorem floor_any (ks : List ByteArray) (v : ByteArray) (hn : ks.length < 4611686018427387904) : ∃ K i, dict_Floor_string.f K ks v = some ((i : Nat) : Int) ∧ i ≤ ks.length := by
  obtain ⟨K, i, b, h, hi⟩ := bs_any ks v hn ks.length 0 ks.length (by omega) (by omega) (by omega)
  exact ⟨K, i, by unfold dict_Floor_string.f slices_BinarySearch_string_string.f; rw [show ((0 : Nat) : Int) = 0 from rfl] at h; rw [h]; rfl, hi⟩
end Tx
namespace Tx
open XMapS (lt)
theorem find_f (ks : List ByteArray) (v : ByteArray) (hr : XMapS.Rising ks) (hn : ks.length < 4611686018427387904) : ∃ K, dict_Find_string.f K ks v = some (if v ∈ ks then ((below ks v : Nat) : Int) else 0, decide (v ∈ ks)) := by
  obtain ⟨K, h⟩ := search_f ks v hr hn
  refine ⟨K, ?_⟩
  unfold dict_Find_string.f
  rw [h]
  by_cases hv : v ∈ ks
  · simp [hv]
  · simp [hv]
end Tx
theorem ints_f (l : List Int) (h : l.length < 17592186044416) : colonnadelaw09_ints.f l = some l := by
  unfold colonnadelaw09_ints.f
  rw [if_pos (by simpa using h)]; rfl
theorem texts_f (l : List ByteArray) (h : l.length < 8796093022208) : colonnadelaw09_texts.f l = some l := by
  unfold colonnadelaw09_texts.f
  rw [if_pos (by simpa using h)]; rfl
theorem l1_end (m : List ByteArray) (t : ByteArray) (hm : m.length < 8796093022208) (ht : t ∈ XMapS.keysOf m ↔ 0 < m.length) : ∃ K, colonnadelaw09_DictFloors.l1 K m ((Tx.below (XMapS.keysOf m) t : Nat) : Int) t (XMapS.keysOf m) ((XMapS.keysOf m).length : Int) = some true := by
  have hkl := XMapS.keysOf_length m
  have hs := XMapS.keysOf_spec m
  obtain ⟨K1, h1⟩ := Tx.find_f (XMapS.keysOf m) t hs.1 (by omega)
  obtain ⟨K2, h2⟩ := Tx.floor_f (XMapS.keysOf m) t hs.1 (by omega)
  refine ⟨K1 + K2 + 1, ?_⟩
  rw [colonnadelaw09_DictFloors.l1, if_neg (by omega), texts_f _ (by omega), Option.bind_some, at_rounds (dict_Find_string.mono _ _) (show K1 ≤ K1 + K2 by omega) h1, Option.bind_some, Option.bind_some, at_rounds (dict_Floor_string.mono _ _) (show K2 ≤ K1 + K2 by omega) h2, Option.bind_some, if_pos rfl]
  by_cases h : 0 < m.length
  · have := ht.2 h
    simp [this, h]
  · have h' : ¬ t ∈ XMapS.keysOf m := fun e => h (ht.1 e)
    have : m.length = 0 := by omega
    simp [h', this]
theorem l1_loop (m : List ByteArray) (t : ByteArray) (ks : List ByteArray) (hk : ks.length < 8796093022208) : ∀ d j (n : Nat), j + d = ks.length → n ≤ j → (∃ K, colonnadelaw09_DictFloors.l1 K m ((n + Tx.below (ks.drop j) t : Nat) : Int) t ks (ks.length : Int) = some true) → ∃ K, colonnadelaw09_DictFloors.l1 K m (n : Int) t ks (j : Int) = some true
  | 0, j, n, hj, hn, h => by
    rw [List.drop_eq_nil_of_le (by omega)] at h
    obtain rfl : j = ks.length := by omega
    simpa [Tx.below] using h
  | d + 1, j, n, hj, hn, h => by
    have hjl : j < ks.length := by omega
    have nx := wr1 j (by omega)
    have nn := wr1 n (by omega)
    rw [List.drop_eq_getElem_cons hjl] at h
    by_cases hlt : XMapS.lt ks[j] t = true
    · rw [show n + Tx.below (ks[j] :: ks.drop (j + 1)) t = (n + 1) + Tx.below (ks.drop (j + 1)) t by rw [Tx.below_cons, if_pos hlt]; omega] at h
      obtain ⟨K, hK⟩ := l1_loop m t ks hk d (j + 1) (n + 1) (by omega) (by omega) h
      refine ⟨K + 1, ?_⟩
      rw [colonnadelaw09_DictFloors.l1, if_pos (by omega), if_pos (by omega), Tx.rdn ks j hjl, if_pos (show Op.bytesLess (ks[j]).toList t.toList = true from hlt), nx, nn]
      exact hK
    · rw [show n + Tx.below (ks[j] :: ks.drop (j + 1)) t = n + Tx.below (ks.drop (j + 1)) t by rw [Tx.below_cons, if_neg hlt]; omega] at h
      obtain ⟨K, hK⟩ := l1_loop m t ks hk d (j + 1) n (by omega) (by omega) h
      refine ⟨K + 1, ?_⟩
      rw [colonnadelaw09_DictFloors.l1, if_pos (by omega), if_pos (by omega), Tx.rdn ks j hjl, if_neg (show ¬ Op.bytesLess (ks[j]).toList t.toList = true from hlt), nx]
      exact hK
theorem j4_ok (m : List ByteArray) (t : ByteArray) (hm : m.length < 8796093022208) (ht : t ∈ XMapS.keysOf m ↔ 0 < m.length) : ∃ K, colonnadelaw09_DictFloors.j4 K m t = some true := by
  have hkl := XMapS.keysOf_length m
  obtain ⟨K1, h1⟩ := Tx.keys_f m hm
  obtain ⟨K2, h2⟩ := l1_loop m t (XMapS.keysOf m) (by omega) (XMapS.keysOf m).length 0 0 (by omega) (by omega) (by
    rw [List.drop_zero, Nat.zero_add]; exact l1_end m t hm ht)
  refine ⟨K1 + K2 + 1, ?_⟩
  have hmono : ∀ k, LeO (colonnadelaw09_DictFloors.l1 k m ((0 : Nat) : Int) t (XMapS.keysOf m) ((0 : Nat) : Int)) (colonnadelaw09_DictFloors.l1 (k + 1) m ((0 : Nat) : Int) t (XMapS.keysOf m) ((0 : Nat) : Int)) := fun k => (colonnadelaw09_DictFloors.mono_l k).2.2.2.2.2 _ _ _ _ _
  rw [colonnadelaw09_DictFloors.j4, at_rounds (colonnaderef09_TextKeys.mono _) (show K1 ≤ K1 + K2 by omega) h1, Option.bind_some]
  exact at_rounds hmono (show K2 ≤ K1 + K2 by omega) h2
theorem j3_ok (m : List ByteArray) (hm : m.length < 8796093022208) : ∃ K, colonnadelaw09_DictFloors.j3 K m false = some true := by
  have hs := XMapS.keysOf_spec m
  by_cases h : 0 < m.length
  · have hl : m.length - 1 < m.length := by omega
    obtain ⟨K, hK⟩ := j4_ok m (m[m.length - 1]) hm ⟨fun _ => h, fun _ => (hs.2 _).2 (List.getElem_mem hl)⟩
    refine ⟨K + 1, ?_⟩
    have hw : wrap64 ((m.length : Int) - 1) = ((m.length - 1 : Nat) : Int) := by unfold wrap64; omega
    rw [colonnadelaw09_DictFloors.j3, if_neg (by simp), if_pos (by omega), hw, if_pos (by omega), if_pos (by omega), Tx.rdn m _ hl]
    exact hK
  · obtain rfl : m = [] := List.eq_nil_of_length_eq_zero (by omega)
    obtain ⟨K, hK⟩ := j4_ok [] ⟨#[]⟩ (by simp) (by simp [XMapS.keysOf])
    refine ⟨K + 1, ?_⟩
    rw [colonnadelaw09_DictFloors.j3, if_neg (by simp), if_neg (by simp)]
    exact hK
theorem j2_ok (l : List Int) (v : Int) (m : List ByteArray) (hl : l.length < 17592186044416) (hm : m.length < 8796093022208) : ∃ K, colonnadelaw09_DictFloors.j2 K l v m false = some true := by
  obtain ⟨K1, i, h1, hi⟩ := floor_any l v (by omega)
  obtain ⟨K2, h2⟩ := j3_ok m hm
  refine ⟨K1 + K2 + 1, ?_⟩
  have hmono : ∀ k, LeO (colonnadelaw09_DictFloors.j3 k m false) (colonnadelaw09_DictFloors.j3 (k + 1) m false) := fun k => (colonnadelaw09_DictFloors.mono_l k).2.2.2.1 _ _
  rw [colonnadelaw09_DictFloors.j2, if_neg (by simp), ints_f l hl, Option.bind_some, at_rounds (dict_Floor_int64.mono _ _) (show K1 ≤ K1 + K2 by omega) h1, Option.bind_some, if_neg (by omega), show decide ((i : Int) > (l.length : Int)) = false from decide_eq_false (by omega)]
  exact at_rounds hmono (show K2 ≤ K1 + K2 by omega) h2
theorem j1_ok (l : List Int) (v : Int) (m : List ByteArray) (ks : List Int) (hr : XMap.Rising ks) (hk : ks.length < 17592186044416) (hl : l.length < 17592186044416) (hm : m.length < 8796093022208) : ∃ K, colonnadelaw09_DictFloors.j1 K l v m ks ((below ks v : Nat) : Int) (decide (v ∈ ks)) = some true := by
  obtain ⟨K1, h1⟩ := find_f ks v hr (by omega)
  obtain ⟨K2, h2⟩ := floor_f ks v hr (by omega)
  obtain ⟨K3, h3⟩ := j2_ok l v m hl hm
  refine ⟨K1 + K2 + K3 + 1, ?_⟩
  have hmono : ∀ k, LeO (colonnadelaw09_DictFloors.j2 k l v m false) (colonnadelaw09_DictFloors.j2 (k + 1) l v m false) := fun k => (colonnadelaw09_DictFloors.mono_l k).2.2.1 _ _ _ _
  have h3' := at_rounds hmono (show K3 ≤ K1 + K2 + K3 by omega) h3
  rw [colonnadelaw09_DictFloors.j1, ints_f ks (by omega), Option.bind_some, at_rounds (dict_Find_int64.mono _ _) (show K1 ≤ K1 + K2 + K3 by omega) h1, Option.bind_some, Option.bind_some, at_rounds (dict_Floor_int64.mono _ _) (show K2 ≤ K1 + K2 + K3 by omega) h2, Option.bind_some, if_pos rfl]
  by_cases hv : v ∈ ks
  · simp [hv, h3']
  · simp [hv, h3']
theorem l0_end (l : List Int) (v : Int) (m : List ByteArray) (ks : List Int) (hr : XMap.Rising ks) (hk : ks.length < 17592186044416) (hl : l.length < 17592186044416) (hm : m.length < 8796093022208) : ∃ K, colonnadelaw09_DictFloors.l0 K l v m ks ((below ks v : Nat) : Int) (ks.length : Int) = some true := by
  obtain ⟨K, hK⟩ := j1_ok l v m ks hr hk hl hm
  refine ⟨K + 1, ?_⟩
  have hb : below ks v ≤ ks.length := List.length_filter_le _ _
  rw [colonnadelaw09_DictFloors.l0, if_neg (by omega)]
  have hbelow : ∀ j (h : j < ks.length), ks[j] < v ↔ j < below ks v := fun j h => by
    have hp := List.pairwise_iff_getElem.1 hr
    have hi : below ks ks[j] = j := below_split ks ks[j] j (Nat.le_of_lt h) (fun i hi hij => hp i j hi h hij) (fun i hi hij => by
      by_cases e : i = j
      · subst e; omega
      · have := hp j i h hi (by omega); omega)
    constructor
    · intro hlt
      by_cases hjb : j < below ks v
      · exact hjb
      · exfalso
        have e1 : below ks v = below ks v := rfl
        have hsp := below_split ks v (below ks v) hb
        have hc : (ks.filter fun y => decide (y < v)).length ≥ j + 1 := by
          have e : (ks.take (j + 1)).filter (fun y => decide (y < v)) = ks.take (j + 1) := by
            rw [List.filter_eq_self]
            intro x hx
            obtain ⟨i, hi', rfl⟩ := List.getElem_of_mem hx
            rw [List.length_take] at hi'
            rw [List.getElem_take]
            by_cases e : i = j
            · subst e; exact decide_eq_true hlt
            · exact decide_eq_true (by have := hp i j (by omega) h (by omega); omega)
          have hsub : ((ks.take (j + 1)).filter fun y => decide (y < v)).length ≤ (ks.filter fun y => decide (y < v)).length := (List.Sublist.filter _ (List.take_sublist _ _)).length_le
          rw [e, List.length_take] at hsub
          omega
        unfold below at hjb
        omega
    · intro hlt
      by_cases hv : ks[j] < v
      · exact hv
      · exfalso
        have hc : (ks.filter fun y => decide (y < v)).length ≤ j := by
          conv => lhs; rw [← List.take_append_drop j ks]
          have e : (ks.drop j).filter (fun y => decide (y < v)) = [] := by
            rw [List.filter_eq_nil_iff]
            intro x hx
            obtain ⟨i, hi', rfl⟩ := List.getElem_of_mem hx
            rw [List.length_drop] at hi'
            rw [List.getElem_drop]
            by_cases e : i = 0
            · subst e; simpa using hv
            · have := hp j (j + i) h (by omega) (by omega); simp; omega
          rw [List.filter_append, e, List.append_nil]
          have := List.length_filter_le (fun y => decide (y < v)) (ks.take j)
          rw [List.length_take] at this
          omega
        unfold below at hlt
        omega
  have hin : ∀ h : below ks v < ks.length, (ks[below ks v] == v) = decide (v ∈ ks) := fun h => by
    have hm' := mem_split ks v (below ks v) hr (fun j hj hjb => (hbelow j hj).2 hjb) (fun j hj hjb => fun e => by have := (hbelow j hj).1 e; omega)
    rw [Bool.eq_iff_iff]
    constructor
    · intro e; exact decide_eq_true (hm'.2 ⟨h, by simpa using e⟩)
    · intro e; simpa using (hm'.1 (of_decide_eq_true e)).2
  by_cases h : below ks v < ks.length
  · rw [if_pos (by omega), if_pos (by omega), rdn ks _ h, hin h]
    exact hK
  · have hm' := mem_split ks v (below ks v) hr (fun j hj hjb => (hbelow j hj).2 hjb) (fun j hj hjb => fun e => by have := (hbelow j hj).1 e; omega)
    rw [if_neg (by omega)]
    rw [decide_eq_false (fun e => h (hm'.1 e).1)] at hK
    exact hK
theorem l0_loop (l : List Int) (v : Int) (m : List ByteArray) (ks : List Int) (hk : ks.length < 17592186044416) : ∀ d j (n : Nat), j + d = ks.length → n ≤ j → (∃ K, colonnadelaw09_DictFloors.l0 K l v m ks ((n + below (ks.drop j) v : Nat) : Int) (ks.length : Int) = some true) → ∃ K, colonnadelaw09_DictFloors.l0 K l v m ks (n : Int) (j : Int) = some true
  | 0, j, n, hj, hn, h => by
    rw [List.drop_eq_nil_of_le (by omega)] at h
    obtain rfl : j = ks.length := by omega
    simpa [below] using h
  | d + 1, j, n, hj, hn, h => by
    have hjl : j < ks.length := by omega
    have nx := wr1 j (by omega)
    have nn := wr1 n (by omega)
    rw [List.drop_eq_getElem_cons hjl] at h
    by_cases hlt : ks[j] < v
    · rw [show n + below (ks[j] :: ks.drop (j + 1)) v = (n + 1) + below (ks.drop (j + 1)) v by rw [below_cons, if_pos hlt]; omega] at h
      obtain ⟨K, hK⟩ := l0_loop l v m ks hk d (j + 1) (n + 1) (by omega) (by omega) h
      refine ⟨K + 1, ?_⟩
      rw [colonnadelaw09_DictFloors.l0, if_pos (by omega), if_pos (by omega), rdn ks j hjl, if_pos hlt, nx, nn]
      exact hK
    · rw [show n + below (ks[j] :: ks.drop (j + 1)) v = n + below (ks.drop (j + 1)) v by rw [below_cons, if_neg hlt]; omega] at h
      obtain ⟨K, hK⟩ := l0_loop l v m ks hk d (j + 1) n (by omega) (by omega) h
      refine ⟨K + 1, ?_⟩
      rw [colonnadelaw09_DictFloors.l0, if_pos (by omega), if_pos (by omega), rdn ks j hjl, if_neg hlt, nx]
      exact hK
end DictFloorsP
open DictFloorsP in
theorem DictFloors : colonnadelaw09_DictFloors.PureX := by
  intro l v m hw hv hwm hl8 hm16
  have hl : l.length < 17592186044416 := by omega
  have hm : m.length < 8796093022208 := by omega
  have hkl := XMap.keysOf_length l
  have hs := XMap.keysOf_spec l
  obtain ⟨K1, h1⟩ := keys_f l (by omega)
  obtain ⟨K2, h2⟩ := l0_loop l v m (XMap.keysOf l) (by omega) (XMap.keysOf l).length 0 0 (by omega) (by omega) (by
    rw [List.drop_zero, Nat.zero_add]; exact l0_end l v m _ hs.1 (by omega) (by omega) (by omega))
  refine ⟨K1 + K2, ?_⟩
  have hmono : ∀ k, LeO (colonnadelaw09_DictFloors.l0 k l v m (XMap.keysOf l) ((0 : Nat) : Int) ((0 : Nat) : Int)) (colonnadelaw09_DictFloors.l0 (k + 1) l v m (XMap.keysOf l) ((0 : Nat) : Int) ((0 : Nat) : Int)) := fun k => (colonnadelaw09_DictFloors.mono_l k).1 _ _ _ _ _ _
  unfold colonnadelaw09_DictFloors.f colonnadelaw09_known.f
  rw [Option.bind_some, if_pos rfl, at_rounds (colonnaderef09_Keys.mono _) (show K1 ≤ K1 + K2 by omega) h1, Option.bind_some]
  exact at_rounds hmono (show K2 ≤ K1 + K2 by omega) h2
end Go.Proofs.Ytlpllhpnnhablaa.Pure
