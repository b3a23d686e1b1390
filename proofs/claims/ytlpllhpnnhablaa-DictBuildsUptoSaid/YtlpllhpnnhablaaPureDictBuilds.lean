/- dict.Build of any Ints: the keys, rising, each once, and of each Int how many keys are below it. Of lists of at most 1048576 elements. -/
import Derived.Test.YtlpllhpnnhablaaPDictBuildsx8
namespace Go.Proofs.Ytlpllhpnnhablaa.Pure
open Go.RowKit Go.Proofs.Ytlpllhpnnhablaa.PDictBuilds Go.Proofs.YtlpllhpnnhablaaW.PrintWords Go.Proofs.YtlpllhpnnhablaaW.PrintLast
set_option linter.unusedVariables false
set_option linter.unusedSimpArgs false
def colonnadelaw09_DictBuilds.PureU : Prop := ∀ (l0 : List Int), (l0.length ≤ maxLen ∧ ∀ y_ ∈ l0, (Lit.int .i64 y_).wf = true) → ((l0.map (fun z_ => 1)).sum + 1) ≤ 1048576 → ∃ k, colonnadelaw09_DictBuilds.f k l0 = some true
namespace DictBuildsP
theorem rdn (l : List Int) (i : Nat) (h : i < l.length) : rd l (i : Int) = l[i] := by simp [rd, h]
theorem wr1 (i : Nat) (h : i < 9223372036854775807) : wrap64 ((i : Int) + 1) = ((i + 1 : Nat) : Int) := by unfold wrap64; omega
/-- what one round of the reference makes of the keys -/
def put (x : Int) : Bool → List Int → List Int
  | d, [] => if d then [] else [x]
  | d, y :: r => (if d = false ∧ x ≤ y then [x] else []) ++ ((if y = x then [] else [y]) ++ put x (d || decide (x ≤ y)) r)
theorem put_true (x : Int) : ∀ l : List Int, (∀ y ∈ l, x < y) → put x true l = l
  | [], _ => by simp [put]
  | y :: r, h => by
    have h1 := h y (by simp)
    rw [put, if_neg (by simp), if_neg (by omega)]
    simp [put_true x r (fun z hz => h z (by simp [hz]))]
theorem put_ins (x : Int) : ∀ l : List Int, XMap.Rising l → put x false l = XMap.ins x l
  | [], _ => by simp [put, XMap.ins]
  | y :: r, h => by
    have hp := List.pairwise_cons.1 h
    rw [put, XMap.ins]
    by_cases h1 : x < y
    · rw [if_pos ⟨rfl, by omega⟩, if_neg (by omega), if_pos h1, show (false || decide (x ≤ y)) = true by simp; omega, put_true x r (fun z hz => by have := hp.1 z hz; omega)]; rfl
    · by_cases h2 : x = y
      · subst h2
        rw [if_pos ⟨rfl, by omega⟩, if_pos rfl, if_neg h1, if_pos rfl, show (false || decide (x ≤ x)) = true by simp, put_true x r (fun z hz => hp.1 z hz)]; rfl
      · rw [if_neg (by omega), if_neg (fun e => h2 e.symm), if_neg h1, if_neg h2, show (false || decide (x ≤ y)) = false by simp; omega, put_ins x r hp.2]; rfl
theorem keys_inner (x0 ks : List Int) (i : Nat) (hi : i < x0.length) (h0 : x0.length < 9223372036854775807) (hks : ks.length < 9223372036854775807) (r : List Int) : ∀ m j (next : List Int) (d : Bool), j + m = ks.length → next.length + 2 * m + 1 < 17592186044416 →
    (∃ K, colonnaderef09_Keys.l0 K x0 (next ++ put x0[i] d (ks.drop j)) ((i + 1 : Nat) : Int) = some r) → ∃ K, colonnaderef09_Keys.l1 K x0 ks (i : Int) next d (j : Int) = some r
  | 0, j, next, d, hj, hn, ⟨K, hK⟩ => by
    rw [List.drop_eq_nil_of_le (by omega), put] at hK
    refine ⟨K + 1, ?_⟩
    rw [colonnaderef09_Keys.l1, if_neg (by omega)]
    cases d with
    | true => rw [if_pos rfl, wr1 i (by omega)]; simpa using hK
    | false => rw [if_neg (by simp), if_pos (by omega), if_pos (by omega), if_pos (by omega), wr1 i (by omega), rdn x0 i hi]; simpa using hK
  | m + 1, j, next, d, hj, hn, hr => by
    have hjl : j < ks.length := by omega
    rw [List.drop_eq_getElem_cons hjl, put] at hr
    have nx := wr1 j (by omega : j < 9223372036854775807)
    cases d with
    | true =>
      rw [if_neg (by simp), List.nil_append, Bool.true_or] at hr
      by_cases he : ks[j] = x0[i]
      · rw [if_pos he, List.nil_append] at hr
        obtain ⟨K, hK⟩ := keys_inner x0 ks i hi h0 hks r m (j + 1) next true (by omega) (by omega) hr
        refine ⟨K + 2, ?_⟩
        rw [colonnaderef09_Keys.l1, if_pos (by omega), if_pos rfl, colonnaderef09_Keys.j2, if_neg (by simp), if_pos (by omega), if_pos (by omega), if_pos (by omega), if_pos (by omega), rdn ks j hjl, rdn x0 i hi, if_pos he, nx]
        exact hK
      · rw [if_neg he, ← List.append_assoc] at hr
        obtain ⟨K, hK⟩ := keys_inner x0 ks i hi h0 hks r m (j + 1) (next ++ [ks[j]]) true (by omega) (by simp; omega) hr
        refine ⟨K + 2, ?_⟩
        rw [colonnaderef09_Keys.l1, if_pos (by omega), if_pos rfl, colonnaderef09_Keys.j2, if_neg (by simp), if_pos (by omega), if_pos (by omega), if_pos (by omega), if_pos (by omega), rdn ks j hjl, rdn x0 i hi, if_neg he, if_pos (by omega), nx]
        exact hK
    | false =>
      by_cases hle : x0[i] ≤ ks[j]
      · rw [if_pos ⟨rfl, hle⟩, show (false || decide (x0[i] ≤ ks[j])) = true by simp [hle]] at hr
        by_cases he : ks[j] = x0[i]
        · rw [if_pos he, List.nil_append, ← List.append_assoc] at hr
          obtain ⟨K, hK⟩ := keys_inner x0 ks i hi h0 hks r m (j + 1) (next ++ [x0[i]]) true (by omega) (by simp; omega) hr
          refine ⟨K + 2, ?_⟩
          rw [colonnaderef09_Keys.l1, if_pos (by omega), if_neg (by simp), if_pos (by omega), if_pos (by omega), if_pos (by omega), colonnaderef09_Keys.j2, rdn ks j hjl, rdn x0 i hi, if_pos (decide_eq_true hle), if_pos (by omega), if_pos (by omega), if_pos (by omega), Option.bind_some, if_pos (by omega), if_pos (by omega), if_pos he, nx]
          exact hK
        · rw [if_neg he, ← List.append_assoc, ← List.append_assoc] at hr
          obtain ⟨K, hK⟩ := keys_inner x0 ks i hi h0 hks r m (j + 1) (next ++ [x0[i]] ++ [ks[j]]) true (by omega) (by simp; omega) hr
          refine ⟨K + 2, ?_⟩
          rw [colonnaderef09_Keys.l1, if_pos (by omega), if_neg (by simp), if_pos (by omega), if_pos (by omega), if_pos (by omega), colonnaderef09_Keys.j2, rdn ks j hjl, rdn x0 i hi, if_pos (decide_eq_true hle), if_pos (by omega), if_pos (by omega), if_pos (by omega), Option.bind_some, if_pos (by omega), if_pos (by omega), if_neg he, if_pos (by simp; omega), nx]
          exact hK
      · rw [if_neg (by simp [hle]), List.nil_append, show (false || decide (x0[i] ≤ ks[j])) = false by simp [hle]] at hr
        have he : ¬ ks[j] = x0[i] := by omega
        rw [if_neg he, ← List.append_assoc] at hr
        obtain ⟨K, hK⟩ := keys_inner x0 ks i hi h0 hks r m (j + 1) (next ++ [ks[j]]) false (by omega) (by simp; omega) hr
        refine ⟨K + 2, ?_⟩
        rw [colonnaderef09_Keys.l1, if_pos (by omega), if_neg (by simp), if_pos (by omega), if_pos (by omega), if_pos (by omega), colonnaderef09_Keys.j2, rdn ks j hjl, rdn x0 i hi, if_neg (by simp [hle]), if_pos (by omega), if_pos (by omega), if_pos (by omega), if_pos (by omega), if_neg he, if_pos (by omega), nx]
        exact hK
theorem keys_outer (x0 : List Int) (h0 : x0.length ≤ 1099511627776) : ∀ m i (ks : List Int), i + m = x0.length → XMap.Rising ks → ks.length ≤ i → ∃ K, colonnaderef09_Keys.l0 K x0 ks (i : Int) = some ((x0.drop i).foldl (fun ks x => XMap.ins x ks) ks)
  | 0, i, ks, hi, _, _ => ⟨1, by rw [colonnaderef09_Keys.l0, if_neg (by omega), List.drop_eq_nil_of_le (by omega)]; rfl⟩
  | m + 1, i, ks, hi, hr, hl => by
    have hil : i < x0.length := by omega
    have hlen := XMap.ins_length x0[i] ks
    obtain ⟨K, hK⟩ := keys_outer x0 h0 m (i + 1) (XMap.ins x0[i] ks) (by omega) (XMap.rising_ins _ _ hr) (by omega)
    obtain ⟨K1, hK1⟩ := keys_inner x0 ks i hil (by omega) (by omega) _ ks.length 0 [] false (by omega) (by simp; omega) ⟨K, by rw [List.drop_zero, List.nil_append, put_ins _ _ hr]; exact hK⟩
    refine ⟨K1 + 1, ?_⟩
    rw [colonnaderef09_Keys.l0, if_pos (by omega)]
    rw [List.drop_eq_getElem_cons hil, List.foldl_cons]
    exact hK1
theorem keys_f (x0 : List Int) (h0 : x0.length ≤ 1099511627776) : ∃ K, colonnaderef09_Keys.f K x0 = some (XMap.keysOf x0) := by
  have h := keys_outer x0 h0 x0.length 0 [] (by omega) .nil (by simp)
  rw [List.drop_zero] at h
  exact h
/-- how many of the keys are below -/
def below (ks : List Int) (x : Int) : Nat := (ks.filter fun y => decide (y < x)).length
theorem below_cons (y x : Int) (r : List Int) : below (y :: r) x = (if y < x then 1 else 0) + below r x := by
  unfold below
  by_cases h : y < x
  · rw [List.filter_cons_of_pos (by simpa using h), if_pos h, List.length_cons]; omega
  · rw [List.filter_cons_of_neg (by simpa using h), if_neg h]; omega
theorem below_idx (x : Int) : ∀ ks : List Int, XMap.Rising ks → x ∈ ks → below ks x = ks.idxOf x
  | [], _, h => by simp at h
  | y :: r, hr, h => by
    have hp := List.pairwise_cons.1 hr
    by_cases e : y = x
    · subst e
      have : (r.filter fun z => decide (z < y)) = [] := by
        rw [List.filter_eq_nil_iff]
        intro z hz; have := hp.1 z hz; simp; omega
      simp [below, this]
    · have hx : x ∈ r := by
        rcases List.mem_cons.1 h with h | h
        · exact absurd h.symm e
        · exact h
      have hlt := hp.1 x hx
      rw [List.idxOf_cons, show (y == x) = false by simp [e], ← below_idx x r hp.2 hx, below_cons, if_pos hlt]
      simp; omega
theorem codes_inner (ks x1 : List Int) (i : Nat) (hi : i < x1.length) (h0 : ks.length < 4294967296) (h1 : x1.length < 17592186044416) (c : List Int) (hc : c.length ≤ i) (r : List Int) : ∀ m j (n : Nat), j + m = ks.length → n ≤ j →
    (∃ K, colonnaderef09_Codes.l0 K ks x1 (c ++ [((n + below (ks.drop j) x1[i] : Nat) : Int)]) ((i + 1 : Nat) : Int) = some r) → ∃ K, colonnaderef09_Codes.l1 K ks x1 c (i : Int) (n : Int) (j : Int) = some r
  | 0, j, n, hj, hn, ⟨K, hK⟩ => by
    rw [List.drop_eq_nil_of_le (by omega)] at hK
    refine ⟨K + 1, ?_⟩
    rw [colonnaderef09_Codes.l1, if_neg (by omega), if_pos (by omega), wr1 i (by omega)]
    exact hK
  | m + 1, j, n, hj, hn, hr => by
    have hjl : j < ks.length := by omega
    rw [List.drop_eq_getElem_cons hjl] at hr
    have nx := wr1 j (by omega : j < 9223372036854775807)
    by_cases hlt : ks[j] < x1[i]
    · have hb : n + below (ks[j] :: ks.drop (j + 1)) x1[i] = (n + 1) + below (ks.drop (j + 1)) x1[i] := by rw [below_cons, if_pos hlt]; omega
      rw [hb] at hr
      obtain ⟨K, hK⟩ := codes_inner ks x1 i hi h0 h1 c hc r m (j + 1) (n + 1) (by omega) (by omega) hr
      refine ⟨K + 1, ?_⟩
      have hw : IntKind.u64.wrap ((n : Int) + 1) = ((n + 1 : Nat) : Int) := by rw [IntKind.wrap_u64]; omega
      rw [colonnaderef09_Codes.l1, if_pos (by omega), if_pos (by omega), if_pos (by omega), if_pos (by omega), rdn ks j hjl, rdn x1 i hi, if_pos hlt, nx, hw]
      exact hK
    · have hb : n + below (ks[j] :: ks.drop (j + 1)) x1[i] = n + below (ks.drop (j + 1)) x1[i] := by rw [below_cons, if_neg hlt]; omega
      rw [hb] at hr
      obtain ⟨K, hK⟩ := codes_inner ks x1 i hi h0 h1 c hc r m (j + 1) n (by omega) (by omega) hr
      refine ⟨K + 1, ?_⟩
      rw [colonnaderef09_Codes.l1, if_pos (by omega), if_pos (by omega), if_pos (by omega), if_pos (by omega), rdn ks j hjl, rdn x1 i hi, if_neg hlt, nx]
      exact hK
theorem codes_outer (ks x1 : List Int) (h0 : ks.length < 4294967296) (h1 : x1.length < 17592186044416) : ∀ m i (c : List Int), i + m = x1.length → c.length = i → ∃ K, colonnaderef09_Codes.l0 K ks x1 c (i : Int) = some (c ++ (x1.drop i).map (fun x => ((below ks x : Nat) : Int)))
  | 0, i, c, hi, _ => ⟨1, by rw [colonnaderef09_Codes.l0, if_neg (by omega), List.drop_eq_nil_of_le (by omega)]; simp⟩
  | m + 1, i, c, hi, hc => by
    have hil : i < x1.length := by omega
    obtain ⟨K, hK⟩ := codes_outer ks x1 h0 h1 m (i + 1) (c ++ [((below ks x1[i] : Nat) : Int)]) (by omega) (by simp [hc])
    obtain ⟨K1, hK1⟩ := codes_inner ks x1 i hil h0 h1 c (by omega) _ ks.length 0 0 (by omega) (by omega) ⟨K, by rw [List.drop_zero, Nat.zero_add]; exact hK⟩
    refine ⟨K1 + 1, ?_⟩
    rw [colonnaderef09_Codes.l0, if_pos (by omega)]
    rw [List.drop_eq_getElem_cons hil, List.map_cons]
    rw [List.append_assoc] at hK1
    exact hK1
theorem codes_f (ks x1 : List Int) (h0 : ks.length < 4294967296) (h1 : x1.length < 17592186044416) : ∃ K, colonnaderef09_Codes.f K ks x1 = some (x1.map (fun x => ((below ks x : Nat) : Int))) := by
  have h := codes_outer ks x1 h0 h1 x1.length 0 [] (by omega) rfl
  rw [List.drop_zero, List.nil_append] at h
  exact h
theorem below_code (l : List Int) : l.map (fun x => ((below (XMap.keysOf l) x : Nat) : Int)) = l.map (XBuild.code (XMap.keysOf l)) := by
  apply List.map_congr_left
  intro x hx
  have hs := XMap.keysOf_spec l
  rw [below_idx x _ hs.1 ((hs.2 x).2 hx)]
  rfl
theorem sameInts_loop (K : Nat) (a : List Int) (hl : a.length ≤ 9223372036854775806) : ∀ m i, i + m = a.length → colonnadelaw09_sameInts.l0 (m + (K + 1)) a a (i : Int) = some true
  | 0, i, hi => by rw [Nat.zero_add, colonnadelaw09_sameInts.l0, if_neg (by omega)]
  | m + 1, i, hi => by
    have hnx : wrap64 ((i : Int) + 1) = ((i + 1 : Nat) : Int) := by unfold wrap64; omega
    rw [show m + 1 + (K + 1) = (m + (K + 1)) + 1 from by omega, colonnadelaw09_sameInts.l0, if_pos (by omega), if_pos (by omega), if_pos (by omega), if_pos rfl, hnx]
    exact sameInts_loop K a hl m (i + 1) (by omega)
theorem sameInts_refl (K : Nat) (a : List Int) (hl : a.length ≤ 9223372036854775806) (hK : a.length + 1 ≤ K) : colonnadelaw09_sameInts.f K a a = some true := by
  unfold colonnadelaw09_sameInts.f
  rw [if_pos rfl]
  have h := sameInts_loop (K - a.length - 1) a hl a.length 0 (by omega)
  rw [show a.length + (K - a.length - 1 + 1) = K from by omega] at h
  exact h
theorem sameCodes_loop (K : Nat) (a : List Int) (hl : a.length ≤ 9223372036854775806) (ha : ∀ x ∈ a, 0 ≤ x ∧ x < 18446744073709551616) : ∀ m i, i + m = a.length → colonnadelaw09_sameCodes.l0 (m + (K + 1)) a a (i : Int) = some true
  | 0, i, hi => by rw [Nat.zero_add, colonnadelaw09_sameCodes.l0, if_neg (by omega)]
  | m + 1, i, hi => by
    have hnx : wrap64 ((i : Int) + 1) = ((i + 1 : Nat) : Int) := by unfold wrap64; omega
    have hx : IntKind.u64.wrap (rd a (i : Int)) = rd a (i : Int) := by
      have h := ha (a[i]'(by omega)) (List.getElem_mem _)
      rw [IntKind.wrap_u64, show rd a (i : Int) = a[i]'(by omega) from by simp [rd, show i < a.length by omega]]
      omega
    rw [show m + 1 + (K + 1) = (m + (K + 1)) + 1 from by omega, colonnadelaw09_sameCodes.l0, if_pos (by omega), if_pos (by omega), if_pos (by omega), if_pos hx, hnx]
    exact sameCodes_loop K a hl ha m (i + 1) (by omega)
theorem sameCodes_refl (K : Nat) (a : List Int) (hl : a.length ≤ 9223372036854775806) (ha : ∀ x ∈ a, 0 ≤ x ∧ x < 18446744073709551616) (hK : a.length + 1 ≤ K) : colonnadelaw09_sameCodes.f K a a = some true := by
  unfold colonnadelaw09_sameCodes.f
  rw [if_pos rfl]
  have h := sameCodes_loop (K - a.length - 1) a hl ha a.length 0 (by omega)
  rw [show a.length + (K - a.length - 1 + 1) = K from by omega] at h
  exact h
end DictBuildsP
theorem DictBuilds : colonnadelaw09_DictBuilds.PureU := by
  intro l0 hw hM
  have hl : l0.length ≤ 1048576 := by
    have : (l0.map (fun _ => 1)).sum = l0.length := by
      clear hw hM
      induction l0 with
      | nil => rfl
      | cons x r ih => simp only [List.map_cons, List.sum_cons, ih, List.length_cons]; omega
    omega
  obtain ⟨K1, h1⟩ := DictBuildsP.keys_f l0 (by omega)
  have hkl := XMap.keysOf_length l0
  obtain ⟨K2, h2⟩ := DictBuildsP.codes_f (XMap.keysOf l0) l0 (by omega) (by omega)
  rw [DictBuildsP.below_code] at h2
  refine ⟨K1 + K2 + l0.length + 2, ?_⟩
  unfold colonnadelaw09_DictBuilds.f
  rw [if_pos]
  refine ⟨hl, hw.2, at_rounds (colonnaderef09_Keys.mono l0) (by omega) h1, at_rounds (colonnaderef09_Codes.mono _ l0) (by omega) h2, ?_, DictBuildsP.sameInts_refl _ _ (by omega) (by omega), DictBuildsP.sameCodes_refl _ _ (by simp; omega) (fun x hx => ?_) (by simp; omega)⟩
  · unfold colonnadelaw09_ints.f
    rw [if_pos (by simp; omega)]; rfl
  · obtain ⟨y, hy, rfl⟩ := List.mem_map.mp hx
    have : (XMap.keysOf l0).idxOf y ≤ (XMap.keysOf l0).length := List.idxOf_le_length
    unfold XBuild.code
    omega
end Go.Proofs.Ytlpllhpnnhablaa.Pure
