/- Rows of one's own, kept side by side, each in a block of its own that may be longer than it says. No program in sight. -/
import Derived.Test.YtlpllhpnnhablaaGreatSDictTextsOwnXApartW
namespace Go.Proofs.YtlpllhpnnhablaaGreat.XRowsW
open Go.RowKit Go.Proofs.YtlpllhpnnhablaaGreatW.PrintWords Go.Proofs.YtlpllhpnnhablaaGreatW.PrintMore Go.Proofs.YtlpllhpnnhablaaGreat.XApartW

theorem keep {w w' : World} {base : Nat} {e : TypeId} {v : Value} {n : Nat} {xs : List Value} (h : ownsW w base e v n xs) (hk : ∀ g, v.ownBlock = some g → w'.heap[g]? = w.heap[g]?) : ownsW w' base e v n xs := by
  refine ⟨h.1, ?_⟩
  rcases h.2 with h2 | ⟨g, cap, cur, rfl, h2, h3, h4⟩
  · exact .inl h2
  · exact .inr ⟨g, cap, cur, rfl, h2, (hk g rfl).trans h3, h4⟩
theorem less {w : World} {base b : Nat} {e : TypeId} {v : Value} {n : Nat} {xs : List Value} (h : ownsW w base e v n xs) (hb : b ≤ base) : ownsW w b e v n xs := by
  refine ⟨h.1, ?_⟩
  rcases h.2 with h2 | ⟨g, cap, cur, rfl, h2, h3, h4⟩
  · exact .inl h2
  · exact .inr ⟨g, cap, cur, rfl, by omega, h3, h4⟩
theorem put {w : World} {base g c : Nat} {e : TypeId} {n : Nat} {xs : List Value} (h : ownsW w base e (.slice (some ⟨g, 0, none⟩) n c) n xs) (j : Nat) (x : Value) : ownsW (w.setCell ⟨g, j, none⟩ x) base e (.slice (some ⟨g, 0, none⟩) n c) n (xs.set j x) := by
  refine ⟨by rw [List.length_set]; exact h.1, ?_⟩
  rcases h.2 with ⟨e1, _⟩ | ⟨g', cap, cur, e1, h2, h3, h4, h5, h6, h7⟩
  · cases e1
  · cases e1
    refine .inr ⟨g, c, _, rfl, h2, XApartW.heap_setCell_same h3 x, h4, h5, by rw [Array.size_setIfInBounds]; exact h6, ?_⟩
    rw [Array.toList_setIfInBounds, List.take_set, h7]
theorem celln {w : World} {base g c : Nat} {e : TypeId} {n : Nat} {xs : List Value} (h : ownsW w base e (.slice (some ⟨g, 0, none⟩) n c) n xs) (j : Nat) (hj : j < n) : w.cell? ⟨g, j, none⟩ = xs[j]? ∧ w.frozen? ⟨g, j, none⟩ = false := by
  rcases h.2 with ⟨e1, _⟩ | ⟨g', cap, cur, e1, h2, h3, h4, h5, h6, h7⟩
  · cases e1
  · cases e1
    constructor
    · rw [cell_of_row w g j cur e (0, 0) h3, ← h7, List.getElem?_take, if_pos (by omega)]
      simp
    · simp [World.frozen?, h3]
structure RowD where
  e : Nat
  v : Value
  cs : List Value
structure Rows (W : World) (base : Nat) (l : List RowD) : Prop where
  holds : ∀ r ∈ l, ownsW W base r.e r.v r.cs.length r.cs
  apart : l.Pairwise (fun r s => ∀ g, r.v.ownBlock = some g → s.v.ownBlock ≠ some g)
theorem Rows.nil (W : World) (base : Nat) : Rows W base [] := ⟨by simp, .nil⟩
theorem Rows.keep {W W' : World} {base : Nat} {l : List RowD} (h : Rows W base l) (hk : ∀ r ∈ l, ∀ g, r.v.ownBlock = some g → W'.heap[g]? = W.heap[g]?) : Rows W' base l :=
  ⟨fun r hr => XRowsW.keep (h.holds r hr) (hk r hr), h.apart⟩
theorem Rows.below {W W' : World} {base : Nat} {l : List RowD} (h : Rows W base l) (hb : Below W.heap.size W W') : Rows W' base l :=
  h.keep fun r hr g hg => hb.block g ((h.holds r hr).lt g hg).2
theorem Rows.add {W W' : World} {base : Nat} {l : List RowD} (h : Rows W base l) (hb : Below W.heap.size W W') (hbase : base ≤ W.heap.size) {r : RowD} (hr : ownsW W' W.heap.size r.e r.v r.cs.length r.cs) : Rows W' base (r :: l) := by
  refine ⟨fun s hs => ?_, List.pairwise_cons.mpr ⟨fun s hs g hg hg' => ?_, h.apart⟩⟩
  · rcases List.mem_cons.mp hs with rfl | hs
    · exact less hr hbase
    · exact (h.below hb).holds s hs
  · have h1 := (hr.lt g hg).1
    have h2 := ((h.holds s hs).lt g hg').2
    omega
theorem Rows.add2 {W W' : World} {base : Nat} {l : List RowD} (h : Rows W base l) (hb : Below W.heap.size W W') (hbase : base ≤ W.heap.size) {r s : RowD} (hr : ownsW W' W.heap.size r.e r.v r.cs.length r.cs) (hs : ownsW W' W.heap.size s.e s.v s.cs.length s.cs) (hne : ∀ g, r.v.ownBlock = some g → s.v.ownBlock ≠ some g) : Rows W' base (r :: s :: l) := by
  have h1 := h.add hb hbase hs
  refine ⟨fun t ht => ?_, List.pairwise_cons.mpr ⟨fun t ht g hg hg' => ?_, h1.apart⟩⟩
  · rcases List.mem_cons.mp ht with rfl | ht
    · exact less hr hbase
    · exact h1.holds t ht
  · rcases List.mem_cons.mp ht with rfl | ht
    · exact hne g hg hg'
    · have h2 := (hr.lt g hg).1
      have h3 := ((h.holds t ht).lt g hg').2
      omega
/-- rows of unlike types lie in unlike blocks -/
theorem apart_ty {W : World} {b1 b2 : Nat} {e1 e2 : Nat} {v1 v2 : Value} {n1 n2 : Nat} {x1 x2 : List Value} (h1 : ownsW W b1 e1 v1 n1 x1) (h2 : ownsW W b2 e2 v2 n2 x2) (hne : e1 ≠ e2) : ∀ g, v1.ownBlock = some g → v2.ownBlock ≠ some g := by
  intro g hg hg'
  rcases h1.2 with ⟨rfl, _⟩ | ⟨g1, c1, u1, rfl, _, h3, _⟩
  · cases hg
  · rcases h2.2 with ⟨rfl, _⟩ | ⟨g2, c2, u2, rfl, _, h4, _⟩
    · cases hg'
    · obtain rfl : g1 = g := Option.some.inj hg
      obtain rfl : g2 = g1 := Option.some.inj hg'
      rw [h3] at h4
      injection h4 with h4
      injection h4 with _ h4
      exact hne h4
theorem ofR {α : Type} {enc : α → Value} {h1 : ∀ x, (enc x).oneCell' = true} {W : World} {base : Nat} {e : Nat} {v : Value} {xs : List α} {ok : Nat → Prop} (hr : (Kd.scalar enc h1).R e W base ok v xs) : ownsW W base e v (encs enc xs).length (encs enc xs) := by
  have := ownsW.of (Kd.own_of_R hr)
  rwa [← encs_length (enc := enc) xs] at this
theorem Rows.get {W : World} {base : Nat} {l : List RowD} (h : Rows W base l) (i : Nat) (r : RowD) (hi : l[i]? = some r) : ownsW W base r.e r.v r.cs.length r.cs :=
  h.holds r (List.mem_of_getElem? hi)
theorem Rows.apart_i {W : World} {base : Nat} {l : List RowD} (h : Rows W base l) {i j : Nat} (hij : i ≠ j) {r s : RowD} (hi : l[i]? = some r) (hj : l[j]? = some s) (g : Nat) (hg : r.v.ownBlock = some g) : s.v.ownBlock ≠ some g := by
  have hp := List.pairwise_iff_getElem.mp h.apart
  obtain ⟨h1, rfl⟩ := List.getElem?_eq_some_iff.mp hi
  obtain ⟨h2, rfl⟩ := List.getElem?_eq_some_iff.mp hj
  rcases Nat.lt_or_gt_of_ne hij with hl | hl
  · exact hp i j h1 h2 hl g hg
  · exact fun e => hp j i h2 h1 hl g e hg
theorem owned_n {w : World} {base e n : Nat} {xs : List Value} {A : Option Addr} {m c : Nat} (h : ownsW w base e (.slice A m c) n xs) : m = n ∧ n ≤ c ∧ c ≤ maxLen := by
  rcases h.2 with ⟨h, h2⟩ | ⟨g, c, cur, h1, _, _, h4, h5, _⟩
  · cases h; exact ⟨h2.symm, by omega, by simp [maxLen]⟩
  · cases h1; exact ⟨rfl, h4, h5⟩
/-- what a row reads -/
theorem ownC {α : Type} {enc : α → Value} (h1 : ∀ x, (enc x).oneCell' = true) (d : α) {W : World} {base e : Nat} {A : Option Addr} {n c : Nat} {xs : List α} (h : ownsW W base e (.slice A n c) (encs enc xs).length (encs enc xs)) :
    Kd.C (Kd.scalar enc h1) W A xs.length xs ∧ xs.length ≤ c ∧ n = xs.length := by
  obtain ⟨e1, e2, e3⟩ := owned_n h
  rw [encs_length] at e1 e2
  refine ⟨Kd.C_of_reads (h1 := h1) (d := d) ⟨rfl, by simp only [maxLen] at e3; omega, fun hp => ?_⟩, e2, e1⟩
  obtain ⟨g, cap, e4, _, _⟩ := h.form (by rw [encs_length]; exact hp)
  cases e4
  refine ⟨_, rfl, fun j hj => ?_⟩
  rw [add_plain, (celln h j (by rw [encs_length]; exact hj)).1]
  simp [encs, List.getD_eq_getElem?_getD, hj]
theorem Rows.C {α : Type} {enc : α → Value} (h1 : ∀ x, (enc x).oneCell' = true) (d : α) {W : World} {base : Nat} {l : List RowD} (h : Rows W base l) (i : Nat) {e : Nat} {A : Option Addr} {n c : Nat} {xs : List α} (hi : l[i]? = some ⟨e, .slice A n c, encs enc xs⟩) :
    Kd.C (Kd.scalar enc h1) W A xs.length xs ∧ xs.length ≤ c := ⟨(ownC h1 d (h.get i _ hi)).1, (ownC h1 d (h.get i _ hi)).2.1⟩
theorem Rows.Cn {α : Type} {enc : α → Value} (h1 : ∀ x, (enc x).oneCell' = true) (d : α) {W : World} {base : Nat} {l : List RowD} (h : Rows W base l) (i : Nat) {e : Nat} {A : Option Addr} {n c m : Nat} {xs : List α} (hi : l[i]? = some ⟨e, .slice A n c, encs enc xs⟩) (hn : xs.length = m) :
    Kd.C (Kd.scalar enc h1) W A m xs ∧ m ≤ c := hn ▸ h.C h1 d i hi
/-- the first part of a row -/
theorem Rows.Ct {α : Type} {enc : α → Value} (h1 : ∀ x, (enc x).oneCell' = true) (d : α) {W : World} {base : Nat} {l : List RowD} (h : Rows W base l) (i : Nat) {e : Nat} {A : Option Addr} {n c m : Nat} {xs ys : List α} (hi : l[i]? = some ⟨e, .slice A n c, encs enc (xs ++ ys)⟩) (hn : xs.length = m) :
    Kd.C (Kd.scalar enc h1) W A m xs ∧ m ≤ c := by
  subst hn
  obtain ⟨h2, h3⟩ := h.C h1 d i hi
  have h4 := Kd.C_take h2 (m := xs.length) (by simp)
  rw [List.take_left] at h4
  exact ⟨h4, by simp at h3; omega⟩
/-- a store into one row -/
theorem Rows.put {W : World} {base : Nat} {l : List RowD} (h : Rows W base l) (i : Nat) {e g n c : Nat} {xs : List Value} (hi : l[i]? = some ⟨e, .slice (some ⟨g, 0, none⟩) n c, xs⟩) (j : Nat) (x : Value) :
    Rows (W.setCell ⟨g, j, none⟩ x) base (l.set i ⟨e, .slice (some ⟨g, 0, none⟩) n c, xs.set j x⟩) := by
  have hil : i < l.length := (List.getElem?_eq_some_iff.mp hi).1
  have hie : l[i] = ⟨e, .slice (some ⟨g, 0, none⟩) n c, xs⟩ := (List.getElem?_eq_some_iff.mp hi).2
  have hown := h.get i _ hi
  have hn := (owned_n hown).1
  dsimp only at hown hn
  have hp := List.pairwise_iff_getElem.mp h.apart
  refine ⟨fun s hs => ?_, List.pairwise_iff_getElem.mpr fun a b ha hb hab k => ?_⟩
  · obtain ⟨j', hj, rfl⟩ := List.getElem_of_mem hs
    rw [List.length_set] at hj
    rw [List.getElem_set]
    split
    · dsimp only
      rw [List.length_set]
      have := XRowsW.put (n := n) (by rw [← hn] at hown; exact hown) j x
      rw [← hn]
      exact this
    · rename_i hne
      refine XRowsW.keep (h.holds _ (List.getElem_mem hj)) fun k hk => Below.heap_setCell W ⟨g, j, none⟩ x k (fun e2 => ?_)
      cases e2
      exact h.apart_i (i := i) (j := j') hne hi (List.getElem?_eq_getElem hj) g rfl hk
  · rw [List.length_set] at ha hb
    rw [List.getElem_set, List.getElem_set]
    split
    · rename_i h1
      subst h1
      rw [if_neg (by omega)]
      have := hp i b hil hb hab k
      rw [hie] at this
      exact this
    · split
      · rename_i h1 h2
        subst h2
        have := hp a i ha hil hab k
        rw [hie] at this
        exact this
      · exact hp a b ha hb hab k
theorem Rows.putE {α : Type} {enc : α → Value} {W : World} {base : Nat} {l : List RowD} (h : Rows W base l) (i : Nat) {e g n c : Nat} {xs : List α} (hi : l[i]? = some ⟨e, .slice (some ⟨g, 0, none⟩) n c, encs enc xs⟩) (j : Nat) (x : α) :
    Rows (W.setCell ⟨g, j, none⟩ (enc x)) base (l.set i ⟨e, .slice (some ⟨g, 0, none⟩) n c, encs enc (xs.set j x)⟩) := by
  have := h.put i hi j (enc x)
  rwa [show (encs enc xs).set j (enc x) = encs enc (xs.set j x) from by simp [encs, List.map_set]] at this
/-- cells of a row that isn't empty -/
theorem Rows.cell {α : Type} {enc : α → Value} (d : α) {W : World} {base : Nat} {l : List RowD} (h : Rows W base l) (i : Nat) {e : Nat} {A : Option Addr} {n c : Nat} {xs : List α} (hi : l[i]? = some ⟨e, .slice A n c, encs enc xs⟩) (hp : 0 < xs.length) :
    ∃ g, A = some ⟨g, 0, none⟩ ∧ base ≤ g ∧ ∀ j : Nat, j < xs.length → W.cell? ⟨g, j, none⟩ = some (enc (rdOf d xs (j : Int))) ∧ W.frozen? ⟨g, j, none⟩ = false := by
  have ho := h.get i _ hi
  dsimp only at ho
  have hn := (owned_n ho).1
  obtain ⟨g, cap, e4, hb, _⟩ := ho.form (by rw [encs_length]; exact hp)
  cases e4
  refine ⟨g, rfl, hb, fun j hj => ?_⟩
  obtain ⟨h1, h2⟩ := celln ho j (by rw [encs_length]; exact hj)
  refine ⟨?_, h2⟩
  rw [h1]
  simp [encs, rdOf, List.getD_eq_getElem?_getD, hj]
/-- some of them are handed in as a list of lists: their numbers are told by ix; those told by jx stay -/
theorem Rows.grow {W : World} {base : Nat} {l : List RowD} (h : Rows W base l) (hbase : base ≤ W.heap.size) (ix jx : List Nat) (hnd : (ix ++ jx).Nodup) {eT : Nat} (eS M : Nat) {vs : List Value} (hvs : vs.length = ix.length)
    (hix : ∀ k (hk : k < ix.length), ∃ cs, l[ix[k]]? = some ⟨eT, vs[k]'(by omega), cs⟩ ∧ cs.length ≤ M) (hpos : 0 < ix.length) (hfew : ix.length ≤ 64) :
    XApartW.Pre eT eS M (W.alloc (.cells vs.toArray eS (0, 0))) W.heap.size vs ∧
      ∀ w', XApartW.ButFor (XApartW.gsOf vs) (W.alloc (.cells vs.toArray eS (0, 0))).heap.size (W.alloc (.cells vs.toArray eS (0, 0))) w' → Rows w' base (jx.filterMap (l[·]?)) ∧ Below base W w' := by
  obtain ⟨hni, hnj, hdis⟩ := List.nodup_append.mp hnd
  have hget : ∀ i (hi : i < vs.length), XApartW.gsOf vs i = (vs[i]).ownBlock := fun i hi => by
    unfold XApartW.gsOf
    rw [List.getD_eq_getElem?_getD, List.getElem?_eq_getElem hi, Option.getD_some]
  have hgs : ∀ i g, XApartW.gsOf vs i = some g → ∃ (hi : i < vs.length) (r : RowD), l[ix[i]'(by omega)]? = some r ∧ r.v.ownBlock = some g := fun i g e => by
    by_cases hi : i < vs.length
    · rw [hget i hi] at e
      obtain ⟨cs, h1, _⟩ := hix i (by omega)
      exact ⟨hi, _, h1, e⟩
    · unfold XApartW.gsOf at e
      rw [List.getD_eq_getElem?_getD, List.getElem?_eq_none (by omega)] at e
      cases e
  refine ⟨⟨heap_alloc_new W _, fun i hi => ?_, fun i j g hij hj e1 e2 => ?_, fun i e => ?_, by omega, by omega⟩, fun w' hb => ⟨⟨fun r hr => ?_, ?_⟩, ?_⟩⟩
  · obtain ⟨cs, h1, h2⟩ := hix i (by omega)
    exact ⟨cs.length, cs, less (XRowsW.keep (h.get _ _ h1) fun g hg => Below.heap_alloc W _ g ((h.get _ _ h1).lt g hg).2) (Nat.zero_le _), h2⟩
  · obtain ⟨hi', r, h1, h2⟩ := hgs i g e1
    obtain ⟨hj', s, h3, h4⟩ := hgs j g e2
    exact h.apart_i (fun e => by have := (List.getElem_inj hni).mp e; omega) h1 h3 g h2 h4
  · obtain ⟨hi', r, h1, h2⟩ := hgs i _ e
    exact absurd ((h.get _ _ h1).lt _ h2).2 (Nat.lt_irrefl _)
  · obtain ⟨j, hj, hjr⟩ := List.mem_filterMap.mp hr
    refine XRowsW.keep (h.get j r hjr) fun g hg => ?_
    have hlt := ((h.get j r hjr).lt g hg).2
    rw [hb.block g (Nat.lt_of_lt_of_le hlt (below_alloc (Below.refl W.heap.size W) _).size) (fun i e => ?_), Below.heap_alloc W _ g hlt]
    obtain ⟨hi', s, h1, h2⟩ := hgs i g e
    exact h.apart_i (fun (e : ix[i]'(by omega) = j) => hdis _ (List.getElem_mem (by omega)) _ hj e) h1 hjr g h2 hg
  · rw [List.pairwise_filterMap]
    exact hnj.imp fun hne r hr s hs g hg => h.apart_i hne hr hs g hg
  · have h0 := below_alloc (Below.refl W.heap.size W) (.cells vs.toArray eS (0, 0))
    have h1 : Below base (W.alloc (.cells vs.toArray eS (0, 0))) w' := hb.below (Nat.le_trans hbase h0.size) (fun i g e => by
      obtain ⟨hi', s, h1, h2⟩ := hgs i g e
      exact ((h.get _ _ h1).lt g h2).1)
    exact ⟨h1.os.trans h0.os, h1.tape.trans h0.tape, h1.output.trans h0.output, Nat.le_trans h0.size h1.size, fun k hk => (h1.block k hk).trans (h0.block k (by omega))⟩
end Go.Proofs.YtlpllhpnnhablaaGreat.XRowsW
