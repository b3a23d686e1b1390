/- Rows of one's own, kept side by side: each lies in a block of its own. No program in sight. -/
import Derived.Test.YtkepimkabfoapabXApart
namespace Go.Proofs.Ytkepimkabfoapab.XRows
open Go.RowKit Go.Proofs.YtkepimkabfoapabW.PrintWords Go.Proofs.YtkepimkabfoapabW.PrintMore

structure RowD where
  e : Nat
  v : Value
  cs : List Value

/-- each is a row of one's own, from block base on; no two lie in one block -/
structure Rows (W : World) (base : Nat) (l : List RowD) : Prop where
  holds : ∀ r ∈ l, W.ownsRow base r.e 1 r.v r.cs.length r.cs
  apart : l.Pairwise (fun r s => ∀ g, r.v.ownBlock = some g → s.v.ownBlock ≠ some g)

theorem Rows.nil (W : World) (base : Nat) : Rows W base [] := ⟨by simp, .nil⟩
theorem Rows.below {W W' : World} {base : Nat} {l : List RowD} (h : Rows W base l) (hb : Below W.heap.size W W') : Rows W' base l :=
  ⟨fun r hr => pw_own_below (h.holds r hr) hb, h.apart⟩
theorem Rows.add {W W' : World} {base : Nat} {l : List RowD} (h : Rows W base l) (hb : Below W.heap.size W W') (hbase : base ≤ W.heap.size) {r : RowD} (hr : W'.ownsRow W.heap.size r.e 1 r.v r.cs.length r.cs) : Rows W' base (r :: l) := by
  refine ⟨fun s hs => ?_, List.pairwise_cons.mpr ⟨fun s hs g hg hg' => ?_, h.apart⟩⟩
  · rcases List.mem_cons.mp hs with rfl | hs
    · exact own_less hr hbase
    · exact pw_own_below (h.holds s hs) hb
  · have h1 := (hr.lt g hg).1
    have h2 := own_lt (h.holds s hs) g hg'
    omega
theorem Rows.addR {α : Type} {enc : α → Value} {h1 : ∀ x, (enc x).oneCell' = true} {W W' : World} {base : Nat} {l : List RowD} (h : Rows W base l) (hb : Below W.heap.size W W') (hbase : base ≤ W.heap.size) {e : Nat} {v : Value} {xs : List α} {ok : Nat → Prop}
    (hr : (Kd.scalar enc h1).R e W' W.heap.size ok v xs) : Rows W' base (⟨e, v, encs enc xs⟩ :: l) :=
  h.add hb hbase (by have := Kd.own_of_R hr; rw [← encs_length (enc := enc) xs] at this; exact this)
theorem Rows.get {W : World} {base : Nat} {l : List RowD} (h : Rows W base l) (i : Nat) (r : RowD) (hi : l[i]? = some r) : W.ownsRow base r.e 1 r.v r.cs.length r.cs :=
  h.holds r (List.mem_of_getElem? hi)
theorem Rows.getR {α : Type} {enc : α → Value} (h1 : ∀ x, (enc x).oneCell' = true) {W : World} {base : Nat} {l : List RowD} (h : Rows W base l) (i : Nat) {e : Nat} {v : Value} {xs : List α} (hi : l[i]? = some ⟨e, v, encs enc xs⟩) : (Kd.scalar enc h1).R e W base (fun _ => True) v xs := by
  have := h.get i _ hi
  dsimp only at this
  rw [encs_length] at this
  exact Kd.R_of_own this (fun _ _ => trivial)
/-- one row was written -/
theorem Rows.set {W W' : World} {base : Nat} {l : List RowD} (h : Rows W base l) (i : Nat) {e : Nat} {v v' : Value} {cs cs' : List Value} (hi : l[i]? = some ⟨e, v, cs⟩) (hg : W.grownBy W' v.ownBlock) (hr : W'.ownsRow base e 1 v' cs'.length cs') (hv : v'.ownBlock = v.ownBlock) :
    Rows W' base (l.set i ⟨e, v', cs'⟩) := by
  have hil : i < l.length := (List.getElem?_eq_some_iff.mp hi).1
  have hie : l[i] = ⟨e, v, cs⟩ := (List.getElem?_eq_some_iff.mp hi).2
  have hp := List.pairwise_iff_getElem.mp h.apart
  refine ⟨fun s hs => ?_, List.pairwise_iff_getElem.mpr fun a b ha hb hab g => ?_⟩
  · obtain ⟨j, hj, rfl⟩ := List.getElem_of_mem hs
    rw [List.length_set] at hj
    rw [List.getElem_set]
    split
    · exact hr
    · rename_i hne
      refine (h.holds _ (List.getElem_mem hj)).kept hg ?_
      cases hb : (l[j]).v.ownBlock with
      | none => exact .inl rfl
      | some g =>
        right
        intro e2
        rcases Nat.lt_or_gt_of_ne hne with hl | hl
        · have := hp i j hil hj hl g (by rw [hie]; exact e2.symm)
          exact this hb
        · have := hp j i hj hil hl g hb
          rw [hie] at this
          exact this e2.symm
  · rw [List.length_set] at ha hb
    rw [List.getElem_set, List.getElem_set]
    split
    · rename_i h1
      subst h1
      rw [if_neg (by omega)]
      have := hp i b hil hb hab g
      rw [hie] at this
      intro e1
      exact this (hv ▸ e1)
    · split
      · rename_i h1 h2
        subst h2
        have := hp a i ha hil hab g
        rw [hie] at this
        intro e1 e2
        exact this e1 (hv ▸ e2)
      · exact hp a b ha hb hab g
/-- a store into one row -/
theorem Rows.put {α : Type} {enc : α → Value} (h1 : ∀ x, (enc x).oneCell' = true) {W : World} {base : Nat} {l : List RowD} (h : Rows W base l) (i : Nat) {e g c : Nat} {xs : List α} (hi : l[i]? = some ⟨e, .slice (some ⟨g, 0, none⟩) xs.length c, encs enc xs⟩) (j : Nat) (x : α) :
    Rows (W.setCell ⟨g, j, none⟩ (enc x)) base (l.set i ⟨e, .slice (some ⟨g, 0, none⟩) xs.length c, encs enc (xs.set j x)⟩) := by
  have hR := h.getR h1 i hi
  have hP := Kd.R_put hR (j : Int) x
  rw [Int.toNat_natCast] at hP
  refine h.set i hi hP.2 ?_ rfl
  have := Kd.own_of_R hP.1
  rw [encs_length, List.length_set]
  rw [List.length_set] at this
  exact this
theorem Rows.apart_i {W : World} {base : Nat} {l : List RowD} (h : Rows W base l) {i j : Nat} (hij : i ≠ j) {r s : RowD} (hi : l[i]? = some r) (hj : l[j]? = some s) (g : Nat) (hg : r.v.ownBlock = some g) : s.v.ownBlock ≠ some g := by
  have hp := List.pairwise_iff_getElem.mp h.apart
  obtain ⟨h1, rfl⟩ := List.getElem?_eq_some_iff.mp hi
  obtain ⟨h2, rfl⟩ := List.getElem?_eq_some_iff.mp hj
  rcases Nat.lt_or_gt_of_ne hij with hl | hl
  · exact hp i j h1 h2 hl g hg
  · exact fun e => hp j i h2 h1 hl g e hg
/-- some of them are handed in as a list of lists: their numbers are told by ix -/
theorem Rows.pre {W : World} {base : Nat} {l : List RowD} (h : Rows W base l) (ix : List Nat) (hnd : ix.Nodup) {eT : Nat} (eS M : Nat) {vs : List Value} (hvs : vs.length = ix.length)
    (hix : ∀ k (hk : k < ix.length), ∃ cs, l[ix[k]]? = some ⟨eT, vs[k]'(by omega), cs⟩ ∧ cs.length ≤ M) (hpos : 0 < ix.length) (hfew : ix.length ≤ 64) :
    XApart.Pre eT eS M (W.alloc (.cells vs.toArray eS (0, 0))) W.heap.size vs := by
  have hget : ∀ i (hi : i < vs.length), XApart.gsOf vs i = (vs[i]).ownBlock := fun i hi => by
    unfold XApart.gsOf
    rw [List.getD_eq_getElem?_getD, List.getElem?_eq_getElem hi, Option.getD_some]
  refine ⟨heap_alloc_new W _, fun i hi => ?_, fun i j g hij hj e1 e2 => ?_, fun i e => ?_, by omega, by omega⟩
  · obtain ⟨cs, h1, h2⟩ := hix i (by omega)
    exact ⟨cs.length, cs, own_alloc (own_less (h.get _ _ h1) (Nat.zero_le _)) _, h2⟩
  · obtain ⟨cs, h1, _⟩ := hix i (by omega)
    obtain ⟨ds, h2, _⟩ := hix j (by omega)
    rw [hget i (by omega)] at e1
    rw [hget j hj] at e2
    refine h.apart_i (fun e => ?_) h1 h2 g e1 e2
    have := (List.getElem_inj hnd).mp e
    omega
  · by_cases hi : i < vs.length
    · rw [hget i hi] at e
      obtain ⟨cs, h1, _⟩ := hix i (by omega)
      exact absurd (own_lt (h.get _ _ h1) _ e) (Nat.lt_irrefl _)
    · unfold XApart.gsOf at e
      rw [List.getD_eq_getElem?_getD, List.getElem?_eq_none (by omega)] at e
      cases e
end Go.Proofs.Ytkepimkabfoapab.XRows
