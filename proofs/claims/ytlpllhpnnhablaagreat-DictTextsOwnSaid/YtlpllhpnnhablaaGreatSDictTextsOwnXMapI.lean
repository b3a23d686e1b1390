/- Maps from whole numbers to whole numbers, seen as functions: what a map's datum says of each key; what was collected while a map was ranged over; rising lists. No program in sight. -/
import Derived.Maps.RangeWalk
import Derived.Maps.OwnSet
namespace Go.Proofs.YtlpllhpnnhablaaGreat.XMap
open Go Go.Maps Go.WideShapes

theorem key_int (q : IntKind) (x : Int) : WideAt.IsKeyLit (.int q x) := by trivial
/-- the datum D says of each key what f says -/
structure Rep {H : Type} (qk q : IntKind) (D : DataW H) (f : Int → Option Int) : Prop where
  isMap : IsMap D
  has_ : ∀ x, Maps.has D (.int qk x) = (f x).isSome
  at_ : ∀ x z, D.atKey (.int qk x) z = match f x with | some c => .lit (.int q c) | none => z
theorem Rep.empty {H : Type} (qk q : IntKind) : Rep (H := H) qk q (.map []) (fun _ => none) := ⟨isMap_empty, fun _ => rfl, fun _ _ => rfl⟩
theorem ne_key {qk : IntKind} {x y : Int} (h : y ≠ x) : (Lit.int qk y) ≠ (Lit.int qk x) := fun e => h (by cases e; rfl)
theorem Rep.put {H : Type} {qk q : IntKind} {D : DataW H} {f : Int → Option Int} (h : Rep qk q D f) (x c : Int) : Rep qk q (D.put (.int qk x) (.lit (.int q c))) (fun y => if y = x then some c else f y) := by
  refine ⟨h.isMap.put _ _, fun y => ?_, fun y z => ?_⟩
  · by_cases e : y = x
    · subst e; rw [has_put_same h.isMap (key_int _ _), if_pos rfl]; rfl
    · rw [has_put_other (ne_key e), if_neg e, h.has_]
  · by_cases e : y = x
    · subst e; rw [atKey_put_same h.isMap (key_int _ _), if_pos rfl]
    · rw [atKey_put_other (ne_key e), if_neg e, h.at_]
/-- what was collected while the map was ranged over: no key twice; a key is on the list just where the map has it and it is no longer to come -/
def Coll (qk : IntKind) (f : Int → Option Int) (left : Lit → Bool) (ks : List Int) : Prop := ks.Nodup ∧ ∀ x, x ∈ ks ↔ ((f x).isSome = true ∧ left (.int qk x) = false)
theorem Coll.start {H : Type} {qk q : IntKind} {D : DataW H} {f : Int → Option Int} (h : Rep qk q D f) : Coll qk f (Maps.has D) [] :=
  ⟨List.nodup_nil, fun x => by rw [h.has_]; cases (f x).isSome <;> simp⟩
theorem Coll.step {qk : IntKind} {f : Int → Option Int} {left : Lit → Bool} {ks : List Int} (h : Coll qk f left ks) {x : Int} (hf : (f x).isSome = true) (hl : left (.int qk x) = true) : Coll qk f (fun z => left z && !z.sameKey (.int qk x)) (ks ++ [x]) := by
  have hnew : x ∉ ks := fun hx => by have := ((h.2 x).1 hx).2; rw [hl] at this; cases this
  refine ⟨List.nodup_append.2 ⟨h.1, by simp, fun a ha b hb => by simp at hb; subst hb; exact fun e => hnew (e ▸ ha)⟩, fun y => ?_⟩
  by_cases hy : y = x
  · subst hy
    have : (Lit.int qk y).sameKey (.int qk y) = true := WideAt.sameKey_self (key_int _ _)
    simp [hf, this]
  · have : (Lit.int qk y).sameKey (.int qk x) = false := sameKey_ne (ne_key hy)
    simp [h.2 y, hy, this]
/-- strictly rising -/
def Rising (l : List Int) : Prop := l.Pairwise (· < ·)
theorem rising_unique {a b : List Int} (ha : Rising a) (hb : Rising b) (h : ∀ x, x ∈ a ↔ x ∈ b) : a = b := by
  have na : a.Nodup := ha.imp (fun h => by omega)
  have nb : b.Nodup := hb.imp (fun h => by omega)
  exact List.Perm.eq_of_pairwise (le := fun a b : Int => a < b) (fun a b _ _ h1 h2 => by omega) ha hb ((List.perm_ext_iff_of_nodup na nb).2 h)
/-- the rising list of what stands on a list -/
def ins (x : Int) : List Int → List Int
  | [] => [x]
  | y :: r => if x < y then x :: y :: r else if x = y then y :: r else y :: ins x r
theorem mem_ins (x y : Int) : ∀ l : List Int, y ∈ ins x l ↔ y = x ∨ y ∈ l
  | [] => by simp [ins]
  | z :: r => by
    unfold ins
    split
    · simp
    · split
      · rename_i h; subst h; simp
      · simp [mem_ins x y r]; constructor
        · rintro (h | h | h) <;> simp [h]
        · rintro (h | h | h) <;> simp [h]
theorem rising_ins (x : Int) : ∀ l : List Int, Rising l → Rising (ins x l)
  | [], _ => by simp [ins, Rising]
  | z :: r, h => by
    have hp := List.pairwise_cons.1 h
    unfold ins
    split
    · rename_i hlt
      exact List.pairwise_cons.2 ⟨fun y hy => by rcases List.mem_cons.1 hy with rfl | hy; · exact hlt
                                                 · have := hp.1 y hy; omega, h⟩
    · split
      · exact h
      · rename_i h1 h2
        refine List.pairwise_cons.2 ⟨fun y hy => ?_, rising_ins x r hp.2⟩
        rcases (mem_ins x y r).1 hy with rfl | hy
        · omega
        · exact hp.1 y hy
def keysOf (l : List Int) : List Int := l.foldl (fun ks x => ins x ks) []
theorem keysOf_spec (l : List Int) : Rising (keysOf l) ∧ ∀ x, x ∈ keysOf l ↔ x ∈ l := by
  have key : ∀ (l ks : List Int), Rising ks → Rising (l.foldl (fun ks x => ins x ks) ks) ∧ ∀ x, x ∈ l.foldl (fun ks x => ins x ks) ks ↔ x ∈ ks ∨ x ∈ l := by
    intro l
    induction l with
    | nil => intro ks h; exact ⟨h, fun x => by simp⟩
    | cons y r ih =>
      intro ks h
      obtain ⟨h1, h2⟩ := ih (ins y ks) (rising_ins y ks h)
      refine ⟨h1, fun x => ?_⟩
      show x ∈ r.foldl (fun ks x => ins x ks) (ins y ks) ↔ _
      rw [h2, mem_ins, List.mem_cons]
      constructor
      · rintro ((h | h) | h) <;> simp [h]
      · rintro (h | h | h) <;> simp [h]
  have h := key l [] .nil
  exact ⟨h.1, fun x => by rw [keysOf, h.2]; simp⟩
theorem ins_length (x : Int) : ∀ l : List Int, (ins x l).length ≤ l.length + 1
  | [] => by simp [ins]
  | z :: r => by
    unfold ins
    split
    · simp
    · split
      · simp
      · simp only [List.length_cons]; have := ins_length x r; omega
theorem keysOf_length (l : List Int) : (keysOf l).length ≤ l.length := by
  have key : ∀ (l ks : List Int), (l.foldl (fun ks x => ins x ks) ks).length ≤ ks.length + l.length := by
    intro l
    induction l with
    | nil => intro ks; simp
    | cons y r ih =>
      intro ks
      have h1 := ih (ins y ks)
      have h2 := ins_length y ks
      simp only [List.foldl_cons, List.length_cons]
      omega
  have := key l []
  simpa [keysOf] using this
/-- a list without twins, of all that stands on l: sorted, it is keysOf l -/
theorem sorted_keys {ks l : List Int} (hn : ks.Nodup) (hm : ∀ x, x ∈ ks ↔ x ∈ l) : ks.mergeSort (fun x y => decide (x ≤ y)) = keysOf l := by
  have hs := keysOf_spec l
  have tr : ∀ a b c : Int, decide (a ≤ b) = true → decide (b ≤ c) = true → decide (a ≤ c) = true := fun a b c h1 h2 => by simp only [decide_eq_true_eq] at *; omega
  have to : ∀ a b : Int, (decide (a ≤ b) || decide (b ≤ a)) = true := fun a b => by simp only [Bool.or_eq_true, decide_eq_true_eq]; omega
  have hp := List.mergeSort_perm ks (fun x y => decide (x ≤ y))
  have hnd : (ks.mergeSort fun x y => decide (x ≤ y)).Nodup := hp.nodup_iff.2 hn
  refine rising_unique ?_ hs.1 (fun x => by rw [hp.mem_iff, hm, hs.2])
  have h1 := List.pairwise_mergeSort tr to ks
  exact (h1.and hnd).imp (fun ⟨h, h'⟩ => by simp only [decide_eq_true_eq] at h; omega)
/-- where a number stands on a list -/
def at_ (ks : List Int) (x : Int) : Option Int := (ks.idxOf? x).map fun (i : Nat) => (i : Int)
end Go.Proofs.YtlpllhpnnhablaaGreat.XMap
