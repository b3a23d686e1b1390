/- Maps from texts to whole numbers, seen as functions; rising lists of texts. No program in sight. -/
import Derived.Maps.RangeWalk
import Derived.Maps.OwnSet
import Derived.StringKeys
import Derived.Sort.Walk0
import Derived.Lib.Strings
namespace Go.Proofs.YtlpllhpnnhablaaGreat.XMapS
open Go Go.Maps Go.WideShapes

instance lawful : LawfulBEq ByteArray where
  eq_of_beq {a b} h := by
    have h : (a.data == b.data) = true := h
    have h2 : a.data = b.data := eq_of_beq h
    cases a; cases b
    cases h2
    rfl
  rfl {a} := by
    show (a.data == a.data) = true
    exact beq_self_eq_true _
theorem inj {a b : ByteArray} (h : a.data.toList = b.data.toList) : a = b := by
  cases a; cases b
  simp only [ByteArray.mk.injEq]
  exact Array.toList_inj.1 h
theorem toList_data (a : ByteArray) : a.toList = a.data.toList := ByteArray.toList_eq a
theorem injL {a b : ByteArray} (h : a.toList = b.toList) : a = b := inj (by rw [← toList_data, ← toList_data]; exact h)
def lt (a b : ByteArray) : Bool := Op.bytesLess a.toList b.toList
theorem lt_def (a b : ByteArray) : lt a b = decide (a.toList < b.toList) := bytesLess_eq _ _
theorem lt_irrefl (a : ByteArray) : lt a a = false := by
  rw [lt_def]; exact decide_eq_false (List.lt_irrefl _)
theorem lt_trans {a b c : ByteArray} (h1 : lt a b = true) (h2 : lt b c = true) : lt a c = true := by
  rw [lt_def] at *
  exact decide_eq_true (List.lt_trans (of_decide_eq_true h1) (of_decide_eq_true h2))
theorem lt_tri {a b : ByteArray} (h1 : lt a b = false) (h2 : lt b a = false) : a = b := by
  rw [lt_def] at *
  have h1 := of_decide_eq_false h1
  have h2 := of_decide_eq_false h2
  exact injL (List.le_antisymm (List.not_lt.1 h2) (List.not_lt.1 h1))
theorem leq_form (a b : List UInt8) : (Op.bytesLess a b || a == b) = !Op.bytesLess b a := by
  rw [bytesLess_eq, bytesLess_eq]
  by_cases h : a < b
  · have : ¬ b < a := fun h2 => List.lt_irrefl _ (List.lt_trans h h2)
    simp [h, this]
  · by_cases h2 : b < a
    · have : ¬ a = b := fun e => by subst e; exact List.lt_irrefl _ h2
      simp [h, h2, this]
    · have : a = b := List.le_antisymm (List.not_lt.1 h2) (List.not_lt.1 h)
      simp [this, List.lt_irrefl]
theorem lt_asymm {a b : ByteArray} (h : lt a b = true) : lt b a = false := by
  cases e : lt b a with
  | false => rfl
  | true => have := lt_trans h e; rw [lt_irrefl] at this; cases this
theorem lt_ne {a b : ByteArray} (h : lt a b = true) : a ≠ b := fun e => by subst e; rw [lt_irrefl] at h; cases h
theorem key_str (l : List UInt8) : WideAt.IsKeyLit (.string l) := by trivial
/-- the datum D says of each key what f says -/
structure Rep {H : Type} (q : IntKind) (D : DataW H) (f : ByteArray → Option Int) : Prop where
  isMap : IsMap D
  has_ : ∀ x : ByteArray, Maps.has D (.string x.data.toList) = (f x).isSome
  at_ : ∀ (x : ByteArray) z, D.atKey (.string x.data.toList) z = match f x with | some c => .lit (.int q c) | none => z
theorem Rep.empty {H : Type} (q : IntKind) : Rep (H := H) q (.map []) (fun _ => none) := ⟨isMap_empty, fun _ => rfl, fun _ _ => rfl⟩
theorem ne_key {x y : ByteArray} (h : y ≠ x) : (Lit.string y.data.toList) ≠ (Lit.string x.data.toList) := fun e => h (inj (by injection e))
theorem Rep.put {H : Type} {q : IntKind} {D : DataW H} {f : ByteArray → Option Int} (h : Rep q D f) (x : ByteArray) (c : Int) : Rep q (D.put (.string x.data.toList) (.lit (.int q c))) (fun y => if y = x then some c else f y) := by
  refine ⟨h.isMap.put _ _, fun y => ?_, fun y z => ?_⟩
  · by_cases e : y = x
    · subst e; rw [has_put_same h.isMap (key_str _), if_pos rfl]; rfl
    · rw [has_put_other (ne_key e), if_neg e, h.has_]
  · by_cases e : y = x
    · subst e; rw [atKey_put_same h.isMap (key_str _), if_pos rfl]
    · rw [atKey_put_other (ne_key e), if_neg e, h.at_]
/-- what was collected while the map was ranged over -/
def Coll (f : ByteArray → Option Int) (left : Lit → Bool) (ks : List ByteArray) : Prop := ks.Nodup ∧ ∀ x, x ∈ ks ↔ ((f x).isSome = true ∧ left (.string x.data.toList) = false)
theorem Coll.start {H : Type} {q : IntKind} {D : DataW H} {f : ByteArray → Option Int} (h : Rep q D f) : Coll f (Maps.has D) [] :=
  ⟨List.nodup_nil, fun x => by rw [h.has_]; cases (f x).isSome <;> simp⟩
theorem Coll.step {f : ByteArray → Option Int} {left : Lit → Bool} {ks : List ByteArray} (h : Coll f left ks) {x : ByteArray} (hf : (f x).isSome = true) (hl : left (.string x.data.toList) = true) : Coll f (fun z => left z && !z.sameKey (.string x.data.toList)) (ks ++ [x]) := by
  have hnew : x ∉ ks := fun hx => by have := ((h.2 x).1 hx).2; rw [hl] at this; cases this
  refine ⟨List.nodup_append.2 ⟨h.1, by simp, fun a ha b hb => by simp at hb; subst hb; exact fun e => hnew (e ▸ ha)⟩, fun y => ?_⟩
  by_cases hy : y = x
  · subst hy
    have : (Lit.string y.data.toList).sameKey (.string y.data.toList) = true := WideAt.sameKey_self (key_str _)
    simp [hf, this]
  · have : (Lit.string y.data.toList).sameKey (.string x.data.toList) = false := sameKey_ne (ne_key hy)
    simp [h.2 y, hy, this]
/-- strictly rising -/
def Rising (l : List ByteArray) : Prop := l.Pairwise (fun a b => lt a b = true)
theorem rising_unique {a b : List ByteArray} (ha : Rising a) (hb : Rising b) (h : ∀ x, x ∈ a ↔ x ∈ b) : a = b := by
  have na : a.Nodup := ha.imp lt_ne
  have nb : b.Nodup := hb.imp lt_ne
  exact List.Perm.eq_of_pairwise (le := fun a b : ByteArray => lt a b = true) (fun a b _ _ h1 h2 => by rw [lt_asymm h1] at h2; cases h2) ha hb ((List.perm_ext_iff_of_nodup na nb).2 h)
def ins (x : ByteArray) : List ByteArray → List ByteArray
  | [] => [x]
  | y :: r => if lt x y = true then x :: y :: r else if x = y then y :: r else y :: ins x r
theorem mem_ins (x y : ByteArray) : ∀ l : List ByteArray, y ∈ ins x l ↔ y = x ∨ y ∈ l
  | [] => by simp [ins]
  | z :: r => by
    unfold ins
    split
    · simp
    · split
      · rename_i h; subst h; simp
      · simp [mem_ins x y r]; constructor
        · rintro (h | h | h) <;> simp [h]
        · rintro (h | h | h) <;> simp [h]
theorem rising_ins (x : ByteArray) : ∀ l : List ByteArray, Rising l → Rising (ins x l)
  | [], _ => by simp [ins, Rising]
  | z :: r, h => by
    have hp := List.pairwise_cons.1 h
    unfold ins
    split
    · rename_i hlt
      exact List.pairwise_cons.2 ⟨fun y hy => by rcases List.mem_cons.1 hy with rfl | hy; · exact hlt
                                                 · exact lt_trans hlt (hp.1 y hy), h⟩
    · split
      · exact h
      · rename_i h1 h2
        have hzx : lt z x = true := by
          cases e : lt z x with
          | true => rfl
          | false => exact absurd (lt_tri (by simpa using h1) e) h2
        refine List.pairwise_cons.2 ⟨fun y hy => ?_, rising_ins x r hp.2⟩
        rcases (mem_ins x y r).1 hy with rfl | hy
        · exact hzx
        · exact hp.1 y hy
def keysOf (l : List ByteArray) : List ByteArray := l.foldl (fun ks x => ins x ks) []
theorem keysOf_spec (l : List ByteArray) : Rising (keysOf l) ∧ ∀ x, x ∈ keysOf l ↔ x ∈ l := by
  have key : ∀ (l ks : List ByteArray), Rising ks → Rising (l.foldl (fun ks x => ins x ks) ks) ∧ ∀ x, x ∈ l.foldl (fun ks x => ins x ks) ks ↔ x ∈ ks ∨ x ∈ l := by
    intro l
    induction l with
    | nil => intro ks h; exact ⟨h, fun x => by simp⟩
    | cons y r ih =>
      intro ks h
      obtain ⟨h1, h2⟩ := ih (ins y ks) (rising_ins y ks h)
      refine ⟨h1, fun x => ?_⟩
      show x ∈ r.foldl (fun ks x => ins x ks) (ins y ks) ↔ _
      rw [h2, mem_ins, List.mem_cons]
      constructor
      · rintro ((h | h) | h) <;> simp [h]
      · rintro (h | h | h) <;> simp [h]
  have h := key l [] .nil
  exact ⟨h.1, fun x => by rw [keysOf, h.2]; simp⟩
theorem ins_length (x : ByteArray) : ∀ l : List ByteArray, (ins x l).length ≤ l.length + 1
  | [] => by simp [ins]
  | z :: r => by
    unfold ins
    split
    · simp
    · split
      · simp
      · simp only [List.length_cons]; have := ins_length x r; omega
theorem keysOf_length (l : List ByteArray) : (keysOf l).length ≤ l.length := by
  have key : ∀ (l ks : List ByteArray), (l.foldl (fun ks x => ins x ks) ks).length ≤ ks.length + l.length := by
    intro l
    induction l with
    | nil => intro ks; simp
    | cons y r ih =>
      intro ks
      have h1 := ih (ins y ks)
      have h2 := ins_length y ks
      simp only [List.foldl_cons, List.length_cons]
      omega
  have := key l []
  simpa [keysOf] using this
/-- a list without twins, of all that stands on l: sorted, it is keysOf l -/
theorem sorted_keys {ks l : List ByteArray} (hn : ks.Nodup) (hm : ∀ x, x ∈ ks ↔ x ∈ l) : ks.mergeSort (fun x y => !lt y x) = keysOf l := by
  have hs := keysOf_spec l
  have tr : ∀ a b c : ByteArray, (!lt b a) = true → (!lt c b) = true → (!lt c a) = true := fun a b c h1 h2 => by
    simp only [Bool.not_eq_true'] at *
    cases e : lt c a with
    | false => rfl
    | true =>
      cases e2 : lt a b with
      | true => have := lt_trans e e2; rw [h2] at this; cases this
      | false => have := lt_tri e2 h1; subst this; rw [h2] at e; cases e
  have to : ∀ a b : ByteArray, ((!lt b a) || (!lt a b)) = true := fun a b => by
    cases e : lt b a with
    | false => rfl
    | true => rw [lt_asymm e]; rfl
  have hp := List.mergeSort_perm ks (fun x y => !lt y x)
  have hnd : (ks.mergeSort fun x y => !lt y x).Nodup := hp.nodup_iff.2 hn
  refine rising_unique ?_ hs.1 (fun x => by rw [hp.mem_iff, hm, hs.2])
  have h1 := List.pairwise_mergeSort tr to ks
  exact (h1.and hnd).imp (fun {a b} ⟨h, h'⟩ => by
    cases e : lt a b with
    | true => rfl
    | false => exact absurd (lt_tri e (by simpa using h)) h')
section
variable {H : Type} {P : Program} {ops : Array Oper} {rest : List Oper} {o : Oper} {a : Act} {Q : Exit → Act → World → Prop}
/-- the step of a range over a map: keys that are texts, elements of a whole kind -/
theorem wpList_next_ranges_si (w : World) (hg : o.guard = none) (it : Operand) (hop : o.op = Op.next it false) (k e : TypeId) (qe : IntKind) (K : Keyed P k) (hk : P.underlying k = some .string) (he : P.underlying e = some (.int qe))
    (b r n : Nat) (D : DataW H) (left : Lit → Bool) (cnt : Nat) (hit : a.eval it = .pointer (some ⟨r, 0, none⟩)) (h : w.ranges P k (plainElem P e) b r n D left cnt)
    (hDone : cnt = 0 → (∀ kl, left kl = false) → wpList P ops Q rest (a.put o.dst (.tuple #[.bool false])) w)
    (hMore : ∀ (x : ByteArray) (c : Int) (w' : World) (cnt' : Nat), x.size ≤ maxLen → (Lit.int qe c).wf = true → left (.string x.data.toList) = true → (∀ zd, D.atKey (.string x.data.toList) zd = .lit (.int qe c)) → w'.ranges P k (plainElem P e) b r n D (fun z => left z && !z.sameKey (.string x.data.toList)) cnt' → cnt' < cnt →
      w.grownBy w' (some r) → w'.heap.size = w.heap.size → (Instr.entry (.pointer (some ⟨r, 0, none⟩))).run P w' = .ok (.tuple #[.string x, .int qe c]) w' → wpList P ops Q rest (a.put o.dst (.tuple #[.bool true, .string x, .int qe c])) w') :
    wpList P ops Q (o :: rest) a w :=
  wpList_next_ranges w hg it hop k K (plainElem P e) Value.string (Value.int qe) (fun key kl hkey => by obtain ⟨x, rfl, _⟩ := WideMaps.string_of_keyOf hk hkey; exact ⟨x, rfl⟩) (fun v y hv => by obtain ⟨c, rfl, _⟩ := plainElem_int_inv he hv; exact ⟨c, rfl⟩)
    b r n D left cnt hit h hDone (fun x c kl y w' cnt' hkey hlk hv hat hrg hlt hgr hsz hen => by
      obtain ⟨x', ex, rfl, hwx⟩ := WideMaps.string_of_keyOf hk hkey
      cases ex
      obtain ⟨c', ec, rfl, hwc⟩ := plainElem_int_inv he hv
      cases ec
      exact hMore x c w' cnt' hwx hwc hlk hat hrg hlt hgr hsz hen)
end
end Go.Proofs.YtlpllhpnnhablaaGreat.XMapS
