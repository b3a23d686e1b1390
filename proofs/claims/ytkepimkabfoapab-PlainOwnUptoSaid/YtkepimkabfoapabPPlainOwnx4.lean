-- Written by xprint.py, this session's own program over the kit's print; Lean checks it.
import Derived.Test.YtkepimkabfoapabPPlainOwnx0
import Derived.Test.YtkepimkabfoapabPPlainOwnx1
import Derived.Test.YtkepimkabfoapabPPlainOwnx2
import Derived.Test.YtkepimkabfoapabPPlainOwnx3
namespace Go.Proofs.Ytkepimkabfoapab.PPlainOwn
open Go.RowKit Go.Proofs.YtkepimkabfoapabW.PrintWords Go.Proofs.YtkepimkabfoapabW.PrintLast Go.Proofs.YtkepimkabfoapabW.PrintMore
attribute [local go_sem] max2_int min2_int max_two min_two max_three min_three max_four min_four   -- for this text's walks alone
set_option linter.unusedVariables false
set_option linter.unusedSimpArgs false

/-! ### colonnadelaw08_PlainOwn: function 9 -/
def colonnadelaw08_PlainOwn.inc (l : List Int) : List Int := l.map fun x => wrap64 (x + 1)
theorem colonnadelaw08_PlainOwn.info64 : (Try.prog.info? 2).map (fun i => (i.zero, i.size, i.bytes)) = some (some (.int .i64 0), 1, 8) := by kernel_rfl
theorem colonnadelaw08_PlainOwn.infoStr : (Try.prog.info? 9).map (fun i => (i.zero, i.size, i.bytes)) = some (some (.string ByteArray.empty), 1, 16) := by kernel_rfl
theorem colonnadelaw08_PlainOwn.info8 : (Try.prog.info? 5).map (fun i => (i.zero, i.size, i.bytes)) = some (some (.int .u8 0), 1, 1) := by kernel_rfl
/-- a row of one's own more, behind a call that only makes memory -/
theorem colonnadelaw08_PlainOwn.more {α : Type} {enc : α → Value} (h1 : ∀ x, (enc x).oneCell' = true) {W W' : World} {base : Nat} {l : List XRows.RowD} (h : XRows.Rows W base l) (hb : Below W.heap.size W W') (hbase : base ≤ W.heap.size) {e : Nat} {v : Value} {xs : List α} {ok : Nat → Prop}
    (hr : (Kd.scalar enc h1).R e W' W.heap.size ok v xs) : ∃ A c, v = .slice A xs.length c ∧ XRows.Rows W' base (⟨e, .slice A xs.length c, encs enc xs⟩ :: l) := by
  obtain ⟨A, c, rfl⟩ := Kd.R_slice hr
  exact ⟨A, c, rfl, h.addR hb hbase hr⟩
theorem colonnadelaw08_PlainOwn.emptyR (W : World) (e : TypeId) {α : Type} (enc : α → Value) (h1 : ∀ x, (enc x).oneCell' = true) : (Kd.scalar enc h1).R e (W.alloc (.cells #[] e)) W.heap.size (fun _ => True) (.slice (some ⟨W.heap.size, 0, none⟩) 0 0) [] :=
  Kd.R_of_own (own_lit_of (enc := enc) W W.heap.size e [] (Nat.le_refl _) (by simp)) (fun _ _ => trivial)
theorem colonnadelaw08_PlainOwn.rowC {α : Type} {enc : α → Value} (h1 : ∀ x, (enc x).oneCell' = true) {W : World} {base : Nat} {l : List XRows.RowD} (h : XRows.Rows W base l) (i : Nat) {e : Nat} {A : Option Addr} {c : Nat} {xs : List α} (hi : l[i]? = some ⟨e, .slice A xs.length c, encs enc xs⟩) :
    Kd.C (Kd.scalar enc h1) W A xs.length xs ∧ xs.length ≤ c :=
  ⟨(Kd.R_reads' (h.getR h1 i hi)).2.2, (Kd.R_reads' (h.getR h1 i hi)).2.1⟩
/-- plain.PutInts, plain.PutTexts, plain.Ints, plain.Texts beside own rows -/
theorem colonnadelaw08_PlainOwn.putInts {W : World} {base : Nat} {l : List XRows.RowD} (h : XRows.Rows W base l) (hbase : base ≤ W.heap.size) {A : Option Addr} {c : Nat} {X r : List Int} (hC : Kd.C (Kd.int .i64) W A X.length X) (hc : X.length ≤ c) (hf : plain_PutInts.f X = some r) :
    Calls Try.prog 13 #[.slice A X.length c] W fun e W' => ∃ A' c', e = .returned (.slice A' r.length c') ∧ Below W.heap.size W W' ∧ XRows.Rows W' base (⟨5, .slice A' r.length c', encs (Value.int .u8) r⟩ :: l) := by
  refine (plain_PutInts.calls A c X r W hC hc hf).mono ?_
  rintro e W' ⟨v, rfl, hR, hb⟩
  obtain ⟨A', c', rfl, hr⟩ := colonnadelaw08_PlainOwn.more (fun _ => rfl) h hb hbase hR
  exact ⟨A', c', rfl, hb, hr⟩
theorem colonnadelaw08_PlainOwn.putTexts {W : World} {base : Nat} {l : List XRows.RowD} (h : XRows.Rows W base l) (hbase : base ≤ W.heap.size) {A : Option Addr} {c : Nat} {X : List ByteArray} {r : List Int} {n : Int} (hC : Kd.C Kd.string W A X.length X) (hc : X.length ≤ c) (hf : plain_PutTexts.f X = some (r, n)) :
    Calls Try.prog 14 #[.slice A X.length c] W fun e W' => ∃ A' c', e = .returned (.tuple #[.slice A' r.length c', .int .i64 n]) ∧ Below W.heap.size W W' ∧ XRows.Rows W' base (⟨5, .slice A' r.length c', encs (Value.int .u8) r⟩ :: l) := by
  refine (plain_PutTexts.calls A c X r n W hC hc hf).mono ?_
  rintro e W' ⟨v, rfl, hR, hb⟩
  obtain ⟨A', c', rfl, hr⟩ := colonnadelaw08_PlainOwn.more (fun _ => rfl) h hb hbase hR
  exact ⟨A', c', rfl, hb, hr⟩
theorem colonnadelaw08_PlainOwn.ints {W : World} {base : Nat} {l : List XRows.RowD} (h : XRows.Rows W base l) (hbase : base ≤ W.heap.size) (K : Nat) {A : Option Addr} {c : Nat} {X r : List Int} {m n : Int} (hC : Kd.C (Kd.int .u8) W A X.length X) (hc : X.length ≤ c) (hf : plain_Ints.f K X m = some (r, n)) :
    Calls Try.prog 21 #[.slice A X.length c, .int .i64 m] W fun e W' => ∃ A' c', e = .returned (.tuple #[.slice A' r.length c', .int .i64 n]) ∧ Below W.heap.size W W' ∧ XRows.Rows W' base (⟨2, .slice A' r.length c', encs (Value.int .i64) r⟩ :: l) := by
  refine (plain_Ints.calls K A c X m r n W hC hc hf).mono ?_
  rintro e W' ⟨v, rfl, hR, hb⟩
  obtain ⟨A', c', rfl, hr⟩ := colonnadelaw08_PlainOwn.more (fun _ => rfl) h hb hbase hR
  exact ⟨A', c', rfl, hb, hr⟩
theorem colonnadelaw08_PlainOwn.texts {W : World} {base : Nat} {l : List XRows.RowD} (h : XRows.Rows W base l) (hbase : base ≤ W.heap.size) (K : Nat) {A : Option Addr} {c : Nat} {X : List Int} {r : List ByteArray} {m n : Int} (hC : Kd.C (Kd.int .u8) W A X.length X) (hc : X.length ≤ c) (hf : plain_Texts.f K X m = some (r, n)) :
    Calls Try.prog 26 #[.slice A X.length c, .int .i64 m] W fun e W' => ∃ A' c', e = .returned (.tuple #[.slice A' r.length c', .int .i64 n]) ∧ Below W.heap.size W W' ∧ XRows.Rows W' base (⟨9, .slice A' r.length c', encs Value.string r⟩ :: l) := by
  refine (plain_Texts.calls K A c X m r n W hC hc hf).mono ?_
  rintro e W' ⟨v, rfl, hR, hb⟩
  obtain ⟨A', c', rfl, hr⟩ := colonnadelaw08_PlainOwn.more (fun _ => rfl) h hb hbase hR
  exact ⟨A', c', rfl, hb, hr⟩
theorem colonnadelaw08_PlainOwn.shortC {W : World} {base : Nat} {l : List XRows.RowD} (h : XRows.Rows W base l) (hbase : base ≤ W.heap.size) (K : Nat) {A : Option Addr} {c : Nat} {X r : List ByteArray} (hC : Kd.C Kd.string W A X.length X) (hc : X.length ≤ c) (hf : colonnadelaw08_short.f K X = some r) :
    Calls Try.prog 30 #[.slice A X.length c] W fun e W' => ∃ A' c', e = .returned (.slice A' r.length c') ∧ Below W.heap.size W W' ∧ XRows.Rows W' base (⟨9, .slice A' r.length c', encs Value.string r⟩ :: l) := by
  refine (colonnadelaw08_short.calls K A c X r W hC hc hf).mono ?_
  rintro e W' ⟨v, rfl, hR, hb⟩
  obtain ⟨A', c', rfl, hr⟩ := colonnadelaw08_PlainOwn.more (fun _ => rfl) h hb hbase hR
  exact ⟨A', c', rfl, hb, hr⟩
theorem colonnadelaw08_PlainOwn.rowCn {α : Type} {enc : α → Value} (h1 : ∀ x, (enc x).oneCell' = true) {W : World} {base : Nat} {l : List XRows.RowD} (h : XRows.Rows W base l) (i : Nat) {e : Nat} {A : Option Addr} {n c : Nat} {xs : List α} (hi : l[i]? = some ⟨e, .slice A n c, encs enc xs⟩) (hn : xs.length = n) :
    Kd.C (Kd.scalar enc h1) W A n xs ∧ n ≤ c := by
  subst hn
  exact colonnadelaw08_PlainOwn.rowC h1 h i hi
theorem colonnadelaw08_PlainOwn.putN {α : Type} {enc : α → Value} (h1 : ∀ x, (enc x).oneCell' = true) {W : World} {base : Nat} {l : List XRows.RowD} (h : XRows.Rows W base l) (i : Nat) {e g n c : Nat} {xs : List α} (hi : l[i]? = some ⟨e, .slice (some ⟨g, 0, none⟩) n c, encs enc xs⟩) (hn : xs.length = n) (j : Nat) (x : α) :
    XRows.Rows (W.setCell ⟨g, j, none⟩ (enc x)) base (l.set i ⟨e, .slice (some ⟨g, 0, none⟩) n c, encs enc (xs.set j x)⟩) := by
  subst hn
  exact h.put h1 i hi j x
theorem colonnadelaw08_PlainOwn.cellR {α : Type} {enc : α → Value} (h1 : ∀ x, (enc x).oneCell' = true) (d : α) {W : World} {base : Nat} {l : List XRows.RowD} (h : XRows.Rows W base l) (i : Nat) {e : Nat} {A : Option Addr} {n c : Nat} {xs : List α} (hi : l[i]? = some ⟨e, .slice A n c, encs enc xs⟩) (hn : xs.length = n) (hp : 0 < n) :
    ∃ g, A = some ⟨g, 0, none⟩ ∧ base ≤ g ∧ ∀ j : Nat, j < n → W.cell? ⟨g, j, none⟩ = some (enc (rdOf d xs (j : Int))) ∧ W.frozen? ⟨g, j, none⟩ = false := by
  subst hn
  have hR := h.getR h1 i hi
  obtain ⟨g, cap, he, hb, _⟩ := Kd.R_form hR hp
  cases he
  refine ⟨g, rfl, hb, fun j hj => ?_⟩
  have := Kd.R_cell d hR (j : Int) (by omega) (by omega)
  rwa [Int.toNat_natCast] at this
def colonnadelaw08_PlainOwn.incN (i : Nat) (l : List Int) : List Int := colonnadelaw08_PlainOwn.inc (l.take i) ++ l.drop i
theorem colonnadelaw08_PlainOwn.inc_len (l : List Int) : (colonnadelaw08_PlainOwn.inc l).length = l.length := by simp [colonnadelaw08_PlainOwn.inc]
theorem colonnadelaw08_PlainOwn.incN_len (i : Nat) (l : List Int) : (colonnadelaw08_PlainOwn.incN i l).length = l.length := by simp [colonnadelaw08_PlainOwn.incN, colonnadelaw08_PlainOwn.inc]; omega
theorem colonnadelaw08_PlainOwn.incN_full (l : List Int) : colonnadelaw08_PlainOwn.incN l.length l = colonnadelaw08_PlainOwn.inc l := by simp [colonnadelaw08_PlainOwn.incN]
theorem colonnadelaw08_PlainOwn.incN_set (i : Nat) (l : List Int) (hi : i < l.length) : (colonnadelaw08_PlainOwn.incN i l).set i (wrap64 (rdOf 0 (colonnadelaw08_PlainOwn.incN i l) (i : Int) + 1)) = colonnadelaw08_PlainOwn.incN (i + 1) l := by
  have hl : (colonnadelaw08_PlainOwn.inc (l.take i)).length = i := by simp [colonnadelaw08_PlainOwn.inc]; omega
  have hr : rdOf 0 (colonnadelaw08_PlainOwn.incN i l) (i : Int) = l[i] := by
    unfold rdOf colonnadelaw08_PlainOwn.incN
    rw [Int.toNat_natCast, List.getD_eq_getElem?_getD, List.getElem?_append_right (by omega), hl, Nat.sub_self, List.getElem?_drop, Nat.add_zero, List.getElem?_eq_getElem hi, Option.getD_some]
  rw [hr]
  unfold colonnadelaw08_PlainOwn.incN
  rw [List.set_append_right _ _ (by omega), hl, Nat.sub_self, List.drop_eq_getElem_cons hi, List.set_cons_zero, List.take_succ_eq_append_getElem hi]
  unfold colonnadelaw08_PlainOwn.inc
  rw [List.map_append, List.append_assoc]
  rfl
theorem colonnadelaw08_PlainOwn.putIntsN {W : World} {base : Nat} {l : List XRows.RowD} (h : XRows.Rows W base l) (hbase : base ≤ W.heap.size) {A : Option Addr} {n c : Nat} {X r : List Int} (hC : Kd.C (Kd.int .i64) W A n X ∧ n ≤ c) (hn : X.length = n) (hf : plain_PutInts.f X = some r) :
    Calls Try.prog 13 #[.slice A n c] W fun e W' => ∃ A' c', e = .returned (.slice A' r.length c') ∧ Below W.heap.size W W' ∧ XRows.Rows W' base (⟨5, .slice A' r.length c', encs (Value.int .u8) r⟩ :: l) := by
  subst hn
  exact colonnadelaw08_PlainOwn.putInts h hbase hC.1 hC.2 hf
theorem colonnadelaw08_PlainOwn.putTextsN {W : World} {base : Nat} {l : List XRows.RowD} (h : XRows.Rows W base l) (hbase : base ≤ W.heap.size) {A : Option Addr} {n c : Nat} {X : List ByteArray} {r : List Int} {k : Int} (hC : Kd.C Kd.string W A n X ∧ n ≤ c) (hn : X.length = n) (hf : plain_PutTexts.f X = some (r, k)) :
    Calls Try.prog 14 #[.slice A n c] W fun e W' => ∃ A' c', e = .returned (.tuple #[.slice A' r.length c', .int .i64 k]) ∧ Below W.heap.size W W' ∧ XRows.Rows W' base (⟨5, .slice A' r.length c', encs (Value.int .u8) r⟩ :: l) := by
  subst hn
  exact colonnadelaw08_PlainOwn.putTexts h hbase hC.1 hC.2 hf
theorem colonnadelaw08_PlainOwn.intsN {W : World} {base : Nat} {l : List XRows.RowD} (h : XRows.Rows W base l) (hbase : base ≤ W.heap.size) (K : Nat) {A : Option Addr} {n c : Nat} {X r : List Int} {m k : Int} (hC : Kd.C (Kd.int .u8) W A X.length X) (hc : X.length ≤ c) (hn : X.length = n) (hf : plain_Ints.f K X m = some (r, k)) {nr : Nat} (hnr : r.length = nr) :
    Calls Try.prog 21 #[.slice A n c, .int .i64 m] W fun e W' => ∃ A' c', e = .returned (.tuple #[.slice A' nr c', .int .i64 k]) ∧ Below W.heap.size W W' ∧ XRows.Rows W' base (⟨2, .slice A' nr c', encs (Value.int .i64) r⟩ :: l) := by
  subst hn hnr
  exact colonnadelaw08_PlainOwn.ints h hbase K hC hc hf
theorem colonnadelaw08_PlainOwn.textsN {W : World} {base : Nat} {l : List XRows.RowD} (h : XRows.Rows W base l) (hbase : base ≤ W.heap.size) (K : Nat) {A : Option Addr} {n c : Nat} {X : List Int} {r : List ByteArray} {m k : Int} (hC : Kd.C (Kd.int .u8) W A X.length X) (hc : X.length ≤ c) (hn : X.length = n) (hf : plain_Texts.f K X m = some (r, k)) :
    Calls Try.prog 26 #[.slice A n c, .int .i64 m] W fun e W' => ∃ A' c', e = .returned (.tuple #[.slice A' r.length c', .int .i64 k]) ∧ Below W.heap.size W W' ∧ XRows.Rows W' base (⟨9, .slice A' r.length c', encs Value.string r⟩ :: l) := by
  subst hn
  exact colonnadelaw08_PlainOwn.texts h hbase K hC hc hf
/-- a row of bytes made of a string: its block bears a mark, so it is told by itself -/
structure colonnadelaw08_PlainOwn.Own8 (W : World) (g c : Nat) (X : List Int) : Prop where
  row : ∃ cur fr, W.heap[g]? = some (.cells cur 5 fr) ∧ (∀ j, j < X.length → cur[j]? = some (.int .u8 (rdOf 0 X (j : Int)))) ∧ X.length ≤ fr.1
  len : X.length ≤ c
  big : X.length ≤ 9223372036854775807
theorem colonnadelaw08_PlainOwn.Own8.cell {W : World} {g c : Nat} {X : List Int} (h : colonnadelaw08_PlainOwn.Own8 W g c X) (j : Nat) (hj : j < X.length) : W.cell? ⟨g, j, none⟩ = some (.int .u8 (rdOf 0 X (j : Int))) ∧ W.frozen? ⟨g, j, none⟩ = false := by
  obtain ⟨cur, fr, h1, h2, h3⟩ := h.row
  constructor
  · rw [cell_of_row W g j cur 5 fr h1]
    exact h2 j hj
  · simp [World.frozen?, h1]
    omega
theorem colonnadelaw08_PlainOwn.Own8.C {W : World} {g c : Nat} {X : List Int} (h : colonnadelaw08_PlainOwn.Own8 W g c X) : Kd.C (Kd.int .u8) W (some ⟨g, 0, none⟩) X.length X := by
  refine Kd.C_of_reads (h1 := fun _ => rfl) (d := 0) ⟨rfl, h.big, fun _ => ⟨_, rfl, fun j hj => ?_⟩⟩
  rw [add_plain, (h.cell j hj).1]
  simp [rdOf]
theorem colonnadelaw08_PlainOwn.Own8.below {W W' : World} {g c : Nat} {X : List Int} (h : colonnadelaw08_PlainOwn.Own8 W g c X) (hb : Below W.heap.size W W') : colonnadelaw08_PlainOwn.Own8 W' g c X := by
  obtain ⟨cur, fr, h1, h2, h3⟩ := h.row
  have hlt : g < W.heap.size := by
    rcases Nat.lt_or_ge g W.heap.size with h' | h'
    · exact h'
    · rw [Array.getElem?_eq_none h'] at h1; cases h1
  exact ⟨⟨cur, fr, (hb.block g hlt).trans h1, h2, h3⟩, h.len, h.big⟩
theorem colonnadelaw08_PlainOwn.Own8.set {W : World} {g c : Nat} {X : List Int} (h : colonnadelaw08_PlainOwn.Own8 W g c X) (j : Nat) (x : Int) : colonnadelaw08_PlainOwn.Own8 (W.setCell ⟨g, j, none⟩ (.int .u8 x)) g c (X.set j x) := by
  obtain ⟨cur, fr, h1, h2, h3⟩ := h.row
  refine ⟨⟨cur.setIfInBounds j (.int .u8 x), fr, XApart.heap_setCell_same h1 _, fun k hk => ?_, by rw [List.length_set]; exact h3⟩, by rw [List.length_set]; exact h.len, by rw [List.length_set]; exact h.big⟩
  rw [List.length_set] at hk
  have hsz : k < cur.size := by
    have := h2 k hk
    exact (Array.getElem?_eq_some_iff.mp this).1
  by_cases e : j = k
  · subst e
    rw [Array.getElem?_setIfInBounds, if_pos rfl, if_pos hsz]
    simp [rdOf, List.getD_eq_getElem?_getD, hk]
  · rw [Array.getElem?_setIfInBounds, if_neg e, h2 k hk]
    simp [rdOf, List.getD_eq_getElem?_getD, e]
theorem colonnadelaw08_PlainOwn.Own8.sets {g c : Nat} : ∀ (ys : List Int) (o : Nat) (W : World) (X : List Int), colonnadelaw08_PlainOwn.Own8 W g c X → o + ys.length ≤ X.length → colonnadelaw08_PlainOwn.Own8 (W.setCells g o (ys.map (Value.int .u8))) g c (X.take o ++ ys ++ X.drop (o + ys.length))
  | [], o, W, X, h, _ => by simpa [World.setCells] using h
  | y :: ys, o, W, X, h, hl => by
    have hl' : o + 1 + ys.length ≤ (X.set o y).length := by rw [List.length_set]; simp at hl; omega
    have ih := colonnadelaw08_PlainOwn.Own8.sets ys (o + 1) (W.setCell ⟨g, o, none⟩ (.int .u8 y)) (X.set o y) (h.set o y) hl'
    have ho : o < X.length := by simp at hl; omega
    have e : (X.set o y).take (o + 1) ++ ys ++ (X.set o y).drop (o + 1 + ys.length) = X.take o ++ (y :: ys) ++ X.drop (o + (y :: ys).length) := by
      rw [List.take_succ_eq_append_getElem (by rw [List.length_set]; exact ho), List.getElem_set_self, List.take_set_of_le (Nat.le_refl _), List.drop_set_of_lt (by omega)]
      simp [Nat.add_assoc, Nat.add_comm 1]
    rw [e] at ih
    exact ih
theorem colonnadelaw08_PlainOwn.copyOf {W : World} {g c : Nat} {X Y : List Int} (h : colonnadelaw08_PlainOwn.Own8 W g c X) (hl : Y.length = X.length) {A : Option Addr} {c' : Nat} (hC : Kd.C (Kd.int .u8) W A Y.length Y) :
    ∃ W', (Builtin.copy_ #[24, 24] 3 #[.slice (some ⟨g, 0, none⟩) X.length c, .slice A Y.length c']).run Try.prog W = .ok (goInt Y.length) W' ∧ Below g W W' ∧ W.grownBy W' (some g) ∧ colonnadelaw08_PlainOwn.Own8 W' g c Y := by
  have hi : (Try.prog.info? 5).map (·.size) = some 1 := by kernel_rfl
  by_cases h0 : Y.length = 0
  · have hY : Y = [] := List.eq_nil_of_length_eq_zero h0
    have hX : X = [] := List.eq_nil_of_length_eq_zero (by omega)
    subst hY hX
    exact ⟨W, run_copy_none W _ _ _ _ _ _ _ _ _ _ Try.underlying24 hi (by simp), Below.refl _ _, ⟨rfl, rfl, rfl, Nat.le_refl _, fun _ _ _ => rfl⟩, h⟩
  · obtain ⟨ad, rfl, _⟩ := Kd.at_int hC 0 (by omega) (by omega)
    have hr := run_copy_cells (P := Try.prog) W 24 24 3 5 g 0 X.length c ad Y.length c' (Y.map (Value.int .u8)) Try.underlying24 hi (by simp [hl]) (fun j v hv => by
      rw [List.getElem?_map] at hv
      obtain ⟨y, hy, rfl⟩ := Option.map_eq_some_iff.mp hv
      obtain ⟨hj, rfl⟩ := List.getElem?_eq_some_iff.mp hy
      obtain ⟨ad', e, hc⟩ := Kd.at_int hC (j : Int) (by omega) (by omega)
      cases e
      rw [Int.toNat_natCast] at hc
      rw [hc]
      simp [rd, List.getD_eq_getElem?_getD, hj]) (fun j hj => by
      rw [List.length_map] at hj
      rw [Nat.zero_add, (h.cell j (by omega)).1]; rfl) (fun j hj => by
      rw [List.length_map] at hj
      rw [Nat.zero_add]; exact (h.cell j (by omega)).2) (fun v hv => by
      obtain ⟨y, _, rfl⟩ := List.mem_map.mp hv
      rfl)
    rw [List.length_map] at hr
    have hs := setCells_same g (Y.map (Value.int .u8)) 0 W
    have hO := colonnadelaw08_PlainOwn.Own8.sets Y 0 W X h (by omega)
    rw [List.take_zero, List.nil_append, Nat.zero_add, hl, List.drop_length, List.append_nil] at hO
    exact ⟨_, hr, ⟨hs.1, hs.2.1, hs.2.2.1, Nat.le_of_eq hs.2.2.2.symm, fun k hk => setCells_far _ 0 k (by omega)⟩, ⟨hs.1, hs.2.1, hs.2.2.1, Nat.le_of_eq hs.2.2.2.symm, fun k _ hk => setCells_far _ 0 k (fun e => hk (by rw [e]))⟩, hO⟩
theorem colonnadelaw08_PlainOwn.keptAbove {W W' : World} {base g : Nat} {l : List XRows.RowD} (h : XRows.Rows W base l) (hg : W.grownBy W' (some g)) (hlt : g < base) : XRows.Rows W' base l :=
  ⟨fun r hr => (h.holds r hr).kept hg (by
    cases hb : r.v.ownBlock with
    | none => exact .inl rfl
    | some k => exact .inr (fun e => by have := ((h.holds r hr).lt k hb).1; cases e; omega)), h.apart⟩
theorem colonnadelaw08_PlainOwn.bytesOf (W : World) (X : List Int) (hX : ∀ x ∈ X, 0 ≤ x ∧ x < 256) (hb : X.length ≤ 4611686018427387904) : ∃ c W', (convert 9 24 (.string (strOfNums X))).run Try.prog W = .ok (.slice (some ⟨W.heap.size, 0, none⟩) X.length c) W' ∧ Below W.heap.size W W' ∧ colonnadelaw08_PlainOwn.Own8 W' W.heap.size c X := by
  have hs := strOfNums_size X
  have hr := Lib.run_convert_string_bytes (P := Try.prog) W 9 24 5 (strOfNums X) Try.underlying9 Try.underlying24 Try.underlying5
  rw [hs] at hr
  refine ⟨grownCap W X.length 0 5, Lib.bytesWorld W 5 (strOfNums X), hr, ⟨rfl, rfl, rfl, by rw [Lib.bytesWorld_size]; omega, fun k hk => Lib.bytesWorld_at_old W _ _ k hk⟩, ⟨_, _, Lib.bytesWorld_at_new W _ _, fun j hj => ?_, ?_⟩, ?_, by omega⟩
  · have h1 := Lib.bytesWorld_cell W 5 (strOfNums X) j (by omega)
    rw [cell_of_row _ _ j _ _ _ (Lib.bytesWorld_at_new W _ _)] at h1
    rw [h1, strOfNums_data]
    have hx := hX X[j] (List.getElem_mem hj)
    simp [rdOf, List.getD_eq_getElem?_getD, hj]
    omega
  · simp [Lib.bytesCells]
    omega
  · have := grownCap_ge W X.length 0 5
    omega
theorem colonnadelaw08_PlainOwn.sameI (K : Nat) {W : World} {A0 A1 : Option Addr} {n m c0 c1 : Nat} {l0 l1 : List Int} {r : Bool} (h0 : Kd.C (Kd.int .i64) W A0 n l0 ∧ n ≤ c0) (hn0 : l0.length = n) (h1 : Kd.C (Kd.int .i64) W A1 m l1 ∧ m ≤ c1) (hn1 : l1.length = m) (hf : colonnaderef08_SameInts.f K l0 l1 = some r) :
    Calls Try.prog 17 #[.slice A0 n c0, .slice A1 m c1] W fun e W' => e = .returned (.bool r) ∧ Below W.heap.size W W' := by
  subst hn0 hn1
  exact (colonnaderef08_SameInts.calls K A0 c0 l0 A1 c1 l1 r W h0.1 h0.2 h1.1 h1.2 hf).mono fun e W' h => ⟨h.1, h.2.below⟩
theorem colonnadelaw08_PlainOwn.sameT (K : Nat) {W : World} {A0 A1 : Option Addr} {n m c0 c1 : Nat} {l0 l1 : List ByteArray} {r : Bool} (h0 : Kd.C Kd.string W A0 n l0 ∧ n ≤ c0) (hn0 : l0.length = n) (h1 : Kd.C Kd.string W A1 m l1 ∧ m ≤ c1) (hn1 : l1.length = m) (hf : colonnaderef08_SameTexts.f K l0 l1 = some r) :
    Calls Try.prog 18 #[.slice A0 n c0, .slice A1 m c1] W fun e W' => e = .returned (.bool r) ∧ Below W.heap.size W W' := by
  subst hn0 hn1
  exact (colonnaderef08_SameTexts.calls K A0 c0 l0 A1 c1 l1 r W h0.1 h0.2 h1.1 h1.2 hf).mono fun e W' h => ⟨h.1, h.2.below⟩
theorem colonnadelaw08_PlainOwn.rowsBut {W W1 W' : World} {base : Nat} {l : List XRows.RowD} (h : XRows.Rows W base l) (h1 : Below W.heap.size W W1) {gs : Nat → Option Nat} (hb : XApart.ButFor gs W1.heap.size W1 W') (hn : ∀ r ∈ l, ∀ g, r.v.ownBlock = some g → ∀ i, gs i ≠ some g) : XRows.Rows W' base l := by
  refine ⟨fun r hr => ?_, h.apart⟩
  have ho := pw_own_below (h.holds r hr) h1
  refine ⟨ho.1, ?_⟩
  rcases ho.2 with hnil | ⟨g, cap, cur, e1, e2, e3, e4⟩
  · exact .inl hnil
  · refine .inr ⟨g, cap, cur, e1, e2, ?_, e4⟩
    rw [hb.block g (own_lt ho g (by rw [e1]; rfl)) (hn r hr g (by rw [e1]; rfl))]
    exact e3
theorem colonnadelaw08_PlainOwn.gsIn {W : World} {base : Nat} {l : List XRows.RowD} (h : XRows.Rows W base l) {vs : List Value} (hv : ∀ i (hi : i < vs.length), ∃ r ∈ l, r.v = vs[i]) : ∀ i g, XApart.gsOf vs i = some g → base ≤ g ∧ g < W.heap.size := by
  intro i g hg
  unfold XApart.gsOf at hg
  by_cases hi : i < vs.length
  · rw [List.getD_eq_getElem?_getD, List.getElem?_eq_getElem hi, Option.getD_some] at hg
    obtain ⟨r, hr, e⟩ := hv i hi
    rw [← e] at hg
    exact ⟨((h.holds r hr).lt g hg).1, own_lt (h.holds r hr) g hg⟩
  · rw [List.getD_eq_getElem?_getD, List.getElem?_eq_none (by omega)] at hg
    cases hg
theorem colonnadelaw08_PlainOwn.long : ∀ (n : Nat) (l : List ByteArray), n ≤ 4294967295 → XPlain.tooLong n l = false → n + XPlain.total l ≤ 4294967295
  | n, [], h, _ => h
  | n, s :: r, h, ht => by
    rw [XPlain.tooLong] at ht
    simp only [Bool.or_eq_false_iff, decide_eq_false_iff_not] at ht
    have := colonnadelaw08_PlainOwn.long (n + s.size) r (by omega) ht.2
    have e : XPlain.total (s :: r) = s.size + XPlain.total r := rfl
    omega
theorem colonnadelaw08_PlainOwn.putLen (l : List ByteArray) : (XPlain.putTexts l).1.length ≤ 1099511627776 := by
  unfold XPlain.putTexts
  split
  · simp
  · split
    · simp
    · rename_i h1 h2
      have h2 := Bool.eq_false_iff.mpr h2
      have := colonnadelaw08_PlainOwn.long 0 l (by omega) h2
      simp only [List.length_append, XPlain.bytesN_length, XPlain.ends_length, XPlain.heap_length]
      omega
theorem colonnadelaw08_PlainOwn.xorByte (x : Int) : 0 ≤ Go.bits .xor .u8 x 9 ∧ Go.bits .xor .u8 x 9 < 256 := by
  unfold Go.bits
  simp only [IntKind.wrap, IntKind.bits, IntKind.signed, Bool.false_and, Bool.false_eq_true, if_false]
  omega
theorem colonnadelaw08_PlainOwn.one {W : World} {base : Nat} {l : List XRows.RowD} (h : XRows.Rows W base l) (j : Nat) {s : XRows.RowD} (hj : l[j]? = some s) : XRows.Rows W base [s] :=
  ⟨fun r hr => by obtain rfl := List.mem_singleton.mp hr; exact h.holds _ (List.mem_of_getElem? hj), List.pairwise_singleton _ _⟩
/-- rows of one's own handed in as a list of lists: what is asked ahead of the call, and where they lie -/
theorem colonnadelaw08_PlainOwn.phase {W Wo : World} {base baseo : Nat} {l : List XRows.RowD} (h : XRows.Rows W base l) (h0 : XRows.Rows Wo baseo l) (ix : List Nat) (hnd : ix.Nodup) {eT : Nat} (eS M : Nat) {vs : List Value} (hvs : vs.length = ix.length)
    (hix : ∀ k (hk : k < ix.length), ∃ cs, l[ix[k]]? = some ⟨eT, vs[k]'(by omega), cs⟩ ∧ cs.length ≤ M) (hpos : 0 < ix.length) (hfew : ix.length ≤ 64) :
    XApart.Pre eT eS M (W.alloc (.cells vs.toArray eS (0, 0))) W.heap.size vs ∧ (∀ i g, XApart.gsOf vs i = some g → base ≤ g ∧ g < Wo.heap.size) ∧
      ∀ (j : Nat) (s : XRows.RowD), l[j]? = some s → j ∉ ix → ∀ g, s.v.ownBlock = some g → ∀ i, XApart.gsOf vs i ≠ some g := by
  have hv : ∀ i (hi : i < vs.length), ∃ r ∈ l, r.v = vs[i] := fun i hi => by
    obtain ⟨cs, h1, _⟩ := hix i (by omega)
    exact ⟨_, List.mem_of_getElem? h1, rfl⟩
  refine ⟨h.pre ix hnd eS M hvs hix hpos hfew, fun i g hg => ⟨(colonnadelaw08_PlainOwn.gsIn h hv i g hg).1, (colonnadelaw08_PlainOwn.gsIn h0 hv i g hg).2⟩, fun j s hj hne g hg i hi => ?_⟩
  unfold XApart.gsOf at hi
  by_cases hlt : i < vs.length
  · rw [List.getD_eq_getElem?_getD, List.getElem?_eq_getElem hlt, Option.getD_some] at hi
    obtain ⟨cs, h1, _⟩ := hix i (by omega)
    exact h.apart_i (fun (e : ix[i] = j) => hne (by rw [← e]; exact List.getElem_mem _)) h1 hj g hi hg
  · rw [List.getD_eq_getElem?_getD, List.getElem?_eq_none (by omega)] at hi
    cases hi
set_option maxHeartbeats 8000000 in
set_option maxRecDepth 100000 in
theorem colonnadelaw08_PlainOwn.ck (K : Nat) (A0 : Option Addr) (c0 : Nat) (l0 : List Int) (A1 : Option Addr) (c1 : Nat) (l1 : List Int) (A2 : Option Addr) (c2 : Nat) (l2 : List ByteArray) (A3 : Option Addr) (c3 : Nat) (l3 : List ByteArray) (w : World)
    (hr0 : Kd.C (Kd.int .i64) w A0 l0.length l0) (hc0 : l0.length ≤ c0) (hr1 : Kd.C (Kd.int .i64) w A1 l1.length l1) (hc1 : l1.length ≤ c1) (hr2 : Kd.C Kd.string w A2 l2.length l2) (hc2 : l2.length ≤ c2) (hr3 : Kd.C Kd.string w A3 l3.length l3) (hc3 : l3.length ≤ c3)
    (L a am d : List Int) (S MO : List ByteArray) (hL : L = l0.take 65536) (hl0 : l0.length ≤ 1048576) (hl2 : S.length ≤ 1048576)
    (haw : colonnadelaw08_awake.f K = some true) (hS : colonnadelaw08_short.f K l2 = some S) (hM : colonnadelaw08_short.f K l3 = some MO) (ha : plain_PutInts.f L = some a) (ham : plain_PutInts.f l1 = some am) (hd : plain_PutInts.f (colonnadelaw08_PlainOwn.inc L) = some d)
    (p pm : List Int) (np nm : Int) (hp : plain_PutTexts.f S = some (p, np)) (hpm : plain_PutTexts.f MO = some (pm, nm)) (hmo : MO.length ≤ 1048576)
    (hab : ∀ x ∈ a, 0 ≤ x ∧ x < 256) (hal : a.length ≤ 1099511627776) (nx : Int) (hx : plain_Ints.f K a (L.length : Int) = some (L, nx)) (rn : List Int) (nn : Int) (hnil : plain_Ints.f K [] 0 = some (rn, nn)) (hpb : ∀ x ∈ p, 0 ≤ x ∧ x < 256) (hpl : p.length ≤ 1099511627776) (ng : Int) (hg : plain_Texts.f K p (S.length : Int) = some (S, ng)) (rz : List ByteArray) (nz : Int) (hz : plain_Texts.f K [0, 0, 0, 0] 0 = some (rz, nz)) (hdl : d.length = a.length) (ny : Int) (hy : plain_Ints.f K d (L.length : Int) = some (colonnadelaw08_PlainOwn.inc L, ny))
    (hjy : ∀ Y : List Int, Y.length = p.length → (∀ x ∈ Y, 0 ≤ x ∧ x < 256) → ∃ rj nj, plain_Texts.f K Y (S.length : Int) = some (rj, nj) ∧ rj.length ≤ 1048576 ∧ colonnaderef08_SameTexts.f K rj rj = some true)
    (hsl : colonnaderef08_SameInts.f K L L = some true) (hsi : colonnaderef08_SameInts.f K (colonnadelaw08_PlainOwn.inc L) (colonnadelaw08_PlainOwn.inc L) = some true) (hst : colonnaderef08_SameTexts.f K S S = some true) :
    Calls Try.prog 9 #[.slice A0 l0.length c0, .slice A1 l1.length c1, .slice A2 l2.length c2, .slice A3 l3.length c3] w fun e w' => e = .returned (.bool true) ∧ Below w.heap.size w w' := by
  have HR0 := Aside0.mk hr0
  have HR1 := Aside0.mk hr1
  have HR2 := Aside0.mk hr2
  have HR3 := Aside0.mk hr3
  have HAW := Aside0.mk haw
  have HSS := Aside0.mk hS
  have HMM := Aside0.mk hM
  have HA := Aside0.mk ha
  have HAM := Aside0.mk ham
  have HD := Aside0.mk hd
  have HP := Aside0.mk hp
  have HPM := Aside0.mk hpm
  have HAB := Aside0.mk hab
  have HX := Aside0.mk hx
  have HNIL := Aside0.mk hnil
  have HDL := Aside0.mk hdl
  have HY := Aside0.mk hy
  have HPB := Aside0.mk hpb
  have HGG := Aside0.mk hg
  have HZ := Aside0.mk hz
  have HJY := Aside0.mk hjy
  have HSL := Aside0.mk hsl
  have HSI := Aside0.mk hsi
  have HST := Aside0.mk hst
  clear hp hpm hab hx hnil hdl hy hpb hg hz hjy hsl hsi hst
  have HLL := Aside0.mk hL
  clear hr0 hr1 hr2 hr3 haw hS hM ha ham hd hL
  obtain ⟨hn, hmin, hmin2, hn6, HCL⟩ : L.length ≤ l0.length ∧ (if (65536 : Int) < (l0.length : Int) then (65536 : Int) else (l0.length : Int)) = (L.length : Int) ∧ (if 65536 < l0.length then (65536 : Int) else (l0.length : Int)) = (L.length : Int) ∧ L.length ≤ 65536 ∧ Aside0 (Kd.C (Kd.int .i64) w A0 L.length L) := by
    have hL := HLL.out
    rcases Nat.le_total l0.length 65536 with h | h
    · rw [List.take_of_length_le h] at hL
      subst hL
      exact ⟨Nat.le_refl _, if_neg (by omega), if_neg (by omega), h, HR0⟩
    · have hLn : L.length = 65536 := by rw [hL, List.length_take]; omega
      exact ⟨by omega, by split <;> omega, by split <;> omega, by omega, ⟨by rw [hL]; exact Kd.C_take HR0.out h⟩⟩
  have hLc : L.length ≤ c0 := by omega
  clear HLL
  go_enter Try.func9, Try.ntmps9
  go_wp2_with fail
  refine (colonnadelaw08_awake.calls K true w HAW.out).mono ?_
  rintro e w1 ⟨rfl, hb⟩
  have HB1 := Aside0.mk hb
  have HW1 : Aside0 (XRows.Rows w1 w.heap.size []) := ⟨XRows.Rows.nil _ _⟩
  clear hb
  go_wp2_with fail
  clear hmin hmin2
  refine (colonnadelaw08_PlainOwn.shortC HW1.out HB1.out.size K (Kd.C_below HR2.out HB1.out) hc2 HSS.out).mono ?_
  rintro e w2 ⟨As, cs, rfl, hb, hw⟩
  have HB2 := Aside0.mk (below_then HB1.out HB1.out.size hb)
  have HW2 := Aside0.mk hw
  clear hb hw HB1 HW1
  go_wp2_with fail
  refine (colonnadelaw08_PlainOwn.shortC HW2.out HB2.out.size K (Kd.C_below HR3.out HB2.out) hc3 HMM.out).mono ?_
  rintro e w3 ⟨Amo, cmo, rfl, hb, hw⟩
  have HB3 := Aside0.mk (below_then HB2.out HB2.out.size hb)
  have HW3 := Aside0.mk hw
  clear hb hw HB2 HW2
  go_wp2_with (first | ((with_reducible refine gate_builtin (b := .append) (xs := #[.tmp 68, .tmp 69]) rfl ?_); at_builtin; refine Kd.R_append_rows (Kd.int .i64) (w0 := w3) w3.heap.size rfl (.tmp 68) (.tmp 69) 22 2 (.int .i64 0) 8 rfl Try.underlying22 colonnadelaw08_PlainOwn.info64 rfl (by decide) (by omega) (.slice (some ⟨w3.heap.size, 0, none⟩) 0 0) [] L _ _ _ (fun _ => True) (fun _ => False) rfl rfl (colonnadelaw08_PlainOwn.emptyR w3 _ (Value.int .i64) (fun _ => rfl)) (Kd.C_below HCL.out (below_alloc HB3.out _)) (fun _ _ h => h) (fun _ h => h.elim) (fun _ _ => trivial) (below_alloc (Below.refl _ _) _) (below_alloc (Below.refl _ _) _).size (by simp only [List.length_nil]; omega) ?_; intro v4 w4 ho hb hg hat; obtain ⟨Ai, ci, rfl, hw⟩ := colonnadelaw08_PlainOwn.more (xs := L) (fun _ => rfl) HW3.out hb HB3.out.size ho; have HB4 := Aside0.mk (below_then HB3.out HB3.out.size hb); have HW4 := Aside0.mk hw; clear ho hb hg hat hw HB3 HW3))
  refine (colonnadelaw08_PlainOwn.putInts HW4.out HB4.out.size (colonnadelaw08_PlainOwn.rowC (fun _ => rfl) HW4.out 0 rfl).1 (colonnadelaw08_PlainOwn.rowC (fun _ => rfl) HW4.out 0 rfl).2 HA.out).mono ?_
  rintro e w5 ⟨Aa, ca, rfl, hb, hw⟩
  have HB5 := Aside0.mk (below_then HB4.out HB4.out.size hb)
  have HW5 := Aside0.mk hw
  clear hb hw HB4 HW4
  go_wp2_with fail
  refine (colonnadelaw08_PlainOwn.putInts HW5.out HB5.out.size (colonnadelaw08_PlainOwn.rowC (fun _ => rfl) HW5.out 1 rfl).1 (colonnadelaw08_PlainOwn.rowC (fun _ => rfl) HW5.out 1 rfl).2 HA.out).mono ?_
  rintro e w6 ⟨Ab, cb, rfl, hb, hw⟩
  have HB6 := Aside0.mk (below_then HB5.out HB5.out.size hb)
  have HW6 := Aside0.mk hw
  clear hb hw HB5 HW5
  have cv := Kd.C_string (P := Try.prog) Try.underlying24 Try.underlying5 Try.underlying9 (c := ca) (colonnadelaw08_PlainOwn.rowC (fun _ => rfl) HW6.out 1 rfl).1
  go_wp2_with fail
  clear cv
  refine (colonnadelaw08_PlainOwn.putInts HW6.out HB6.out.size (Kd.C_below HR1.out HB6.out) hc1 HAM.out).mono ?_
  rintro e w7 ⟨Am, cm, rfl, hb, hw⟩
  have HB7 := Aside0.mk (below_then HB6.out HB6.out.size hb)
  have HW7 := Aside0.mk hw
  clear hb hw HB6 HW6
  go_wp2_with fail
  refine (colonnadelaw08_PlainOwn.putInts HW7.out HB7.out.size (colonnadelaw08_PlainOwn.rowC (fun _ => rfl) HW7.out 3 rfl).1 (colonnadelaw08_PlainOwn.rowC (fun _ => rfl) HW7.out 3 rfl).2 HA.out).mono ?_
  rintro e w8 ⟨Ac, cc, rfl, hb, hw⟩
  have HB8 := Aside0.mk (below_then HB7.out HB7.out.size hb)
  have HW8 := Aside0.mk hw
  clear hb hw HB7 HW7
  go_wp2_with fail
  (try simp only [add_plain])
  go_loopg [17] (L.length + 1) (fun kq v17 w' => ∃ i : Nat, i ≤ L.length ∧ Aside0 (kq + i = L.length + 1) ∧ v17 = .int .i64 (i : Int) ∧ Aside0 (Below w.heap.size w w') ∧ Aside0 (XRows.Rows w' w.heap.size [⟨5, .slice Ac a.length cc, encs (Value.int .u8) a⟩, ⟨5, .slice Am am.length cm, encs (Value.int .u8) am⟩, ⟨5, .slice Ab a.length cb, encs (Value.int .u8) a⟩, ⟨5, .slice Aa a.length ca, encs (Value.int .u8) a⟩, ⟨2, .slice Ai L.length ci, encs (Value.int .i64) (colonnadelaw08_PlainOwn.incN i L)⟩, ⟨9, .slice Amo MO.length cmo, encs Value.string MO⟩, ⟨9, .slice As S.length cs, encs Value.string S⟩]))
  case atStart => exact ⟨0, Nat.zero_le _, ⟨by omega⟩, rfl, HB8, HW8⟩
  case round =>
    clear HB8 HW8
    obtain ⟨i, hi, HK, rfl, HB, HW⟩ := hrel
    by_cases hlt : i < L.length
    · have hdc : decide ((i : Int) < (L.length : Int)) = true := decide_eq_true (by omega)
      obtain ⟨k1, rfl⟩ : ∃ k1, gk = k1 + 1 := ⟨gk - 1, by have := HK.out; omega⟩
      obtain ⟨g, rfl, hbg, hcell⟩ := colonnadelaw08_PlainOwn.cellR (fun _ => rfl) (0 : Int) HW.out 4 rfl (colonnadelaw08_PlainOwn.incN_len i L) (by omega)
      obtain ⟨hx, hf⟩ := hcell i hlt
      clear hcell
      go_wp2_with fail
      have HW' := Aside0.mk (colonnadelaw08_PlainOwn.putN (fun _ => rfl) HW.out 4 rfl (colonnadelaw08_PlainOwn.incN_len i L) i (wrap64 (rdOf 0 (colonnadelaw08_PlainOwn.incN i L) (i : Int) + 1)))
      rw [colonnadelaw08_PlainOwn.incN_set i L hlt] at HW'
      have HB' := Aside0.mk (HB.out.setCell (p := ⟨g, i, none⟩) hbg (.int .i64 (wrap64 (rdOf 0 (colonnadelaw08_PlainOwn.incN i L) (i : Int) + 1))))
      go_roundg k1
      case measure => have := HK.out; omega
      case rel => exact ⟨i + 1, by omega, ⟨by have := HK.out; omega⟩, congrArg (Value.int .i64) (by omega), HB', HW'⟩
    · obtain rfl : i = L.length := by omega
      have hdc : decide ((L.length : Int) < (L.length : Int)) = false := decide_eq_false (by omega)
      rw [colonnadelaw08_PlainOwn.incN_full] at HW
      go_wp2_with fail
      refine (colonnadelaw08_PlainOwn.putIntsN HW.out HB.out.size (colonnadelaw08_PlainOwn.rowCn (fun _ => rfl) HW.out 4 rfl (colonnadelaw08_PlainOwn.inc_len L)) (colonnadelaw08_PlainOwn.inc_len L) HD.out).mono ?_
      rintro e w9 ⟨Ad, cd, rfl, hb, hw⟩
      have HB9 := Aside0.mk (below_then HB.out HB.out.size hb)
      have HW9 := Aside0.mk hw
      clear hb hw HB HW
      go_wp2_with (first | ((with_reducible refine gate_builtin (b := .append) (xs := #[.tmp 97, .tmp 98]) rfl ?_); at_builtin; refine Kd.R_append_rows (Kd.int .i64) (w0 := w9) w9.heap.size rfl (.tmp 97) (.tmp 98) 22 2 (.int .i64 0) 8 rfl Try.underlying22 colonnadelaw08_PlainOwn.info64 rfl (by decide) (by omega) (.slice (some ⟨w9.heap.size, 0, none⟩) 0 0) [] (colonnadelaw08_PlainOwn.inc L) _ _ _ (fun _ => True) (fun _ => False) rfl rfl (colonnadelaw08_PlainOwn.emptyR w9 _ (Value.int .i64) (fun _ => rfl)) (Kd.C_below (colonnadelaw08_PlainOwn.rowCn (fun _ => rfl) HW9.out 5 rfl (colonnadelaw08_PlainOwn.inc_len L)).1 (below_alloc (Below.refl _ _) _)) (fun _ _ h => h) (fun _ h => h.elim) (fun _ _ => trivial) (below_alloc (Below.refl _ _) _) (below_alloc (Below.refl _ _) _).size (by simp only [List.length_nil]; omega) ?_; intro v10 w10 ho hb hg hat; obtain ⟨Ai2, ci2, rfl, hw⟩ := colonnadelaw08_PlainOwn.more (xs := colonnadelaw08_PlainOwn.inc L) (fun _ => rfl) HW9.out hb HB9.out.size ho; have HB10 := Aside0.mk (below_then HB9.out HB9.out.size hb); have HW10 := Aside0.mk hw; clear ho hb hg hat hw HB9 HW9))
      refine (colonnadelaw08_PlainOwn.putInts HW10.out HB10.out.size (colonnadelaw08_PlainOwn.rowC (fun _ => rfl) HW10.out 0 rfl).1 (colonnadelaw08_PlainOwn.rowC (fun _ => rfl) HW10.out 0 rfl).2 HD.out).mono ?_
      rintro e w11 ⟨Ae, ce, rfl, hb, hw⟩
      have HB11 := Aside0.mk (below_then HB10.out HB10.out.size hb)
      have HW11 := Aside0.mk hw
      clear hb hw HB10 HW10
      go_wp2_with (first | ((with_reducible refine gate_builtin (b := .append) (xs := #[.tmp 101, .tmp 102]) rfl ?_); at_builtin; refine Kd.R_append_rows Kd.string (w0 := w11) w11.heap.size rfl (.tmp 101) (.tmp 102) 23 9 (.string ByteArray.empty) 16 rfl Try.underlying23 colonnadelaw08_PlainOwn.infoStr rfl (by decide) (by omega) (.slice (some ⟨w11.heap.size, 0, none⟩) 0 0) [] S _ _ _ (fun _ => True) (fun _ => False) rfl rfl (colonnadelaw08_PlainOwn.emptyR w11 _ Value.string (fun _ => rfl)) (Kd.C_below (colonnadelaw08_PlainOwn.rowC (fun _ => rfl) HW11.out 9 rfl).1 (below_alloc (Below.refl _ _) _)) (fun _ _ h => h) (fun _ h => h.elim) (fun _ _ => trivial) (below_alloc (Below.refl _ _) _) (below_alloc (Below.refl _ _) _).size (by simp only [List.length_nil]; omega) ?_; intro v12 w12 ho hb hg hat; obtain ⟨Asay, csay, rfl, hw⟩ := colonnadelaw08_PlainOwn.more (xs := S) (fun _ => rfl) HW11.out hb HB11.out.size ho; have HB12 := Aside0.mk (below_then HB11.out HB11.out.size hb); have HW12 := Aside0.mk hw; clear ho hb hg hat hw HB11 HW11))
      refine (colonnadelaw08_PlainOwn.putTexts HW12.out HB12.out.size (colonnadelaw08_PlainOwn.rowC (fun _ => rfl) HW12.out 0 rfl).1 (colonnadelaw08_PlainOwn.rowC (fun _ => rfl) HW12.out 0 rfl).2 HP.out).mono ?_
      rintro e w13 ⟨Ap, cp, rfl, hb, hw⟩
      have HB13 := Aside0.mk (below_then HB12.out HB12.out.size hb)
      have HW13 := Aside0.mk hw
      clear hb hw HB12 HW12
      go_wp2_with fail
      refine (colonnadelaw08_PlainOwn.putTexts HW13.out HB13.out.size (colonnadelaw08_PlainOwn.rowC (fun _ => rfl) HW13.out 1 rfl).1 (colonnadelaw08_PlainOwn.rowC (fun _ => rfl) HW13.out 1 rfl).2 HP.out).mono ?_
      rintro e w14 ⟨Aq, cq, rfl, hb, hw⟩
      have HB14 := Aside0.mk (below_then HB13.out HB13.out.size hb)
      have HW14 := Aside0.mk hw
      clear hb hw HB13 HW13
      have cv := Kd.C_string (P := Try.prog) Try.underlying24 Try.underlying5 Try.underlying9 (c := cp) (colonnadelaw08_PlainOwn.rowC (fun _ => rfl) HW14.out 1 rfl).1
      go_wp2_with fail
      clear cv
      refine (colonnadelaw08_PlainOwn.putTexts HW14.out HB14.out.size (colonnadelaw08_PlainOwn.rowC (fun _ => rfl) HW14.out 11 rfl).1 (colonnadelaw08_PlainOwn.rowC (fun _ => rfl) HW14.out 11 rfl).2 HPM.out).mono ?_
      rintro e w15 ⟨Apm, cpm, rfl, hb, hw⟩
      have HB15 := Aside0.mk (below_then HB14.out HB14.out.size hb)
      have HW15 := Aside0.mk hw
      clear hb hw HB14 HW14
      go_wp2_with fail
      refine (colonnadelaw08_PlainOwn.putTexts HW15.out HB15.out.size (colonnadelaw08_PlainOwn.rowC (fun _ => rfl) HW15.out 3 rfl).1 (colonnadelaw08_PlainOwn.rowC (fun _ => rfl) HW15.out 3 rfl).2 HP.out).mono ?_
      rintro e w16 ⟨Ar, cr, rfl, hb, hw⟩
      have HB16 := Aside0.mk (below_then HB15.out HB15.out.size hb)
      have HW16 := Aside0.mk hw
      clear hb hw HB15 HW15
      go_wp2_with fail
      clear HPM HAM HD
      (try simp only [add_plain])
      go_loopg [28] (S.length + 1) (fun kq v28 w' => ∃ (i : Nat) (X : List ByteArray), i ≤ S.length ∧ X.length = S.length ∧ Aside0 (kq + i = S.length + 1) ∧ v28 = .int .i64 (i : Int) ∧ Aside0 (Below w.heap.size w w') ∧ Aside0 (XRows.Rows w' w.heap.size [⟨5, .slice Ar p.length cr, encs (Value.int .u8) p⟩, ⟨5, .slice Apm pm.length cpm, encs (Value.int .u8) pm⟩, ⟨5, .slice Aq p.length cq, encs (Value.int .u8) p⟩, ⟨5, .slice Ap p.length cp, encs (Value.int .u8) p⟩, ⟨9, .slice Asay S.length csay, encs Value.string X⟩, ⟨5, .slice Ae d.length ce, encs (Value.int .u8) d⟩, ⟨2, .slice Ai2 (colonnadelaw08_PlainOwn.inc L).length ci2, encs (Value.int .i64) (colonnadelaw08_PlainOwn.inc L)⟩, ⟨5, .slice Ad d.length cd, encs (Value.int .u8) d⟩, ⟨5, .slice Ac a.length cc, encs (Value.int .u8) a⟩, ⟨5, .slice Am am.length cm, encs (Value.int .u8) am⟩, ⟨5, .slice Ab a.length cb, encs (Value.int .u8) a⟩, ⟨5, .slice Aa a.length ca, encs (Value.int .u8) a⟩, ⟨2, .slice Ai L.length ci, encs (Value.int .i64) (colonnadelaw08_PlainOwn.inc L)⟩, ⟨9, .slice Amo MO.length cmo, encs Value.string MO⟩, ⟨9, .slice As S.length cs, encs Value.string S⟩]))
      case atStart => exact ⟨0, S, Nat.zero_le _, rfl, ⟨by omega⟩, rfl, HB16, HW16⟩
      case round =>
        clear HB16 HW16
        obtain ⟨i, X, hi, hX, HK2, rfl, HB, HW⟩ := hrel
        by_cases hlt : i < S.length
        · have hdc2 : decide ((i : Int) < (S.length : Int)) = true := decide_eq_true (by omega)
          obtain ⟨k1, rfl⟩ : ∃ k1, gk = k1 + 1 := ⟨gk - 1, by have := HK2.out; omega⟩
          obtain ⟨g, rfl, hbg, hcell⟩ := colonnadelaw08_PlainOwn.cellR (fun _ => rfl) ByteArray.empty HW.out 4 rfl hX (by omega)
          obtain ⟨j, hj, he⟩ : ∃ j : Nat, j < S.length ∧ (S.length : Int) - 1 - (i : Int) = (j : Int) := ⟨S.length - 1 - i, by omega, by omega⟩
          obtain ⟨hx, hf⟩ := hcell i hlt
          obtain ⟨hx2, hf2⟩ := hcell j hj
          generalize rdOf ByteArray.empty X (j : Int) = sj at hx2
          clear hcell
          have hj0 : (j : Int) < (S.length : Int) := by omega
          go_wp2_with fail
          have HW' := Aside0.mk (colonnadelaw08_PlainOwn.putN (fun _ => rfl) HW.out 4 rfl hX i sj)
          have HB' := Aside0.mk (HB.out.setCell (p := ⟨g, i, none⟩) hbg (.string sj))
          go_roundg k1
          case measure => have := HK2.out; omega
          case rel => exact ⟨i + 1, X.set i sj, by omega, by rw [List.length_set, hX], ⟨by have := HK2.out; omega⟩, congrArg (Value.int .i64) (by omega), HB', HW'⟩
        · obtain rfl : i = S.length := by omega
          have hdc2 : decide ((S.length : Int) < (S.length : Int)) = false := decide_eq_false (by omega)
          go_wp2_with fail
          have hV : plain_PutTexts.f X = some ((XPlain.putTexts X).1, (XPlain.putTexts X).2) := rfl
          have hpv := colonnadelaw08_PlainOwn.putLen X
          generalize (XPlain.putTexts X).1 = pv at hV hpv
          generalize (XPlain.putTexts X).2 = nv at hV
          have HV := Aside0.mk hV
          clear hV
          refine (colonnadelaw08_PlainOwn.putTextsN HW.out HB.out.size (colonnadelaw08_PlainOwn.rowCn (fun _ => rfl) HW.out 4 rfl hX) hX HV.out).mono ?_
          rintro e w17 ⟨Av, cv, rfl, hb, hw⟩
          have HB17 := Aside0.mk (below_then HB.out HB.out.size hb)
          have HW17 := Aside0.mk hw
          clear hb hw HB HW
          go_wp2_with (first | ((with_reducible refine gate_builtin (b := .append) (xs := #[.tmp 146, .tmp 147]) rfl ?_); at_builtin; refine Kd.R_append_rows Kd.string (w0 := w17) w17.heap.size rfl (.tmp 146) (.tmp 147) 23 9 (.string ByteArray.empty) 16 rfl Try.underlying23 colonnadelaw08_PlainOwn.infoStr rfl (by decide) (by omega) (.slice (some ⟨w17.heap.size, 0, none⟩) 0 0) [] X _ _ _ (fun _ => True) (fun _ => False) rfl rfl (colonnadelaw08_PlainOwn.emptyR w17 _ Value.string (fun _ => rfl)) (Kd.C_below (colonnadelaw08_PlainOwn.rowCn (fun _ => rfl) HW17.out 5 rfl hX).1 (below_alloc (Below.refl _ _) _)) (fun _ _ h => h) (fun _ h => h.elim) (fun _ _ => trivial) (below_alloc (Below.refl _ _) _) (below_alloc (Below.refl _ _) _).size (by simp only [List.length_nil]; omega) ?_; intro v18 w18 ho hb hg hat; obtain ⟨As2, cs2, rfl, hw⟩ := colonnadelaw08_PlainOwn.more (xs := X) (fun _ => rfl) HW17.out hb HB17.out.size ho; rw [hX] at hw; have HB18 := Aside0.mk (below_then HB17.out HB17.out.size hb); have HW18 := Aside0.mk hw; clear ho hb hg hat hw HB17 HW17))
          refine (colonnadelaw08_PlainOwn.putTextsN HW18.out HB18.out.size (colonnadelaw08_PlainOwn.rowCn (fun _ => rfl) HW18.out 0 rfl hX) hX HV.out).mono ?_
          rintro e w19 ⟨Aw, cw, rfl, hb, hw⟩
          have HB19 := Aside0.mk (below_then HB18.out HB18.out.size hb)
          have HW19 := Aside0.mk hw
          clear hb hw HB18 HW18
          have kA := Kd.C_string (P := Try.prog) Try.underlying24 Try.underlying5 Try.underlying9 (c := ca) (colonnadelaw08_PlainOwn.rowC (fun _ => rfl) HW19.out 14 rfl).1
          have kB := Kd.C_string (P := Try.prog) Try.underlying24 Try.underlying5 Try.underlying9 (c := cb) (colonnadelaw08_PlainOwn.rowC (fun _ => rfl) HW19.out 13 rfl).1
          have kC := Kd.C_string (P := Try.prog) Try.underlying24 Try.underlying5 Try.underlying9 (c := cc) (colonnadelaw08_PlainOwn.rowC (fun _ => rfl) HW19.out 11 rfl).1
          have kD := Kd.C_string (P := Try.prog) Try.underlying24 Try.underlying5 Try.underlying9 (c := cd) (colonnadelaw08_PlainOwn.rowC (fun _ => rfl) HW19.out 10 rfl).1
          have kE := Kd.C_string (P := Try.prog) Try.underlying24 Try.underlying5 Try.underlying9 (c := ce) (colonnadelaw08_PlainOwn.rowC (fun _ => rfl) HW19.out 8 rfl).1
          have kQ := Kd.C_string (P := Try.prog) Try.underlying24 Try.underlying5 Try.underlying9 (c := cq) (colonnadelaw08_PlainOwn.rowC (fun _ => rfl) HW19.out 5 rfl).1
          have kR := Kd.C_string (P := Try.prog) Try.underlying24 Try.underlying5 Try.underlying9 (c := cr) (colonnadelaw08_PlainOwn.rowC (fun _ => rfl) HW19.out 3 rfl).1
          have kV := Kd.C_string (P := Try.prog) Try.underlying24 Try.underlying5 Try.underlying9 (c := cv) (colonnadelaw08_PlainOwn.rowC (fun _ => rfl) HW19.out 2 rfl).1
          have kW := Kd.C_string (P := Try.prog) Try.underlying24 Try.underlying5 Try.underlying9 (c := cw) (colonnadelaw08_PlainOwn.rowC (fun _ => rfl) HW19.out 0 rfl).1
          obtain ⟨cf, w20, kF, hbF, hoF⟩ := colonnadelaw08_PlainOwn.bytesOf w19 a HAB.out (by omega)
          have HBF := Aside0.mk hbF
          have HO20 := Aside0.mk hoF
          have HG20 : Aside0 (w19.heap.size + 1 ≤ w20.heap.size) := ⟨by have := blk_lt hoF.row.choose_spec.choose_spec.1; omega⟩
          have HT20 : Aside0 (XRows.Rows w20 (w19.heap.size + 1) []) := ⟨XRows.Rows.nil _ _⟩
          clear hbF hoF
          go_wp2_with fail
          clear kA kB kC kD kE kQ kR kV kW kF
          refine (colonnadelaw08_PlainOwn.ints HT20.out HG20.out K HO20.out.C HO20.out.len HX.out).mono ?_
          rintro e w21 ⟨Ax, cx, rfl, hb, hw⟩
          have HBG := Aside0.mk (below_then HBF.out HBF.out.size hb)
          have HO21 := Aside0.mk (HO20.out.below hb)
          have HT21 := Aside0.mk hw
          have HG21 := Aside0.mk (Nat.le_trans HG20.out hb.size)
          clear hb hw HBF HO20 HT20 HG20
          go_wp2_with fail
          refine (colonnadelaw08_PlainOwn.ints HT21.out HG21.out K HO21.out.C HO21.out.len HX.out).mono ?_
          rintro e w22 ⟨Ay, cy, rfl, hb, hw⟩
          have HBG22 := Aside0.mk (below_then HBG.out HBG.out.size hb)
          have HO22 := Aside0.mk (HO21.out.below hb)
          have HT22 := Aside0.mk hw
          have HG22 := Aside0.mk (Nat.le_trans HG21.out hb.size)
          clear hb hw HBG HO21 HT21 HG21
          go_wp2_with fail
          refine (colonnadelaw08_PlainOwn.ints HT22.out HG22.out K (X := []) (c := 0) (Kd.C_nil _ _) (Nat.le_refl _) HNIL.out).mono ?_
          rintro e w23 ⟨An, cn, rfl, hb, hw⟩
          have HBG23 := Aside0.mk (below_then HBG22.out HBG22.out.size hb)
          have HO23 := Aside0.mk (HO22.out.below hb)
          have HT23 := Aside0.mk hw
          have HG23 := Aside0.mk (Nat.le_trans HG22.out hb.size)
          clear hb hw HBG22 HO22 HT22 HG22
          go_wp2_with fail
          refine (colonnadelaw08_PlainOwn.ints HT23.out HG23.out K HO23.out.C HO23.out.len HX.out).mono ?_
          rintro e w24 ⟨Az, cz, rfl, hb, hw⟩
          have HBG24 := Aside0.mk (below_then HBG23.out HBG23.out.size hb)
          have HO24 := Aside0.mk (HO23.out.below hb)
          have HT24 := Aside0.mk hw
          have HG24 := Aside0.mk (Nat.le_trans HG23.out hb.size)
          clear hb hw HBG23 HO23 HT23 HG23
          obtain ⟨w25, kC, hb, hg, ho⟩ := colonnadelaw08_PlainOwn.copyOf (c' := cd) HO24.out HDL.out (colonnadelaw08_PlainOwn.rowC (fun _ => rfl) (HW19.out.below HBG24.out) 10 rfl).1
          have HBG25 := Aside0.mk (HBG24.out.trans hb)
          have HO25 := Aside0.mk ho
          have HT25 := Aside0.mk (colonnadelaw08_PlainOwn.keptAbove HT24.out hg (Nat.lt_succ_self _))
          have HG25 := Aside0.mk (Nat.le_trans HG24.out hg.size)
          clear hb hg ho HBG24 HO24 HT24 HG24
          go_wp2_with fail
          clear kC
          refine (colonnadelaw08_PlainOwn.intsN HT25.out HG25.out K HO25.out.C HO25.out.len HDL.out HY.out (colonnadelaw08_PlainOwn.inc_len L)).mono ?_
          rintro e w26 ⟨Ao, co, rfl, hb, hw⟩
          have HBG26 := Aside0.mk (below_then HBG25.out HBG25.out.size hb)
          have HT26 := Aside0.mk hw
          clear hb hw HBG25 HO25 HT25 HG25
          obtain ⟨ch, w27, kH, hbH, hoH⟩ := colonnadelaw08_PlainOwn.bytesOf w26 p HPB.out (by omega)
          have HBG27 := Aside0.mk (below_then HBG26.out HBG26.out.size hbH)
          have HT27 := Aside0.mk (HT26.out.below hbH)
          have HBH27 := Aside0.mk hbH
          have HO27 := Aside0.mk hoH
          have HG27 : Aside0 (w26.heap.size + 1 ≤ w27.heap.size) := ⟨by have := blk_lt hoH.row.choose_spec.choose_spec.1; omega⟩
          have HU27 : Aside0 (XRows.Rows w27 (w26.heap.size + 1) []) := ⟨XRows.Rows.nil _ _⟩
          have HS26 : Aside0 (w19.heap.size ≤ w26.heap.size) := ⟨HBG26.out.size⟩
          clear hbH hoH HBG26
          go_wp2_with fail
          clear kH
          refine (colonnadelaw08_PlainOwn.texts HU27.out HG27.out K HO27.out.C HO27.out.len HGG.out).mono ?_
          rintro e w28 ⟨Ag, cg, rfl, hb, hw⟩
          have HBG28 := Aside0.mk (below_then HBG27.out HBG27.out.size hb)
          have HBH28 := Aside0.mk (below_then HBH27.out HBH27.out.size hb)
          have HT28 := Aside0.mk (HT27.out.below hb)
          have HO28 := Aside0.mk (HO27.out.below hb)
          have HU28 := Aside0.mk hw
          have HG28 := Aside0.mk (Nat.le_trans HG27.out hb.size)
          clear hb hw HBG27 HBH27 HT27 HO27 HU27 HG27
          go_wp2_with fail
          refine (colonnadelaw08_PlainOwn.texts HU28.out HG28.out K HO28.out.C HO28.out.len HGG.out).mono ?_
          rintro e w29 ⟨Ah, ch2, rfl, hb, hw⟩
          have HBG29 := Aside0.mk (below_then HBG28.out HBG28.out.size hb)
          have HBH29 := Aside0.mk (below_then HBH28.out HBH28.out.size hb)
          have HT29 := Aside0.mk (HT28.out.below hb)
          have HO29 := Aside0.mk (HO28.out.below hb)
          have HU29 := Aside0.mk hw
          have HG29 := Aside0.mk (Nat.le_trans HG28.out hb.size)
          clear hb hw HBG28 HBH28 HT28 HO28 HU28 HG28
          go_wp2_with fail
          have hal := below_alloc (Below.refl w29.heap.size w29) (.cells #[.int .u8 0, .int .u8 0, .int .u8 0, .int .u8 0] 5)
          have hq : Kd.C (Kd.int .u8) (w29.alloc (.cells #[.int .u8 0, .int .u8 0, .int .u8 0, .int .u8 0] 5)) (some ⟨w29.heap.size, 0, none⟩) ([0, 0, 0, 0] : List Int).length [0, 0, 0, 0] := (Kd.R_reads' (Kd.R_of_own (h1 := fun _ => rfl) (ok := fun _ => True) (own_lit_of (enc := Value.int .u8) w29 w29.heap.size 5 [0, 0, 0, 0] (Nat.le_refl _) (by simp)) (fun _ _ => trivial))).2.2
          refine (colonnadelaw08_PlainOwn.texts (HU29.out.below hal) (Nat.le_trans HG29.out hal.size) K hq (Nat.le_refl _) HZ.out).mono ?_
          rintro e w30 ⟨A4, c4, rfl, hb', hw⟩
          have hb := below_then hal hal.size hb'
          have HBG30 := Aside0.mk (below_then HBG29.out HBG29.out.size hb)
          have HBH30 := Aside0.mk (below_then HBH29.out HBH29.out.size hb)
          have HT30 := Aside0.mk (HT29.out.below hb)
          have HO30 := Aside0.mk (HO29.out.below hb)
          have HU30 := Aside0.mk hw
          have HG30 := Aside0.mk (Nat.le_trans HG29.out hb.size)
          clear hb hb' hal hq hw HBG29 HBH29 HT29 HO29 HU29 HG29
          go_wp2_with fail
          refine (colonnadelaw08_PlainOwn.texts HU30.out HG30.out K HO30.out.C HO30.out.len HGG.out).mono ?_
          rintro e w31 ⟨Aii, cii, rfl, hb, hw⟩
          have HBG31 := Aside0.mk (below_then HBG30.out HBG30.out.size hb)
          have HBH31 := Aside0.mk (below_then HBH30.out HBH30.out.size hb)
          have HT31 := Aside0.mk (HT30.out.below hb)
          have HO31 := Aside0.mk (HO30.out.below hb)
          have HU31 := Aside0.mk hw
          have HG31 := Aside0.mk (Nat.le_trans HG30.out hb.size)
          clear hb hw HBG30 HBH30 HT30 HO30 HU30 HG30
          go_wp2_with fail
          (try simp only [add_plain])
          go_loopg [49] (p.length + 1) (fun kq v49 w' => ∃ (k : Nat) (Y : List Int), Y.length = p.length ∧ Aside0 (∀ x ∈ Y, 0 ≤ x ∧ x < 256) ∧ Aside0 (kq + k = p.length + 1 + 4 * (S.length + 1)) ∧ k ≤ 1099511627776 + 4 * (S.length + 1) ∧ v49 = .int .i64 (k : Int) ∧ Aside0 (Below w19.heap.size w19 w') ∧ Aside0 (Below w26.heap.size w26 w') ∧ Aside0 (colonnadelaw08_PlainOwn.Own8 w' w26.heap.size ch Y) ∧ Aside0 (XRows.Rows w' (w26.heap.size + 1) [⟨9, .slice Aii S.length cii, encs Value.string S⟩, ⟨9, .slice A4 rz.length c4, encs Value.string rz⟩, ⟨9, .slice Ah S.length ch2, encs Value.string S⟩, ⟨9, .slice Ag S.length cg, encs Value.string S⟩]) ∧ Aside0 (w26.heap.size + 1 ≤ w'.heap.size))
          case atStart => exact ⟨4 * (S.length + 1), p, rfl, HPB, ⟨by omega⟩, by omega, congrArg (Value.int .i64) (by omega), HBG31, HBH31, HO31, HU31, HG31⟩
          case round =>
            clear HBG31 HBH31 HT31 HO31 HU31 HG31
            obtain ⟨k, Y, hY, HYB, HK3, hk3, rfl, HBG, HBH, HO, HU, HG⟩ := hrel
            by_cases hlt3 : k < p.length
            · have hd3 : decide ((k : Int) < (p.length : Int)) = true := decide_eq_true (by omega)
              obtain ⟨k1, rfl⟩ : ∃ k1, gk = k1 + 1 := ⟨gk - 1, by have := HK3.out; omega⟩
              obtain ⟨hxk, hfk⟩ := HO.out.cell k (by omega)
              go_wp2_with fail
              have HO' := Aside0.mk (HO.out.set k (Go.bits .xor .u8 (rdOf 0 Y (k : Int)) 9))
              have HBG' := Aside0.mk (HBG.out.setCell (p := ⟨w26.heap.size, k, none⟩) HS26.out (.int .u8 (Go.bits .xor .u8 (rdOf 0 Y (k : Int)) 9)))
              have HBH' := Aside0.mk (HBH.out.setCell (p := ⟨w26.heap.size, k, none⟩) (Nat.le_refl _) (.int .u8 (Go.bits .xor .u8 (rdOf 0 Y (k : Int)) 9)))
              have hgr : wr.grownBy (wr.setCell ⟨w26.heap.size, k, none⟩ (.int .u8 (Go.bits .xor .u8 (rdOf 0 Y (k : Int)) 9))) (some w26.heap.size) := ⟨rfl, rfl, rfl, by simp, fun b _ hb => Below.heap_setCell _ ⟨w26.heap.size, k, none⟩ _ b (fun e => hb (by rw [e]))⟩
              have HU' := Aside0.mk (colonnadelaw08_PlainOwn.keptAbove HU.out hgr (Nat.lt_succ_self _))
              have HG' := Aside0.mk (Nat.le_trans HG.out hgr.size)
              clear hgr
              go_roundg k1
              case measure => have := HK3.out; omega
              case rel => exact ⟨k + 1, Y.set k _, by rw [List.length_set, hY], ⟨fun x hx => (List.mem_or_eq_of_mem_set hx).elim (HYB.out x) (fun e => by rw [e]; exact colonnadelaw08_PlainOwn.xorByte _)⟩, ⟨by have := HK3.out; omega⟩, by omega, congrArg (Value.int .i64) (by omega), HBG', HBH', HO', HU', HG'⟩
            · have hd3 : decide ((k : Int) < (p.length : Int)) = false := decide_eq_false (by omega)
              obtain ⟨rj, nj, hj, hjl, hjs⟩ := HJY.out Y hY HYB.out
              have HJ := Aside0.mk hj
              have HJS := Aside0.mk hjs
              clear hj hjs
              go_wp2_with fail
              refine (colonnadelaw08_PlainOwn.textsN HU.out HG.out K HO.out.C HO.out.len hY HJ.out).mono ?_
              rintro e w32 ⟨Aj, cj, rfl, hb, hw⟩
              have HBG32 := Aside0.mk (below_then HBG.out HBG.out.size hb)
              have HBH32 := Aside0.mk (below_then HBH.out HBH.out.size hb)
              have HO32 := Aside0.mk (HO.out.below hb)
              have HU32 := Aside0.mk hw
              have HG32 := Aside0.mk (Nat.le_trans HG.out hb.size)
              clear hb hw HBG HBH HO HU HG
              go_wp2_with (first | ((with_reducible refine gate_builtin (b := .append) (xs := #[.tmp 279, .tmp 280]) rfl ?_); at_builtin; refine Kd.R_append_rows (Kd.int .u8) (w0 := w32) w32.heap.size rfl (.tmp 279) (.tmp 280) 24 5 (.int .u8 0) 1 rfl Try.underlying24 colonnadelaw08_PlainOwn.info8 rfl (by decide) (by omega) (.slice (some ⟨w32.heap.size, 0, none⟩) 0 0) [] Y _ _ _ (fun _ => True) (fun _ => False) rfl rfl (colonnadelaw08_PlainOwn.emptyR w32 _ (Value.int .u8) (fun _ => rfl)) (by have h := Kd.C_below HO32.out.C (below_alloc (Below.refl _ _) (.cells #[] 5)); rw [hY] at h; exact h) (fun _ _ h => h) (fun _ h => h.elim) (fun _ _ => trivial) (below_alloc (Below.refl _ _) _) (below_alloc (Below.refl _ _) _).size (by simp only [List.length_nil]; omega) ?_; intro v33 w33 ho hb hg hat; obtain ⟨Ak, ck, rfl, hw⟩ := colonnadelaw08_PlainOwn.more (xs := Y) (fun _ => rfl) HU32.out hb HG32.out ho; rw [hY] at hw; have HBG33 := Aside0.mk (below_then HBG32.out HBG32.out.size hb); have HBH33 := Aside0.mk (below_then HBH32.out HBH32.out.size hb); have HU33 := Aside0.mk hw; have HG33 := Aside0.mk (Nat.le_trans HG32.out hb.size); clear ho hb hg hat hw HBG32 HBH32 HU32 HG32 HO32))
              refine (colonnadelaw08_PlainOwn.textsN HU33.out HG33.out K (r := rj) (m := (S.length : Int)) (by have h := (colonnadelaw08_PlainOwn.rowCn (fun _ => rfl) HU33.out 0 rfl hY).1; rw [← hY] at h; exact h) (by have h := (colonnadelaw08_PlainOwn.rowCn (fun _ => rfl) HU33.out 0 rfl hY).2; omega) hY HJ.out).mono ?_
              rintro e w34 ⟨Ak2, ck2, rfl, hb, hw⟩
              have HBG34 := Aside0.mk (below_then HBG33.out HBG33.out.size hb)
              have HBH34 := Aside0.mk (below_then HBH33.out HBH33.out.size hb)
              have HU34 := Aside0.mk hw
              clear hb hw HBG33 HBH33 HU33 HG33 HJ
              have HT34 := Aside0.mk (HT26.out.below HBH34.out)
              have HW34 := Aside0.mk (HW19.out.below HBG34.out)
              have HB34 := Aside0.mk (below_then HB19.out HB19.out.size HBG34.out)
              clear HBH34
              go_wp2_with fail
              refine (colonnadelaw08_PlainOwn.sameI K (colonnadelaw08_PlainOwn.rowCn (fun _ => rfl) HT34.out 4 rfl rfl) rfl ⟨Kd.C_below HCL.out HB34.out, hLc⟩ rfl HSL.out).mono ?_
              rintro e w35 ⟨rfl, hb⟩
              have HB35 := Aside0.mk (below_then HB34.out HB34.out.size hb)
              have HW35 := Aside0.mk (HW34.out.below hb)
              have HT35 := Aside0.mk (HT34.out.below hb)
              have HU35 := Aside0.mk (HU34.out.below hb)
              clear hb HB34 HW34 HT34 HU34
              go_wp2_with fail
              refine (colonnadelaw08_PlainOwn.sameI K (colonnadelaw08_PlainOwn.rowCn (fun _ => rfl) HT35.out 3 rfl rfl) rfl ⟨Kd.C_below HCL.out HB35.out, hLc⟩ rfl HSL.out).mono ?_
              rintro e w36 ⟨rfl, hb⟩
              have HB36 := Aside0.mk (below_then HB35.out HB35.out.size hb)
              have HW36 := Aside0.mk (HW35.out.below hb)
              have HT36 := Aside0.mk (HT35.out.below hb)
              have HU36 := Aside0.mk (HU35.out.below hb)
              clear hb HB35 HW35 HT35 HU35
              go_wp2_with fail
              refine (colonnadelaw08_PlainOwn.sameI K (colonnadelaw08_PlainOwn.rowCn (fun _ => rfl) HT36.out 1 rfl rfl) rfl ⟨Kd.C_below HCL.out HB36.out, hLc⟩ rfl HSL.out).mono ?_
              rintro e w37 ⟨rfl, hb⟩
              have HB37 := Aside0.mk (below_then HB36.out HB36.out.size hb)
              have HW37 := Aside0.mk (HW36.out.below hb)
              have HT37 := Aside0.mk (HT36.out.below hb)
              have HU37 := Aside0.mk (HU36.out.below hb)
              clear hb HB36 HW36 HT36 HU36
              go_wp2_with fail
              refine (colonnadelaw08_PlainOwn.sameI K (colonnadelaw08_PlainOwn.rowCn (fun _ => rfl) HT37.out 0 rfl (colonnadelaw08_PlainOwn.inc_len L)) (colonnadelaw08_PlainOwn.inc_len L) (colonnadelaw08_PlainOwn.rowCn (fun _ => rfl) HW37.out 15 rfl (colonnadelaw08_PlainOwn.inc_len L)) (colonnadelaw08_PlainOwn.inc_len L) HSI.out).mono ?_
              rintro e w38 ⟨rfl, hb⟩
              have HB38 := Aside0.mk (below_then HB37.out HB37.out.size hb)
              have HW38 := Aside0.mk (HW37.out.below hb)
              have HT38 := Aside0.mk (HT37.out.below hb)
              have HU38 := Aside0.mk (HU37.out.below hb)
              clear hb HB37 HW37 HT37 HU37
              go_wp2_with fail
              refine (colonnadelaw08_PlainOwn.sameT K (colonnadelaw08_PlainOwn.rowCn (fun _ => rfl) HU38.out 6 rfl rfl) rfl (colonnadelaw08_PlainOwn.rowCn (fun _ => rfl) HW38.out 17 rfl rfl) rfl HST.out).mono ?_
              rintro e w39 ⟨rfl, hb⟩
              have HB39 := Aside0.mk (below_then HB38.out HB38.out.size hb)
              have HW39 := Aside0.mk (HW38.out.below hb)
              have HT39 := Aside0.mk (HT38.out.below hb)
              have HU39 := Aside0.mk (HU38.out.below hb)
              clear hb HB38 HW38 HT38 HU38
              go_wp2_with fail
              refine (colonnadelaw08_PlainOwn.sameT K (colonnadelaw08_PlainOwn.rowCn (fun _ => rfl) HU39.out 5 rfl rfl) rfl (colonnadelaw08_PlainOwn.rowCn (fun _ => rfl) HW39.out 17 rfl rfl) rfl HST.out).mono ?_
              rintro e w40 ⟨rfl, hb⟩
              have HB40 := Aside0.mk (below_then HB39.out HB39.out.size hb)
              have HW40 := Aside0.mk (HW39.out.below hb)
              have HT40 := Aside0.mk (HT39.out.below hb)
              have HU40 := Aside0.mk (HU39.out.below hb)
              clear hb HB39 HW39 HT39 HU39
              go_wp2_with fail
              refine (colonnadelaw08_PlainOwn.sameT K (colonnadelaw08_PlainOwn.rowCn (fun _ => rfl) HU40.out 3 rfl rfl) rfl (colonnadelaw08_PlainOwn.rowCn (fun _ => rfl) HW40.out 17 rfl rfl) rfl HST.out).mono ?_
              rintro e w41 ⟨rfl, hb⟩
              have HB41 := Aside0.mk (below_then HB40.out HB40.out.size hb)
              have HW41 := Aside0.mk (HW40.out.below hb)
              have HT41 := Aside0.mk (HT40.out.below hb)
              have HU41 := Aside0.mk (HU40.out.below hb)
              clear hb HB40 HW40 HT40 HU40
              go_wp2_with fail
              refine (colonnadelaw08_PlainOwn.sameT K (colonnadelaw08_PlainOwn.rowCn (fun _ => rfl) HU41.out 2 rfl rfl) rfl (colonnadelaw08_PlainOwn.rowCn (fun _ => rfl) HU41.out 0 rfl rfl) rfl HJS.out).mono ?_
              rintro e w42 ⟨rfl, hb⟩
              have HB42 := Aside0.mk (below_then HB41.out HB41.out.size hb)
              have HW42 := Aside0.mk (HW41.out.below hb)
              have HT42 := Aside0.mk (HT41.out.below hb)
              have HU42 := Aside0.mk (HU41.out.below hb)
              clear hb HB41 HW41 HT41 HU41
              go_wp2_with fail
              obtain ⟨hP, hgs, hot⟩ := colonnadelaw08_PlainOwn.phase HW42.out HW19.out [14, 13, 11, 10, 8, 6, 5, 3, 2, 0] (by decide) (eT := 5) 24 1099511627776 (vs := [.slice Aa a.length ca, .slice Ab a.length cb, .slice Ac a.length cc, .slice Ad d.length cd, .slice Ae d.length ce, .slice Ap p.length cp, .slice Aq p.length cq, .slice Ar p.length cr, .slice Av pv.length cv, .slice Aw pv.length cw]) rfl (fun k hk => by
                match k, hk with
                | 0, _ => exact ⟨_, rfl, by rw [encs_length]; have := HDL.out; have := colonnadelaw08_PlainOwn.inc_len L; omega⟩
                | 1, _ => exact ⟨_, rfl, by rw [encs_length]; have := HDL.out; have := colonnadelaw08_PlainOwn.inc_len L; omega⟩
                | 2, _ => exact ⟨_, rfl, by rw [encs_length]; have := HDL.out; have := colonnadelaw08_PlainOwn.inc_len L; omega⟩
                | 3, _ => exact ⟨_, rfl, by rw [encs_length]; have := HDL.out; have := colonnadelaw08_PlainOwn.inc_len L; omega⟩
                | 4, _ => exact ⟨_, rfl, by rw [encs_length]; have := HDL.out; have := colonnadelaw08_PlainOwn.inc_len L; omega⟩
                | 5, _ => exact ⟨_, rfl, by rw [encs_length]; have := HDL.out; have := colonnadelaw08_PlainOwn.inc_len L; omega⟩
                | 6, _ => exact ⟨_, rfl, by rw [encs_length]; have := HDL.out; have := colonnadelaw08_PlainOwn.inc_len L; omega⟩
                | 7, _ => exact ⟨_, rfl, by rw [encs_length]; have := HDL.out; have := colonnadelaw08_PlainOwn.inc_len L; omega⟩
                | 8, _ => exact ⟨_, rfl, by rw [encs_length]; have := HDL.out; have := colonnadelaw08_PlainOwn.inc_len L; omega⟩
                | 9, _ => exact ⟨_, rfl, by rw [encs_length]; have := HDL.out; have := colonnadelaw08_PlainOwn.inc_len L; omega⟩
                | k + 10, hk => exact absurd hk (by simp)) (by decide) (by decide)
              refine (XOwn.apart.calls _ _ 10 _ hP).mono ?_
              rintro e w43 ⟨rfl, hbf⟩
              have HB43 := Aside0.mk ((below_alloc HB42.out _).trans (hbf.below (Nat.le_trans HB42.out.size (below_alloc (Below.refl w42.heap.size w42) _).size) (fun i g hi => by have h1 := (hgs i g hi).1; have h2 := HB19.out.size; have h3 := HS26.out; omega)))
              have HT43 := Aside0.mk (colonnadelaw08_PlainOwn.rowsBut HT42.out (below_alloc (Below.refl _ _) _) hbf (fun r hr g hg i hi => by have h1 := ((HT42.out.holds r hr).lt g hg).1; have h2 := (hgs i g hi).2; have h3 := HS26.out; omega))
              have HU43 := Aside0.mk (colonnadelaw08_PlainOwn.rowsBut HU42.out (below_alloc (Below.refl _ _) _) hbf (fun r hr g hg i hi => by have h1 := ((HU42.out.holds r hr).lt g hg).1; have h2 := (hgs i g hi).2; have h3 := HS26.out; omega))
              have HS43 := Aside0.mk (colonnadelaw08_PlainOwn.rowsBut (colonnadelaw08_PlainOwn.one HW42.out 17 rfl) (below_alloc (Below.refl _ _) _) hbf (fun r hr g hg i hi => by obtain rfl := List.mem_singleton.mp hr; exact hot 17 _ rfl (by decide) g hg i hi))
              clear HB42 HW42 HT42 HU42
              clear hP hgs hot hbf
              go_wp2_with fail
              obtain ⟨hP, hgs, hot⟩ := colonnadelaw08_PlainOwn.phase HT43.out HT26.out [4, 3, 1, 0] (by decide) (eT := 2) 22 1099511627776 (vs := [.slice Ax L.length cx, .slice Ay L.length cy, .slice Az L.length cz, .slice Ao L.length co]) rfl (fun k hk => by
                match k, hk with
                | 0, _ => exact ⟨_, rfl, by rw [encs_length]; have := HDL.out; have := colonnadelaw08_PlainOwn.inc_len L; omega⟩
                | 1, _ => exact ⟨_, rfl, by rw [encs_length]; have := HDL.out; have := colonnadelaw08_PlainOwn.inc_len L; omega⟩
                | 2, _ => exact ⟨_, rfl, by rw [encs_length]; have := HDL.out; have := colonnadelaw08_PlainOwn.inc_len L; omega⟩
                | 3, _ => exact ⟨_, rfl, by rw [encs_length]; have := HDL.out; have := colonnadelaw08_PlainOwn.inc_len L; omega⟩
                | k + 4, hk => exact absurd hk (by simp)) (by decide) (by decide)
              refine (XOwn.apartInts.calls _ _ 4 _ hP).mono ?_
              rintro e w44 ⟨rfl, hbf⟩
              have HB44 := Aside0.mk ((below_alloc HB43.out _).trans (hbf.below (Nat.le_trans HB43.out.size (below_alloc (Below.refl w43.heap.size w43) _).size) (fun i g hi => by have h1 := (hgs i g hi).1; have h2 := HB19.out.size; have h3 := HS26.out; omega)))
              have HU44 := Aside0.mk (colonnadelaw08_PlainOwn.rowsBut HU43.out (below_alloc (Below.refl _ _) _) hbf (fun r hr g hg i hi => by have h1 := ((HU43.out.holds r hr).lt g hg).1; have h2 := (hgs i g hi).2; have h3 := HS26.out; omega))
              have HS44 := Aside0.mk (colonnadelaw08_PlainOwn.rowsBut HS43.out (below_alloc (Below.refl _ _) _) hbf (fun r hr g hg i hi => by obtain rfl := List.mem_singleton.mp hr; have h1 := own_lt (HW19.out.get 17 _ rfl) g hg; have h2 := (hgs i g hi).1; omega))
              clear HB43 HT43 HU43 HS43
              clear hP hgs hot hbf
              go_wp2_with fail
              obtain ⟨hP, hgs, hot⟩ := colonnadelaw08_PlainOwn.phase HU44.out HU44.out [6, 5, 3, 2, 0] (by decide) (eT := 9) 23 1099511627776 (vs := [.slice Ag S.length cg, .slice Ah S.length ch2, .slice Aii S.length cii, .slice Aj rj.length cj, .slice Ak2 rj.length ck2]) rfl (fun k hk => by
                match k, hk with
                | 0, _ => exact ⟨_, rfl, by rw [encs_length]; have := HDL.out; have := colonnadelaw08_PlainOwn.inc_len L; omega⟩
                | 1, _ => exact ⟨_, rfl, by rw [encs_length]; have := HDL.out; have := colonnadelaw08_PlainOwn.inc_len L; omega⟩
                | 2, _ => exact ⟨_, rfl, by rw [encs_length]; have := HDL.out; have := colonnadelaw08_PlainOwn.inc_len L; omega⟩
                | 3, _ => exact ⟨_, rfl, by rw [encs_length]; have := HDL.out; have := colonnadelaw08_PlainOwn.inc_len L; omega⟩
                | 4, _ => exact ⟨_, rfl, by rw [encs_length]; have := HDL.out; have := colonnadelaw08_PlainOwn.inc_len L; omega⟩
                | k + 5, hk => exact absurd hk (by simp)) (by decide) (by decide)
              refine (XOwn.apartTexts.calls _ _ 5 _ hP).mono ?_
              rintro e w45 ⟨rfl, hbf⟩
              have HB45 := Aside0.mk ((below_alloc HB44.out _).trans (hbf.below (Nat.le_trans HB44.out.size (below_alloc (Below.refl w44.heap.size w44) _).size) (fun i g hi => by have h1 := (hgs i g hi).1; have h2 := HB19.out.size; have h3 := HS26.out; omega)))
              have HS45 := Aside0.mk (colonnadelaw08_PlainOwn.rowsBut HS44.out (below_alloc (Below.refl _ _) _) hbf (fun r hr g hg i hi => by obtain rfl := List.mem_singleton.mp hr; have h1 := own_lt (HW19.out.get 17 _ rfl) g hg; have h2 := (hgs i g hi).1; have h3 := HS26.out; omega))
              clear HB44 HU44 HS44
              clear hP hgs hot hbf
              go_wp2_with fail
              refine (colonnadelaw08_PlainOwn.putTexts HS45.out HB45.out.size (colonnadelaw08_PlainOwn.rowC (fun _ => rfl) HS45.out 0 rfl).1 (colonnadelaw08_PlainOwn.rowC (fun _ => rfl) HS45.out 0 rfl).2 HP.out).mono ?_
              rintro e w46 ⟨An2, cn2, rfl, hb, hw⟩
              have HB46 := Aside0.mk (below_then HB45.out HB45.out.size hb)
              have HS46 := Aside0.mk hw
              clear hb hw HB45 HS45
              go_wp2_with fail
              refine (colonnadelaw08_PlainOwn.putInts HS46.out HB46.out.size (Kd.C_below HCL.out HB46.out) hLc HA.out).mono ?_
              rintro e w47 ⟨Al2, cl2, rfl, hb, hw⟩
              have HB47 := Aside0.mk (below_then HB46.out HB46.out.size hb)
              have HS47 := Aside0.mk hw
              clear hb hw HB46 HS46
              have kA := Kd.C_string (P := Try.prog) Try.underlying24 Try.underlying5 Try.underlying9 (c := cl2) (colonnadelaw08_PlainOwn.rowC (fun _ => rfl) HS47.out 0 rfl).1
              have kB := Kd.C_string (P := Try.prog) Try.underlying24 Try.underlying5 Try.underlying9 (c := cn2) (colonnadelaw08_PlainOwn.rowC (fun _ => rfl) HS47.out 1 rfl).1
              go_wp2_with fail
              go_ret
              exact ⟨rfl, HB47.out⟩
open Classical in
noncomputable def colonnadelaw08_PlainOwn.f (k : Nat) (l0 : List Int) (l1 : List Int) (l2 : List ByteArray) (l3 : List ByteArray) : Option Bool :=
  if ∃ (L a am d : List Int) (S MO : List ByteArray) (p pm : List Int) (np nm nx : Int) (rn : List Int) (nn ng : Int) (rz : List ByteArray) (nz ny : Int),
    L = l0.take 65536 ∧ l0.length ≤ 1048576 ∧ S.length ≤ 1048576 ∧ colonnadelaw08_awake.f k = some true ∧ colonnadelaw08_short.f k l2 = some S ∧ colonnadelaw08_short.f k l3 = some MO ∧ plain_PutInts.f L = some a ∧ plain_PutInts.f l1 = some am ∧ plain_PutInts.f (colonnadelaw08_PlainOwn.inc L) = some d ∧
    plain_PutTexts.f S = some (p, np) ∧ plain_PutTexts.f MO = some (pm, nm) ∧ MO.length ≤ 1048576 ∧ (∀ x ∈ a, 0 ≤ x ∧ x < 256) ∧ a.length ≤ 1099511627776 ∧ plain_Ints.f k a (L.length : Int) = some (L, nx) ∧ plain_Ints.f k [] 0 = some (rn, nn) ∧ (∀ x ∈ p, 0 ≤ x ∧ x < 256) ∧ p.length ≤ 1099511627776 ∧
    plain_Texts.f k p (S.length : Int) = some (S, ng) ∧ plain_Texts.f k [0, 0, 0, 0] 0 = some (rz, nz) ∧ d.length = a.length ∧ plain_Ints.f k d (L.length : Int) = some (colonnadelaw08_PlainOwn.inc L, ny) ∧
    (∀ Y : List Int, Y.length = p.length → (∀ x ∈ Y, 0 ≤ x ∧ x < 256) → ∃ rj nj, plain_Texts.f k Y (S.length : Int) = some (rj, nj) ∧ rj.length ≤ 1048576 ∧ colonnaderef08_SameTexts.f k rj rj = some true) ∧
    colonnaderef08_SameInts.f k L L = some true ∧ colonnaderef08_SameInts.f k (colonnadelaw08_PlainOwn.inc L) (colonnadelaw08_PlainOwn.inc L) = some true ∧ colonnaderef08_SameTexts.f k S S = some true then some true else none
theorem colonnadelaw08_PlainOwn.calls (k : Nat) (A0 : Option Addr) (c0 : Nat) (l0 : List Int) (A1 : Option Addr) (c1 : Nat) (l1 : List Int) (A2 : Option Addr) (c2 : Nat) (l2 : List ByteArray) (A3 : Option Addr) (c3 : Nat) (l3 : List ByteArray) (r : Bool) (w : World)
    (hr0 : Kd.C (Kd.int .i64) w A0 l0.length l0) (hc0 : l0.length ≤ c0) (hr1 : Kd.C (Kd.int .i64) w A1 l1.length l1) (hc1 : l1.length ≤ c1) (hr2 : Kd.C Kd.string w A2 l2.length l2) (hc2 : l2.length ≤ c2) (hr3 : Kd.C Kd.string w A3 l3.length l3) (hc3 : l3.length ≤ c3) (h : colonnadelaw08_PlainOwn.f k l0 l1 l2 l3 = some r) :
    Calls Try.prog 9 #[.slice A0 l0.length c0, .slice A1 l1.length c1, .slice A2 l2.length c2, .slice A3 l3.length c3] w fun e w' => e = .returned (.bool r) ∧ Below w.heap.size w w' := by
  unfold colonnadelaw08_PlainOwn.f at h
  split at h
  · rename_i hc
    obtain rfl := Option.some.inj h
    obtain ⟨L, a, am, d, S, MO, p, pm, np, nm, nx, rn, nn, ng, rz, nz, ny, e0, e1, e2, e3, e4, e5, e6, e7, e8, e9, e10, e11, e12, e13, e14, e15, e16, e17, e18, e19, e20, e21, e22, e23, e24, e25⟩ := hc
    exact colonnadelaw08_PlainOwn.ck k A0 c0 l0 A1 c1 l1 A2 c2 l2 A3 c3 l3 w hr0 hc0 hr1 hc1 hr2 hc2 hr3 hc3 L a am d S MO e0 e1 e2 e3 e4 e5 e6 e7 e8 p pm np nm e9 e10 e11 e12 e13 nx e14 rn nn e15 e16 e17 ng e18 rz nz e19 e20 ny e21 e22 e23 e24 e25
  · cases h

end Go.Proofs.Ytkepimkabfoapab.PPlainOwn
