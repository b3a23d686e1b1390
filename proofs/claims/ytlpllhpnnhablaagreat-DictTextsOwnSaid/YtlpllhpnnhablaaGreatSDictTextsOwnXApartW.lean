/- Lists that are written full, then grown place by place, what is grown being kept: what each of the kept lists reads behind it all. No program in sight. -/
import Derived.Test.YtlpllhpnnhablaaGreatSDictTextsOwnWMore
import Derived.Deep.AppendLies
import Derived.Deep.Draws
namespace Go.Proofs.YtlpllhpnnhablaaGreat.XApartW
open Go.RowKit Go.Proofs.YtlpllhpnnhablaaGreatW.PrintWords

/-- a row of one's own whose block may be longer than it says (a clipped one) -/
def ownsW (w : World) (base : Nat) (e : TypeId) (v : Value) (n : Nat) (xs : List Value) : Prop :=
  xs.length = n * 1 ∧
  ((v = .slice none 0 0 ∧ n = 0) ∨
   ∃ g cap cur, v = .slice (some ⟨g, 0, none⟩) n cap ∧ base ≤ g ∧ w.heap[g]? = some (.cells cur e (0, 0)) ∧ n ≤ cap ∧ cap ≤ maxLen ∧ cap ≤ cur.size ∧ cur.toList.take (n * 1) = xs)
theorem ownsW.of {w : World} {base : Nat} {e : TypeId} {v : Value} {n : Nat} {xs : List Value} (h : w.ownsRow base e 1 v n xs) : ownsW w base e v n xs := by
  refine ⟨h.1, h.2.imp id ?_⟩
  rintro ⟨g, cap, cur, h1, h2, h3, h4, h5, h6, h7⟩
  exact ⟨g, cap, cur, h1, h2, h3, h4, h5, by omega, h7⟩
theorem ownsW.clip {w : World} {base : Nat} {e : TypeId} {A : Option Addr} {n c : Nat} {xs : List Value} (h : w.ownsRow base e 1 (.slice A n c) n xs) : ownsW w base e (.slice A n n) n xs := by
  refine ⟨h.1, ?_⟩
  rcases h.2 with ⟨h1, h2⟩ | ⟨g, cap, cur, h1, h2, h3, h4, h5, h6, h7⟩
  · cases h1; exact .inl ⟨rfl, rfl⟩
  · cases h1; exact .inr ⟨g, n, cur, rfl, h2, h3, Nat.le_refl _, by omega, by omega, h7⟩
theorem ownsW.cells {w : World} {base : Nat} {e : TypeId} {v : Value} {n : Nat} {xs : List Value} (h : ownsW w base e v n xs) {g : Nat} (hg : v.ownBlock = some g) : ∀ j u, xs[j]? = some u → w.cell? ((⟨g, 0, none⟩ : Addr).add j) = some u := by
  rcases h.2 with ⟨rfl, _⟩ | ⟨g', cap, cur, rfl, _, h3, h4, h5, h6, h7⟩
  · cases hg
  · obtain rfl : g' = g := Option.some.inj hg
    intro j u hu
    rw [add_plain, cell_of_row w g' j cur e (0, 0) h3]
    rw [← h7, List.getElem?_take] at hu
    split at hu
    · simpa using hu
    · cases hu
theorem ownsW.lt {w : World} {base : Nat} {e : TypeId} {v : Value} {n : Nat} {xs : List Value} (h : ownsW w base e v n xs) (g : Nat) (hg : v.ownBlock = some g) : base ≤ g ∧ g < w.heap.size := by
  rcases h.2 with ⟨rfl, _⟩ | ⟨g', cap, cur, rfl, h2, h3, _⟩
  · cases hg
  · obtain rfl : g' = g := Option.some.inj hg
    exact ⟨h2, blk_lt h3⟩
theorem ownsW.form {w : World} {base : Nat} {e : TypeId} {v : Value} {n : Nat} {xs : List Value} (h : ownsW w base e v n xs) (hn : 0 < n) : ∃ g cap, v = .slice (some ⟨g, 0, none⟩) n cap ∧ base ≤ g ∧ n ≤ cap := by
  rcases h.2 with ⟨_, h2⟩ | ⟨g', cap, cur, rfl, h2, h3, h4, _⟩
  · omega
  · exact ⟨g', cap, rfl, h2, h4⟩
theorem ownsW.kept {w w' : World} {base : Nat} {e : TypeId} {v : Value} {n : Nat} {xs : List Value} {row : Option Nat} (h : ownsW w base e v n xs) (hg : w.grownBy w' row) (hr : v.ownBlock = none ∨ v.ownBlock ≠ row) : ownsW w' base e v n xs := by
  refine ⟨h.1, ?_⟩
  rcases h.2 with h2 | ⟨g, cap, cur, rfl, h2, h3, h4⟩
  · exact .inl h2
  · refine .inr ⟨g, cap, cur, rfl, h2, (hg.block g (blk_lt h3) (fun e => ?_)).trans h3, h4⟩
    rcases hr with hr | hr
    · cases hr
    · exact hr e
theorem ownW_nil (w : World) (base : Nat) (e : TypeId) : ownsW w base e (.slice none 0 0) 0 [] := ⟨rfl, .inl ⟨rfl, rfl⟩⟩
theorem ownW_slice {w : World} {base n : Nat} {e : TypeId} {v : Value} {xs : List Value} (h : ownsW w base e v n xs) : ∃ A c, v = .slice A n c := by
  rcases h.2 with ⟨rfl, rfl⟩ | ⟨g, cap, cur, rfl, _⟩
  · exact ⟨_, _, rfl⟩
  · exact ⟨_, _, rfl⟩
/-- one element more behind a row of one's own: either in the same block, or in a new one and nothing else has turned -/
theorem run_append_keep {P : Program} (w : World) (base : Nat) (t ty e : TypeId) (i : TypeInfo) (z : Value) (bytes : Nat) (ht : P.underlying t = some (.slice e)) (hi : P.info? e = some i) (hz : i.zero = some z)
    (hsize : i.size = 1) (hby : i.bytes = bytes) (hzs : z.cells.size = 1)
    (v : Value) (n : Nat) (xs : List Value) (hown : ownsW w base e v n xs)
    (a : Addr) (c : Nat) (y : Value) (hnew : w.cell? a = some y) (h1 : y.oneCell' = true)
    (h63 : n + 1 ≤ maxLen) (hbytes : (n + 1) * bytes ≤ 140737488355328) (hbase : base ≤ w.heap.size) :
    ∃ g cap w', (Builtin.append_ #[t, t] ty #[v, .slice (some a) 1 c]).run P w = .ok (.slice (some ⟨g, 0, none⟩) (n + 1) cap) w' ∧
      ownsW w' base e (.slice (some ⟨g, 0, none⟩) (n + 1) cap) (n + 1) (xs ++ [y]) ∧ w.grownBy w' v.ownBlock ∧ (v.ownBlock = some g ∨ (g = w.heap.size ∧ w.grownBy w' none)) := by
  subst hby
  have hl : [y].length = 1 * i.size := by rw [hsize]; rfl
  have hnews : ∀ j u, [y][j]? = some u → w.cell? (a.add j) = some u := by
    intro j u hu
    match j, hu with
    | 0, hu =>
      simp at hu
      subst hu
      have : a.add 0 = a := by unfold Addr.add; split <;> simp_all
      rw [this]; exact hnew
  have hone : ∀ u ∈ [y], u.oneCell' = true := fun u hu => by rw [List.mem_singleton.1 hu]; exact h1
  have hlen : (xs ++ [y]).length = (n + 1) * 1 := by rw [List.length_append, hown.1]; simp
  have hmx : (n + 1 : Nat) ≤ 9223372036854775807 := by simp only [maxLen] at h63; omega
  have grown : ∀ (old : Nat), old < n + 1 →
      ownsW (w.drew.alloc (.cells (xs.toArray ++ [y].toArray ++ Builtin.zeroCells z.cells (grownCap w (n + 1) old e - (n + 1))) e)) base e
        (.slice (some ⟨w.heap.size, 0, none⟩) (n + 1) (grownCap w (n + 1) old e)) (n + 1) (xs ++ [y]) := by
    intro old ho
    have hge := grownCap_ge w (n + 1) old e
    have hcm : grownCap w (n + 1) old e ≤ maxLen := grownCap_le_maxLen w (n + 1) old e h63
    refine ⟨hlen, .inr ⟨w.heap.size, _, _, rfl, hbase, heap_alloc_new w.drew _, hge, hcm, ?_, ?_⟩⟩
    · have hxl : xs.length = n := by have := hown.1; omega
      simp only [Array.size_append, List.size_toArray, size_zeroCells, hzs, hxl, List.length_cons, List.length_nil]
      omega
    · simp only [Array.toList_append, List.append_assoc]
      rw [← List.append_assoc, ← hlen]
      exact List.take_left
  have grow0 : ∀ (o : Obj) (row : Option Nat), w.grownBy (w.drew.alloc o) row := fun o row => ⟨rfl, rfl, rfl, by simp, fun k hk _ => Below.heap_alloc w.drew o k hk⟩
  rcases hown.2 with ⟨rfl, rfl⟩ | ⟨g, cap, cur, rfl, hbg, hg, hnc, hcm, hcs, htake⟩
  · have hx : xs = [] := List.eq_nil_of_length_eq_zero (by simpa using hown.1)
    subst hx
    have hr := run_append_nil (P := P) w t ty e i z ht hi hz a 1 c [y] hl hnews (by omega) (by omega) (by have hb := hbytes; simp only [Nat.zero_add] at hb; omega)
    have hgr := grown 0 (by omega)
    simp only [Nat.zero_add, List.nil_append, Array.empty_append] at hgr ⊢
    exact ⟨_, _, _, hr, hgr, grow0 _ _, .inr ⟨rfl, grow0 _ _⟩⟩
  · by_cases hroom : n + 1 ≤ cap
    · have hfit : n * i.size + [y].length ≤ cur.size := by rw [hsize]; simp; omega
      have hr := run_append_room (P := P) w t ty e i ht hi g n cap cur hg a 1 c [y] hl hnews hone hroom hfit
      rw [hsize] at hr
      refine ⟨_, _, _, hr, ⟨hlen, .inr ⟨g, cap, _, rfl, hbg, setRow_heap w g cur _ e _ hg, hroom, hcm, ?_, ?_⟩⟩, ⟨rfl, rfl, rfl, by simp [World.setRow], fun k _ hk => setRow_other w g k _ (fun e => hk (by simp [Value.ownBlock, e]))⟩, .inl rfl⟩
      · simp only [List.size_toArray, List.length_append, List.length_take, List.length_drop, Array.length_toList, List.length_cons, List.length_nil]
        omega
      · rw [htake, ← hlen]
        exact List.take_left
    · have holds : ∀ j u, xs[j]? = some u → w.cell? ((⟨g, 0, none⟩ : Addr).add j) = some u := hown.cells (g := g) rfl
      have hr := run_append_grow (P := P) w t ty e i z ht hi hz ⟨g, 0, none⟩ n cap xs (by rw [hsize]; exact hown.1) holds a 1 c [y] hl hnews (by omega) (by omega) (growslice_fits (by omega) hbytes)
      exact ⟨_, _, _, hr, grown cap (by omega), grow0 _ _, .inr ⟨rfl, grow0 _ _⟩⟩

/-- for the walk -/
theorem wpList_append_keep {P : Program} {w : World} {ops : Array Oper} {rest : List Oper} {o : Oper} {a : Act} {Q : Exit → Act → World → Prop} (base : Nat) (hgd : o.guard = none) (s x : Operand) (t e : TypeId) (z : Value) (bytes : Nat)
    (ho : o.op = .call { callee := .builtin .append, args := #[s, x], argTypes := #[t, t] })
    (ht : P.underlying t = some (.slice e)) (hinfo : (P.info? e).map (fun i => (i.zero, i.size, i.bytes)) = some (some z, 1, bytes)) (hzs : z.cells.size = 1)
    (v : Value) (n : Nat) (xs : List Value) (ad : Addr) (c : Nat) (y : Value) (hs : a.eval s = v) (hx : a.eval x = .slice (some ad) 1 c)
    (hown : ownsW w base e v n xs) (hnew : w.cell? ad = some y) (h1 : y.oneCell' = true)
    (h63 : n + 1 ≤ maxLen) (hbytes : (n + 1) * bytes ≤ 140737488355328) (hbase : base ≤ w.heap.size)
    (h : ∀ g cap w', ownsW w' base e (.slice (some ⟨g, 0, none⟩) (n + 1) cap) (n + 1) (xs ++ [y]) → w.grownBy w' v.ownBlock → (v.ownBlock = some g ∨ (g = w.heap.size ∧ w.grownBy w' none)) → wpList P ops Q rest (a.put o.dst (.slice (some ⟨g, 0, none⟩) (n + 1) cap)) w') :
    wpList P ops Q (o :: rest) a w := by
  obtain ⟨i, hi, hzz⟩ := Option.map_eq_some_iff.1 hinfo
  simp only [Prod.mk.injEq] at hzz
  obtain ⟨hz0, hz1, hz2⟩ := hzz
  refine wpList_plain hgd fun K hK => ?_
  obtain ⟨g, cap, w', hr, h2, h3, h4⟩ := run_append_keep (P := P) w base t o.type e i z bytes ht hi hz0 hz1 hz2 hzs v n xs hown ad c y hnew h1 h63 hbytes hbase
  unfold Oper.wp execOp
  simp only [ho, resolve, invoke, builtin, Sem.run_bind, Sem.run_pure, Result.andThen_ok, List.map_toArray, List.map_cons, List.map_nil, hs, hx, hr]
  exact hK _ _ (h g cap w' h2 h3 h4)

/-- which cells stay -/
theorem keep_cells {w w' : World} {base : Nat} {e : TypeId} {v : Value} {n cap g : Nat} {xs : List Value} {y : Value} (hown : ownsW w base e v n xs)
    (h2 : ownsW w' base e (.slice (some ⟨g, 0, none⟩) (n + 1) cap) (n + 1) (xs ++ [y])) (h3 : w.grownBy w' v.ownBlock) (h4 : v.ownBlock = some g ∨ (g = w.heap.size ∧ w.grownBy w' none)) :
    ∀ b t x, w.cell? ⟨b, t, none⟩ = some x → (v.ownBlock = some b → t < n) → w'.cell? ⟨b, t, none⟩ = some x := by
  intro b t x hc hb
  by_cases hv : v.ownBlock = some b
  · have htn := hb hv
    rcases h4 with h4 | ⟨_, h4⟩
    · have hgb : g = b := Option.some.inj (h4.symm.trans hv)
      subst hgb
      have hxl : xs.length = n := by have := hown.1; omega
      have hcell := hown.cells hv t (xs[t]'(by omega)) (by rw [List.getElem?_eq_getElem])
      have hcell' := h2.cells (g := g) rfl t (xs[t]'(by omega)) (by rw [List.getElem?_append_left (by omega), List.getElem?_eq_getElem])
      have hadd : (⟨g, 0, none⟩ : Addr).add t = ⟨g, t, none⟩ := by unfold Addr.add; split <;> simp_all
      rw [hadd] at hcell hcell'
      rw [hcell'] 
      exact hcell.symm.trans hc
    · exact h4.cell hc (by simp)
  · exact h3.cell hc (fun e => hv e.symm)

structure Rec where
  g : Nat
  len : Nat
  c : Nat
  i : Nat
def Rec.val (r : Rec) : Value := .slice (some ⟨r.g, 0, none⟩) r.len r.c

section
variable (own mark : Nat → Value) (ns cs : Nat → Nat) (gs : Nat → Option Nat) (N W0 : Nat)

/-- the lists that came in: list i lies in block gs i, has ns i elements, room for cs i -/
structure Static : Prop where
  lt : ∀ i g, gs i = some g → g < W0
  ne : ∀ i j g, i ≠ j → gs i = some g → gs j ≠ some g
  le : ∀ i, ns i ≤ cs i ∧ cs i ≤ maxLen
  nil : ∀ i, gs i = none → ns i = 0 ∧ cs i = 0
def sv (i : Nat) : Value := .slice ((gs i).map fun g => ⟨g, 0, none⟩) (ns i) (cs i)
theorem sv_block (i : Nat) : (sv ns cs gs i).ownBlock = gs i := by
  unfold sv
  cases h : gs i with
  | none => rfl
  | some g => rfl

/-- old blocks that are none of the lists' stay -/
structure ButFor (w w' : World) : Prop where
  os : w'.os = w.os
  tape : w'.tape = w.tape
  output : w'.output = w.output
  size : w.heap.size ≤ w'.heap.size
  block : ∀ b, b < W0 → (∀ i, gs i ≠ some b) → w'.heap[b]? = w.heap[b]?
theorem ButFor.refl (w : World) : ButFor gs W0 w w := ⟨rfl, rfl, rfl, Nat.le_refl _, fun _ _ _ => rfl⟩
theorem ButFor.grown {gs : Nat → Option Nat} {W0 : Nat} {w w1 w2 : World} (h : ButFor gs W0 w w1) (hW : W0 ≤ w1.heap.size) {row : Option Nat} (hg : w1.grownBy w2 row) (hr : ∀ b, row = some b → W0 ≤ b ∨ ∃ i, gs i = some b) : ButFor gs W0 w w2 := by
  refine ⟨hg.os.trans h.os, hg.tape.trans h.tape, hg.output.trans h.output, Nat.le_trans h.size hg.size, fun b hb hn => (hg.block b (by omega) (fun e => ?_)).trans (h.block b hb hn)⟩
  rcases hr b e.symm with h1 | ⟨i, h1⟩
  · omega
  · exact hn i h1
theorem ButFor.below {gs : Nat → Option Nat} {W0 B : Nat} {w w' : World} (h : ButFor gs W0 w w') (hB : B ≤ W0) (hg : ∀ i g, gs i = some g → B ≤ g) : Below B w w' :=
  ⟨h.os, h.tape, h.output, h.size, fun k hk => h.block k (by omega) (fun i e => by have := hg i k e; omega)⟩

/-- the lists are being written full: those before i, and k places of list i -/
structure Fill (eT : TypeId) (w0 w : World) (i k : Nat) : Prop where
  row : ∀ i' g, gs i' = some g → ∃ cur, w.heap[g]? = some (.cells cur eT (0, 0)) ∧ cs i' ≤ cur.size ∧ ∀ t, t < ns i' → (i' < i ∨ i' = i ∧ t < k) → cur[t]? = some (own i')
  but : ButFor gs W0 w0 w
  size : W0 ≤ w.heap.size

variable {own mark ns cs gs N W0}

theorem Fill.move {eT : TypeId} {w0 w w' : World} {i k : Nat} (h : Fill own ns cs gs W0 eT w0 w i k) (hS : Static ns cs gs W0) (hg : w.grownBy w' none) : Fill own ns cs gs W0 eT w0 w' i k := by
  refine ⟨fun i' g hi' => ?_, h.but.grown h.size hg (by simp), Nat.le_trans h.size hg.size⟩
  obtain ⟨cur, h1, h2⟩ := h.row i' g hi'
  exact ⟨cur, (hg.block g (by have := hS.lt i' g hi'; have := h.size; omega) (by simp)).trans h1, h2⟩
theorem Fill.next {eT : TypeId} {w0 w : World} {i k : Nat} (h : Fill own ns cs gs W0 eT w0 w i k) (hk : ns i ≤ k) : Fill own ns cs gs W0 eT w0 w (i + 1) 0 := by
  refine ⟨fun i' g hi' => ?_, h.but, h.size⟩
  obtain ⟨cur, h1, h2, h3⟩ := h.row i' g hi'
  refine ⟨cur, h1, h2, fun t ht hh => h3 t ht ?_⟩
  rcases hh with hh | ⟨_, hh⟩
  · rcases Nat.lt_or_ge i' i with h4 | h4
    · exact .inl h4
    · have : i' = i := by omega
      subst this
      exact .inr ⟨rfl, by omega⟩
  · omega
theorem Fill.cell {eT : TypeId} {w0 w : World} {i k : Nat} (h : Fill own ns cs gs W0 eT w0 w i k) (hS : Static ns cs gs W0) {i' g t : Nat} (hg : gs i' = some g) (ht : t < ns i') : (∃ x, w.cell? ⟨g, t, none⟩ = some x) ∧ w.frozen? ⟨g, t, none⟩ = false := by
  obtain ⟨cur, h1, h2, _⟩ := h.row i' g hg
  have := hS.le i'
  constructor
  · rw [cell_of_row w g t cur eT (0, 0) h1]
    exact ⟨_, Array.getElem?_eq_getElem (by omega)⟩
  · simp [World.frozen?, h1]
theorem heap_setCell_same {w : World} {g t : Nat} {cur : Array Value} {e : TypeId} {fr : Nat × Nat} (h : w.heap[g]? = some (.cells cur e fr)) (x : Value) : (w.setCell ⟨g, t, none⟩ x).heap[g]? = some (.cells (cur.setIfInBounds t x) e fr) := by
  show (w.heap.modify g _)[g]? = _
  rw [Array.getElem?_modify, if_pos rfl, h]
  rfl
theorem Fill.store {eT : TypeId} {w0 w : World} {i k g : Nat} (h : Fill own ns cs gs W0 eT w0 w i k) (hS : Static ns cs gs W0) (hg : gs i = some g) (hk : k < ns i) : Fill own ns cs gs W0 eT w0 (w.setCell ⟨g, k, none⟩ (own i)) i (k + 1) := by
  have hother : ∀ b, b ≠ g → (w.setCell ⟨g, k, none⟩ (own i)).heap[b]? = w.heap[b]? := fun b hb => Below.heap_setCell w ⟨g, k, none⟩ (own i) b hb
  refine ⟨fun i' g' hi' => ?_, ⟨h.but.os, h.but.tape, h.but.output, by simpa using h.but.size, fun b hb hn => (hother b (fun e => hn i (e ▸ hg))).trans (h.but.block b hb hn)⟩, by simpa using h.size⟩
  obtain ⟨cur, h1, h2, h3⟩ := h.row i' g' hi'
  by_cases he : i' = i
  · subst he
    obtain rfl : g = g' := Option.some.inj (hg.symm.trans hi')
    refine ⟨_, heap_setCell_same h1 _, by simpa using h2, fun t ht hh => ?_⟩
    have := hS.le i'
    by_cases htk : t = k
    · subst htk
      simp [show t < cur.size by omega]
    · rw [Array.getElem?_setIfInBounds, if_neg (Ne.symm htk)]
      exact h3 t ht (hh.imp id (fun hh => ⟨hh.1, by omega⟩))
  · refine ⟨cur, (hother g' (fun e => hS.ne i' i g' he hi' (e ▸ hg))).trans h1, h2, fun t ht hh => h3 t ht ?_⟩
    rcases hh with hh | ⟨h4, _⟩
    · exact .inl hh
    · exact absurd h4 he

def want (own mark : Nat → Value) (ns : Nat → Nat) (i t : Nat) : Value := if t < ns i then own i else mark i
structure Good (own mark : Nat → Value) (ns : Nat → Nat) (w : World) (r : Rec) : Prop where
  lt : r.g < w.heap.size
  cell : ∀ t, t < r.len → w.cell? ⟨r.g, t, none⟩ = some (want own mark ns r.i t)
theorem Good.keep {w w' : World} {r : Rec} (h : Good own mark ns w r) (hs : w.heap.size ≤ w'.heap.size) (hk : ∀ t x, t < r.len → w.cell? ⟨r.g, t, none⟩ = some x → w'.cell? ⟨r.g, t, none⟩ = some x) : Good own mark ns w' r :=
  ⟨Nat.lt_of_lt_of_le h.lt hs, fun t ht => hk t _ ht (h.cell t ht)⟩

variable (own mark ns cs gs N W0)
/-- list cur is being grown: its newest form lies in block u, ulen long; the kept ones L; the list of the kept ones lies in block M, that of whose they are in block H -/
structure Inv (eT : TypeId) (w0 w : World) (cur : Nat) (u : Option Nat) (ulen : Nat) (M H : Option Nat) (L : List Rec) : Prop where
  base : ∀ i g, gs i = some g → Good own mark ns w ⟨g, ns i, cs i, i⟩
  kept : ∀ r ∈ L, Good own mark ns w r
  who : ∀ r ∈ L, r.i ≤ cur ∧ r.i < N ∧ ns r.i ≤ r.len ∧ r.len ≤ r.c ∧ r.c ≤ maxLen
  far : ∀ r ∈ L, ∀ i, i ≠ r.i → gs i ≠ some r.g
  ufar : ∀ g, u = some g → (∀ i, i ≠ cur → gs i ≠ some g) ∧ (∀ r ∈ L, r.g = g → r.i = cur ∧ r.len ≤ ulen) ∧ (W0 ≤ g ∨ gs cur = some g)
  ulen_ : ns cur ≤ ulen
  Mfar : ∀ g, M = some g → W0 ≤ g ∧ g < w.heap.size ∧ (∀ r ∈ L, r.g ≠ g) ∧ u ≠ some g ∧ H ≠ some g
  Hfar : ∀ g, H = some g → W0 ≤ g ∧ g < w.heap.size ∧ (∀ r ∈ L, r.g ≠ g) ∧ u ≠ some g
  but : ButFor gs W0 w0 w
  size : W0 ≤ w.heap.size
  later : ∀ j g, cur < j → gs j = some g → ∃ cu, w.heap[g]? = some (.cells cu eT (0, 0)) ∧ cs j ≤ cu.size
variable {own mark ns cs gs N W0}
variable {eT : TypeId} {w0 w w' : World} {cur : Nat} {u : Option Nat} {ulen : Nat} {M H : Option Nat} {L : List Rec}

theorem Inv.move (h : Inv own mark ns cs gs N W0 eT w0 w cur u ulen M H L) (hg : w.grownBy w' none) : Inv own mark ns cs gs N W0 eT w0 w' cur u ulen M H L := by
  have hk : ∀ r, Good own mark ns w r → Good own mark ns w' r := fun r hr => hr.keep hg.size (fun t x _ hx => hg.cell hx (by simp))
  exact ⟨fun i g hi => hk _ (h.base i g hi), fun r hr => hk _ (h.kept r hr), h.who, h.far, h.ufar, h.ulen_, fun g hg' => ⟨(h.Mfar g hg').1, Nat.lt_of_lt_of_le (h.Mfar g hg').2.1 hg.size, (h.Mfar g hg').2.2⟩,
    fun g hg' => ⟨(h.Hfar g hg').1, Nat.lt_of_lt_of_le (h.Hfar g hg').2.1 hg.size, (h.Hfar g hg').2.2⟩, h.but.grown h.size hg (by simp), Nat.le_trans h.size hg.size, fun j g hj hgj => by
      obtain ⟨cu, h1, h2⟩ := h.later j g hj hgj
      exact ⟨cu, (hg.block g (Array.getElem?_eq_some_iff.1 h1).1 (by simp)).trans h1, h2⟩⟩

/-- one element more behind the newest form -/
theorem Inv.grow (h : Inv own mark ns cs gs N W0 eT w0 w cur u ulen M H L) (hS : Static ns cs gs W0) (hg : w.grownBy w' u) {g : Nat} (hp : u = some g ∨ (g = w.heap.size ∧ w.grownBy w' none)) (_ : g < w'.heap.size)
    (hk : ∀ b t x, w.cell? ⟨b, t, none⟩ = some x → (u = some b → t < ulen) → w'.cell? ⟨b, t, none⟩ = some x) : Inv own mark ns cs gs N W0 eT w0 w' cur (some g) (ulen + 1) M H L := by
  have hold : ∀ i b, gs i = some b → b < w.heap.size := fun i b hb => by have := hS.lt i b hb; have := h.size; omega
  refine ⟨fun i b hi => (h.base i b hi).keep hg.size (fun t x ht hx => hk b t x hx (fun e => ?_)), fun r hr => (h.kept r hr).keep hg.size (fun t x ht hx => hk r.g t x hx (fun e => ?_)), h.who, h.far, fun b hb => ?_, by have := h.ulen_; omega, fun b hb => ?_, fun b hb => ?_, h.but.grown h.size hg (fun b hb => ?_), Nat.le_trans h.size hg.size, fun j b hj hgj => by
      obtain ⟨cu, h1, h2⟩ := h.later j b hj hgj
      exact ⟨cu, (hg.block b (Array.getElem?_eq_some_iff.1 h1).1 (fun e => (h.ufar b e.symm).1 j (by omega) hgj)).trans h1, h2⟩⟩
  · have h1 := (h.ufar b e).1 i
    by_cases hi' : i = cur
    · subst hi'
      have := h.ulen_
      exact Nat.lt_of_lt_of_le ht this
    · exact absurd hi (h1 hi')
  · exact Nat.lt_of_lt_of_le ht ((h.ufar r.g e).2.1 r hr rfl).2
  · obtain rfl : g = b := Option.some.inj hb
    rcases hp with hp | ⟨hp, _⟩
    · obtain ⟨h1, h2, h3⟩ := h.ufar g hp
      exact ⟨h1, fun r hr e => ⟨(h2 r hr e).1, by have := (h2 r hr e).2; omega⟩, h3⟩
    · refine ⟨fun i _ e => ?_, fun r hr e => ?_, .inl (by have := h.size; omega)⟩
      · have := hold i g e; omega
      · have := (h.kept r hr).lt; omega
  · obtain ⟨h1, h2, h3, h4, h5⟩ := h.Mfar b hb
    refine ⟨h1, Nat.lt_of_lt_of_le h2 hg.size, h3, fun e => ?_, h5⟩
    obtain rfl : g = b := Option.some.inj e
    rcases hp with hp | ⟨hp, _⟩
    · exact h4 hp
    · omega
  · obtain ⟨h1, h2, h3, h4⟩ := h.Hfar b hb
    refine ⟨h1, Nat.lt_of_lt_of_le h2 hg.size, h3, fun e => ?_⟩
    obtain rfl : g = b := Option.some.inj e
    rcases hp with hp | ⟨hp, _⟩
    · exact h4 hp
    · omega
  · rcases (h.ufar b hb).2.2 with h1 | h1
    · exact .inl h1
    · exact .inr ⟨cur, h1⟩

/-- the newest form is kept: the list of the kept ones has grown -/
theorem Inv.keepM (h : Inv own mark ns cs gs N W0 eT w0 w cur u ulen M H L) (hS : Static ns cs gs W0) (hg : w.grownBy w' M) {m : Nat} (hp : M = some m ∨ (m = w.heap.size ∧ w.grownBy w' none)) (hlt : m < w'.heap.size)
    {r : Rec} (hr : r.len = ulen) (hru : u = some r.g) (hri : r.i = cur) (hrc : r.len ≤ r.c ∧ r.c ≤ maxLen) (hN : cur < N) (hgood : Good own mark ns w r) : Inv own mark ns cs gs N W0 eT w0 w' cur u ulen (some m) H (L ++ [r]) := by
  have hold : ∀ i b, gs i = some b → b < W0 := hS.lt
  have hW := h.size
  have keep : ∀ r', Good own mark ns w r' → M ≠ some r'.g → Good own mark ns w' r' := fun r' h1 h2 => h1.keep hg.size (fun t x _ hx => hg.cell hx (fun e => h2 e.symm))
  have hMu : ∀ b, M = some b → u ≠ some b := fun b hb => (h.Mfar b hb).2.2.2.1
  have hult : r.g < w.heap.size := hgood.lt
  have mem : ∀ x, x ∈ L ++ [r] → x ∈ L ∨ x = r := fun x hx => by simpa using hx
  refine ⟨fun i b hi => keep _ (h.base i b hi) (fun e => ?_), fun x hx => ?_, fun x hx => ?_, fun x hx => ?_, fun b hb => ?_, h.ulen_, fun b hb => ?_, fun b hb => ?_, h.but.grown h.size hg (fun b hb => .inl (h.Mfar b hb).1), Nat.le_trans h.size hg.size, fun j b hj hgj => by
      obtain ⟨cu, h1, h2⟩ := h.later j b hj hgj
      exact ⟨cu, (hg.block b (Array.getElem?_eq_some_iff.1 h1).1 (fun e => by have := (h.Mfar b e.symm).1; have := hold j b hgj; omega)).trans h1, h2⟩⟩
  · have := (h.Mfar b e).1; have := hold i b hi; omega
  · rcases mem x hx with hx | rfl
    · exact keep _ (h.kept x hx) (fun e => (h.Mfar _ e).2.2.1 x hx rfl)
    · exact keep _ hgood (fun e => hMu _ e hru)
  · rcases mem x hx with hx | rfl
    · exact h.who x hx
    · refine ⟨by omega, by omega, ?_, hrc⟩
      rw [hri, hr]; exact h.ulen_
  · rcases mem x hx with hx | rfl
    · exact h.far x hx
    · intro i hi
      exact (h.ufar _ hru).1 i (by rw [hri] at hi; exact hi)
  · obtain ⟨h1, h2, h3⟩ := h.ufar b hb
    refine ⟨h1, fun x hx e => ?_, h3⟩
    rcases mem x hx with hx | rfl
    · exact h2 x hx e
    · exact ⟨hri, by omega⟩
  · obtain rfl : m = b := Option.some.inj hb
    rcases hp with hp | ⟨hp, _⟩
    · obtain ⟨h1, h2, h3, h4, h5⟩ := h.Mfar m hp
      refine ⟨h1, hlt, fun x hx => ?_, h4, h5⟩
      rcases mem x hx with hx | rfl
      · exact h3 x hx
      · exact fun e => h4 (e ▸ hru)
    · refine ⟨by omega, hlt, fun x hx => ?_, fun e => ?_, fun e => ?_⟩
      · rcases mem x hx with hx | rfl
        · have := (h.kept x hx).lt; omega
        · omega
      · have : r.g = m := Option.some.inj (hru.symm.trans e); omega
      · have := (h.Hfar m e).2.1; omega
  · obtain ⟨h1, h2, h3, h4⟩ := h.Hfar b hb
    refine ⟨h1, Nat.lt_of_lt_of_le h2 hg.size, fun x hx => ?_, h4⟩
    rcases mem x hx with hx | rfl
    · exact h3 x hx
    · exact fun e => h4 (e ▸ hru)

/-- the list of whose they are has grown -/
theorem Inv.keepH (h : Inv own mark ns cs gs N W0 eT w0 w cur u ulen M H L) (hS : Static ns cs gs W0) (hul : ∀ b, u = some b → b < w.heap.size) (hg : w.grownBy w' H) {m : Nat} (hp : H = some m ∨ (m = w.heap.size ∧ w.grownBy w' none)) (hlt : m < w'.heap.size) :
    Inv own mark ns cs gs N W0 eT w0 w' cur u ulen M (some m) L := by
  have hold : ∀ i b, gs i = some b → b < W0 := hS.lt
  have hW := h.size
  have keep : ∀ r', Good own mark ns w r' → H ≠ some r'.g → Good own mark ns w' r' := fun r' h1 h2 => h1.keep hg.size (fun t x _ hx => hg.cell hx (fun e => h2 e.symm))
  refine ⟨fun i b hi => keep _ (h.base i b hi) (fun e => ?_), fun x hx => keep _ (h.kept x hx) (fun e => (h.Hfar _ e).2.2.1 x hx rfl), h.who, h.far, h.ufar, h.ulen_, fun b hb => ?_, fun b hb => ?_, h.but.grown h.size hg (fun b hb => .inl (h.Hfar b hb).1), Nat.le_trans h.size hg.size, fun j b hj hgj => by
      obtain ⟨cu, h1, h2⟩ := h.later j b hj hgj
      exact ⟨cu, (hg.block b (Array.getElem?_eq_some_iff.1 h1).1 (fun e => by have := (h.Hfar b e.symm).1; have := hold j b hgj; omega)).trans h1, h2⟩⟩
  · have := (h.Hfar b e).1; have := hold i b hi; omega
  · obtain ⟨h1, h2, h3, h4, h5⟩ := h.Mfar b hb
    refine ⟨h1, Nat.lt_of_lt_of_le h2 hg.size, h3, h4, fun e => ?_⟩
    obtain rfl : m = b := Option.some.inj e
    rcases hp with hp | ⟨hp, _⟩
    · exact h5 hp
    · omega
  · obtain rfl : m = b := Option.some.inj hb
    rcases hp with hp | ⟨hp, _⟩
    · obtain ⟨h1, h2, h3, h4⟩ := h.Hfar m hp
      exact ⟨h1, hlt, h3, h4⟩
    · refine ⟨by omega, hlt, fun x hx => ?_, fun e => ?_⟩
      · have := (h.kept x hx).lt; omega
      · have := hul m e; omega

/-- on to the next list -/
theorem Inv.next (h : Inv own mark ns cs gs N W0 eT w0 w cur u ulen M H L) (hS : Static ns cs gs W0) : Inv own mark ns cs gs N W0 eT w0 w (cur + 1) (gs (cur + 1)) (ns (cur + 1)) M H L := by
  refine ⟨h.base, h.kept, fun r hr => ⟨by have := (h.who r hr).1; omega, (h.who r hr).2⟩, h.far, fun g hg => ⟨fun i hi e => hS.ne _ _ g hi e hg, fun r hr e => ?_, .inr hg⟩, Nat.le_refl _, fun g hg => ?_, fun g hg => ?_, h.but, h.size, fun j g hj => h.later j g (by omega)⟩
  · have h1 := (h.who r hr).1
    exact absurd (e ▸ hg) (h.far r hr (cur + 1) (by omega))
  · obtain ⟨h1, h2, h3, h4, h5⟩ := h.Mfar g hg
    exact ⟨h1, h2, h3, fun e => by have := hS.lt _ g e; omega, h5⟩
  · obtain ⟨h1, h2, h3, h4⟩ := h.Hfar g hg
    exact ⟨h1, h2, h3, fun e => by have := hS.lt _ g e; omega⟩

/-- at the start -/
theorem Inv.start {i k : Nat} (h : Fill own ns cs gs W0 eT w0 w i k) (hS : Static ns cs gs W0) (hi : ∀ j g, gs j = some g → j < i) : Inv own mark ns cs gs N W0 eT w0 w 0 (gs 0) (ns 0) none none [] := by
  refine ⟨fun j g hj => ⟨by have := hS.lt j g hj; have := h.size; show g < _; omega, fun t ht => ?_⟩, by simp, by simp, by simp, fun g hg => ⟨fun i hi e => hS.ne _ _ g hi e hg, by simp, .inr hg⟩, Nat.le_refl _, by simp, by simp, h.but, h.size, fun j g _ hj => by
      obtain ⟨cur, h1, h2, _⟩ := h.row j g hj
      exact ⟨cur, h1, h2⟩⟩
  obtain ⟨cur, h1, h2, h3⟩ := h.row j g hj
  show w.cell? ⟨g, t, none⟩ = some (want own mark ns j t)
  have ht' : t < ns j := ht
  rw [cell_of_row w g t cur eT (0, 0) h1, h3 t ht' (.inl (hi j g hj))]
  unfold want
  rw [if_pos ht']

/-- the cells of a list's newest form, k elements behind it -/
def form (own mark : Nat → Value) (ns : Nat → Nat) (i k : Nat) : List Value := List.replicate (ns i) (own i) ++ List.replicate k (mark i)
theorem form_length (i k : Nat) : (form own mark ns i k).length = ns i + k := by simp [form]
theorem form_succ (i k : Nat) : form own mark ns i k ++ [mark i] = form own mark ns i (k + 1) := by
  unfold form
  rw [List.append_assoc, ← List.replicate_succ']
theorem form_at (i k t : Nat) (ht : t < ns i + k) : (form own mark ns i k)[t]? = some (want own mark ns i t) := by
  unfold form want
  by_cases h : t < ns i
  · rw [if_pos h, List.getElem?_append_left (by simpa using h), List.getElem?_replicate, if_pos h]
  · rw [if_neg h, List.getElem?_append_right (by simpa using h), List.length_replicate, List.getElem?_replicate, if_pos (by omega)]
theorem good_of_own {eT : TypeId} {base g n c i k : Nat} (h : ownsW w base eT (.slice (some ⟨g, 0, none⟩) n c) n (form own mark ns i k)) : Good own mark ns w ⟨g, n, c, i⟩ := by
  have hl := h.1
  rw [form_length] at hl
  refine ⟨(h.lt g rfl).2, fun t ht => ?_⟩
  have ht' : t < n := ht
  have := h.cells (g := g) rfl t _ (form_at (own := own) (mark := mark) i k t (by omega))
  have hadd : (⟨g, 0, none⟩ : Addr).add t = ⟨g, t, none⟩ := by unfold Addr.add; split <;> simp_all
  rwa [hadd] at this
/-- what a list that was written full owns -/
theorem own_start {eT : TypeId} {i k : Nat} (h : Fill own ns cs gs W0 eT w0 w i k) (hS : Static ns cs gs W0) {j : Nat} (hj : j < i) : ownsW w 0 eT (sv ns cs gs j) (ns j) (form own mark ns j 0) := by
  refine ⟨by rw [form_length]; omega, ?_⟩
  unfold sv
  cases hg : gs j with
  | none =>
    obtain ⟨h1, h2⟩ := hS.nil j hg
    exact .inl ⟨by simp [h1, h2], h1⟩
  | some g =>
    obtain ⟨cur, h1, h2, h3⟩ := h.row j g hg
    have hle := hS.le j
    refine .inr ⟨g, cs j, cur, rfl, Nat.zero_le _, h1, hle.1, hle.2, by omega, ?_⟩
    apply List.ext_getElem?
    intro t
    rw [Nat.mul_one, List.getElem?_take]
    by_cases ht : t < ns j
    · rw [if_pos ht, form_at _ _ _ (by omega)]
      unfold want
      rw [if_pos ht]
      have := h3 t ht (.inl hj)
      simpa using this
    · rw [if_neg ht, List.getElem?_eq_none (by rw [form_length]; omega)]
/-- the same of a later list, when the elder ones have grown -/
theorem own_later {j : Nat} (hj : cur < j) (h : Inv own mark ns cs gs N W0 eT w0 w cur u ulen M H L) (hS : Static ns cs gs W0) : ownsW w 0 eT (sv ns cs gs j) (ns j) (form own mark ns j 0) := by
  refine ⟨by rw [form_length]; omega, ?_⟩
  unfold sv
  cases hg : gs j with
  | none =>
    obtain ⟨h1, h2⟩ := hS.nil j hg
    exact .inl ⟨by simp [h1, h2], h1⟩
  | some g =>
    obtain ⟨cur, h1, h2⟩ := h.later j g hj hg
    have hle := hS.le j
    refine .inr ⟨g, cs j, cur, rfl, Nat.zero_le _, h1, hle.1, hle.2, by omega, ?_⟩
    apply List.ext_getElem?
    intro t
    rw [Nat.mul_one, List.getElem?_take]
    by_cases ht : t < ns j
    · rw [if_pos ht, form_at _ _ _ (by omega)]
      have := (h.base j g hg).cell t ht
      have h4 : w.cell? ⟨g, t, none⟩ = cur[t]? := cell_of_row w g t cur eT (0, 0) h1
      simpa using h4.symm.trans this
    · rw [if_neg ht, List.getElem?_eq_none (by rw [form_length]; omega)]
end
/-- an element of a row of one's own -/
theorem own_get {w : World} {base n : Nat} {e : TypeId} {v : Value} {xs : List Value} (h : ownsW w base e v n xs) (j : Nat) (hj : j < n) : ∃ g cap, v = .slice (some ⟨g, 0, none⟩) n cap ∧ w.cell? ⟨g, j, none⟩ = xs[j]? := by
  obtain ⟨g, cap, rfl, _, _⟩ := h.form (by omega)
  refine ⟨g, cap, rfl, ?_⟩
  have hl : xs.length = n := by have := h.1; omega
  rw [List.getElem?_eq_getElem (by omega)]
  have := h.cells (g := g) rfl j (xs[j]'(by omega)) (by rw [List.getElem?_eq_getElem])
  rwa [add_plain] at this
/-! #### the whole state of the growing -/
theorem ne_of_far {M u : Option Nat} (h : ∀ g, M = some g → u ≠ some g) : M = none ∨ M ≠ u := by
  cases M with
  | none => exact .inl rfl
  | some g => exact .inr (fun e => h g rfl e.symm)
theorem new_cell (w : World) (y : Value) (t : TypeId) (fr : Nat × Nat) : (w.alloc (.cells #[y] t fr)).cell? ⟨w.heap.size, 0, none⟩ = some y := by
  rw [cell_of_row _ _ 0 #[y] t fr (blk_new w _)]; rfl
theorem own_caps {w : World} {base n c : Nat} {e : TypeId} {A : Option Addr} {xs : List Value} (h : ownsW w base e (.slice A n c) n xs) : n ≤ c ∧ c ≤ maxLen := by
  rcases h.2 with ⟨e1, _⟩ | ⟨g, cap, cur, e1, _, _, h1, h2, _⟩
  · cases e1; exact ⟨Nat.le_refl _, by simp [maxLen]⟩
  · cases e1; exact ⟨h1, h2⟩
structure St (own mark : Nat → Value) (ns cs : Nat → Nat) (gs : Nat → Option Nat) (N W0 eT eS eI : Nat) (w0 w : World) (cur k : Nat) (u vm vh : Value) (L Lh : List Rec) : Prop where
  inv : Inv own mark ns cs gs N W0 eT w0 w cur u.ownBlock (ns cur + k) vm.ownBlock vh.ownBlock L
  ou : ownsW w 0 eT u (ns cur + k) (form own mark ns cur k)
  om : ownsW w W0 eS vm L.length (L.map Rec.val)
  oh : ownsW w W0 eI vh Lh.length (Lh.map fun r => .int .i64 (r.i : Int))
section
variable {own mark : Nat → Value} {ns cs : Nat → Nat} {gs : Nat → Option Nat} {N W0 eT eS eI : Nat} {w0 w w' : World} {cur k : Nat} {u vm vh : Value} {L Lh : List Rec}
theorem St.move (h : St own mark ns cs gs N W0 eT eS eI w0 w cur k u vm vh L Lh) (hg : w.grownBy w' none) : St own mark ns cs gs N W0 eT eS eI w0 w' cur k u vm vh L Lh :=
  ⟨h.inv.move hg, h.ou.kept hg (by cases u.ownBlock <;> simp), h.om.kept hg (by cases vm.ownBlock <;> simp), h.oh.kept hg (by cases vh.ownBlock <;> simp)⟩
theorem St.alloc (h : St own mark ns cs gs N W0 eT eS eI w0 w cur k u vm vh L Lh) (o : Obj) : St own mark ns cs gs N W0 eT eS eI w0 (w.alloc o) cur k u vm vh L Lh := h.move (World.grownBy_alloc w o none)
theorem St.drewN (h : St own mark ns cs gs N W0 eT eS eI w0 w cur k u vm vh L Lh) (n : Nat) : St own mark ns cs gs N W0 eT eS eI w0 (w.drewN n) cur k u vm vh L Lh := h.move ⟨rfl, rfl, rfl, Nat.le_refl _, fun _ _ _ => rfl⟩
theorem St.grow (h : St own mark ns cs gs N W0 eT eS eI w0 w cur k u vm vh L Lh) (hS : Static ns cs gs W0) {g cap : Nat}
    (h2 : ownsW w' 0 eT (.slice (some ⟨g, 0, none⟩) (ns cur + k + 1) cap) (ns cur + k + 1) (form own mark ns cur k ++ [mark cur])) (h3 : w.grownBy w' u.ownBlock) (h4 : u.ownBlock = some g ∨ (g = w.heap.size ∧ w.grownBy w' none)) :
    St own mark ns cs gs N W0 eT eS eI w0 w' cur (k + 1) (.slice (some ⟨g, 0, none⟩) (ns cur + k + 1) cap) vm vh L Lh :=
  ⟨h.inv.grow hS h3 h4 (h2.lt g rfl).2 (keep_cells h.ou h2 h3 h4), by rw [← form_succ]; exact h2,
    h.om.kept h3 (ne_of_far fun g hg => (h.inv.Mfar g hg).2.2.2.1), h.oh.kept h3 (ne_of_far fun g hg => (h.inv.Hfar g hg).2.2.2)⟩
theorem St.keepM {g cap : Nat} (h : St own mark ns cs gs N W0 eT eS eI w0 w cur k (.slice (some ⟨g, 0, none⟩) (ns cur + k) cap) vm vh L Lh) (hS : Static ns cs gs W0) (hN : cur < N) {m capm : Nat}
    (h2 : ownsW w' W0 eS (.slice (some ⟨m, 0, none⟩) (L.length + 1) capm) (L.length + 1) (L.map Rec.val ++ [.slice (some ⟨g, 0, none⟩) (ns cur + k) cap])) (h3 : w.grownBy w' vm.ownBlock) (h4 : vm.ownBlock = some m ∨ (m = w.heap.size ∧ w.grownBy w' none)) :
    St own mark ns cs gs N W0 eT eS eI w0 w' cur k (.slice (some ⟨g, 0, none⟩) (ns cur + k) cap) (.slice (some ⟨m, 0, none⟩) (L.length + 1) capm) vh (L ++ [⟨g, ns cur + k, cap, cur⟩]) Lh := by
  have hfu : ∀ b, vm.ownBlock = some b → (some g : Option Nat) ≠ some b := fun b hb => (h.inv.Mfar b hb).2.2.2.1
  refine ⟨h.inv.keepM hS h3 h4 (h2.lt m rfl).2 rfl rfl rfl (own_caps h.ou) hN (good_of_own h.ou), h.ou.kept h3 ?_, ?_, h.oh.kept h3 (ne_of_far fun b hb e => (h.inv.Mfar b e).2.2.2.2 hb)⟩
  · right
    intro e
    exact hfu g e.symm rfl
  · rw [List.length_append, List.map_append]; exact h2
theorem St.keepH {r : Rec} (h : St own mark ns cs gs N W0 eT eS eI w0 w cur k u vm vh L Lh) (hS : Static ns cs gs W0) (hi : r.i = cur) {m capm : Nat}
    (h2 : ownsW w' W0 eI (.slice (some ⟨m, 0, none⟩) (Lh.length + 1) capm) (Lh.length + 1) ((Lh.map fun r => .int .i64 (r.i : Int)) ++ [.int .i64 (cur : Int)])) (h3 : w.grownBy w' vh.ownBlock) (h4 : vh.ownBlock = some m ∨ (m = w.heap.size ∧ w.grownBy w' none)) :
    St own mark ns cs gs N W0 eT eS eI w0 w' cur k u vm (.slice (some ⟨m, 0, none⟩) (Lh.length + 1) capm) L (Lh ++ [r]) := by
  refine ⟨h.inv.keepH hS (fun b hb => (h.ou.lt b hb).2) h3 h4 (h2.lt m rfl).2, h.ou.kept h3 (ne_of_far fun b hb e => (h.inv.Hfar b e).2.2.2 hb), h.om.kept h3 (ne_of_far fun b hb e => (h.inv.Mfar b hb).2.2.2.2 e), ?_⟩
  rw [List.length_append, List.map_append, List.map_cons, List.map_nil, hi]; exact h2
/-- on to the next list -/
theorem St.next (h : St own mark ns cs gs N W0 eT eS eI w0 w cur k u vm vh L Lh) (hS : Static ns cs gs W0) : St own mark ns cs gs N W0 eT eS eI w0 w (cur + 1) 0 (sv ns cs gs (cur + 1)) vm vh L Lh :=
  ⟨by rw [sv_block]; exact h.inv.next hS, own_later (Nat.lt_succ_self _) h.inv hS, h.om, h.oh⟩
theorem St.start {i : Nat} (h : Fill own ns cs gs W0 eT w0 w i 0) (hS : Static ns cs gs W0) (hi : ∀ j g, gs j = some g → j < i) (h0 : 0 < i) : St own mark ns cs gs N W0 eT eS eI w0 w 0 0 (sv ns cs gs 0) (.slice none 0 0) (.slice none 0 0) [] [] :=
  ⟨by rw [sv_block]; exact Inv.start h hS hi, own_start h hS h0, ownW_nil _ _ _, ownW_nil _ _ _⟩
/-- what is read of the kept ones -/
theorem St.read (h : St own mark ns cs gs N W0 eT eS eI w0 w cur k u vm vh L L) (j : Nat) (hj : j < L.length) : ∃ (m cm hh ch g len c i : Nat), vm = .slice (some ⟨m, 0, none⟩) L.length cm ∧ vh = .slice (some ⟨hh, 0, none⟩) L.length ch ∧
    w.cell? ⟨m, j, none⟩ = some (.slice (some ⟨g, 0, none⟩) len c) ∧ w.cell? ⟨hh, j, none⟩ = some (.int .i64 (i : Int)) ∧ i < N ∧ ns i ≤ len ∧ len ≤ 9223372036854775807 ∧ (∀ t, t < len → w.cell? ⟨g, t, none⟩ = some (want own mark ns i t)) := by
  obtain ⟨m, cm, e1, h1⟩ := own_get h.om j hj
  obtain ⟨hh, ch, e2, h2⟩ := own_get h.oh j hj
  have hmem : L[j] ∈ L := List.getElem_mem hj
  have hw := h.inv.who _ hmem
  refine ⟨m, cm, hh, ch, L[j].g, L[j].len, L[j].c, L[j].i, e1, e2, ?_, ?_, hw.2.1, hw.2.2.1, by have := hw.2.2.2; simp only [maxLen] at this; omega, (h.inv.kept _ hmem).cell⟩
  · rw [h1]; simp [hj, Rec.val]
  · rw [h2]; simp [hj]
end
def gsOf (vs : List Value) (i : Nat) : Option Nat := (vs.getD i (.slice none 0 0)).ownBlock
def nsOf (vs : List Value) (i : Nat) : Nat := match vs.getD i (.slice none 0 0) with | .slice _ n _ => n | _ => 0
def csOf (vs : List Value) (i : Nat) : Nat := match vs.getD i (.slice none 0 0) with | .slice _ _ c => c | _ => 0
/-- the lists' own rows, unlike one another: all that the rest asks of them -/
theorem start {eT : TypeId} {w : World} {vs : List Value} (hown : ∀ i (h : i < vs.length), ∃ n xs, ownsW w 0 eT vs[i] n xs)
    (hne : ∀ i j g, i < j → j < vs.length → gsOf vs i = some g → gsOf vs j ≠ some g) :
    Static (nsOf vs) (csOf vs) (gsOf vs) w.heap.size ∧ (∀ own, Fill own (nsOf vs) (csOf vs) (gsOf vs) w.heap.size eT w w 0 0) ∧ (∀ i (h : i < vs.length), vs[i] = sv (nsOf vs) (csOf vs) (gsOf vs) i) ∧ ∀ j g, gsOf vs j = some g → j < vs.length := by
  have hlen : ∀ j g, gsOf vs j = some g → j < vs.length := by
    intro j g h
    by_cases hj : j < vs.length
    · exact hj
    · unfold gsOf at h
      rw [List.getD_eq_getElem?_getD, List.getElem?_eq_none (by omega)] at h
      cases h
  have hform : ∀ i, (vs.getD i (.slice none 0 0) = .slice none 0 0) ∨ ∃ g n c cur, vs.getD i (.slice none 0 0) = .slice (some ⟨g, 0, none⟩) n c ∧ w.heap[g]? = some (.cells cur eT (0, 0)) ∧ n ≤ c ∧ c ≤ maxLen ∧ c ≤ cur.size := by
    intro i
    by_cases hi : i < vs.length
    · rw [List.getD_eq_getElem?_getD, List.getElem?_eq_getElem hi, Option.getD_some]
      obtain ⟨n, xs, _, h⟩ := hown i hi
      rcases h with ⟨h, _⟩ | ⟨g, c, cur, h1, _, h2, h3, h4, h5, _⟩
      · exact .inl h
      · exact .inr ⟨g, n, c, cur, h1, h2, h3, h4, by omega⟩
    · rw [List.getD_eq_getElem?_getD, List.getElem?_eq_none (by omega)]
      exact .inl rfl
  refine ⟨⟨fun i g h => ?_, fun i j g hij h1 h2 => ?_, fun i => ?_, fun i h => ?_⟩, fun own => ⟨fun i g h => ?_, ButFor.refl _ _ _, Nat.le_refl _⟩, fun i hi => ?_, hlen⟩
  · unfold gsOf at h
    rcases hform i with e | ⟨g', n, c, cur, e, h1, _⟩
    · rw [e] at h; cases h
    · rw [e] at h
      obtain rfl : g' = g := Option.some.inj h
      exact blk_lt h1
  · rcases Nat.lt_or_gt_of_ne hij with hl | hl
    · exact hne i j g hl (hlen j g h2) h1 h2
    · exact hne j i g hl (hlen i g h1) h2 h1
  · unfold nsOf csOf
    rcases hform i with e | ⟨g', n, c, cur, e, _, h2, h3, _⟩
    · rw [e]; exact ⟨Nat.le_refl _, by simp [maxLen]⟩
    · rw [e]; exact ⟨h2, h3⟩
  · unfold gsOf at h
    unfold nsOf csOf
    rcases hform i with e | ⟨g', n, c, cur, e, _⟩
    · rw [e]; exact ⟨rfl, rfl⟩
    · rw [e] at h; cases h
  · unfold gsOf at h
    unfold csOf
    rcases hform i with e | ⟨g', n, c, cur, e, h1, _, _, h2⟩
    · rw [e] at h; cases h
    · rw [e] at h
      obtain rfl : g' = g := Option.some.inj h
      rw [e]
      exact ⟨cur, h1, h2, fun t _ hh => by omega⟩
  · have e0 : vs[i] = vs.getD i (.slice none 0 0) := by rw [List.getD_eq_getElem?_getD, List.getElem?_eq_getElem hi, Option.getD_some]
    rw [e0]
    unfold sv gsOf nsOf csOf
    rcases hform i with e | ⟨g', n, c, cur, e, _⟩
    · rw [e]; rfl
    · rw [e]; rfl
/-- the list of the lists -/
theorem ButFor.list {gs : Nat → Option Nat} {W0 G : Nat} {w w' : World} (h : ButFor gs W0 w w') {e : TypeId} {vs : List Value} {fr : Nat × Nat} (hb : w.heap[G]? = some (.cells vs.toArray e fr)) (hG : G < W0) (hn : ∀ i, gs i ≠ some G) (i : Nat) (hi : i < vs.length) : w'.cell? ⟨G, i, none⟩ = some vs[i] := by
  rw [cell_of_row w' G i vs.toArray e fr ((h.block G hG hn).trans hb)]
  simp [hi]
/-- what is handed in where lists came in: their list in block G, each a row of one's own, no two in one block -/
structure Pre (eT eS M : Nat) (w : World) (G : Nat) (vs : List Value) : Prop where
  list : w.heap[G]? = some (.cells vs.toArray eS (0, 0))
  own : ∀ i (h : i < vs.length), ∃ n xs, ownsW w 0 eT vs[i] n xs ∧ n ≤ M
  ne : ∀ i j g, i < j → j < vs.length → gsOf vs i = some g → gsOf vs j ≠ some g
  far : ∀ i, gsOf vs i ≠ some G
  pos : 0 < vs.length
  few : vs.length ≤ 64
theorem ownsRow_n {w : World} {base e n : Nat} {xs : List Value} {A : Option Addr} {m c : Nat} (h : ownsW w base e (.slice A m c) n xs) : m = n := by
  rcases h.2 with ⟨h, h2⟩ | ⟨g, c, cur, h1, _⟩
  · cases h; exact h2.symm
  · cases h1; rfl
theorem Pre.facts {eT eS M : Nat} {w : World} {G : Nat} {vs : List Value} (h : Pre eT eS M w G vs) :
    Static (nsOf vs) (csOf vs) (gsOf vs) w.heap.size ∧ (∀ own, Fill own (nsOf vs) (csOf vs) (gsOf vs) w.heap.size eT w w 0 0) ∧ (∀ j g, gsOf vs j = some g → j < vs.length) ∧ (∀ i, nsOf vs i ≤ M) ∧
      (∀ i, 0 < nsOf vs i → ∃ g, gsOf vs i = some g) ∧ ∀ w', ButFor (gsOf vs) w.heap.size w w' → ∀ i, i < vs.length → w'.cell? ⟨G, i, none⟩ = some (.slice ((gsOf vs i).map fun g => ⟨g, 0, none⟩) (nsOf vs i) (csOf vs i)) := by
  obtain ⟨hS, hF, hv, hj⟩ := start (vs := vs) (w := w) (eT := eT) (fun i hi => by
    obtain ⟨n, xs, ho, _⟩ := h.own i hi
    exact ⟨n, xs, ho⟩) h.ne
  refine ⟨hS, hF, hj, fun i => ?_, fun i hp => ?_, fun w' hw i hi => ?_⟩
  · by_cases hi : i < vs.length
    · obtain ⟨n, xs, ho, hn⟩ := h.own i hi
      rw [hv i hi] at ho
      exact (ownsRow_n ho).symm ▸ hn
    · unfold nsOf
      rw [List.getD_eq_getElem?_getD, List.getElem?_eq_none (by omega)]
      exact Nat.zero_le _
  · cases hg : gsOf vs i with
    | none => have := (hS.nil i hg).1; omega
    | some g => exact ⟨g, rfl⟩
  · have hG := hw.list h.list (blk_lt h.list) h.far i hi
    rw [hG, hv i hi]
    rfl
end Go.Proofs.YtlpllhpnnhablaaGreat.XApartW
