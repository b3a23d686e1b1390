/- What a reading of an argument gives of a kind of the print: whole numbers, bools, strings, slices of whatever is opened, structs field by field. -/
import Derived.Test.YtlpllhpnnhablaaGreatRows
import Derived.Test.YtlpllhpnnhablaaGreatXBulk
import Derived.Test.YtlpllhpnnhablaaGreatSDictTextsOwnWMore
import Derived.ProofKit
import Derived.SizedLaws
import Derived.WideShapes
namespace Go.Proofs.YtlpllhpnnhablaaGreat.XOpen
open Go.RowKit Go.WideShapes Go.Proofs.YtlpllhpnnhablaaGreatW.PrintWords
/-- at this depth each reading of type t is one of kind d: some a that is well formed, of a measure that the reading's bulk bounds -/
def At {α : Type} (P : Program) (d : Kd α) (t : TypeId) (wf : α → Prop) (m : α → Nat) (fuel : Nat) : Prop :=
  ∀ {H : Type} (enc : TypeId × Value → H) (w : World) (cs : List Value) (x : DataW H × List MemPlace),
    DataW.trod enc P w 0 (fun _ => true) true fuel t cs = some x → ∃ a, d.K w a cs ∧ wf a ∧ m a ≤ Rows.uptoBulk x.1
theorem int_at {P : Program} {t : TypeId} {k : IntKind} (ht : P.underlying t = some (.int k)) (fuel : Nat) : At P (Kd.int k) t (fun n => (Lit.int k n).wf = true) (fun _ => 1) fuel := by
  intro H enc w cs x h
  obtain ⟨n, rfl, rfl, hw⟩ := DataW.trod_int ht h
  exact ⟨n, rfl, hw, by simp [Rows.uptoBulk]⟩
theorem bool_at {P : Program} {t : TypeId} (ht : P.underlying t = some .bool) (fuel : Nat) : At P Kd.bool t (fun _ => True) (fun _ => 1) fuel := by
  intro H enc w cs x h
  obtain ⟨n, rfl, rfl⟩ := DataW.trod_bool ht h
  exact ⟨n, rfl, trivial, by simp [Rows.uptoBulk]⟩
theorem string_at {P : Program} {t : TypeId} (ht : P.underlying t = some .string) (fuel : Nat) : At P Kd.string t (fun s => s.size ≤ maxLen) (fun s => s.size + 1) fuel := by
  intro H enc w cs x h
  obtain ⟨s, rfl, rfl, hw⟩ := DataW.trod_string ht h
  refine ⟨s, rfl, hw, ?_⟩
  have h3 := bulks.string_eq (H := H) s.data.toList
  rw [Array.length_toList] at h3
  have h4 : s.data.size = s.size := rfl
  show s.size + 1 ≤ Rows.uptoBulk (DataW.lit (H := H) (Lit.string s.data.toList))
  omega
/-- a list from place o on: a piece of it, and the rest -/
theorem seg (cs : List Value) (o s : Nat) : cs.drop o = (cs.drop o).take s ++ cs.drop (o + s) := by
  rw [← List.drop_drop, List.take_append_drop]
theorem seg0 (cs : List Value) : cs = cs.drop 0 := rfl
theorem each {α : Type} {Q : Nat → α → Prop} (n : Nat) (h : ∀ i, i < n → ∃ a, Q i a) : ∃ l : List α, l.length = n ∧ ∀ i a, l[i]? = some a → Q i a := by
  induction n with
  | zero => exact ⟨[], rfl, fun i a h => by simp at h⟩
  | succ n ih =>
    obtain ⟨l, hl, hq⟩ := ih (fun i hi => h i (by omega))
    obtain ⟨a, ha⟩ := h n (by omega)
    refine ⟨l ++ [a], by simp [hl], fun i b hb => ?_⟩
    rcases Nat.lt_or_ge i l.length with g | g
    · rw [List.getElem?_append_left g] at hb; exact hq i b hb
    · rw [List.getElem?_append_right g] at hb
      have hi : i = l.length := by
        have := (List.getElem?_eq_some_iff.1 hb).1
        simp at this; omega
      subst hi
      simp at hb
      subst hb
      rw [hl]; exact ha
theorem sum_le {α H : Type} (m : α → Nat) : ∀ (l : List α) (ds : List (DataW H)), l.length = ds.length → (∀ (i : Nat) a d, l[i]? = some a → ds[i]? = some d → m a ≤ Rows.uptoBulk d) → (l.map m).sum ≤ Rows.uptoBulkAll ds
  | [], [], _, _ => by simp [Rows.uptoBulkAll]
  | a :: l, d :: ds, h, hm => by
    have h0 := hm 0 a d rfl rfl
    have h1 := sum_le m l ds (by simpa using h) (fun i b c hb hc => hm (i + 1) b c (by simpa using hb) (by simpa using hc))
    simp only [List.map_cons, List.sum_cons, Rows.uptoBulkAll]
    omega
theorem slice_at {α : Type} {P : Program} {d : Kd α} {t e : TypeId} {wf : α → Prop} {m : α → Nat} {fuel : Nat} (ht : P.underlying t = some (.slice e)) (hc : P.cellsOf e = d.sz) (he : ∀ n, n < fuel → At P d e wf m n) :
    At P (Kd.slice e d) t (fun l => l.length ≤ maxLen ∧ ∀ x ∈ l, wf x) (fun l => (l.map m).sum + 1) fuel := by
  intro H enc w cs x h
  rcases DataW.trod_slice ht h with ⟨rfl, rfl⟩ | ⟨a, len, cap, elems, rest, n, rfl, rfl, rfl, _, hl, hm, hlen, hel, _, _⟩
  · exact ⟨[], ⟨none, 0, rfl, Nat.le_refl _, Kd.C_nil _ _⟩, ⟨Nat.zero_le _, fun x h => by simp at h⟩, by simp [Rows.uptoBulk]⟩
  · have hp : ∀ i, i < len → ∃ b, ∃ c, d.K w b c ∧ wf b ∧ (∀ y, elems[i]? = some y → m b ≤ Rows.uptoBulk y.1) ∧ ∀ j u, c[j]? = some u → w.cell? (a.add (i * d.sz + j)) = some u := by
      intro i hi
      have h1 := hel i hi
      rw [List.getElem?_eq_getElem (by omega)] at h1
      obtain ⟨c, hcs, htr⟩ := Option.bind_eq_some_iff.1 h1
      obtain ⟨b, hK, hw, hmb⟩ := he n (by omega) enc w c _ htr
      obtain ⟨_, hcl, hcell⟩ := World.cells?_some hcs
      refine ⟨b, c, hK, hw, fun y hy => ?_, fun j u hu => ?_⟩
      · rw [List.getElem?_eq_getElem (by omega)] at hy
        injection hy with hy
        rw [← hy]; exact hmb
      · have hj := (List.getElem?_eq_some_iff.1 hu).1
        have := hcell j (by omega)
        rw [Addr.add_add, hc] at this
        rw [this]; exact hu
    obtain ⟨l, hll, hq⟩ := each len hp
    refine ⟨l, ⟨some a, cap, by rw [hll], by omega, ?_⟩, ⟨by omega, fun x hx => ?_⟩, ?_⟩
    · refine ⟨rfl, by unfold maxLen at hm; omega, fun _ => ⟨a, rfl, fun j p hj => ?_⟩⟩
      obtain ⟨c, hK, _, _, hcell⟩ := hq j p hj
      exact ⟨c, d.K_len hK, hK, hcell⟩
    · obtain ⟨i, hi⟩ := List.mem_iff_getElem?.1 hx
      obtain ⟨c, _, hw, _, _⟩ := hq i x hi
      exact hw
    · have hs := sum_le (H := H) m l (elems.map (·.1)) (by simp; omega) (fun i b y hb hy => by
        obtain ⟨c, _, _, hmb, _⟩ := hq i b hb
        rw [List.getElem?_map] at hy
        obtain ⟨z, hz, rfl⟩ := Option.map_eq_some_iff.1 hy
        exact hmb z hz)
      simp only [Rows.uptoBulk]
      omega
/-- a slice that comes in is no longer than its weight allows -/
theorem sized_len {H : Type} {enc : TypeId × Value → H} {P : Program} {W : World} {t e : TypeId} {fuel : Nat} {cs : List Value} {a : Option Addr} {len cap : Nat} {x : DataW H × List MemPlace} {ts : List TypeId} {ds : List (DataW H)} {j : Nat}
    (hsz : (DataW.weightsEach P ts ds).all (· ≤ reachBytes) = true) (ht : ts[j]? = some t) (hd : ds[j]? = some x.1) (hu : P.underlying t = some (.slice e)) {B : Nat} (hB : P.bytesOf e = B)
    (h : DataW.trod enc P W 0 (fun _ => true) true fuel t cs = some x) (hcs : cs = [.slice a len cap]) : len * B ≤ 140737488351232 := by
  rcases DataW.trod_slice hu h with ⟨h1, h2⟩ | ⟨a', len', cap', elems, rest, n, _, h2, h3, _, _, _, hl, _⟩
  · rw [hcs] at h1
    simp only [List.cons.injEq, Value.slice.injEq, and_true] at h1
    rw [h1.2.1, Nat.zero_mul]
    exact Nat.zero_le _
  · rw [hcs] at h2
    simp only [List.cons.injEq, Value.slice.injEq, and_true] at h2
    rw [h3] at hd
    have z := sized_slice hsz ht hd hu
    rw [hB, List.length_map, List.length_map, hl, ← h2.2.1] at z
    exact Nat.le_trans (Nat.mul_le_mul_right _ (Nat.le_add_right _ _)) z
end Go.Proofs.YtlpllhpnnhablaaGreat.XOpen
