-- Written by xprint.py, this session's own program over the kit's print; Lean checks it.
import Derived.Test.YtkepimkabfoapaaPCheckKeptx0
import Derived.Test.YtkepimkabfoapaaPCheckKeptx1
namespace Go.Proofs.Ytkepimkabfoapaa.PCheckKept
open Go.RowKit Go.Proofs.YtkepimkabfoapaaW.PrintWords Go.Proofs.YtkepimkabfoapaaW.PrintLast Go.Proofs.YtkepimkabfoapaaW.PrintMore
attribute [local go_sem] max2_int min2_int max_two min_two max_three min_three max_four min_four   -- for this text's walks alone
set_option linter.unusedVariables false
set_option linter.unusedSimpArgs false

/-! ### colonnadelaw06_apart: function 30 -/
def colonnadelaw06_apart.own (i : Nat) : Value := .int .i64 (1000 + (i : Int))
def colonnadelaw06_apart.mark (i : Nat) : Value := .int .i64 (2000 + (i : Int))
theorem colonnadelaw06_apart.info3 : (Try.prog.info? 3).map (fun i => (i.zero, i.size, i.bytes)) = some (some (.int .i64 0), 1, 8) := by kernel_rfl
theorem colonnadelaw06_apart.info32 : (Try.prog.info? 32).map (fun i => (i.zero, i.size, i.bytes)) = some (some (.slice none 0 0), 1, 24) := by kernel_rfl
def colonnadelaw06_apart.f (a0 : Int) : Option Bool :=
  match check_Places.f 70 a0 64 5, check_Places.f 70 (IntKind.u64.wrap (a0 + 1)) 64 5 with
  | some (l, e), some (m, e') => if l.length = 5 ∧ m.length = 5 ∧ e = 0 ∧ e' = 0 then some true else none
  | _, _ => none
theorem colonnadelaw06_apart.open_ {a0 : Int} {r : Bool} (h : colonnadelaw06_apart.f a0 = some r) : ∃ l m, check_Places.f 70 a0 64 5 = some (l, 0) ∧ check_Places.f 70 (IntKind.u64.wrap (a0 + 1)) 64 5 = some (m, 0) ∧ l.length = 5 ∧ m.length = 5 ∧ r = true := by
  unfold colonnadelaw06_apart.f at h
  split at h
  · rename_i l e m e' h1 h2
    by_cases hc : l.length = 5 ∧ m.length = 5 ∧ e = 0 ∧ e' = 0
    · rw [if_pos hc] at h
      obtain ⟨c1, c2, rfl, rfl⟩ := hc
      exact ⟨l, m, h1, h2, c1, c2, (Option.some.inj h).symm⟩
    · rw [if_neg hc] at h; cases h
  · cases h
/-- one call of Places: a row of five of one's own -/
theorem colonnadelaw06_apart.places (a0 : Int) (l : List Int) (w : World) (h : check_Places.f 70 a0 64 5 = some (l, 0)) (hl : l.length = 5) :
    Calls Try.prog 24 #[.int .u64 a0, .int .i64 64, .int .i64 5] w fun e w' => ∃ g c : Nat, e = .returned (.tuple #[.slice (some ⟨g, 0, none⟩) 5 c, .int .i64 0]) ∧ w.heap.size ≤ g ∧ g < w'.heap.size ∧ w'.ownsRow 0 3 1 (.slice (some ⟨g, 0, none⟩) 5 c) 5 (nums .i64 l) ∧ Below w.heap.size w w' := by
  refine (check_Places.calls 70 a0 64 5 l 0 w h).mono ?_
  rintro e w' ⟨v, rfl, hR, hb⟩
  obtain ⟨g, c, rfl, hbg, hlg, _, _⟩ := Kd.R_form hR (by omega)
  have ho := own_less (Kd.own_of_R hR) (Nat.zero_le _)
  rw [hl] at ho ⊢
  exact ⟨g, c, rfl, hbg, hlg, ho, hb⟩
/-- the four lists, laid side by side -/
theorem colonnadelaw06_apart.setup (w0 w4 : World) (ga gb gc gd ca cb cc cd : Nat) (xa xb xc xd : List Value) (h1 : ga < gb) (h2 : gb < gc) (h3 : gc < gd)
    (oa : w4.ownsRow 0 3 1 (.slice (some ⟨ga, 0, none⟩) 5 ca) 5 xa) (ob : w4.ownsRow 0 3 1 (.slice (some ⟨gb, 0, none⟩) 5 cb) 5 xb)
    (oc : w4.ownsRow 0 3 1 (.slice (some ⟨gc, 0, none⟩) 5 cc) 5 xc) (od : w4.ownsRow 0 3 1 (.slice (some ⟨gd, 0, none⟩) 5 cd) 5 xd) (hb : w0.heap.size ≤ ga) (W5 : World)
    (h5 : W5 = w4.alloc (.cells #[.slice (some ⟨ga, 0, none⟩) 5 ca, .slice (some ⟨gb, 0, none⟩) 5 cb, .slice (some ⟨gc, 0, none⟩) 5 cc, .slice (some ⟨gd, 0, none⟩) 5 cd] 32 (0, 0))) :
    ∃ (ns cs : Nat → Nat) (gs : Nat → Option Nat), XApart.Static ns cs gs W5.heap.size ∧ (∀ own, XApart.Fill own ns cs gs W5.heap.size 3 W5 W5 0 0) ∧ (∀ i, i < 4 → ns i = 5 ∧ ∃ g, gs i = some g) ∧ (∀ j g, gs j = some g → j < 4 ∧ w0.heap.size ≤ g) ∧
      ∀ w', XApart.ButFor gs W5.heap.size W5 w' → ∀ i g, i < 4 → gs i = some g → w'.cell? ⟨w4.heap.size, i, none⟩ = some (.slice (some ⟨g, 0, none⟩) 5 (cs i)) := by
  subst h5
  have hal : ∀ {v : Value} {n : Nat} {xs : List Value}, w4.ownsRow 0 3 1 v n xs → ∀ o, (w4.alloc o).ownsRow 0 3 1 v n xs := fun h o => own_alloc h o
  have hlt : ga < w4.heap.size ∧ gb < w4.heap.size ∧ gc < w4.heap.size ∧ gd < w4.heap.size := ⟨own_lt oa ga rfl, own_lt ob gb rfl, own_lt oc gc rfl, own_lt od gd rfl⟩
  obtain ⟨hS, hF, hv, hj⟩ := XApart.start (eT := 3) (vs := [.slice (some ⟨ga, 0, none⟩) 5 ca, .slice (some ⟨gb, 0, none⟩) 5 cb, .slice (some ⟨gc, 0, none⟩) 5 cc, .slice (some ⟨gd, 0, none⟩) 5 cd])
    (w := w4.alloc (.cells #[.slice (some ⟨ga, 0, none⟩) 5 ca, .slice (some ⟨gb, 0, none⟩) 5 cb, .slice (some ⟨gc, 0, none⟩) 5 cc, .slice (some ⟨gd, 0, none⟩) 5 cd] 32 (0, 0)))
    (fun i hi => by
      match i, hi with
      | 0, _ => exact ⟨_, _, hal oa _⟩
      | 1, _ => exact ⟨_, _, hal ob _⟩
      | 2, _ => exact ⟨_, _, hal oc _⟩
      | 3, _ => exact ⟨_, _, hal od _⟩)
    (fun i j g hij hj e1 e2 => by
      match j, i, hij, hj with
      | 1, 0, _, _ | 2, 0, _, _ | 3, 0, _, _ | 2, 1, _, _ | 3, 1, _, _ | 3, 2, _, _ =>
        simp [XApart.gsOf, Value.ownBlock] at e1 e2
        omega)
  refine ⟨_, _, _, hS, hF, fun i hi => ?_, fun j g hg => ⟨by simpa using hj j g hg, ?_⟩, fun w' hw i g hi hg => ?_⟩
  · match i, hi with
    | 0, _ | 1, _ | 2, _ | 3, _ => exact ⟨rfl, _, rfl⟩
  · match j, (by simpa using hj j g hg : j < 4), hg with
    | 0, _, hg | 1, _, hg | 2, _, hg | 3, _, hg =>
      simp [XApart.gsOf, Value.ownBlock] at hg
      omega
  · have hG := XApart.ButFor.list hw (vs := [.slice (some ⟨ga, 0, none⟩) 5 ca, .slice (some ⟨gb, 0, none⟩) 5 cb, .slice (some ⟨gc, 0, none⟩) 5 cc, .slice (some ⟨gd, 0, none⟩) 5 cd]) (G := w4.heap.size) (blk_new w4 _) (by simp) (fun k e => by
      match k, (by simpa using hj k _ e : k < 4), e with
      | 0, _, e | 1, _, e | 2, _, e | 3, _, e =>
        simp [XApart.gsOf, Value.ownBlock] at e
        omega) i (by simpa using hi)
    rw [hG, hv i (by simpa using hi)]
    unfold XApart.sv
    rw [hg]
    match i, hi with
    | 0, _ | 1, _ | 2, _ | 3, _ => rfl
theorem colonnadelaw06_apart.reads {w4 : World} {ga gb gd ca cb cd : Nat} {l : List Int} (oa : w4.ownsRow 0 3 1 (.slice (some ⟨ga, 0, none⟩) 5 ca) 5 (nums .i64 l)) (ob : w4.ownsRow 0 3 1 (.slice (some ⟨gb, 0, none⟩) 5 cb) 5 (nums .i64 l))
    (od : w4.ownsRow 0 3 1 (.slice (some ⟨gd, 0, none⟩) 5 cd) 5 (nums .i64 l)) (hl : l.length = 5) (w5 : World) {o : Obj} (h5 : w5 = w4.alloc o) :
    w5.cell? ⟨ga, 0, none⟩ = some (.int .i64 (rd l 0)) ∧ w5.cell? ⟨gb, 0, none⟩ = some (.int .i64 (rd l 0)) ∧ w5.cell? ⟨ga, 4, none⟩ = some (.int .i64 (rd l 4)) ∧ w5.cell? ⟨gd, 4, none⟩ = some (.int .i64 (rd l 4)) := by
  subst h5
  have key : ∀ {g c : Nat}, w4.ownsRow 0 3 1 (.slice (some ⟨g, 0, none⟩) 5 c) 5 (nums .i64 l) → ∀ j : Nat, j < 5 → (w4.alloc o).cell? ⟨g, j, none⟩ = some (.int .i64 (rd l j)) := by
    intro g c h j hj
    have h2 := (own_alloc h o).cells (g := g) rfl j (.int .i64 (rd l j)) (by unfold nums rd; simp [List.getD_eq_getElem?_getD, hl, hj])
    rwa [add_plain] at h2
  exact ⟨key oa 0 (by omega), key ob 0 (by omega), key oa 4 (by omega), key od 4 (by omega)⟩
set_option maxHeartbeats 4000000 in
set_option maxRecDepth 100000 in
theorem colonnadelaw06_apart.calls (a0 : Int) (r : Bool) (w : World) (h : colonnadelaw06_apart.f a0 = some r) :
    Calls Try.prog 30 #[.int .u64 a0] w fun e w' => e = .returned (.bool r) ∧ Below w.heap.size w w' := by
  obtain ⟨l, m, hl, hm, hll, hml, rfl⟩ := colonnadelaw06_apart.open_ h
  clear h
  have HL := Aside0.mk hl
  have HM := Aside0.mk hm
  have HLL := Aside0.mk hll
  have HML := Aside0.mk hml
  clear hl hm hll hml
  go_enter Try.func30, Try.ntmps30
  go_wp2_with fail
  refine (colonnadelaw06_apart.places a0 l _ HL.out HLL.out).mono ?_
  rintro e w1 ⟨ga, ca, rfl, ha1, ha2, hoa, hb1⟩
  have HB1 := Aside0.mk hb1
  have OA := Aside0.mk hoa
  clear hb1 hoa
  go_wp2_with fail
  refine (colonnadelaw06_apart.places a0 l _ HL.out HLL.out).mono ?_
  rintro e w2 ⟨gb, cb, rfl, hb1, hb2, hob, hbb⟩
  have HB2 := Aside0.mk (below_then HB1.out HB1.out.size hbb)
  have OA2 := Aside0.mk (pw_own_below OA.out hbb)
  have OB := Aside0.mk hob
  clear hbb hob HB1 OA
  go_wp2_with fail
  refine (colonnadelaw06_apart.places (IntKind.u64.wrap (a0 + 1)) m _ HM.out HML.out).mono ?_
  rintro e w3 ⟨gc, cc, rfl, hc1, hc2, hoc, hbc⟩
  have HB3 := Aside0.mk (below_then HB2.out HB2.out.size hbc)
  have OA3 := Aside0.mk (pw_own_below OA2.out hbc)
  have OB3 := Aside0.mk (pw_own_below OB.out hbc)
  have OC := Aside0.mk hoc
  clear hbc hoc HB2 OA2 OB
  go_wp2_with fail
  refine (colonnadelaw06_apart.places a0 l _ HL.out HLL.out).mono ?_
  rintro e w4 ⟨gd, cd, rfl, hd1, hd2, hod, hbd⟩
  have HB4 := Aside0.mk (below_then HB3.out HB3.out.size hbd)
  have OA4 := Aside0.mk (pw_own_below OA3.out hbd)
  have OB4 := Aside0.mk (pw_own_below OB3.out hbd)
  have OC4 := Aside0.mk (pw_own_below OC.out hbd)
  have OD4 := Aside0.mk hod
  clear hbd hod HB3 OA3 OB3 OC
  go_wp2_with fail
  have h5 : ∃ W5, W5 = w4.alloc (Obj.cells #[Value.slice (some ⟨ga, 0, none⟩) 5 ca, Value.slice (some ⟨gb, 0, none⟩) 5 cb, Value.slice (some ⟨gc, 0, none⟩) 5 cc, Value.slice (some ⟨gd, 0, none⟩) 5 cd] 32) := ⟨_, rfl⟩
  obtain ⟨w5, h5⟩ := h5
  obtain ⟨ns, cs, gs, hS, hF, hn, hj, hcell⟩ := colonnadelaw06_apart.setup w w4 ga gb gc gd ca cb cc cd _ _ _ _ (by omega) (by omega) (by omega) OA4.out OB4.out OC4.out OD4.out ha1 w5 h5
  rw [← h5]
  have HS := Aside0.mk hS
  have HF := Aside0.mk hF
  have HN := Aside0.mk hn
  have HJ := Aside0.mk hj
  have HC := Aside0.mk hcell
  have H5 := Aside0.mk h5
  clear hS hF hn hj hcell h5
  go_loop [12] (fun v => ∃ i : Nat, i ≤ 4 ∧ v = .int .i64 (i : Int)) (fun v => 4 - (intOf v).toNat)
  case atStart => exact ⟨0, by omega, rfl⟩
  case round =>
    obtain ⟨i, hi, rfl⟩ := hrel
    by_cases hlt : i < 4
    · obtain ⟨g, hg⟩ := (HN.out i hlt).2
      have hx := HC.out w5 (XApart.ButFor.refl _ _ _) i g hlt hg
      have HG := Aside0.mk hg
      clear hg
      have hd : decide ((i : Int) < 4) = true := decide_eq_true (by omega)
      go_wp2_with fail
      go_round
      case rel => exact ⟨i + 1, by omega, by go_num⟩
      case measure => simp [intOf]; omega
    · obtain rfl : i = 4 := by omega
      have hd : decide (((4 : Nat) : Int) < 4) = false := by decide
      have hreads := colonnadelaw06_apart.reads OA4.out OB4.out OD4.out HLL.out w5 H5.out
      generalize rd l 0 = x0 at hreads
      generalize rd l 4 = x4 at hreads
      obtain ⟨r1, r2, r3, r4⟩ := hreads
      have hn0 : (x0 != x0) = false := bne_self_eq_false x0
      have hn4 : (x4 != x4) = false := bne_self_eq_false x4
      go_wp2_with fail
      go_quiet (fail)
      clear r1 r2 r3 r4 hn0 hn4 hd hlt hi
      have HF6 := Aside0.mk ((HF.out colonnadelaw06_apart.own).move HS.out (w' := w5.drewN nq) ⟨rfl, rfl, rfl, Nat.le_refl _, fun _ _ _ => rfl⟩)
      generalize w5.drewN nq = w6 at HF6 ⊢
      clear HF OA4 OB4 OC4 OD4
      go_wp2_with fail
      (try simp only [add_plain])
      go_loopg [13] 5 (fun kq v13 w' => ∃ i : Nat, i ≤ 4 ∧ Aside0 (kq + i = 5) ∧ v13 = .int .i64 (i : Int) ∧ Aside0 (XApart.Fill colonnadelaw06_apart.own ns cs gs w5.heap.size 3 w5 w' i 0))
      case atStart => exact ⟨0, by omega, ⟨rfl⟩, rfl, HF6⟩
      case round =>
        clear HF6
        obtain ⟨i, hi, HK, rfl, HF⟩ := hrel
        by_cases hlt : i < 4
        · obtain ⟨g, hg⟩ := (HN.out i hlt).2
          have HG := Aside0.mk hg
          have H5n := Aside0.mk (HN.out i hlt).1
          clear hg
          have hd : decide ((i : Int) < 4) = true := decide_eq_true (by omega)
          obtain ⟨k1, rfl⟩ : ∃ k1, gk = k1 + 1 := ⟨gk - 1, by have := HK.out; omega⟩
          go_wp2_with fail
          (try simp only [add_plain])
          go_loopg [14] 6 (fun kq v14 w' => ∃ k : Nat, k ≤ 5 ∧ Aside0 (kq + k = 6) ∧ v14 = .int .i64 (k : Int) ∧ Aside0 (XApart.Fill colonnadelaw06_apart.own ns cs gs w5.heap.size 3 w5 w' i k))
          case atStart => exact ⟨0, by omega, ⟨rfl⟩, rfl, HF⟩
          case round =>
            clear HF
            obtain ⟨k, hk, HK2, rfl, HF⟩ := hrel
            by_cases hk5 : k < 5
            · have hd2 : decide ((k : Int) < 5) = true := decide_eq_true (by omega)
              obtain ⟨k2, rfl⟩ : ∃ k2, gk = k2 + 1 := ⟨gk - 1, by have := HK2.out; omega⟩
              have hx := HC.out wr HF.out.but i g hlt HG.out
              obtain ⟨⟨x, hxc⟩, hxf⟩ := HF.out.cell HS.out HG.out (t := k) (by rw [H5n.out]; exact hk5)
              go_wp2_with fail
              have HF' := Aside0.mk (HF.out.store HS.out HG.out (by rw [H5n.out]; exact hk5))
              go_roundg k2
              case measure => have := HK2.out; omega
              case rel => exact ⟨k + 1, by omega, ⟨by have := HK2.out; omega⟩, congrArg (Value.int .i64) (by omega), HF'⟩
            · obtain rfl : k = 5 := by omega
              have hd2 : decide (((5 : Nat) : Int) < 5) = false := by decide
              have HF' := Aside0.mk (HF.out.next (by rw [H5n.out]; exact Nat.le_refl _))
              clear HF
              go_wp2_with fail
              go_roundg k1
              case measure => have := HK.out; omega
              case rel => exact ⟨i + 1, by omega, ⟨by have := HK.out; omega⟩, congrArg (Value.int .i64) (by omega), HF'⟩
        · obtain rfl : i = 4 := by omega
          have hd : decide (((4 : Nat) : Int) < 4) = false := by decide
          have HT0 := Aside0.mk (XApart.St.start (mark := colonnadelaw06_apart.mark) (N := 4) (eS := 32) (eI := 3) HF.out HS.out (fun j g hg => (HJ.out j g hg).1) (by decide))
          clear HF hlt hi
          go_wp2_with fail
          clear hd HK
          (try simp only [add_plain])
          go_loopg [15, 16, 17] 5 (fun kq v15 v16 v17 w' => ∃ (i : Nat) (L : List XApart.Rec), i ≤ 4 ∧ Aside0 (kq + i = 5) ∧ v17 = .int .i64 (i : Int) ∧ Aside0 (L.length ≤ 70 * i) ∧ Aside0 (XApart.St colonnadelaw06_apart.own colonnadelaw06_apart.mark ns cs gs 4 w5.heap.size 3 32 3 w5 w' i 0 (XApart.sv ns cs gs i) v15 v16 L L))
          case atStart => exact ⟨0, [], by omega, ⟨rfl⟩, rfl, ⟨Nat.zero_le _⟩, HT0⟩
          case round =>
            clear HT0
            obtain ⟨i, L, hi, HK, rfl, HLn, HT⟩ := hrel
            by_cases hlt : i < 4
            · obtain ⟨g, hg⟩ := (HN.out i hlt).2
              have hx := HC.out wr HT.out.inv.but i g hlt hg
              have hsv : XApart.sv ns cs gs i = .slice (some ⟨g, 0, none⟩) 5 (cs i) := by unfold XApart.sv; rw [hg, (HN.out i hlt).1]; rfl
              rw [hsv] at HT
              clear hg hsv
              have hd : decide ((i : Int) < 4) = true := decide_eq_true (by omega)
              obtain ⟨k1, rfl⟩ : ∃ k1, gk = k1 + 1 := ⟨gk - 1, by have := HK.out; omega⟩
              go_wp2_with fail
              clear hx
              (try simp only [add_plain])
              go_loopg [15, 16, 18, 19] 71 (fun kq v15 v16 v18 v19 w' => ∃ (k : Nat) (L : List XApart.Rec), k ≤ 70 ∧ Aside0 (kq + k = 71) ∧ v19 = .int .i64 (k : Int) ∧ Aside0 (L.length ≤ 70 * i + k) ∧ Aside0 (XApart.St colonnadelaw06_apart.own colonnadelaw06_apart.mark ns cs gs 4 w5.heap.size 3 32 3 w5 w' i k v18 v15 v16 L L))
              case atStart => exact ⟨0, L, by omega, ⟨rfl⟩, rfl, HLn, HT⟩
              case round =>
                clear HT HLn
                obtain ⟨k, L, hk, HK2, rfl, HLn, HT⟩ := hrel
                by_cases hk7 : k < 70
                · have hd2 : decide ((k : Int) < 70) = true := decide_eq_true (by omega)
                  obtain ⟨k2, rfl⟩ : ∃ k2, gk = k2 + 1 := ⟨gk - 1, by have := HK2.out; omega⟩
                  have HNi := Aside0.mk (HN.out i hlt).1
                  have hsmall : ns i + k + 1 ≤ 1000 := by rw [HNi.out]; omega
                  have hLs : L.length ≤ 1000 := by have := HLn.out; omega
                  have hcase : decide ((k : Int) < 16) = true ∨ (decide ((k : Int) < 16) = false ∧ ((k : Int) == 69) = true) ∨ (decide ((k : Int) < 16) = false ∧ ((k : Int) == 69) = false) := by
                    by_cases c : k < 16
                    · exact .inl (decide_eq_true (by omega))
                    · by_cases c2 : k = 69
                      · exact .inr (.inl ⟨decide_eq_false (by omega), beq_iff_eq.mpr (by omega)⟩)
                      · exact .inr (.inr ⟨decide_eq_false (by omega), beq_eq_false_iff_ne.mpr (by omega)⟩)
                  rcases hcase with c1 | ⟨c1, c2⟩ | ⟨c1, c2⟩
                  iterate 2
                    · go_wp2_with (first | ((with_reducible refine gate_builtin (b := .append) (xs := #[.tmp 109, .tmp 112]) rfl ?_); at_builtin; refine XApart.wpList_append_keep 0 rfl (.tmp 109) (.tmp 112) 32 3 (.int .i64 0) 8 rfl Try.underlying32 colonnadelaw06_apart.info3 rfl u18 (ns i + k) (XApart.form colonnadelaw06_apart.own colonnadelaw06_apart.mark ns i k) _ _ (colonnadelaw06_apart.mark i) rfl rfl (HT.out.alloc _).ou (XApart.new_cell _ _ _ _) rfl (by simp only [maxLen]; omega) (by omega) (Nat.zero_le _) ?_; intro g2 cap2 w2 ho hg hp; have HT2 := Aside0.mk ((HT.out.alloc _).grow HS.out ho hg hp); clear ho hg hp) | ((with_reducible refine gate_builtin (b := .append) (xs := #[.tmp 120, .tmp 122]) rfl ?_); at_builtin; refine XApart.wpList_append_keep w5.heap.size rfl (.tmp 120) (.tmp 122) 66 32 (.slice none 0 0) 24 rfl Try.underlying66 colonnadelaw06_apart.info32 rfl u15 L.length (L.map XApart.Rec.val) _ _ (.slice (some ⟨g2, 0, none⟩) (ns i + k + 1) cap2) rfl rfl (HT2.out.alloc _).om (XApart.new_cell _ _ _ _) rfl (by simp only [maxLen]; omega) (by omega) (HT2.out.alloc _).inv.size ?_; intro m3 cm3 w3 ho hg hp; have HT3 := Aside0.mk ((HT2.out.alloc _).keepM HS.out hlt ho hg hp); clear ho hg hp) | ((with_reducible refine gate_builtin (b := .append) (xs := #[.tmp 124, .tmp 126]) rfl ?_); at_builtin; refine XApart.wpList_append_keep w5.heap.size rfl (.tmp 124) (.tmp 126) 32 3 (.int .i64 0) 8 rfl Try.underlying32 colonnadelaw06_apart.info3 rfl u16 L.length (L.map fun r => .int .i64 (r.i : Int)) _ _ (.int .i64 (i : Int)) rfl rfl (HT3.out.alloc _).oh (XApart.new_cell _ _ _ _) rfl (by simp only [maxLen]; omega) (by omega) (HT3.out.alloc _).inv.size ?_; intro m4 cm4 w4 ho hg hp; have HT4 := Aside0.mk ((HT3.out.alloc _).keepH (r := ⟨g2, ns i + (k + 1), cap2, i⟩) HS.out rfl ho hg hp); clear ho hg hp))
                      go_roundg k2
                      case measure => have := HK2.out; omega
                      case rel => exact ⟨k + 1, L ++ [⟨g2, ns i + (k + 1), cap2, i⟩], by omega, ⟨by have := HK2.out; omega⟩, congrArg (Value.int .i64) (by omega), ⟨by have := HLn.out; simp only [List.length_append, List.length_cons, List.length_nil]; omega⟩, HT4⟩
                  · go_wp2_with (first | ((with_reducible refine gate_builtin (b := .append) (xs := #[.tmp 109, .tmp 112]) rfl ?_); at_builtin; refine XApart.wpList_append_keep 0 rfl (.tmp 109) (.tmp 112) 32 3 (.int .i64 0) 8 rfl Try.underlying32 colonnadelaw06_apart.info3 rfl u18 (ns i + k) (XApart.form colonnadelaw06_apart.own colonnadelaw06_apart.mark ns i k) _ _ (colonnadelaw06_apart.mark i) rfl rfl (HT.out.alloc _).ou (XApart.new_cell _ _ _ _) rfl (by simp only [maxLen]; omega) (by omega) (Nat.zero_le _) ?_; intro g2 cap2 w2 ho hg hp; have HT2 := Aside0.mk ((HT.out.alloc _).grow HS.out ho hg hp); clear ho hg hp))
                    go_roundg k2
                    case measure => have := HK2.out; omega
                    case rel => exact ⟨k + 1, L, by omega, ⟨by have := HK2.out; omega⟩, congrArg (Value.int .i64) (by omega), ⟨by have := HLn.out; omega⟩, HT2⟩
                · obtain rfl : k = 70 := by omega
                  have hd2 : decide (((70 : Nat) : Int) < 70) = false := by decide
                  have HT' := Aside0.mk (HT.out.next HS.out)
                  clear HT
                  go_wp2_with fail
                  go_roundg k1
                  case measure => have := HK.out; omega
                  case rel => exact ⟨i + 1, L, by omega, ⟨by have := HK.out; omega⟩, congrArg (Value.int .i64) (by omega), ⟨by have := HLn.out; omega⟩, HT'⟩
            · obtain rfl : i = 4 := by omega
              have hd : decide (((4 : Nat) : Int) < 4) = false := by decide
              clear HK hlt hi
              obtain ⟨wF, rfl⟩ : ∃ wF : World, wF = wr := ⟨_, rfl⟩
              obtain ⟨Am, cm, em⟩ : ∃ Am cm, u15 = .slice Am L.length cm := own_slice HT.out.om
              obtain ⟨Ah, ch, eh⟩ : ∃ Ah ch, u16 = .slice Ah L.length ch := own_slice HT.out.oh
              subst em eh
              go_wp2_with fail
              clear hd
              go_loop [20] (fun v => ∃ j : Nat, j ≤ L.length ∧ v = .int .i64 (j : Int)) (fun v => L.length - (intOf v).toNat)
              case atStart => exact ⟨0, by omega, rfl⟩
              case round =>
                obtain ⟨j, hjL, rfl⟩ := hrel
                have hL := HLn.out
                by_cases hlt : j < L.length
                · have hd : decide ((j : Int) < (L.length : Int)) = true := decide_eq_true (by omega)
                  obtain ⟨m, cm', hh, ch', g, len, c, i, e1, e2, hx1, hx2, hi, hnl, hlen, hcells⟩ := HT.out.read j hlt
                  cases e1
                  cases e2
                  have HCE := Aside0.mk hcells
                  have HNL := Aside0.mk hnl
                  obtain ⟨g', hg'⟩ := (HN.out i hi).2
                  have hx3 := HC.out wF HT.out.inv.but i g' hi hg'
                  have HB' := Aside0.mk ((HT.out.inv.base i g' hg').cell)
                  have H5i := Aside0.mk (HN.out i hi).1
                  clear hcells hnl hg'
                  go_wp2_with fail
                  go_loop [22] (fun v => ∃ k : Nat, k ≤ len ∧ v = .int .i64 (k : Int)) (fun v => len - (intOf v).toNat)
                  case atStart => exact ⟨0, by omega, rfl⟩
                  case round =>
                    obtain ⟨k, hk, rfl⟩ := hrel
                    by_cases hkl : k < len
                    · have hd2 : decide ((k : Int) < (len : Int)) = true := decide_eq_true (by omega)
                      have hc1 := HCE.out k hkl
                      by_cases hk5 : k < 5
                      · have hw : XApart.want colonnadelaw06_apart.own colonnadelaw06_apart.mark ns i k = .int .i64 (1000 + (i : Int)) := by unfold XApart.want; rw [if_pos (by rw [H5i.out]; exact hk5)]; rfl
                        rw [hw] at hc1
                        have hc2 := HB'.out k (by show k < ns i; rw [H5i.out]; exact hk5)
                        rw [show XApart.want colonnadelaw06_apart.own colonnadelaw06_apart.mark ns (⟨g', ns i, cs i, i⟩ : XApart.Rec).i k = .int .i64 (1000 + (i : Int)) from hw] at hc2
                        clear hw
                        have hd3 : decide ((k : Int) < 5) = true := decide_eq_true (by omega)
                        have hd4 : decide ((k : Int) ≥ 5) = false := decide_eq_false (by omega)
                        go_wp2_with fail
                        go_round
                        case rel => exact ⟨k + 1, by omega, by go_num⟩
                        case measure => simp [intOf]; omega
                      · have hw : XApart.want colonnadelaw06_apart.own colonnadelaw06_apart.mark ns i k = .int .i64 (2000 + (i : Int)) := by unfold XApart.want; rw [if_neg (by rw [H5i.out]; exact hk5)]; rfl
                        rw [hw] at hc1
                        clear hw
                        have hd3 : decide ((k : Int) < 5) = false := decide_eq_false (by omega)
                        have hd4 : decide ((k : Int) ≥ 5) = true := decide_eq_true (by omega)
                        go_wp2_with fail
                        go_round
                        case rel => exact ⟨k + 1, by omega, by go_num⟩
                        case measure => simp [intOf]; omega
                    · obtain rfl : k = len := by omega
                      have hd2 : decide ((k : Int) < (k : Int)) = false := decide_eq_false (by omega)
                      go_wp2_with fail
                      go_round
                      case rel => exact ⟨j + 1, by omega, by go_num⟩
                      case measure => simp [intOf]; omega
                · obtain rfl : j = L.length := by omega
                  have hd : decide ((L.length : Int) < (L.length : Int)) = false := decide_eq_false (by omega)
                  go_wp2_with fail
                  go_ret
                  refine ⟨rfl, Below.trans ?_ (HT.out.inv.but.below (B := w.heap.size) ?_ (fun j g hg => (HJ.out j g hg).2))⟩
                  · rw [H5.out]; exact below_alloc HB4.out _
                  · rw [H5.out]; exact (below_alloc HB4.out _).size

/-! ### colonnadelaw06_CheckKept: function 11 -/
theorem colonnadelaw06_CheckKept.info5 : (Try.prog.info? 5).map (fun i => (i.zero, i.size, i.bytes)) = some (some (.int .u8 0), 1, 1) := by kernel_rfl
def colonnadelaw06_CheckKept.crc (l : List Int) : Int := XCrc.I (XCrc.overB 4294967295#32 l ^^^ 4294967295#32)
theorem colonnadelaw06_CheckKept.crc_nil : colonnadelaw06_CheckKept.crc [] = 0 := by decide +kernel
theorem colonnadelaw06_CheckKept.ofInt_I (B : BitVec 32) : BitVec.ofInt 32 (XCrc.I B) = B := by
  unfold XCrc.I
  rw [BitVec.ofInt_natCast, BitVec.ofNat_toNat, BitVec.setWidth_eq]
theorem colonnadelaw06_CheckKept.xor_front (B : BitVec 32) : Go.bits .xor .u32 4294967295 (XCrc.I B) = XCrc.I (B ^^^ 4294967295#32) := by rw [BitVec.xor_comm]; exact XCrc.I_xor 4294967295#32 B
theorem colonnadelaw06_CheckKept.more_any (s : Int) (h0 : 0 ≤ s) (h1 : s < 4294967296) (b : List Int) (hb : ∀ x ∈ b, 0 ≤ x ∧ x < 256) : ∃ r, check_More.f s b = some r ∧ 0 ≤ r ∧ r < 4294967296 := by
  have hs : s = XCrc.I (BitVec.ofInt 32 s) := by unfold XCrc.I; rw [BitVec.toNat_ofInt]; omega
  rw [hs]
  unfold check_More.f
  rw [colonnadelaw06_CheckKept.xor_front]
  unfold check_over.f
  have hr := XCrc.I_lt (BitVec.ofInt 32 s ^^^ 4294967295#32)
  rw [if_pos ⟨hr.1, hr.2, hb⟩, Option.bind_some, colonnadelaw06_CheckKept.ofInt_I, colonnadelaw06_CheckKept.xor_front]
  exact ⟨_, rfl, XCrc.I_lt _⟩
theorem colonnadelaw06_CheckKept.sum_of (b : List Int) (r : Int) (h : check_More.f 0 b = some r) : check_Sum.f b = some r := by
  unfold check_Sum.f
  rw [h]; rfl
theorem colonnadelaw06_CheckKept.write_of (s c : Int) (b : List Int) (r : Int) (h : check_More.f s b = some r) : ∃ q, check_Stream_Write.f s c b = some (r, q) := by
  unfold check_Stream_Write.f
  rw [h, Option.bind_some]
  exact ⟨_, rfl⟩
def colonnadelaw06_CheckKept.bytes (l : List Int) : Prop := ∀ x ∈ l, 0 ≤ x ∧ x < 256
/-- what is there beside the arguments: the list of one's own -/
structure colonnadelaw06_CheckKept.B0 (w W : World) (G N cap : Nat) (Z : List Int) : Prop where
  below : Below w.heap.size w W
  own : W.ownsRow w.heap.size 5 1 (.slice (some ⟨G, 0, none⟩) N cap) N (nums .u8 Z)
theorem colonnadelaw06_CheckKept.B0.then_ {w W W' : World} {G N cap : Nat} {Z : List Int} (h : colonnadelaw06_CheckKept.B0 w W G N cap Z) (hb : Below W.heap.size W W') : colonnadelaw06_CheckKept.B0 w W' G N cap Z := ⟨below_then h.below h.below.size hb, pw_own_below h.own hb⟩
theorem colonnadelaw06_CheckKept.B0.drewN {w W : World} {G N cap : Nat} {Z : List Int} (h : colonnadelaw06_CheckKept.B0 w W G N cap Z) (n : Nat) : colonnadelaw06_CheckKept.B0 w (W.drewN n) G N cap Z := ⟨pw_below_drewN h.below n, pw_own_drewN h.own n⟩
theorem colonnadelaw06_CheckKept.B0.alloc {w W : World} {G N cap : Nat} {Z : List Int} (h : colonnadelaw06_CheckKept.B0 w W G N cap Z) (o : Obj) : colonnadelaw06_CheckKept.B0 w (W.alloc o) G N cap Z := ⟨below_alloc h.below o, own_alloc h.own o⟩
theorem colonnadelaw06_CheckKept.C_cut {W : World} {A : Option Addr} {n m : Nat} {X : List Int} (h : Kd.C (Kd.int .u8) W A m X) (hn : n ≤ m) : Kd.C (Kd.int .u8) W A n (X.take n) :=
  Kd.C_of_reads (h1 := fun _ => rfl) (d := (0 : Int)) ((Kd.reads_of_C (enc := Value.int .u8) (d := (0 : Int)) (h1 := fun _ => rfl) h).take_ n hn)
/-- the list's first n elements -/
theorem colonnadelaw06_CheckKept.B0.view {w W : World} {G N cap : Nat} {Z : List Int} (h : colonnadelaw06_CheckKept.B0 w W G N cap Z) (n : Nat) (hn : n ≤ N) : Kd.C (Kd.int .u8) W (some ⟨G, 0, none⟩) n (Z.take n) ∧ n ≤ cap := by
  have h2 := own_reads' h.own
  have h3 : Kd.C (Kd.int .u8) W (some ⟨G, 0, none⟩) N Z := Kd.C_of_reads (h1 := fun _ => rfl) (d := (0 : Int)) h2
  exact ⟨colonnadelaw06_CheckKept.C_cut h3 hn, by have := own_cap h.own; omega⟩
theorem colonnadelaw06_CheckKept.B0.front {w W : World} {G N cap n : Nat} {X M : List Int} (h : colonnadelaw06_CheckKept.B0 w W G N cap (X ++ M)) (hn : X.length = n) (hN : n ≤ N) : Kd.C (Kd.int .u8) W (some ⟨G, 0, none⟩) n X := by
  have h2 := (h.view n hN).1
  rwa [List.take_left' hn] at h2
def colonnadelaw06_CheckKept.M8 : List Int := [77, 78, 79, 80, 81, 82, 83, 84]
/-- and the stream -/
structure colonnadelaw06_CheckKept.B1 (w W : World) (G N cap : Nat) (Z : List Int) (g : Nat) (s c : Int) : Prop where
  z : colonnadelaw06_CheckKept.B0 w W G N cap Z
  i : IsS47 w W g s c
theorem colonnadelaw06_CheckKept.B1.then_ {w W W' : World} {G N cap g : Nat} {Z : List Int} {s c : Int} (h : colonnadelaw06_CheckKept.B1 w W G N cap Z g s c) (hb : Below W.heap.size W W') : colonnadelaw06_CheckKept.B1 w W' G N cap Z g s c := ⟨h.z.then_ hb, h.i.below hb⟩
theorem colonnadelaw06_CheckKept.B1.ne {w W : World} {G N cap g : Nat} {Z : List Int} {s c : Int} (h : colonnadelaw06_CheckKept.B1 w W G N cap Z g s c) : g ≠ G := by
  intro e
  have h1 := own_ne h.z.own h.i.1 (by decide)
  exact h1 (by rw [e]; rfl)
theorem colonnadelaw06_CheckKept.set_mid (X Y M : List Int) (n i : Nat) (hX : X.length = n) (hY : Y.length = n) (hi : i < n) : (Y.take i ++ X.drop i ++ M).set i (rd Y (i : Int)) = Y.take (i + 1) ++ X.drop (i + 1) ++ M := by
  have e1 : rd Y (i : Int) = Y[i]'(by omega) := by unfold rd; simp [List.getD_eq_getElem?_getD, show i < Y.length by omega]
  have h2 : (Y.take i).length = i := by rw [List.length_take]; omega
  rw [e1, List.append_assoc, List.set_append_right _ _ (by omega), h2, Nat.sub_self, List.drop_eq_getElem_cons (show i < X.length by omega), List.cons_append, List.set_cons_zero, List.take_succ_eq_append_getElem (show i < Y.length by omega), List.append_assoc, List.append_assoc, List.singleton_append]
theorem colonnadelaw06_CheckKept.rd_take {l Y : List Int} {n i : Nat} (h : Y = l.take n) (hi : i < n) : rd l (i : Int) = rd Y (i : Int) := by
  unfold rd
  rw [h]
  simp [List.getD_eq_getElem?_getD, hi]
theorem colonnadelaw06_CheckKept.B1.store {w W : World} {G cap g n i : Nat} {X Y M : List Int} {s c : Int} (h : colonnadelaw06_CheckKept.B1 w W G (n + 8) cap (Y.take i ++ X.drop i ++ M) g s c) (hi : i < n) (hX : X.length = n) (hY : Y.length = n) (x : Int) (hx : x = rd Y (i : Int)) :
    colonnadelaw06_CheckKept.B1 w (W.setCell ⟨G, i, none⟩ (.int .u8 x)) G (n + 8) cap (Y.take (i + 1) ++ X.drop (i + 1) ++ M) g s c := by
  subst hx
  have hne := h.ne
  have h2 := own_store h.z.own (i : Int) (rd Y (i : Int))
  rw [Int.toNat_natCast, colonnadelaw06_CheckKept.set_mid X Y M n i hX hY hi] at h2
  exact ⟨⟨h.z.below.setCell (own_base h.z.own G rfl) _, h2.1⟩, h.i.far hne _⟩
theorem colonnadelaw06_CheckKept.write (w W : World) (G N cap n g : Nat) (X M : List Int) (s c r q : Int) (h : colonnadelaw06_CheckKept.B1 w W G N cap (X ++ M) g s c) (hn : X.length = n) (hN : n ≤ N) (hc : n ≤ cap) (hw : check_Stream_Write.f s c X = some (r, q)) :
    Calls Try.prog 28 #[.pointer (some ⟨g, 0, none⟩), .slice (some ⟨G, 0, none⟩) n cap] W fun e W' => e = .returned (.tuple #[]) ∧ colonnadelaw06_CheckKept.B1 w W' G N cap (X ++ M) g r q ∧ KeepBut W W' g none := by
  have hne := h.ne
  have hC := h.z.front hn hN
  subst hn
  refine (check_Stream_Write.calls g s c _ cap X r q w W h.i h.z.below hC hc ?_ hw).mono ?_
  · intro ad he _
    injection he with he
    subst he
    exact fun e => hne e.symm
  · rintro e W' ⟨rfl, hI, hB, hK⟩
    exact ⟨rfl, ⟨⟨hB, hK.own h.z.own (by intro e; injection e with e; exact hne e.symm) (.inr (by simp [Value.ownBlock]))⟩, hI⟩, hK⟩
theorem colonnadelaw06_CheckKept.ssum (w W : World) (G N cap g : Nat) (Z : List Int) (s c : Int) (h : colonnadelaw06_CheckKept.B1 w W G N cap Z g s c) :
    Calls Try.prog 29 #[.pointer (some ⟨g, 0, none⟩)] W fun e W' => e = .returned (.int .u32 s) ∧ colonnadelaw06_CheckKept.B1 w W' G N cap Z g s c ∧ KeepBut W W' g none := by
  have hne := h.ne
  refine (check_Stream_Sum.calls g s c s s c w W h.i h.z.below rfl).mono ?_
  rintro e W' ⟨rfl, hI, hB, hK⟩
  exact ⟨rfl, ⟨⟨hB, hK.own h.z.own (by intro e; injection e with e; exact hne e.symm) (.inr (by simp [Value.ownBlock]))⟩, hI⟩, hK⟩
theorem colonnadelaw06_CheckKept.cutrun (A : Option Addr) (c : Nat) (l : List Int) (n : Nat) (hn : n ≤ l.length) (hc : l.length ≤ c) (W : World) :
    (Instr.slice 22 (.slice A l.length c) none (some (.int .i64 (n : Int))) none).run Try.prog W = .ok (.slice A n c) W := by
  obtain ⟨i, hi, hz⟩ := Option.map_eq_some_iff.1 colonnadelaw06_CheckKept.info5
  simp only [Prod.mk.injEq] at hz
  have h := (print_take_int (k := .u8) (P := Try.prog) 22 5 Try.underlying22 hi hz.2.1 A c l (n : Int) (by omega) (by omega) hc).1 W
  rw [Int.toNat_natCast, List.length_take, Nat.min_eq_left hn] at h
  exact h
theorem colonnadelaw06_CheckKept.strs_size (l : List Int) : (strOfNums l).size = l.length := by
  show (strOfNums l).data.size = _
  simp [strOfNums]
theorem colonnadelaw06_CheckKept.strs (X : List Int) : strOfNums (X ++ colonnadelaw06_CheckKept.M8) = strOfNums X ++ (⟨#[77, 78, 79, 80, 81, 82, 83, 84]⟩ : ByteArray) := by
  apply ByteArray.ext
  rw [ByteArray.data_append]
  unfold strOfNums
  apply Array.ext'
  simp [colonnadelaw06_CheckKept.M8]
theorem colonnadelaw06_CheckKept.twin (W : World) (A : Option Addr) (c n : Nat) (X : List Int) (hl : X.length = n) (hC : Kd.C (Kd.int .u8) W A n X) (hc : n ≤ c) (hX : n ≤ 140737488351232) :
    Calls Try.prog 17 #[.slice A n c] W fun e W' => ∃ (A' : Option Addr) (c' : Nat), e = .returned (.slice A' n c') ∧ n ≤ c' ∧ Kd.R (Kd.int .u8) 5 W' W.heap.size (fun _ => True) (.slice A' n c') X ∧ Kd.C (Kd.int .u8) W' A' n X ∧ Below W.heap.size W W' := by
  subst hl
  refine (colonnadelaw06_twin.calls A c X X W hC hc ?_).mono ?_
  · unfold colonnadelaw06_twin.f
    rw [if_pos (by simp; omega)]; rfl
  · rintro e W' ⟨v, rfl, hR, hb⟩
    obtain ⟨A', c', rfl⟩ := Kd.R_slice hR
    obtain ⟨_, hle, hC'⟩ := Kd.R_reads' hR
    exact ⟨A', c', rfl, hle, hR, hC', hb⟩
theorem colonnadelaw06_CheckKept.sum (W : World) (A : Option Addr) (c n : Nat) (X : List Int) (r : Int) (hl : X.length = n) (hC : Kd.C (Kd.int .u8) W A n X) (hc : n ≤ c) (h : check_Sum.f X = some r) :
    Calls Try.prog 16 #[.slice A n c] W fun e W' => e = .returned (.int .u32 r) ∧ Below W.heap.size W W' := by
  subst hl
  exact check_Sum.calls A c X r W hC hc h
theorem colonnadelaw06_CheckKept.more (W : World) (s : Int) (A : Option Addr) (c n : Nat) (X : List Int) (r : Int) (hl : X.length = n) (hC : Kd.C (Kd.int .u8) W A n X) (hc : n ≤ c) (h : check_More.f s X = some r) :
    Calls Try.prog 20 #[.int .u32 s, .slice A n c] W fun e W' => e = .returned (.int .u32 r) ∧ Below W.heap.size W W' := by
  subst hl
  exact check_More.calls s A c X r W hC hc h
theorem colonnadelaw06_CheckKept.hash (k : Nat) (W : World) (A : Option Addr) (c n : Nat) (X : List Int) (r : Int) (hl : X.length = n) (hC : Kd.C (Kd.int .u8) W A n X) (hc : n ≤ c) (h : check_Hash.f k X = some r) :
    Calls Try.prog 22 #[.slice A n c] W fun e W' => e = .returned (.int .u64 r) ∧ Below W.heap.size W W' := by
  subst hl
  refine (check_Hash.calls k A c X r W hC hc h).mono ?_
  rintro e W' ⟨rfl, ⟨nd, rfl⟩⟩
  exact ⟨rfl, pw_below_drewN (Below.refl _ _) nd⟩
set_option maxHeartbeats 4000000 in
set_option maxRecDepth 100000 in
theorem colonnadelaw06_CheckKept.ck (k : Nat) (A0 : Option Addr) (c0 : Nat) (l0 : List Int) (A1 : Option Addr) (c1 : Nat) (l1 : List Int) (a2 : Int) (w : World)
    (hr0 : Kd.C (Kd.int .u8) w A0 l0.length l0) (hc0 : l0.length ≤ c0) (hr1 : Kd.C (Kd.int .u8) w A1 l1.length l1) (hc1 : l1.length ≤ c1)
    (n : Nat) (hn : n = min l0.length l1.length) (hx0 hx1 : Int) (hh0 : check_Hash.f k (l0.take n) = some hx0) (hh1 : check_Hash.f k (l1.take n) = some hx1) (hap : colonnadelaw06_apart.f a2 = some true)
    (hb0 : ∀ x ∈ l0, 0 ≤ x ∧ x < 256) (hb1 : ∀ x ∈ l1, 0 ≤ x ∧ x < 256) (hl0 : l0.length ≤ 140737488351232) (hl1 : l1.length ≤ 140737488351232) :
    Calls Try.prog 11 #[.slice A0 l0.length c0, .slice A1 l1.length c1, .int .u64 a2] w fun e w' => e = .returned (.bool true) ∧ Below w.heap.size w w' := by
  have HR0 := Aside0.mk hr0
  have HR1 := Aside0.mk hr1
  have HN := Aside0.mk hn
  clear hr0 hr1 hn
  have hn0 : n ≤ l0.length := by rw [HN.out]; exact Nat.min_le_left _ _
  have hn1 : n ≤ l1.length := by rw [HN.out]; exact Nat.min_le_right _ _
  have hif : (if ((l1.length : Nat) : Int) < ((l0.length : Nat) : Int) then ((l1.length : Nat) : Int) else ((l0.length : Nat) : Int)) = (n : Int) := by
    have := HN.out
    split <;> omega
  have hif2 : (if l1.length < l0.length then ((l1.length : Nat) : Int) else ((l0.length : Nat) : Int)) = (n : Int) := by
    have := HN.out
    split <;> omega
  go_enter Try.func11, Try.ntmps11
  generalize hX : l0.take n = X at hh0
  generalize hY : l1.take n = Y at hh1
  have HY1 := Aside0.mk hY.symm
  have hXl : X.length = n := by rw [← hX, List.length_take]; omega
  have hYl : Y.length = n := by rw [← hY, List.length_take]; omega
  have hCX : Kd.C (Kd.int .u8) w A0 n X := by rw [← hX]; exact colonnadelaw06_CheckKept.C_cut HR0.out hn0
  have hCY : Kd.C (Kd.int .u8) w A1 n Y := by rw [← hY]; exact colonnadelaw06_CheckKept.C_cut HR1.out hn1
  have hbX : colonnadelaw06_CheckKept.bytes X := fun x hx => hb0 x (by rw [← hX] at hx; exact List.mem_of_mem_take hx)
  have hbY : colonnadelaw06_CheckKept.bytes Y := fun x hx => hb1 x (by rw [← hY] at hx; exact List.mem_of_mem_take hx)
  obtain ⟨SX, hSX0, hSXa, hSXb⟩ := colonnadelaw06_CheckKept.more_any 0 (by omega) (by omega) X hbX
  obtain ⟨MX, hMX, _, _⟩ := colonnadelaw06_CheckKept.more_any 5 (by omega) (by omega) X hbX
  obtain ⟨SY, hSY0, _, _⟩ := colonnadelaw06_CheckKept.more_any 0 (by omega) (by omega) Y hbY
  obtain ⟨MY, hMY, _, _⟩ := colonnadelaw06_CheckKept.more_any 5 (by omega) (by omega) Y hbY
  obtain ⟨TY, hTY, _, _⟩ := colonnadelaw06_CheckKept.more_any SX hSXa hSXb Y hbY
  obtain ⟨q1, hW1⟩ := colonnadelaw06_CheckKept.write_of 0 0 X SX hSX0
  obtain ⟨q2, hW2⟩ := colonnadelaw06_CheckKept.write_of SX q1 Y TY hTY
  have FSX := Aside0.mk (colonnadelaw06_CheckKept.sum_of X SX hSX0)
  have FMX := Aside0.mk hMX
  have FSY := Aside0.mk (colonnadelaw06_CheckKept.sum_of Y SY hSY0)
  have FMY := Aside0.mk hMY
  have FTY := Aside0.mk hTY
  have FW1 := Aside0.mk hW1
  have FW2 := Aside0.mk hW2
  clear hSX0 hMX hSY0 hMY hTY hW1 hW2 hSXa hSXb
  have XL := Aside0.mk hXl
  have YL := Aside0.mk hYl
  have CX := Aside0.mk hCX
  have CY := Aside0.mk hCY
  have BX := Aside0.mk hbX
  have BY := Aside0.mk hbY
  have H0 := Aside0.mk hh0
  have H1 := Aside0.mk hh1
  have HA := Aside0.mk hap
  clear hX hY hXl hYl hCX hCY hbX hbY hh0 hh1 hap hb0 hb1
  go_wp2_with fail
  clear hif hif2
  refine (colonnadelaw06_CheckKept.twin _ A0 c0 n X XL.out CX.out (by omega) (by omega)).mono ?_
  rintro e w1 ⟨A2, c2, rfl, hc2, hR, hC, hb⟩
  have HR := Aside0.mk hR
  have HB := Aside0.mk hb
  clear hR hC hb
  go_wp2_with (first | ((with_reducible refine gate_builtin (b := .append) (xs := #[.tmp 24, .tmp 25]) rfl ?_); at_builtin; refine Kd.R_append_rows (Kd.int .u8) (w0 := w) w.heap.size rfl (.tmp 24) (.tmp 25) 22 5 (.int .u8 0) 1 rfl Try.underlying22 colonnadelaw06_CheckKept.info5 rfl (by decide) (by omega) (.slice A2 n c2) X colonnadelaw06_CheckKept.M8 _ _ _ (fun _ => True) (fun _ => False) rfl rfl (Kd.R_alloc HR.out _) (colonnadelaw06_known.lit_C _ 5 _ colonnadelaw06_CheckKept.M8 (by decide)) (fun _ _ h => h) (fun _ h => h.elim) (fun _ _ => trivial) (below_alloc HB.out _) (below_alloc HB.out _).size (by rw [XL.out]; show (n + 8) * 1 ≤ _; omega) ?_; intro v4 w5 ho hb _ _; obtain ⟨G, cap, e4, _⟩ := Kd.R_form ho (by simp [colonnadelaw06_CheckKept.M8]); have hown := Kd.own_of_R ho; rw [show (X ++ colonnadelaw06_CheckKept.M8).length = n + 8 from by rw [List.length_append, XL.out]; rfl] at e4 hown; subst e4; have HZ : Aside0 (colonnadelaw06_CheckKept.B0 w w5 G (n + 8) cap (X ++ colonnadelaw06_CheckKept.M8)) := ⟨⟨hb, hown⟩⟩; have hcap := own_cap hown; clear ho hb hown))
  clear HR HB
  refine (colonnadelaw06_CheckKept.sum _ _ _ n X SX XL.out (HZ.out.front XL.out (by omega)) (by omega) FSX.out).mono ?_
  rintro e w6 ⟨rfl, hb⟩
  have HZ6 := Aside0.mk (HZ.out.then_ hb)
  clear HZ hb
  go_wp2_with fail
  refine (colonnadelaw06_CheckKept.more _ 5 _ _ n X MX XL.out (HZ6.out.front XL.out (by omega)) (by omega) FMX.out).mono ?_
  rintro e w7 ⟨rfl, hb⟩
  have HZ7 := Aside0.mk (HZ6.out.then_ hb)
  clear HZ6 hb
  go_wp2_with fail
  refine (colonnadelaw06_CheckKept.hash k _ _ _ n X hx0 XL.out (HZ7.out.front XL.out (by omega)) (by omega) H0.out).mono ?_
  rintro e w8 ⟨rfl, hb⟩
  have HZ8 := Aside0.mk (HZ7.out.then_ hb)
  clear HZ7 hb
  have HZ9 : Aside0 (colonnadelaw06_CheckKept.B1 w (w8.alloc (Obj.cells #[Value.int IntKind.u32 0, Value.int IntKind.u64 0] 47)) G (n + 8) cap (X ++ colonnadelaw06_CheckKept.M8) w8.heap.size 0 0) := ⟨⟨HZ8.out.alloc _, blk_new w8 _, HZ8.out.below.size⟩⟩
  go_wp2_with fail
  refine (colonnadelaw06_CheckKept.write w _ G (n + 8) cap n w8.heap.size X colonnadelaw06_CheckKept.M8 0 0 SX q1 HZ9.out XL.out (by omega) (by omega) FW1.out).mono ?_
  rintro e w9 ⟨rfl, hz, _⟩
  have HZ := Aside0.mk hz
  clear hz HZ9 HZ8
  obtain ⟨g, hg⟩ : ∃ g, g = w8.heap.size := ⟨_, rfl⟩
  rw [← hg] at HZ ⊢
  clear hg
  have nS : (SX != SX) = false := bne_self_eq_false SX
  have nM : (MX != MX) = false := bne_self_eq_false MX
  have nH : (hx0 != hx0) = false := bne_self_eq_false hx0
  go_wp2_with fail
  refine (colonnadelaw06_CheckKept.twin _ A0 c0 n X XL.out (Kd.C_below CX.out HZ.out.z.below) (by omega) (by omega)).mono ?_
  rintro e w10 ⟨A13, c13, rfl, hc13, _, hC, hb⟩
  have HC := Aside0.mk hC
  clear hC
  have HZ' := Aside0.mk (HZ.out.then_ hb)
  clear HZ hb
  have HZ := Aside0.mk HZ'.out
  clear HZ'
  go_wp2_with fail
  refine (colonnadelaw06_CheckKept.sum _ A13 c13 n X SX XL.out HC.out hc13 FSX.out).mono ?_
  rintro e w11 ⟨rfl, hb⟩
  have HZ' := Aside0.mk (HZ.out.then_ hb)
  clear HZ hb
  have HZ := Aside0.mk HZ'.out
  clear HZ'
  clear HC
  go_wp2_with fail
  refine (colonnadelaw06_CheckKept.twin _ A0 c0 n X XL.out (Kd.C_below CX.out HZ.out.z.below) (by omega) (by omega)).mono ?_
  rintro e w12 ⟨A14, c14, rfl, hc14, _, hC, hb⟩
  have HC := Aside0.mk hC
  clear hC
  have HZ' := Aside0.mk (HZ.out.then_ hb)
  clear HZ hb
  have HZ := Aside0.mk HZ'.out
  clear HZ'
  go_wp2_with fail
  refine (colonnadelaw06_CheckKept.more _ 5 A14 c14 n X MX XL.out HC.out hc14 FMX.out).mono ?_
  rintro e w13 ⟨rfl, hb⟩
  have HZ' := Aside0.mk (HZ.out.then_ hb)
  clear HZ hb
  have HZ := Aside0.mk HZ'.out
  clear HZ'
  clear HC
  go_wp2_with fail
  refine (colonnadelaw06_CheckKept.twin _ A0 c0 n X XL.out (Kd.C_below CX.out HZ.out.z.below) (by omega) (by omega)).mono ?_
  rintro e w14 ⟨A15, c15, rfl, hc15, _, hC, hb⟩
  have HC := Aside0.mk hC
  clear hC
  have HZ' := Aside0.mk (HZ.out.then_ hb)
  clear HZ hb
  have HZ := Aside0.mk HZ'.out
  clear HZ'
  go_wp2_with fail
  refine (colonnadelaw06_CheckKept.hash k _ A15 c15 n X hx0 XL.out HC.out hc15 H0.out).mono ?_
  rintro e w15 ⟨rfl, hb⟩
  have HZ' := Aside0.mk (HZ.out.then_ hb)
  clear HZ hb
  have HZ := Aside0.mk HZ'.out
  clear HZ'
  clear HC
  go_wp2_with fail
  refine (colonnadelaw06_CheckKept.ssum w _ G (n + 8) cap g _ SX q1 HZ.out).mono ?_
  rintro e w16 ⟨rfl, hz, _⟩
  clear HZ
  have HZ := Aside0.mk hz
  clear hz
  have hZC : Kd.C (Kd.int .u8) w16 (some ⟨G, 0, none⟩) (n + 8) (X ++ colonnadelaw06_CheckKept.M8) := Kd.C_of_reads (h1 := fun _ => rfl) (d := (0 : Int)) (own_reads' HZ.out.z.own)
  have hXC := Kd.C_below CX.out HZ.out.z.below
  have cvZ : ∀ m, (convert 22 9 (.slice (some ⟨G, 0, none⟩) (n + 8) cap)).run Try.prog (w16.drewN m) = .ok (.string (strOfNums (X ++ colonnadelaw06_CheckKept.M8))) (w16.drewN m) := fun m => Kd.C_string (P := Try.prog) Try.underlying22 Try.underlying5 Try.underlying9 hZC
  have cvX : ∀ m, (convert 22 9 (.slice A0 n c0)).run Try.prog (w16.drewN m) = .ok (.string (strOfNums X)) (w16.drewN m) := fun m => Kd.C_string (P := Try.prog) Try.underlying22 Try.underlying5 Try.underlying9 hXC
  have cut0 := colonnadelaw06_CheckKept.cutrun A0 c0 l0 n hn0 hc0
  rw [colonnadelaw06_CheckKept.strs X] at cvZ
  have hsz : (strOfNums X).size + 8 ≤ 9223372036854775807 := by have := XL.out; rw [colonnadelaw06_CheckKept.strs_size]; omega
  have hne : (((strOfNums X) ++ (⟨#[77, 78, 79, 80, 81, 82, 83, 84]⟩ : ByteArray)).toList != ((strOfNums X) ++ (⟨#[77, 78, 79, 80, 81, 82, 83, 84]⟩ : ByteArray)).toList) = false := bne_self_eq_false _
  generalize strOfNums X = sX at cvZ cvX hsz hne
  clear hZC hXC
  go_wp2_with fail
  go_quiet (fail)
  clear cvZ cvX cut0 hsz hne nS nM nH
  have hz := HZ.out.then_ (pw_below_drewN (Below.refl _ _) nq)
  generalize w16.drewN nq = w20 at hz ⊢
  clear HZ
  have HZ := Aside0.mk hz
  clear hz
  go_wp2_with fail
  refine (colonnadelaw06_CheckKept.sum _ _ _ n X SX XL.out (HZ.out.z.front XL.out (by omega)) (by omega) FSX.out).mono ?_
  rintro e w21 ⟨rfl, hb⟩
  have HZ' := Aside0.mk (HZ.out.then_ hb)
  clear HZ hb
  have HZ := Aside0.mk HZ'.out
  clear HZ'
  go_wp2_with fail
  refine (colonnadelaw06_CheckKept.more _ 5 _ _ n X MX XL.out (HZ.out.z.front XL.out (by omega)) (by omega) FMX.out).mono ?_
  rintro e w22 ⟨rfl, hb⟩
  have HZ' := Aside0.mk (HZ.out.then_ hb)
  clear HZ hb
  have HZ := Aside0.mk HZ'.out
  clear HZ'
  go_wp2_with fail
  refine (colonnadelaw06_CheckKept.hash k _ _ _ n X hx0 XL.out (HZ.out.z.front XL.out (by omega)) (by omega) H0.out).mono ?_
  rintro e w23 ⟨rfl, hb⟩
  have HZ' := Aside0.mk (HZ.out.then_ hb)
  clear HZ hb
  have HZ := Aside0.mk HZ'.out
  clear HZ'
  go_wp2_with fail
  (try simp only [add_plain])
  go_loopg [14] (n + 1) (fun kq v14 w' => ∃ i : Nat, i ≤ n ∧ Aside0 (kq + i = n + 1) ∧ v14 = .int .i64 (i : Int) ∧ Aside0 (colonnadelaw06_CheckKept.B1 w w' G (n + 8) cap (Y.take i ++ X.drop i ++ colonnadelaw06_CheckKept.M8) g SX q1))
  case atStart => exact ⟨0, by omega, ⟨by omega⟩, rfl, by rw [List.take_zero, List.drop_zero, List.nil_append]; exact HZ⟩
  case round =>
    clear HZ
    obtain ⟨i, hi, HK, rfl, HZ⟩ := hrel
    by_cases hlt : i < n
    · have hd : decide ((i : Int) < (n : Int)) = true := decide_eq_true (by omega)
      have hd' : decide (i < n) = true := decide_eq_true hlt
      obtain ⟨k1, rfl⟩ : ∃ k1, gk = k1 + 1 := ⟨gk - 1, by have := HK.out; omega⟩
      obtain ⟨ad, e1, hx⟩ := Kd.at_int (Kd.C_below HR1.out HZ.out.z.below) (i : Int) (by omega) (by omega)
      rw [Int.toNat_natCast] at hx
      obtain ⟨hc, hf⟩ := own_at HZ.out.z.own (i : Int) (by omega) (by omega)
      rw [Int.toNat_natCast] at hc hf
      have hst := HZ.out.store hlt XL.out YL.out (rd l1 (i : Int)) (colonnadelaw06_CheckKept.rd_take HY1.out hlt)
      have HZ' := Aside0.mk hst
      clear HZ hst
      subst e1
      go_wp2_with fail
      go_roundg k1
      case measure => have := HK.out; omega
      case rel => exact ⟨i + 1, by omega, ⟨by have := HK.out; omega⟩, congrArg (Value.int .i64) (by omega), HZ'⟩
    · obtain rfl : i = n := by omega
      have hd : decide ((i : Int) < (i : Int)) = false := decide_eq_false (by omega)
      have hd' : decide (i < i) = false := decide_eq_false (by omega)
      rw [show Y.take i = Y from by rw [← YL.out, List.take_length], show X.drop i = [] from by rw [← XL.out, List.drop_length], List.append_nil] at HZ
      clear HK hlt hi
      have nS : (SY != SY) = false := bne_self_eq_false SY
      have nM : (MY != MY) = false := bne_self_eq_false MY
      have nH : (hx1 != hx1) = false := bne_self_eq_false hx1
      have eT : (TY == TY) = true := beq_self_eq_true TY
      go_wp2_with fail
      clear hd hd'
      refine (colonnadelaw06_CheckKept.twin _ A1 c1 i Y YL.out (Kd.C_below CY.out HZ.out.z.below) (by omega) (by omega)).mono ?_
      rintro e w31 ⟨A16, c16, rfl, hc16, hR, hC, hb⟩
      have hfar : ∀ ad, A16 = some ad → 0 < i → ad.block ≠ g := fun ad e1 _ e2 => by
        have h1 := Kd.R_base hR ad.block (by rw [e1]; rfl)
        have h2 := blk_lt HZ.out.i.1
        omega
      have HF := Aside0.mk hfar
      clear hfar hR
      have HC := Aside0.mk hC
      clear hC
      have HZ' := Aside0.mk (HZ.out.then_ hb)
      clear HZ hb
      have HZ := Aside0.mk HZ'.out
      clear HZ'
      go_wp2_with fail
      have HC1 := Aside0.mk HC.out
      clear HC
      refine (colonnadelaw06_CheckKept.sum _ _ _ i Y SY YL.out (HZ.out.z.front YL.out (by omega)) (by omega) FSY.out).mono ?_
      rintro e w32 ⟨rfl, hb⟩
      have HC2 := Aside0.mk (Kd.C_below HC1.out hb)
      clear HC1
      have HZ' := Aside0.mk (HZ.out.then_ hb)
      clear HZ hb
      have HZ := Aside0.mk HZ'.out
      clear HZ'
      go_wp2_with fail
      refine (colonnadelaw06_CheckKept.sum _ _ _ i Y SY YL.out HC2.out hc16 FSY.out).mono ?_
      rintro e w33 ⟨rfl, hb⟩
      have HC1 := Aside0.mk (Kd.C_below HC2.out hb)
      clear HC2
      have HZ' := Aside0.mk (HZ.out.then_ hb)
      clear HZ hb
      have HZ := Aside0.mk HZ'.out
      clear HZ'
      go_wp2_with fail
      refine (colonnadelaw06_CheckKept.more _ 5 _ _ i Y MY YL.out (HZ.out.z.front YL.out (by omega)) (by omega) FMY.out).mono ?_
      rintro e w34 ⟨rfl, hb⟩
      have HC2 := Aside0.mk (Kd.C_below HC1.out hb)
      clear HC1
      have HZ' := Aside0.mk (HZ.out.then_ hb)
      clear HZ hb
      have HZ := Aside0.mk HZ'.out
      clear HZ'
      go_wp2_with fail
      refine (colonnadelaw06_CheckKept.more _ 5 _ _ i Y MY YL.out HC2.out hc16 FMY.out).mono ?_
      rintro e w35 ⟨rfl, hb⟩
      have HC1 := Aside0.mk (Kd.C_below HC2.out hb)
      clear HC2
      have HZ' := Aside0.mk (HZ.out.then_ hb)
      clear HZ hb
      have HZ := Aside0.mk HZ'.out
      clear HZ'
      go_wp2_with fail
      refine (colonnadelaw06_CheckKept.hash k _ _ _ i Y hx1 YL.out (HZ.out.z.front YL.out (by omega)) (by omega) H1.out).mono ?_
      rintro e w36 ⟨rfl, hb⟩
      have HC2 := Aside0.mk (Kd.C_below HC1.out hb)
      clear HC1
      have HZ' := Aside0.mk (HZ.out.then_ hb)
      clear HZ hb
      have HZ := Aside0.mk HZ'.out
      clear HZ'
      go_wp2_with fail
      refine (colonnadelaw06_CheckKept.hash k _ _ _ i Y hx1 YL.out HC2.out hc16 H1.out).mono ?_
      rintro e w37 ⟨rfl, hb⟩
      have HC1 := Aside0.mk (Kd.C_below HC2.out hb)
      clear HC2
      have HZ' := Aside0.mk (HZ.out.then_ hb)
      clear HZ hb
      have HZ := Aside0.mk HZ'.out
      clear HZ'
      go_wp2_with fail
      refine (colonnadelaw06_CheckKept.write w _ G (i + 8) cap i g Y colonnadelaw06_CheckKept.M8 SX q1 TY q2 HZ.out YL.out (by omega) (by omega) FW2.out).mono ?_
      rintro e w38 ⟨rfl, hz, hK⟩
      have HZ' := Aside0.mk hz
      clear HZ hz
      have HZ := Aside0.mk HZ'.out
      clear HZ'
      have HC2 := Aside0.mk (Kd.C_foot_ne (fun h => h) HC1.out HF.out w38 hK)
      clear HC1 hK
      go_wp2_with fail
      refine (colonnadelaw06_CheckKept.ssum w _ G (i + 8) cap g _ TY q2 HZ.out).mono ?_
      rintro e w40 ⟨rfl, hz, hK⟩
      have HC3 := Aside0.mk (Kd.C_foot_ne (fun h => h) HC2.out HF.out w40 hK)
      clear HZ HC2 hK
      have HZ := Aside0.mk hz
      clear hz
      go_wp2_with fail
      refine (colonnadelaw06_CheckKept.more _ SX _ _ i Y TY YL.out HC3.out hc16 FTY.out).mono ?_
      rintro e w41 ⟨rfl, hb⟩
      have HB41 := Aside0.mk (below_then HZ.out.z.below HZ.out.z.below.size hb)
      clear HZ hb HC3
      go_wp2_with fail
      refine (colonnadelaw06_known.calls true w41 rfl).mono ?_
      rintro e w42 ⟨rfl, hb⟩
      have HB42 := Aside0.mk (below_then HB41.out HB41.out.size hb)
      clear HB41 hb
      go_wp2_with fail
      refine (colonnadelaw06_apart.calls a2 true w42 HA.out).mono ?_
      rintro e w43 ⟨rfl, hb⟩
      have HB43 := Aside0.mk (below_then HB42.out HB42.out.size hb)
      clear HB42 hb
      go_wp2_with fail
      go_ret
      exact ⟨rfl, HB43.out⟩
open Classical in
noncomputable def colonnadelaw06_CheckKept.f (k : Nat) (l0 : List Int) (l1 : List Int) (a2 : Int) : Option Bool :=
  if (∃ hx0, check_Hash.f k (l0.take (min l0.length l1.length)) = some hx0) ∧ (∃ hx1, check_Hash.f k (l1.take (min l0.length l1.length)) = some hx1) ∧ colonnadelaw06_apart.f a2 = some true ∧ (∀ x ∈ l0, 0 ≤ x ∧ x < 256) ∧ (∀ x ∈ l1, 0 ≤ x ∧ x < 256) ∧ l0.length ≤ 140737488351232 ∧ l1.length ≤ 140737488351232 then some true else none
theorem colonnadelaw06_CheckKept.calls (k : Nat) (A0 : Option Addr) (c0 : Nat) (l0 : List Int) (A1 : Option Addr) (c1 : Nat) (l1 : List Int) (a2 : Int) (r : Bool) (w : World)
    (hr0 : Kd.C (Kd.int .u8) w A0 l0.length l0) (hc0 : l0.length ≤ c0) (hr1 : Kd.C (Kd.int .u8) w A1 l1.length l1) (hc1 : l1.length ≤ c1) (h : colonnadelaw06_CheckKept.f k l0 l1 a2 = some r) :
    Calls Try.prog 11 #[.slice A0 l0.length c0, .slice A1 l1.length c1, .int .u64 a2] w fun e w' => e = .returned (.bool r) ∧ Below w.heap.size w w' := by
  unfold colonnadelaw06_CheckKept.f at h
  split at h
  · rename_i hc
    obtain rfl := Option.some.inj h
    obtain ⟨⟨x0, e0⟩, ⟨x1, e1⟩, e2, e3, e4, e5, e6⟩ := hc
    exact colonnadelaw06_CheckKept.ck k A0 c0 l0 A1 c1 l1 a2 w hr0 hc0 hr1 hc1 _ rfl x0 x1 e0 e1 e2 e3 e4 e5 e6
  · cases h

end Go.Proofs.Ytkepimkabfoapaa.PCheckKept
