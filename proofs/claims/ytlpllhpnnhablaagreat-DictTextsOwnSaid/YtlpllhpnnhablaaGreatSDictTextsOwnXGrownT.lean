/- Chapter 09: lists that came in are written full, grown place by place, read: written by gen_apart.py. -/
import Derived.Test.YtlpllhpnnhablaaGreatProg
import Derived.Test.YtlpllhpnnhablaaGreatSDictTextsOwnWMore
import Derived.Test.YtlpllhpnnhablaaGreatSDictTextsOwnWLast
import Derived.Test.YtlpllhpnnhablaaGreatSDictTextsOwnWFoot
import Derived.Test.YtlpllhpnnhablaaGreatSDictTextsOwnXApartW
import Derived.WalkKit
import Derived.Deep.RegionHeld3
import Derived.Deep.RegionWith
import Derived.WalkSpells
namespace Go.Proofs.YtlpllhpnnhablaaGreat.XGrownT
open Go.RowKit Go.Proofs.YtlpllhpnnhablaaGreatW.PrintWords Go.Proofs.YtlpllhpnnhablaaGreatW.PrintLast Go.Proofs.YtlpllhpnnhablaaGreatW.PrintMore
set_option linter.unusedVariables false
set_option linter.unusedSimpArgs false
def grownTexts.ch (i : Nat) : ByteArray := strOfNums [65 + (i : Int)]
theorem grownTexts.ch_size (i : Nat) : (grownTexts.ch i).size = 1 := by unfold grownTexts.ch; rw [strOfNums_size]; rfl
def grownTexts.txt (b : Bool) (i : Nat) : ByteArray := bif b then (⟨#[105, 110]⟩ : ByteArray) ++ grownTexts.ch i else (⟨#[98, 101, 104, 105, 110, 100]⟩ : ByteArray) ++ grownTexts.ch i
theorem grownTexts.lit_C (W : World) (e : TypeId) (fr : Nat × Nat) (l : List Int) (hl : l.length ≤ 9223372036854775807) :
    Kd.C (Kd.int .u8) (W.alloc (.cells (l.map (Value.int .u8)).toArray e fr)) (some ⟨W.heap.size, 0, none⟩) l.length l := by
  refine Kd.C_of_reads (h1 := fun _ => rfl) (d := 0) ⟨rfl, hl, fun _ => ⟨_, rfl, fun j hj => ?_⟩⟩
  rw [add_plain, World.cell?_alloc_mark]
  simp [List.getD_eq_getElem?_getD, hj]
theorem grownTexts.conv (W : World) (i : Nat) : (convert 26 9 (.slice (some ⟨W.heap.size, 0, none⟩) 1 1)).run Tryz.prog (W.alloc (.cells #[.int .u8 (65 + (i : Int))] 5)) = .ok (.string (grownTexts.ch i)) (W.alloc (.cells #[.int .u8 (65 + (i : Int))] 5)) :=
  Kd.C_string (P := Tryz.prog) Tryz.underlying26 Tryz.underlying5 Tryz.underlying9 (grownTexts.lit_C W 5 (0, 0) [65 + (i : Int)] (by simp))
theorem grownTexts.markC (i : Nat) (b : Bool) (hi : i ≤ 64) (W : World) : Calls Tryz.prog 47 #[.int .i64 (i : Int), .bool b] W fun e W' => e = .returned (.string (grownTexts.txt b i)) ∧ Below W.heap.size W W' := by
  have hcv := fun w => grownTexts.conv w i
  have hsz := grownTexts.ch_size i
  have hw2 : IntKind.u8.wrap (65 + (i : Int)) = 65 + (i : Int) := by rw [IntKind.wrap_u8]; omega
  have hw3 : IntKind.i64.wrap (65 + (i : Int)) = 65 + (i : Int) := by rw [i64_w]; unfold wrap64; omega
  have h1 : (9223372036854775807 < 2 + (grownTexts.ch i).size) = False := eq_false (by omega)
  have h2 : (9223372036854775807 < 6 + (grownTexts.ch i).size) = False := eq_false (by omega)
  have h3 : (i : Int) ≤ 64 := by omega
  cases b
  · go_enter Tryz.func47, Tryz.ntmps47
    go_wp2_with fail
    go_ret
    exact ⟨rfl, below_alloc (Below.refl _ _) _⟩
  · go_enter Tryz.func47, Tryz.ntmps47
    go_wp2_with fail
    go_ret
    exact ⟨rfl, below_alloc (Below.refl _ _) _⟩
theorem grownTexts.gb {w w' : World} (hb : Below w.heap.size w w') : w.grownBy w' none := ⟨hb.os, hb.tape, hb.output, hb.size, fun k hk _ => hb.block k hk⟩
theorem grownTexts.fdrew {own : Nat → Value} {ns cs : Nat → Nat} {gs : Nat → Option Nat} {W0 eT i k : Nat} {w0 w : World} (h : XApartW.Fill own ns cs gs W0 eT w0 w i k) (hS : XApartW.Static ns cs gs W0) : XApartW.Fill own ns cs gs W0 eT w0 w.drew i k :=
  h.move hS (w' := w.drew) ⟨rfl, rfl, rfl, Nat.le_refl _, fun _ _ _ => rfl⟩
theorem grownTexts.butfor {gs : Nat → Option Nat} {W0 : Nat} {w w1 w2 : World} (h : XApartW.ButFor gs W0 w w1) (hW : W0 ≤ w1.heap.size) (hb : Below w1.heap.size w1 w2) : XApartW.ButFor gs W0 w w2 :=
  h.grown hW (row := none) (grownTexts.gb hb) (by simp)
def grownTexts.own (i : Nat) : Value := .string (grownTexts.txt true i)
def grownTexts.mark (i : Nat) : Value := .string (grownTexts.txt false i)
theorem grownTexts.infoT : (Tryz.prog.info? 9).map (fun i => (i.zero, i.size, i.bytes)) = some (some (.string ByteArray.empty), 1, 16) := by kernel_rfl
theorem grownTexts.infoS : (Tryz.prog.info? 23).map (fun i => (i.zero, i.size, i.bytes)) = some (some (.slice none 0 0), 1, 24) := by kernel_rfl
theorem grownTexts.infoI : (Tryz.prog.info? 3).map (fun i => (i.zero, i.size, i.bytes)) = some (some (.int .i64 0), 1, 8) := by kernel_rfl
set_option maxHeartbeats 4000000 in
set_option maxRecDepth 100000 in
theorem grownTexts.calls (w : World) (G c : Nat) (vs : List Value) (h : XApartW.Pre 9 23 1099511627776 w G vs) :
    Calls Tryz.prog 18 #[.slice (some ⟨G, 0, none⟩) vs.length c] w fun e w' => e = .returned (.bool true) ∧ XApartW.ButFor (XApartW.gsOf vs) w.heap.size w w' := by
  obtain ⟨hS, hF, hj, hM, hP, hcell⟩ := h.facts
  have hpos := h.pos
  have hfew := h.few
  have HF := Aside0.mk (hF grownTexts.own)
  clear h hF
  generalize XApartW.nsOf vs = ns at hS HF hM hP hcell ⊢
  generalize XApartW.csOf vs = cs at hS HF hcell ⊢
  generalize XApartW.gsOf vs = gs at hS HF hj hP hcell ⊢
  generalize vs.length = N at hj hcell hpos hfew ⊢
  have HS := Aside0.mk hS
  have HJ := Aside0.mk hj
  have HM := Aside0.mk hM
  have HP := Aside0.mk hP
  have HC := Aside0.mk hcell
  clear hS hj hM hP hcell
  go_enter Tryz.func18, Tryz.ntmps18
  go_wp2_with fail
  go_loopg [3] (N + 1) (fun kq v3 w' => ∃ i : Nat, i ≤ N ∧ Aside0 (kq + i = N + 1) ∧ v3 = .int .i64 (i : Int) ∧ Aside0 (XApartW.Fill grownTexts.own ns cs gs w.heap.size 9 w w' i 0))
  case atStart => exact ⟨0, by omega, ⟨rfl⟩, rfl, HF⟩
  case round =>
    clear HF
    obtain ⟨i, hi, HK, rfl, HF⟩ := hrel
    by_cases hlt : i < N
    · have hd : decide ((i : Int) < (N : Int)) = true := decide_eq_true (by omega)
      obtain ⟨k1, rfl⟩ : ∃ k1, gk = k1 + 1 := ⟨gk - 1, by have := HK.out; omega⟩
      have hMi := HM.out i
      go_wp2_with fail
      go_loopg [4] (ns i + 1) (fun kq v4 w' => ∃ k : Nat, k ≤ ns i ∧ Aside0 (kq + k = ns i + 1) ∧ v4 = .int .i64 (k : Int) ∧ Aside0 (XApartW.Fill grownTexts.own ns cs gs w.heap.size 9 w w' i k))
      case atStart => exact ⟨0, by omega, ⟨rfl⟩, rfl, HF⟩
      case round =>
        clear HF
        obtain ⟨k, hk, HK2, rfl, HF⟩ := hrel
        have hx := HC.out wr HF.out.but i hlt
        by_cases hk5 : k < ns i
        · have hd2 : decide ((k : Int) < (ns i : Int)) = true := decide_eq_true (by omega)
          obtain ⟨k2, rfl⟩ : ∃ k2, gk = k2 + 1 := ⟨gk - 1, by have := HK2.out; omega⟩
          obtain ⟨g, hg⟩ := HP.out i (by omega)
          have HG := Aside0.mk hg
          rw [hg] at hx
          simp only [Option.map_some] at hx
          clear hg
          obtain ⟨⟨x, hxc⟩, hxf⟩ := HF.out.cell HS.out HG.out (t := k) hk5
          go_wp2_with fail
          have hi64 : i ≤ 64 := by omega
          refine wp_region_held_drew (S := (fun w' => w'.cell? ⟨G, i, none⟩ = some (.slice (some ⟨g, 0, none⟩) (ns i) (cs i)))) (by kernel_rfl) (hx) (fun hHeld => ?_)
          refine wpAnyH_take (i := 0) (oi := ⟨some 29, _, _, _, _, _⟩) (v := ?v_1) rfl (by kernel_rfl) (by kernel_rfl) (by kernel_rfl) (fun _ _ _ h => h) (Or.inl ⟨by rfl, ?y_1⟩) (by assumption) ?n_1
          case y_1 => (intro w_ hSw; (try dsimp only at hSw); go_simp; try (with_reducible rfl))
          try simp only [Act.put, List.setIfInBounds_toArray, List.set_cons_zero, List.set_cons_succ]
          refine wpAnyH_take (i := 1) (oi := ⟨some 30, _, _, _, _, _⟩) (v := ?v_2) rfl (by kernel_rfl) (by kernel_rfl) (by kernel_rfl) (fun _ _ _ h => h) (Or.inl ⟨by rfl, ?y_2⟩) (by assumption) ?n_2
          case y_2 => (intro w_ hSw; (try dsimp only at hSw); go_simp; try (with_reducible rfl))
          try simp only [Act.put, List.setIfInBounds_toArray, List.set_cons_zero, List.set_cons_succ]
          refine wpAnyH_take (i := 2) (oi := ⟨some 31, _, _, _, _, _⟩) (v := ?v_3) rfl (by kernel_rfl) (by kernel_rfl) (by kernel_rfl) (fun _ _ _ h => h) (Or.inl ⟨by rfl, ?y_3⟩) (by assumption) ?n_3
          case y_3 => (intro w_ hSw; (try dsimp only at hSw); go_simp; try (with_reducible rfl))
          try simp only [Act.put, List.setIfInBounds_toArray, List.set_cons_zero, List.set_cons_succ]
          refine wpAnyH_take (i := 3) (oi := ⟨some 32, _, _, _, _, _⟩) (v := ?v_4) rfl (by kernel_rfl) (by kernel_rfl) (by kernel_rfl) (fun _ _ _ h => h) (Or.inl ⟨by rfl, ?y_4⟩) (by assumption) ?n_4
          case y_4 => (intro w_ hSw; (try dsimp only at hSw); go_simp; try (with_reducible rfl))
          try simp only [Act.put, List.setIfInBounds_toArray, List.set_cons_zero, List.set_cons_succ]
          refine wpAnyH_take (i := 4) (oi := ⟨some 33, _, _, _, _, _⟩) (v := ?v_5) rfl (by kernel_rfl) (by kernel_rfl) (by kernel_rfl) (fun _ _ _ h => h) (Or.inl ⟨by rfl, ?y_5⟩) (by assumption) ?n_5
          case y_5 => (intro w_ hSw; (try dsimp only at hSw); go_simp; try (with_reducible rfl))
          try simp only [Act.put, List.setIfInBounds_toArray, List.set_cons_zero, List.set_cons_succ]
          refine wpAnyH_take (i := 5) (oi := ⟨some 34, _, _, _, _, _⟩) (v := ?v_6) rfl (by kernel_rfl) (by kernel_rfl) (by kernel_rfl) (fun _ _ _ h => h) (Or.inl ⟨by rfl, ?y_6⟩) (by assumption) ?n_6
          case y_6 => (intro w_ hSw; (try dsimp only at hSw); go_simp; try (with_reducible rfl))
          try simp only [Act.put, List.setIfInBounds_toArray, List.set_cons_zero, List.set_cons_succ]
          refine wpAnyH_ready (rs := [6]) (by kernel_rfl) (by simp) ?_
          refine AllReadyH.cons (o := ⟨some 35, _, _, _, _, _⟩) rfl (fun K_ hK_ => ?_) AllReadyH.nil
          go_simp
          refine (grownTexts.markC i true hi64 _).mono ?_
          rintro e w1 ⟨rfl, hb⟩
          have hx1 := (hb.cell (World.block_lt_of_cell? _ _ hx)).trans hx
          have HF1 := Aside0.mk ((grownTexts.fdrew HF.out HS.out).move HS.out (grownTexts.gb hb))
          obtain ⟨⟨x1, hxc1⟩, hxf1⟩ := HF1.out.cell HS.out HG.out (t := k) hk5
          clear hb hx hxc hxf HF
          refine hK_.out _ _ (hx1) (fun hHeld => ?_)
          clear hK_ K_
          try simp only [Act.put, List.setIfInBounds_toArray, List.set_cons_zero, List.set_cons_succ]
          refine wpAnyH_take (i := 7) (oi := ⟨some 36, _, _, _, _, _⟩) (v := ?v_7) rfl (by kernel_rfl) (by kernel_rfl) (by kernel_rfl) (fun _ _ _ h => h) (Or.inl ⟨by rfl, ?y_7⟩) (by assumption) ?n_7
          case y_7 => (intro w_ hSw; (try dsimp only at hSw); go_simp; try (with_reducible rfl))
          try simp only [Act.put, List.setIfInBounds_toArray, List.set_cons_zero, List.set_cons_succ]
          refine wpAnyH_ready (rs := [8]) (by kernel_rfl) (by simp) ?_
          refine AllReadyH.cons (o := ⟨none, _, _, _, _, _⟩) rfl (fun K_ hK_ => ?_) AllReadyH.nil
          go_simp
          have HF2 := Aside0.mk (HF1.out.store HS.out HG.out hk5)
          have hx2 := HC.out _ HF2.out.but i hlt
          rw [HG.out] at hx2
          simp only [Option.map_some] at hx2
          refine hK_.out _ _ (hx2) (fun hHeld => ?_)
          clear hK_ K_
          try simp only [Act.put, List.setIfInBounds_toArray, List.set_cons_zero, List.set_cons_succ]
          refine wpAnyH_done (by kernel_rfl) ?_ _
          clear hx1 hx2 hxc1 hxf1
          go_wp2_with fail
          go_roundg k2
          case measure => have := HK2.out; omega
          case rel => exact ⟨k + 1, by omega, ⟨by have := HK2.out; omega⟩, congrArg (Value.int .i64) (by omega), HF2⟩
        · obtain rfl : k = ns i := by omega
          have hd2 : decide ((ns i : Int) < (ns i : Int)) = false := decide_eq_false (by omega)
          have HF' := Aside0.mk (HF.out.next (Nat.le_refl _))
          clear HF
          go_wp2_with fail
          go_roundg k1
          case measure => have := HK.out; omega
          case rel => exact ⟨i + 1, by omega, ⟨by have := HK.out; omega⟩, congrArg (Value.int .i64) (by omega), HF'⟩
    · obtain rfl : i = N := by omega
      have hd : decide ((i : Int) < (i : Int)) = false := decide_eq_false (by omega)
      have HT0 := Aside0.mk (XApartW.St.start (mark := grownTexts.mark) (N := i) (eS := 23) (eI := 3) HF.out HS.out (fun j g hg => HJ.out j g hg) hpos)
      clear HF hlt hi
      obtain ⟨N, rfl⟩ : ∃ N, N = i := ⟨i, rfl⟩
      go_wp2_with fail
      clear hd HK
      go_loopg [5, 6, 7] (N + 1) (fun kq v5 v6 v7 w' => ∃ (i : Nat) (L : List XApartW.Rec), i ≤ N ∧ Aside0 (kq + i = N + 1) ∧ v7 = .int .i64 (i : Int) ∧ Aside0 (L.length ≤ 70 * i) ∧ Aside0 (XApartW.St grownTexts.own grownTexts.mark ns cs gs N w.heap.size 9 23 3 w w' i 0 (XApartW.sv ns cs gs i) v5 v6 L L))
      case atStart => exact ⟨0, [], by omega, ⟨rfl⟩, rfl, ⟨Nat.zero_le _⟩, HT0⟩
      case round =>
        clear HT0
        obtain ⟨i, L, hi, HK, rfl, HLn, HT⟩ := hrel
        by_cases hlt : i < N
        · have hx := HC.out wr HT.out.inv.but i hlt
          rw [show XApartW.sv ns cs gs i = .slice ((gs i).map fun g => ⟨g, 0, none⟩) (ns i) (cs i) from rfl] at HT
          have hd : decide ((i : Int) < (N : Int)) = true := decide_eq_true (by omega)
          obtain ⟨k1, rfl⟩ : ∃ k1, gk = k1 + 1 := ⟨gk - 1, by have := HK.out; omega⟩
          have hMi := HM.out i
          go_wp2_with fail
          clear hx
          go_loopg [5, 6, 8, 9] 71 (fun kq v5 v6 v8 v9 w' => ∃ (k : Nat) (L : List XApartW.Rec), k ≤ 70 ∧ Aside0 (kq + k = 71) ∧ v9 = .int .i64 (k : Int) ∧ Aside0 (L.length ≤ 70 * i + k) ∧ Aside0 (XApartW.St grownTexts.own grownTexts.mark ns cs gs N w.heap.size 9 23 3 w w' i k v8 v5 v6 L L))
          case atStart => exact ⟨0, L, by omega, ⟨rfl⟩, rfl, HLn, HT⟩
          case round =>
            clear HT HLn
            obtain ⟨k, L, hk, HK2, rfl, HLn, HT⟩ := hrel
            by_cases hk7 : k < 70
            · have hd2 : decide ((k : Int) < 70) = true := decide_eq_true (by omega)
              obtain ⟨k2, rfl⟩ : ∃ k2, gk = k2 + 1 := ⟨gk - 1, by have := HK2.out; omega⟩
              have hi64 : i ≤ 64 := by omega
              have hLs : L.length ≤ 10000 := by have := HLn.out; omega
              have hcase : decide ((k : Int) < 16) = true ∨ (decide ((k : Int) < 16) = false ∧ ((k : Int) == 69) = true) ∨ (decide ((k : Int) < 16) = false ∧ ((k : Int) == 69) = false) := by
                by_cases c : k < 16
                · exact .inl (decide_eq_true (by omega))
                · by_cases c2 : k = 69
                  · exact .inr (.inl ⟨decide_eq_false (by omega), beq_iff_eq.mpr (by omega)⟩)
                  · exact .inr (.inr ⟨decide_eq_false (by omega), beq_eq_false_iff_ne.mpr (by omega)⟩)
              rcases hcase with c1 | ⟨c1, c2⟩ | ⟨c1, c2⟩
              iterate 2
                · go_wp2_with (first | (go_at_call 47; refine (grownTexts.markC i false hi64 _).mono ?_; rintro e w1 ⟨rfl, hb⟩; have HTm := Aside0.mk (HT.out.move (grownTexts.gb hb)); clear hb) | ((with_reducible refine gate_builtin (b := .append) (xs := #[.tmp 51, .tmp 54]) rfl ?_); at_builtin; refine XApartW.wpList_append_keep 0 rfl (.tmp 51) (.tmp 54) 23 9 (.string ByteArray.empty) 16 rfl Tryz.underlying23 grownTexts.infoT rfl u8 (ns i + k) (XApartW.form grownTexts.own grownTexts.mark ns i k) _ _ (grownTexts.mark i) rfl rfl (HTm.out.alloc _).ou (XApartW.new_cell _ _ _ _) rfl (by simp only [maxLen]; omega) (by omega) (Nat.zero_le _) ?_; intro g2 cap2 w2 ho hg hp; have HT2 := Aside0.mk ((HTm.out.alloc _).grow HS.out ho hg hp); clear ho hg hp) | ((with_reducible refine gate_builtin (b := .append) (xs := #[.tmp 62, .tmp 64]) rfl ?_); at_builtin; refine XApartW.wpList_append_keep w.heap.size rfl (.tmp 62) (.tmp 64) 48 23 (.slice none 0 0) 24 rfl Tryz.underlying48 grownTexts.infoS rfl u5 L.length (L.map XApartW.Rec.val) _ _ (.slice (some ⟨g2, 0, none⟩) (ns i + k + 1) cap2) rfl rfl (HT2.out.alloc _).om (XApartW.new_cell _ _ _ _) rfl (by simp only [maxLen]; omega) (by omega) (HT2.out.alloc _).inv.size ?_; intro m3 cm3 w3 ho hg hp; have HT3 := Aside0.mk ((HT2.out.alloc _).keepM HS.out hlt ho hg hp); clear ho hg hp) | ((with_reducible refine gate_builtin (b := .append) (xs := #[.tmp 66, .tmp 68]) rfl ?_); at_builtin; refine XApartW.wpList_append_keep w.heap.size rfl (.tmp 66) (.tmp 68) 86 3 (.int .i64 0) 8 rfl Tryz.underlying86 grownTexts.infoI rfl u6 L.length (L.map fun r => .int .i64 (r.i : Int)) _ _ (.int .i64 (i : Int)) rfl rfl (HT3.out.alloc _).oh (XApartW.new_cell _ _ _ _) rfl (by simp only [maxLen]; omega) (by omega) (HT3.out.alloc _).inv.size ?_; intro m4 cm4 w4 ho hg hp; have HT4 := Aside0.mk ((HT3.out.alloc _).keepH (r := ⟨g2, ns i + (k + 1), cap2, i⟩) HS.out rfl ho hg hp); clear ho hg hp))
                  go_roundg k2
                  case measure => have := HK2.out; omega
                  case rel => exact ⟨k + 1, L ++ [⟨g2, ns i + (k + 1), cap2, i⟩], by omega, ⟨by have := HK2.out; omega⟩, congrArg (Value.int .i64) (by omega), ⟨by have := HLn.out; simp only [List.length_append, List.length_cons, List.length_nil]; omega⟩, HT4⟩
              · go_wp2_with (first | (go_at_call 47; refine (grownTexts.markC i false hi64 _).mono ?_; rintro e w1 ⟨rfl, hb⟩; have HTm := Aside0.mk (HT.out.move (grownTexts.gb hb)); clear hb) | ((with_reducible refine gate_builtin (b := .append) (xs := #[.tmp 51, .tmp 54]) rfl ?_); at_builtin; refine XApartW.wpList_append_keep 0 rfl (.tmp 51) (.tmp 54) 23 9 (.string ByteArray.empty) 16 rfl Tryz.underlying23 grownTexts.infoT rfl u8 (ns i + k) (XApartW.form grownTexts.own grownTexts.mark ns i k) _ _ (grownTexts.mark i) rfl rfl (HTm.out.alloc _).ou (XApartW.new_cell _ _ _ _) rfl (by simp only [maxLen]; omega) (by omega) (Nat.zero_le _) ?_; intro g2 cap2 w2 ho hg hp; have HT2 := Aside0.mk ((HTm.out.alloc _).grow HS.out ho hg hp); clear ho hg hp))
                go_roundg k2
                case measure => have := HK2.out; omega
                case rel => exact ⟨k + 1, L, by omega, ⟨by have := HK2.out; omega⟩, congrArg (Value.int .i64) (by omega), ⟨by have := HLn.out; omega⟩, HT2⟩
            · obtain rfl : k = 70 := by omega
              have hd2 : decide (((70 : Nat) : Int) < 70) = false := by decide
              have HT' := Aside0.mk (HT.out.next HS.out)
              clear HT
              go_wp2_with fail
              go_roundg k1
              case measure => have := HK.out; omega
              case rel => exact ⟨i + 1, L, by omega, ⟨by have := HK.out; omega⟩, congrArg (Value.int .i64) (by omega), ⟨by have := HLn.out; omega⟩, HT'⟩
        · obtain rfl : i = N := by omega
          have hd : decide ((i : Int) < (i : Int)) = false := decide_eq_false (by omega)
          clear HK hlt hi
          obtain ⟨N, rfl⟩ : ∃ N, N = i := ⟨i, rfl⟩
          obtain ⟨wF, rfl⟩ : ∃ wF : World, wF = wr := ⟨_, rfl⟩
          obtain ⟨Am, cm, em⟩ : ∃ Am cm, u5 = .slice Am L.length cm := XApartW.ownW_slice HT.out.om
          obtain ⟨Ah, ch, eh⟩ : ∃ Ah ch, u6 = .slice Ah L.length ch := XApartW.ownW_slice HT.out.oh
          subst em eh
          go_wp2_with fail
          clear hd
          go_loopg [10] (L.length + 1) (fun kq v w' => ∃ j : Nat, j ≤ L.length ∧ Aside0 (kq + j = L.length + 1) ∧ v = .int .i64 (j : Int) ∧ Aside0 (Below wF.heap.size wF w'))
          case atStart => exact ⟨0, by omega, ⟨by omega⟩, rfl, ⟨Below.refl _ _⟩⟩
          case round =>
            obtain ⟨j, hjL, HKj, rfl, HBj⟩ := hrel
            have hL := HLn.out
            by_cases hlt : j < L.length
            · have hd : decide ((j : Int) < (L.length : Int)) = true := decide_eq_true (by omega)
              obtain ⟨k1, rfl⟩ : ∃ k1, gk = k1 + 1 := ⟨gk - 1, by have := HKj.out; omega⟩
              obtain ⟨m, cm', hh, ch', g, len, c, i, e1, e2, hx1, hx2, hi, hnl, hlen, hcells⟩ := HT.out.read j hlt
              cases e1
              cases e2
              have HCE := Aside0.mk hcells
              have HNL := Aside0.mk hnl
              have hx3 := HC.out wF HT.out.inv.but i hi
              have HB' := Aside0.mk (fun g' (hg' : gs i = some g') => (HT.out.inv.base i g' hg').cell)
              have hMi := HM.out i
              have hi64 : i ≤ 64 := by omega
              have HX1 := Aside0.mk hx1
              have HX2 := Aside0.mk hx2
              have HX3 := Aside0.mk hx3
              replace hx1 := (HBj.out.cell (World.block_lt_of_cell? _ _ hx1)).trans hx1
              replace hx2 := (HBj.out.cell (World.block_lt_of_cell? _ _ hx2)).trans hx2
              replace hx3 := (HBj.out.cell (World.block_lt_of_cell? _ _ hx3)).trans hx3
              clear hcells hnl
              go_wp2_with fail
              clear hx1 hx2 hx3
              go_loopg [12] (len + 1) (fun kq v w' => ∃ k : Nat, k ≤ len ∧ Aside0 (kq + k = len + 1) ∧ v = .int .i64 (k : Int) ∧ Aside0 (Below wF.heap.size wF w'))
              case atStart => exact ⟨0, by omega, ⟨by omega⟩, rfl, HBj⟩
              case round =>
                clear HBj
                obtain ⟨k, hk, HKk, rfl, HBj⟩ := hrel
                have hx1 := (HBj.out.cell (World.block_lt_of_cell? _ _ HX1.out)).trans HX1.out
                have hx3 := (HBj.out.cell (World.block_lt_of_cell? _ _ HX3.out)).trans HX3.out
                by_cases hkl : k < len
                · have hd2 : decide ((k : Int) < (len : Int)) = true := decide_eq_true (by omega)
                  obtain ⟨k2, rfl⟩ : ∃ k2, gk = k2 + 1 := ⟨gk - 1, by have := HKk.out; omega⟩
                  have hc1 := HCE.out k hkl
                  replace hc1 := (HBj.out.cell (World.block_lt_of_cell? _ _ hc1)).trans hc1
                  by_cases hk5 : k < ns i
                  · have hw : XApartW.want grownTexts.own grownTexts.mark ns i k = .string (grownTexts.txt true i) := by unfold XApartW.want; rw [if_pos hk5]; rfl
                    rw [hw] at hc1
                    obtain ⟨g', hg'⟩ := HP.out i (by omega)
                    have hc2 := HB'.out g' hg' k hk5
                    replace hc2 := (HBj.out.cell (World.block_lt_of_cell? _ _ hc2)).trans hc2
                    rw [show XApartW.want grownTexts.own grownTexts.mark ns (⟨g', ns i, cs i, i⟩ : XApartW.Rec).i k = .string (grownTexts.txt true i) from hw] at hc2
                    rw [hg'] at hx3
                    simp only [Option.map_some] at hx3
                    clear hw hg'
                    have hd3 : decide ((k : Int) < (ns i : Int)) = true := decide_eq_true (by omega)
                    go_wp2_with fail
                    have HBd := Aside0.mk (pw_below_drewN HBj.out 1)
                    refine wp_region_held_drew (S := (fun w' => w'.cell? ⟨m, j, none⟩ = some (.slice (some ⟨g, 0, none⟩) len c) ∧ w'.cell? ⟨g, k, none⟩ = some (.string (grownTexts.txt true i)) ∧ w'.cell? ⟨G, i, none⟩ = some (.slice (some ⟨g', 0, none⟩) (ns i) (cs i)) ∧ w'.cell? ⟨g', k, none⟩ = some (.string (grownTexts.txt true i)))) (by kernel_rfl) (⟨hx1, hc1, hx3, hc2⟩) (fun hHeld => ?_)
                    refine wpAnyH_take (i := 0) (oi := ⟨some 96, _, _, _, _, _⟩) (v := ?v_8) rfl (by kernel_rfl) (by kernel_rfl) (by kernel_rfl) (fun _ _ _ h => h) (Or.inl ⟨by rfl, ?y_8⟩) (by assumption) ?n_8
                    case y_8 => (intro w_ hSw; (try dsimp only at hSw); go_simp; try (with_reducible rfl))
                    try simp only [Act.put, List.setIfInBounds_toArray, List.set_cons_zero, List.set_cons_succ]
                    refine wpAnyH_take (i := 1) (oi := ⟨some 97, _, _, _, _, _⟩) (v := ?v_9) rfl (by kernel_rfl) (by kernel_rfl) (by kernel_rfl) (fun _ _ _ h => h) (Or.inl ⟨by rfl, ?y_9⟩) (by assumption) ?n_9
                    case y_9 => (intro w_ hSw; (try dsimp only at hSw); go_simp; try (with_reducible rfl))
                    try simp only [Act.put, List.setIfInBounds_toArray, List.set_cons_zero, List.set_cons_succ]
                    refine wpAnyH_take (i := 2) (oi := ⟨some 98, _, _, _, _, _⟩) (v := ?v_10) rfl (by kernel_rfl) (by kernel_rfl) (by kernel_rfl) (fun _ _ _ h => h) (Or.inl ⟨by rfl, ?y_10⟩) (by assumption) ?n_10
                    case y_10 => (intro w_ hSw; (try dsimp only at hSw); go_simp; try (with_reducible rfl))
                    try simp only [Act.put, List.setIfInBounds_toArray, List.set_cons_zero, List.set_cons_succ]
                    refine wpAnyH_take (i := 3) (oi := ⟨some 99, _, _, _, _, _⟩) (v := ?v_11) rfl (by kernel_rfl) (by kernel_rfl) (by kernel_rfl) (fun _ _ _ h => h) (Or.inl ⟨by rfl, ?y_11⟩) (by assumption) ?n_11
                    case y_11 => (intro w_ hSw; (try dsimp only at hSw); go_simp; try (with_reducible rfl))
                    try simp only [Act.put, List.setIfInBounds_toArray, List.set_cons_zero, List.set_cons_succ]
                    refine wpAnyH_take (i := 4) (oi := ⟨some 100, _, _, _, _, _⟩) (v := ?v_12) rfl (by kernel_rfl) (by kernel_rfl) (by kernel_rfl) (fun _ _ _ h => h) (Or.inl ⟨by rfl, ?y_12⟩) (by assumption) ?n_12
                    case y_12 => (intro w_ hSw; (try dsimp only at hSw); go_simp; try (with_reducible rfl))
                    try simp only [Act.put, List.setIfInBounds_toArray, List.set_cons_zero, List.set_cons_succ]
                    refine wpAnyH_take (i := 5) (oi := ⟨some 101, _, _, _, _, _⟩) (v := ?v_13) rfl (by kernel_rfl) (by kernel_rfl) (by kernel_rfl) (fun _ _ _ h => h) (Or.inl ⟨by rfl, ?y_13⟩) (by assumption) ?n_13
                    case y_13 => (intro w_ hSw; (try dsimp only at hSw); go_simp; try (with_reducible rfl))
                    try simp only [Act.put, List.setIfInBounds_toArray, List.set_cons_zero, List.set_cons_succ]
                    refine wpAnyH_take (i := 6) (oi := ⟨some 102, _, _, _, _, _⟩) (v := ?v_14) rfl (by kernel_rfl) (by kernel_rfl) (by kernel_rfl) (fun _ _ _ h => h) (Or.inl ⟨by rfl, ?y_14⟩) (by assumption) ?n_14
                    case y_14 => (intro w_ hSw; (try dsimp only at hSw); go_simp; try (with_reducible rfl))
                    try simp only [Act.put, List.setIfInBounds_toArray, List.set_cons_zero, List.set_cons_succ]
                    refine wpAnyH_take (i := 7) (oi := ⟨some 103, _, _, _, _, _⟩) (v := ?v_15) rfl (by kernel_rfl) (by kernel_rfl) (by kernel_rfl) (fun _ _ _ h => h) (Or.inl ⟨by rfl, ?y_15⟩) (by assumption) ?n_15
                    case y_15 => (intro w_ hSw; (try dsimp only at hSw); go_simp; try (with_reducible rfl))
                    try simp only [Act.put, List.setIfInBounds_toArray, List.set_cons_zero, List.set_cons_succ]
                    refine wpAnyH_take (i := 8) (oi := ⟨some 104, _, _, _, _, _⟩) (v := ?v_16) rfl (by kernel_rfl) (by kernel_rfl) (by kernel_rfl) (fun _ _ _ h => h) (Or.inl ⟨by rfl, ?y_16⟩) (by assumption) ?n_16
                    case y_16 => (intro w_ hSw; (try dsimp only at hSw); go_simp; try (with_reducible rfl))
                    try simp only [Act.put, List.setIfInBounds_toArray, List.set_cons_zero, List.set_cons_succ]
                    refine wpAnyH_ready (rs := [9]) (by kernel_rfl) (by simp) ?_
                    refine AllReadyH.cons (o := ⟨some 105, _, _, _, _, _⟩) rfl (fun K_ hK_ => ?_) AllReadyH.nil
                    go_simp
                    refine (grownTexts.markC i true hi64 _).mono ?_
                    rintro e w1 ⟨rfl, hb⟩
                    replace hx1 := (hb.cell (World.block_lt_of_cell? _ _ hx1)).trans hx1
                    replace hc1 := (hb.cell (World.block_lt_of_cell? _ _ hc1)).trans hc1
                    replace hx3 := (hb.cell (World.block_lt_of_cell? _ _ hx3)).trans hx3
                    replace hc2 := (hb.cell (World.block_lt_of_cell? _ _ hc2)).trans hc2
                    have HB1 := Aside0.mk (below_then HBd.out HBd.out.size hb)
                    clear hb HBd
                    refine hK_.out _ _ (⟨hx1, hc1, hx3, hc2⟩) (fun hHeld => ?_)
                    clear hK_ K_
                    try simp only [Act.put, List.setIfInBounds_toArray, List.set_cons_zero, List.set_cons_succ]
                    refine wpAnyH_take (i := 10) (oi := ⟨some 106, _, _, _, _, _⟩) (v := ?v_17) rfl (by kernel_rfl) (by kernel_rfl) (by kernel_rfl) (fun _ _ _ h => h) (Or.inl ⟨by rfl, ?y_17⟩) (by assumption) ?n_17
                    case y_17 => (intro w_ hSw; (try dsimp only at hSw); go_simp; try (with_reducible rfl))
                    try simp only [Act.put, List.setIfInBounds_toArray, List.set_cons_zero, List.set_cons_succ]
                    refine wpAnyH_take (i := 11) (oi := ⟨some 107, _, _, _, _, _⟩) (v := ?v_18) rfl (by kernel_rfl) (by kernel_rfl) (by kernel_rfl) (fun _ _ _ h => h) (Or.inl ⟨by rfl, ?y_18⟩) (by assumption) ?n_18
                    case y_18 => (intro w_ hSw; (try dsimp only at hSw); go_simp; try (with_reducible rfl))
                    try simp only [Act.put, List.setIfInBounds_toArray, List.set_cons_zero, List.set_cons_succ]
                    refine wpAnyH_take (i := 12) (oi := ⟨some 108, _, _, _, _, _⟩) (v := ?v_19) rfl (by kernel_rfl) (by kernel_rfl) (by kernel_rfl) (fun _ _ _ h => h) (Or.inl ⟨by rfl, ?y_19⟩) (by assumption) ?n_19
                    case y_19 => (intro w_ hSw; (try dsimp only at hSw); go_simp; try (with_reducible rfl))
                    try simp only [Act.put, List.setIfInBounds_toArray, List.set_cons_zero, List.set_cons_succ]
                    refine wpAnyH_take (i := 13) (oi := ⟨some 109, _, _, _, _, _⟩) (v := ?v_20) rfl (by kernel_rfl) (by kernel_rfl) (by kernel_rfl) (fun _ _ _ h => h) (Or.inl ⟨by rfl, ?y_20⟩) (by assumption) ?n_20
                    case y_20 => (intro w_ hSw; (try dsimp only at hSw); go_simp; try (with_reducible rfl))
                    try simp only [Act.put, List.setIfInBounds_toArray, List.set_cons_zero, List.set_cons_succ]
                    refine wpAnyH_take (i := 14) (oi := ⟨some 110, _, _, _, _, _⟩) (v := ?v_21) rfl (by kernel_rfl) (by kernel_rfl) (by kernel_rfl) (fun _ _ _ h => h) (Or.inl ⟨by rfl, ?y_21⟩) (by assumption) ?n_21
                    case y_21 => (intro w_ hSw; (try dsimp only at hSw); go_simp; try (with_reducible rfl))
                    try simp only [Act.put, List.setIfInBounds_toArray, List.set_cons_zero, List.set_cons_succ]
                    refine wpAnyH_take (i := 15) (oi := ⟨some 111, _, _, _, _, _⟩) (v := ?v_22) rfl (by kernel_rfl) (by kernel_rfl) (by kernel_rfl) (fun _ _ _ h => h) (Or.inl ⟨by rfl, ?y_22⟩) (by assumption) ?n_22
                    case y_22 => (intro w_ hSw; (try dsimp only at hSw); go_simp; try (with_reducible rfl))
                    try simp only [Act.put, List.setIfInBounds_toArray, List.set_cons_zero, List.set_cons_succ]
                    refine wpAnyH_take (i := 16) (oi := ⟨some 112, _, _, _, _, _⟩) (v := ?v_23) rfl (by kernel_rfl) (by kernel_rfl) (by kernel_rfl) (fun _ _ _ h => h) (Or.inl ⟨by rfl, ?y_23⟩) (by assumption) ?n_23
                    case y_23 => (intro w_ hSw; (try dsimp only at hSw); go_simp; try (with_reducible rfl))
                    try simp only [Act.put, List.setIfInBounds_toArray, List.set_cons_zero, List.set_cons_succ]
                    refine wpAnyH_take (i := 17) (oi := ⟨some 113, _, _, _, _, _⟩) (v := ?v_24) rfl (by kernel_rfl) (by kernel_rfl) (by kernel_rfl) (fun _ _ _ h => h) (Or.inl ⟨by rfl, ?y_24⟩) (by assumption) ?n_24
                    case y_24 => (intro w_ hSw; (try dsimp only at hSw); go_simp; try (with_reducible rfl))
                    try simp only [Act.put, List.setIfInBounds_toArray, List.set_cons_zero, List.set_cons_succ]
                    refine wpAnyH_take (i := 18) (oi := ⟨some 114, _, _, _, _, _⟩) (v := ?v_25) rfl (by kernel_rfl) (by kernel_rfl) (by kernel_rfl) (fun _ _ _ h => h) (Or.inl ⟨by rfl, ?y_25⟩) (by assumption) ?n_25
                    case y_25 => (intro w_ hSw; (try dsimp only at hSw); go_simp; try (with_reducible rfl))
                    try simp only [Act.put, List.setIfInBounds_toArray, List.set_cons_zero, List.set_cons_succ]
                    refine wpAnyH_take (i := 19) (oi := ⟨some 115, _, _, _, _, _⟩) (v := ?v_26) rfl (by kernel_rfl) (by kernel_rfl) (by kernel_rfl) (fun _ _ _ h => h) (Or.inl ⟨by rfl, ?y_26⟩) (by assumption) ?n_26
                    case y_26 => (intro w_ hSw; (try dsimp only at hSw); go_simp; try (with_reducible rfl))
                    try simp only [Act.put, List.setIfInBounds_toArray, List.set_cons_zero, List.set_cons_succ]
                    refine wpAnyH_take (i := 20) (oi := ⟨some 116, _, _, _, _, _⟩) (v := ?v_27) rfl (by kernel_rfl) (by kernel_rfl) (by kernel_rfl) (fun _ _ _ h => h) (Or.inl ⟨by rfl, ?y_27⟩) (by assumption) ?n_27
                    case y_27 => (intro w_ hSw; (try dsimp only at hSw); go_simp; try (with_reducible rfl))
                    try simp only [Act.put, List.setIfInBounds_toArray, List.set_cons_zero, List.set_cons_succ]
                    refine wpAnyH_take (i := 21) (oi := ⟨some 117, _, _, _, _, _⟩) (v := ?v_28) rfl (by kernel_rfl) (by kernel_rfl) (by kernel_rfl) (fun _ _ _ h => h) (Or.inl ⟨by rfl, ?y_28⟩) (by assumption) ?n_28
                    case y_28 => (intro w_ hSw; (try dsimp only at hSw); go_simp; try (with_reducible rfl))
                    try simp only [Act.put, List.setIfInBounds_toArray, List.set_cons_zero, List.set_cons_succ]
                    refine wpAnyH_ready (rs := [22]) (by kernel_rfl) (by simp) ?_
                    refine AllReadyH.cons (o := ⟨some 118, _, _, _, _, _⟩) rfl (fun K_ hK_ => ?_) AllReadyH.nil
                    go_simp
                    refine (grownTexts.markC i true hi64 _).mono ?_
                    rintro e w2 ⟨rfl, hb⟩
                    replace hx1 := (hb.cell (World.block_lt_of_cell? _ _ hx1)).trans hx1
                    replace hc1 := (hb.cell (World.block_lt_of_cell? _ _ hc1)).trans hc1
                    replace hx3 := (hb.cell (World.block_lt_of_cell? _ _ hx3)).trans hx3
                    replace hc2 := (hb.cell (World.block_lt_of_cell? _ _ hc2)).trans hc2
                    have HB2 := Aside0.mk (below_then HB1.out HB1.out.size hb)
                    clear hb HB1
                    refine hK_.out _ _ (⟨hx1, hc1, hx3, hc2⟩) (fun hHeld => ?_)
                    clear hK_ K_
                    try simp only [Act.put, List.setIfInBounds_toArray, List.set_cons_zero, List.set_cons_succ]
                    refine wpAnyH_take (i := 23) (oi := ⟨some 119, _, _, _, _, _⟩) (v := ?v_29) rfl (by kernel_rfl) (by kernel_rfl) (by kernel_rfl) (fun _ _ _ h => h) (Or.inl ⟨by rfl, ?y_29⟩) (by assumption) ?n_29
                    case y_29 => (intro w_ hSw; (try dsimp only at hSw); go_simp; try (with_reducible rfl))
                    try simp only [Act.put, List.setIfInBounds_toArray, List.set_cons_zero, List.set_cons_succ]
                    refine wpAnyH_take (i := 24) (oi := ⟨some 120, _, _, _, _, _⟩) (v := ?v_30) rfl (by kernel_rfl) (by kernel_rfl) (by kernel_rfl) (fun _ _ _ h => h) (Or.inl ⟨by rfl, ?y_30⟩) (by assumption) ?n_30
                    case y_30 => (intro w_ hSw; (try dsimp only at hSw); go_simp; try (with_reducible rfl))
                    try simp only [Act.put, List.setIfInBounds_toArray, List.set_cons_zero, List.set_cons_succ]
                    refine wpAnyH_take (i := 25) (oi := ⟨some 121, _, _, _, _, _⟩) (v := ?v_31) rfl (by kernel_rfl) (by kernel_rfl) (by kernel_rfl) (fun _ _ _ h => h) (Or.inl ⟨by rfl, ?y_31⟩) (by assumption) ?n_31
                    case y_31 => (intro w_ hSw; (try dsimp only at hSw); go_simp; try (with_reducible rfl))
                    try simp only [Act.put, List.setIfInBounds_toArray, List.set_cons_zero, List.set_cons_succ]
                    refine wpAnyH_done (by kernel_rfl) ?_ _
                    clear hx1 hc1 hx3 hc2
                    go_wp2_with fail
                    go_roundg k2
                    case measure => have := HKk.out; omega
                    case rel => exact ⟨k + 1, by omega, ⟨by have := HKk.out; omega⟩, congrArg (Value.int .i64) (by omega), HB2⟩
                  · have hw : XApartW.want grownTexts.own grownTexts.mark ns i k = .string (grownTexts.txt false i) := by unfold XApartW.want; rw [if_neg hk5]; rfl
                    rw [hw] at hc1
                    clear hw
                    have hd3 : decide ((k : Int) < (ns i : Int)) = false := decide_eq_false (by omega)
                    go_wp2_with fail
                    have HBd := Aside0.mk (pw_below_drewN HBj.out 1)
                    refine wp_region_held_drew (S := (fun w' => w'.cell? ⟨m, j, none⟩ = some (.slice (some ⟨g, 0, none⟩) len c) ∧ w'.cell? ⟨g, k, none⟩ = some (.string (grownTexts.txt false i)))) (by kernel_rfl) (⟨hx1, hc1⟩) (fun hHeld => ?_)
                    refine wpAnyH_take (i := 0) (oi := ⟨some 96, _, _, _, _, _⟩) (v := ?v_32) rfl (by kernel_rfl) (by kernel_rfl) (by kernel_rfl) (fun _ _ _ h => h) (Or.inl ⟨by rfl, ?y_32⟩) (by assumption) ?n_32
                    case y_32 => (intro w_ hSw; (try dsimp only at hSw); go_simp; try (with_reducible rfl))
                    try simp only [Act.put, List.setIfInBounds_toArray, List.set_cons_zero, List.set_cons_succ]
                    refine wpAnyH_take (i := 1) (oi := ⟨some 97, _, _, _, _, _⟩) (v := ?v_33) rfl (by kernel_rfl) (by kernel_rfl) (by kernel_rfl) (fun _ _ _ h => h) (Or.inl ⟨by rfl, ?y_33⟩) (by assumption) ?n_33
                    case y_33 => (intro w_ hSw; (try dsimp only at hSw); go_simp; try (with_reducible rfl))
                    try simp only [Act.put, List.setIfInBounds_toArray, List.set_cons_zero, List.set_cons_succ]
                    refine wpAnyH_take (i := 2) (oi := ⟨some 98, _, _, _, _, _⟩) (v := ?v_34) rfl (by kernel_rfl) (by kernel_rfl) (by kernel_rfl) (fun _ _ _ h => h) (Or.inl ⟨by rfl, ?y_34⟩) (by assumption) ?n_34
                    case y_34 => (intro w_ hSw; (try dsimp only at hSw); go_simp; try (with_reducible rfl))
                    try simp only [Act.put, List.setIfInBounds_toArray, List.set_cons_zero, List.set_cons_succ]
                    refine wpAnyH_take (i := 3) (oi := ⟨some 99, _, _, _, _, _⟩) (v := ?v_35) rfl (by kernel_rfl) (by kernel_rfl) (by kernel_rfl) (fun _ _ _ h => h) (Or.inl ⟨by rfl, ?y_35⟩) (by assumption) ?n_35
                    case y_35 => (intro w_ hSw; (try dsimp only at hSw); go_simp; try (with_reducible rfl))
                    try simp only [Act.put, List.setIfInBounds_toArray, List.set_cons_zero, List.set_cons_succ]
                    refine wpAnyH_take (i := 4) (oi := ⟨some 100, _, _, _, _, _⟩) (v := ?v_36) rfl (by kernel_rfl) (by kernel_rfl) (by kernel_rfl) (fun _ _ _ h => h) (Or.inl ⟨by rfl, ?y_36⟩) (by assumption) ?n_36
                    case y_36 => (intro w_ hSw; (try dsimp only at hSw); go_simp; try (with_reducible rfl))
                    try simp only [Act.put, List.setIfInBounds_toArray, List.set_cons_zero, List.set_cons_succ]
                    refine wpAnyH_take (i := 5) (oi := ⟨some 101, _, _, _, _, _⟩) (v := ?v_37) rfl (by kernel_rfl) (by kernel_rfl) (by kernel_rfl) (fun _ _ _ h => h) (Or.inl ⟨by rfl, ?y_37⟩) (by assumption) ?n_37
                    case y_37 => (intro w_ hSw; (try dsimp only at hSw); go_simp; try (with_reducible rfl))
                    try simp only [Act.put, List.setIfInBounds_toArray, List.set_cons_zero, List.set_cons_succ]
                    refine wpAnyH_take (i := 6) (oi := ⟨some 102, _, _, _, _, _⟩) (v := ?v_38) rfl (by kernel_rfl) (by kernel_rfl) (by kernel_rfl) (fun _ _ _ h => h) (Or.inl ⟨by rfl, ?y_38⟩) (by assumption) ?n_38
                    case y_38 => (intro w_ hSw; (try dsimp only at hSw); go_simp; try (with_reducible rfl))
                    try simp only [Act.put, List.setIfInBounds_toArray, List.set_cons_zero, List.set_cons_succ]
                    refine wpAnyH_take (i := 7) (oi := ⟨some 103, _, _, _, _, _⟩) (v := ?v_39) rfl (by kernel_rfl) (by kernel_rfl) (by kernel_rfl) (fun _ _ _ h => h) (Or.inl ⟨by rfl, ?y_39⟩) (by assumption) ?n_39
                    case y_39 => (intro w_ hSw; (try dsimp only at hSw); go_simp; try (with_reducible rfl))
                    try simp only [Act.put, List.setIfInBounds_toArray, List.set_cons_zero, List.set_cons_succ]
                    refine wpAnyH_take (i := 8) (oi := ⟨some 104, _, _, _, _, _⟩) (v := ?v_40) rfl (by kernel_rfl) (by kernel_rfl) (by kernel_rfl) (fun _ _ _ h => h) (Or.inl ⟨by rfl, ?y_40⟩) (by assumption) ?n_40
                    case y_40 => (intro w_ hSw; (try dsimp only at hSw); go_simp; try (with_reducible rfl))
                    try simp only [Act.put, List.setIfInBounds_toArray, List.set_cons_zero, List.set_cons_succ]
                    refine wpAnyH_ready (rs := [9]) (by kernel_rfl) (by simp) ?_
                    refine AllReadyH.cons (o := ⟨some 105, _, _, _, _, _⟩) rfl (fun K_ hK_ => ?_) AllReadyH.nil
                    go_simp
                    refine (grownTexts.markC i false hi64 _).mono ?_
                    rintro e w1 ⟨rfl, hb⟩
                    replace hx1 := (hb.cell (World.block_lt_of_cell? _ _ hx1)).trans hx1
                    replace hc1 := (hb.cell (World.block_lt_of_cell? _ _ hc1)).trans hc1
                    have HB1 := Aside0.mk (below_then HBd.out HBd.out.size hb)
                    clear hb HBd
                    refine hK_.out _ _ (⟨hx1, hc1⟩) (fun hHeld => ?_)
                    clear hK_ K_
                    try simp only [Act.put, List.setIfInBounds_toArray, List.set_cons_zero, List.set_cons_succ]
                    refine wpAnyH_take (i := 10) (oi := ⟨some 106, _, _, _, _, _⟩) (v := ?v_41) rfl (by kernel_rfl) (by kernel_rfl) (by kernel_rfl) (fun _ _ _ h => h) (Or.inl ⟨by rfl, ?y_41⟩) (by assumption) ?n_41
                    case y_41 => (intro w_ hSw; (try dsimp only at hSw); go_simp; try (with_reducible rfl))
                    try simp only [Act.put, List.setIfInBounds_toArray, List.set_cons_zero, List.set_cons_succ]
                    refine wpAnyH_take (i := 11) (oi := ⟨some 107, _, _, _, _, _⟩) (v := ?v_42) rfl (by kernel_rfl) (by kernel_rfl) (by kernel_rfl) (fun _ _ _ h => h) (Or.inl ⟨by rfl, ?y_42⟩) (by assumption) ?n_42
                    case y_42 => (intro w_ hSw; (try dsimp only at hSw); go_simp; try (with_reducible rfl))
                    try simp only [Act.put, List.setIfInBounds_toArray, List.set_cons_zero, List.set_cons_succ]
                    refine wpAnyH_take (i := 12) (oi := ⟨some 108, _, _, _, _, _⟩) (v := ?v_43) rfl (by kernel_rfl) (by kernel_rfl) (by kernel_rfl) (fun _ _ _ h => h) (Or.inl ⟨by rfl, ?y_43⟩) (by assumption) ?n_43
                    case y_43 => (intro w_ hSw; (try dsimp only at hSw); go_simp; try (with_reducible rfl))
                    try simp only [Act.put, List.setIfInBounds_toArray, List.set_cons_zero, List.set_cons_succ]
                    refine wpAnyH_take (i := 13) (oi := ⟨some 109, _, _, _, _, _⟩) (v := ?v_44) rfl (by kernel_rfl) (by kernel_rfl) (by kernel_rfl) (fun _ _ _ h => h) (Or.inl ⟨by rfl, ?y_44⟩) (by assumption) ?n_44
                    case y_44 => (intro w_ hSw; (try dsimp only at hSw); go_simp; try (with_reducible rfl))
                    try simp only [Act.put, List.setIfInBounds_toArray, List.set_cons_zero, List.set_cons_succ]
                    refine wpAnyH_take (i := 14) (oi := ⟨some 110, _, _, _, _, _⟩) (v := undef) rfl (by kernel_rfl) (by kernel_rfl) (by kernel_rfl) (fun _ _ _ h => h) (Or.inr ⟨by rfl, rfl⟩) (by assumption) ?_
                    try simp only [Act.put, List.setIfInBounds_toArray, List.set_cons_zero, List.set_cons_succ]
                    refine wpAnyH_take (i := 15) (oi := ⟨some 111, _, _, _, _, _⟩) (v := undef) rfl (by kernel_rfl) (by kernel_rfl) (by kernel_rfl) (fun _ _ _ h => h) (Or.inr ⟨by rfl, rfl⟩) (by assumption) ?_
                    try simp only [Act.put, List.setIfInBounds_toArray, List.set_cons_zero, List.set_cons_succ]
                    refine wpAnyH_take (i := 16) (oi := ⟨some 112, _, _, _, _, _⟩) (v := undef) rfl (by kernel_rfl) (by kernel_rfl) (by kernel_rfl) (fun _ _ _ h => h) (Or.inr ⟨by rfl, rfl⟩) (by assumption) ?_
                    try simp only [Act.put, List.setIfInBounds_toArray, List.set_cons_zero, List.set_cons_succ]
                    refine wpAnyH_take (i := 17) (oi := ⟨some 113, _, _, _, _, _⟩) (v := undef) rfl (by kernel_rfl) (by kernel_rfl) (by kernel_rfl) (fun _ _ _ h => h) (Or.inr ⟨by rfl, rfl⟩) (by assumption) ?_
                    try simp only [Act.put, List.setIfInBounds_toArray, List.set_cons_zero, List.set_cons_succ]
                    refine wpAnyH_take (i := 18) (oi := ⟨some 114, _, _, _, _, _⟩) (v := undef) rfl (by kernel_rfl) (by kernel_rfl) (by kernel_rfl) (fun _ _ _ h => h) (Or.inr ⟨by rfl, rfl⟩) (by assumption) ?_
                    try simp only [Act.put, List.setIfInBounds_toArray, List.set_cons_zero, List.set_cons_succ]
                    refine wpAnyH_take (i := 19) (oi := ⟨some 115, _, _, _, _, _⟩) (v := undef) rfl (by kernel_rfl) (by kernel_rfl) (by kernel_rfl) (fun _ _ _ h => h) (Or.inr ⟨by rfl, rfl⟩) (by assumption) ?_
                    try simp only [Act.put, List.setIfInBounds_toArray, List.set_cons_zero, List.set_cons_succ]
                    refine wpAnyH_take (i := 20) (oi := ⟨some 116, _, _, _, _, _⟩) (v := undef) rfl (by kernel_rfl) (by kernel_rfl) (by kernel_rfl) (fun _ _ _ h => h) (Or.inr ⟨by rfl, rfl⟩) (by assumption) ?_
                    try simp only [Act.put, List.setIfInBounds_toArray, List.set_cons_zero, List.set_cons_succ]
                    refine wpAnyH_take (i := 21) (oi := ⟨some 117, _, _, _, _, _⟩) (v := undef) rfl (by kernel_rfl) (by kernel_rfl) (by kernel_rfl) (fun _ _ _ h => h) (Or.inr ⟨by rfl, rfl⟩) (by assumption) ?_
                    try simp only [Act.put, List.setIfInBounds_toArray, List.set_cons_zero, List.set_cons_succ]
                    refine wpAnyH_take (i := 22) (oi := ⟨some 118, _, _, _, _, _⟩) (v := undef) rfl (by kernel_rfl) (by kernel_rfl) (by kernel_rfl) (fun _ _ _ h => h) (Or.inr ⟨by rfl, rfl⟩) (by assumption) ?_
                    try simp only [Act.put, List.setIfInBounds_toArray, List.set_cons_zero, List.set_cons_succ]
                    refine wpAnyH_take (i := 23) (oi := ⟨some 119, _, _, _, _, _⟩) (v := undef) rfl (by kernel_rfl) (by kernel_rfl) (by kernel_rfl) (fun _ _ _ h => h) (Or.inr ⟨by rfl, rfl⟩) (by assumption) ?_
                    try simp only [Act.put, List.setIfInBounds_toArray, List.set_cons_zero, List.set_cons_succ]
                    refine wpAnyH_take (i := 24) (oi := ⟨some 120, _, _, _, _, _⟩) (v := ?v_45) rfl (by kernel_rfl) (by kernel_rfl) (by kernel_rfl) (fun _ _ _ h => h) (Or.inl ⟨by rfl, ?y_45⟩) (by assumption) ?n_45
                    case y_45 => (intro w_ hSw; (try dsimp only at hSw); go_simp; try (with_reducible rfl))
                    try simp only [Act.put, List.setIfInBounds_toArray, List.set_cons_zero, List.set_cons_succ]
                    refine wpAnyH_take (i := 25) (oi := ⟨some 121, _, _, _, _, _⟩) (v := ?v_46) rfl (by kernel_rfl) (by kernel_rfl) (by kernel_rfl) (fun _ _ _ h => h) (Or.inl ⟨by rfl, ?y_46⟩) (by assumption) ?n_46
                    case y_46 => (intro w_ hSw; (try dsimp only at hSw); go_simp; try (with_reducible rfl))
                    try simp only [Act.put, List.setIfInBounds_toArray, List.set_cons_zero, List.set_cons_succ]
                    refine wpAnyH_done (by kernel_rfl) ?_ _
                    clear hx1 hc1
                    go_wp2_with fail
                    go_roundg k2
                    case measure => have := HKk.out; omega
                    case rel => exact ⟨k + 1, by omega, ⟨by have := HKk.out; omega⟩, congrArg (Value.int .i64) (by omega), HB1⟩
                · obtain rfl : k = len := by omega
                  have hd2 : decide ((k : Int) < (k : Int)) = false := decide_eq_false (by omega)
                  go_wp2_with fail
                  go_roundg k1
                  case measure => have := HKj.out; omega
                  case rel => exact ⟨j + 1, by omega, ⟨by have := HKj.out; omega⟩, congrArg (Value.int .i64) (by omega), HBj⟩
            · obtain rfl : j = L.length := by omega
              have hd : decide ((L.length : Int) < (L.length : Int)) = false := decide_eq_false (by omega)
              go_wp2_with fail
              go_ret
              exact ⟨rfl, grownTexts.butfor HT.out.inv.but HT.out.inv.size HBj.out⟩
def grownBytes.own (i : Nat) : Value := .int .u8 (1 + (i : Int))
def grownBytes.mark (i : Nat) : Value := .int .u8 (128 + (i : Int))
theorem grownBytes.infoT : (Tryz.prog.info? 5).map (fun i => (i.zero, i.size, i.bytes)) = some (some (.int .u8 0), 1, 1) := by kernel_rfl
theorem grownBytes.infoS : (Tryz.prog.info? 26).map (fun i => (i.zero, i.size, i.bytes)) = some (some (.slice none 0 0), 1, 24) := by kernel_rfl
theorem grownBytes.infoI : (Tryz.prog.info? 3).map (fun i => (i.zero, i.size, i.bytes)) = some (some (.int .i64 0), 1, 8) := by kernel_rfl
set_option maxHeartbeats 4000000 in
set_option maxRecDepth 100000 in
theorem grownBytes.calls (w : World) (G c : Nat) (vs : List Value) (h : XApartW.Pre 5 26 1099511627776 w G vs) :
    Calls Tryz.prog 19 #[.slice (some ⟨G, 0, none⟩) vs.length c] w fun e w' => e = .returned (.bool true) ∧ XApartW.ButFor (XApartW.gsOf vs) w.heap.size w w' := by
  obtain ⟨hS, hF, hj, hM, hP, hcell⟩ := h.facts
  have hpos := h.pos
  have hfew := h.few
  have HF := Aside0.mk (hF grownBytes.own)
  clear h hF
  generalize XApartW.nsOf vs = ns at hS HF hM hP hcell ⊢
  generalize XApartW.csOf vs = cs at hS HF hcell ⊢
  generalize XApartW.gsOf vs = gs at hS HF hj hP hcell ⊢
  generalize vs.length = N at hj hcell hpos hfew ⊢
  have HS := Aside0.mk hS
  have HJ := Aside0.mk hj
  have HM := Aside0.mk hM
  have HP := Aside0.mk hP
  have HC := Aside0.mk hcell
  clear hS hj hM hP hcell
  go_enter Tryz.func19, Tryz.ntmps19
  go_wp2_with fail
  go_loopg [3] (N + 1) (fun kq v3 w' => ∃ i : Nat, i ≤ N ∧ Aside0 (kq + i = N + 1) ∧ v3 = .int .i64 (i : Int) ∧ Aside0 (XApartW.Fill grownBytes.own ns cs gs w.heap.size 5 w w' i 0))
  case atStart => exact ⟨0, by omega, ⟨rfl⟩, rfl, HF⟩
  case round =>
    clear HF
    obtain ⟨i, hi, HK, rfl, HF⟩ := hrel
    by_cases hlt : i < N
    · have hd : decide ((i : Int) < (N : Int)) = true := decide_eq_true (by omega)
      obtain ⟨k1, rfl⟩ : ∃ k1, gk = k1 + 1 := ⟨gk - 1, by have := HK.out; omega⟩
      have hMi := HM.out i
      have hw1 : IntKind.u8.wrap (1 + (i : Int)) = 1 + (i : Int) := by rw [IntKind.wrap_u8]; omega
      have hw2 : IntKind.u8.wrap (128 + (i : Int)) = 128 + (i : Int) := by rw [IntKind.wrap_u8]; omega
      go_wp2_with fail
      go_loopg [4] (ns i + 1) (fun kq v4 w' => ∃ k : Nat, k ≤ ns i ∧ Aside0 (kq + k = ns i + 1) ∧ v4 = .int .i64 (k : Int) ∧ Aside0 (XApartW.Fill grownBytes.own ns cs gs w.heap.size 5 w w' i k))
      case atStart => exact ⟨0, by omega, ⟨rfl⟩, rfl, HF⟩
      case round =>
        clear HF
        obtain ⟨k, hk, HK2, rfl, HF⟩ := hrel
        have hx := HC.out wr HF.out.but i hlt
        by_cases hk5 : k < ns i
        · have hd2 : decide ((k : Int) < (ns i : Int)) = true := decide_eq_true (by omega)
          obtain ⟨k2, rfl⟩ : ∃ k2, gk = k2 + 1 := ⟨gk - 1, by have := HK2.out; omega⟩
          obtain ⟨g, hg⟩ := HP.out i (by omega)
          have HG := Aside0.mk hg
          rw [hg] at hx
          simp only [Option.map_some] at hx
          clear hg
          obtain ⟨⟨x, hxc⟩, hxf⟩ := HF.out.cell HS.out HG.out (t := k) hk5
          go_wp2_with fail
          have HF' := Aside0.mk (HF.out.store HS.out HG.out hk5)
          go_roundg k2
          case measure => have := HK2.out; omega
          case rel => exact ⟨k + 1, by omega, ⟨by have := HK2.out; omega⟩, congrArg (Value.int .i64) (by omega), HF'⟩
        · obtain rfl : k = ns i := by omega
          have hd2 : decide ((ns i : Int) < (ns i : Int)) = false := decide_eq_false (by omega)
          have HF' := Aside0.mk (HF.out.next (Nat.le_refl _))
          clear HF
          go_wp2_with fail
          go_roundg k1
          case measure => have := HK.out; omega
          case rel => exact ⟨i + 1, by omega, ⟨by have := HK.out; omega⟩, congrArg (Value.int .i64) (by omega), HF'⟩
    · obtain rfl : i = N := by omega
      have hd : decide ((i : Int) < (i : Int)) = false := decide_eq_false (by omega)
      have HT0 := Aside0.mk (XApartW.St.start (mark := grownBytes.mark) (N := i) (eS := 26) (eI := 3) HF.out HS.out (fun j g hg => HJ.out j g hg) hpos)
      clear HF hlt hi
      obtain ⟨N, rfl⟩ : ∃ N, N = i := ⟨i, rfl⟩
      go_wp2_with fail
      clear hd HK
      go_loopg [5, 6, 7] (N + 1) (fun kq v5 v6 v7 w' => ∃ (i : Nat) (L : List XApartW.Rec), i ≤ N ∧ Aside0 (kq + i = N + 1) ∧ v7 = .int .i64 (i : Int) ∧ Aside0 (L.length ≤ 70 * i) ∧ Aside0 (XApartW.St grownBytes.own grownBytes.mark ns cs gs N w.heap.size 5 26 3 w w' i 0 (XApartW.sv ns cs gs i) v5 v6 L L))
      case atStart => exact ⟨0, [], by omega, ⟨rfl⟩, rfl, ⟨Nat.zero_le _⟩, HT0⟩
      case round =>
        clear HT0
        obtain ⟨i, L, hi, HK, rfl, HLn, HT⟩ := hrel
        by_cases hlt : i < N
        · have hx := HC.out wr HT.out.inv.but i hlt
          rw [show XApartW.sv ns cs gs i = .slice ((gs i).map fun g => ⟨g, 0, none⟩) (ns i) (cs i) from rfl] at HT
          have hd : decide ((i : Int) < (N : Int)) = true := decide_eq_true (by omega)
          obtain ⟨k1, rfl⟩ : ∃ k1, gk = k1 + 1 := ⟨gk - 1, by have := HK.out; omega⟩
          have hMi := HM.out i
          have hw1 : IntKind.u8.wrap (1 + (i : Int)) = 1 + (i : Int) := by rw [IntKind.wrap_u8]; omega
          have hw2 : IntKind.u8.wrap (128 + (i : Int)) = 128 + (i : Int) := by rw [IntKind.wrap_u8]; omega
          go_wp2_with fail
          clear hx
          go_loopg [5, 6, 8, 9] 71 (fun kq v5 v6 v8 v9 w' => ∃ (k : Nat) (L : List XApartW.Rec), k ≤ 70 ∧ Aside0 (kq + k = 71) ∧ v9 = .int .i64 (k : Int) ∧ Aside0 (L.length ≤ 70 * i + k) ∧ Aside0 (XApartW.St grownBytes.own grownBytes.mark ns cs gs N w.heap.size 5 26 3 w w' i k v8 v5 v6 L L))
          case atStart => exact ⟨0, L, by omega, ⟨rfl⟩, rfl, HLn, HT⟩
          case round =>
            clear HT HLn
            obtain ⟨k, L, hk, HK2, rfl, HLn, HT⟩ := hrel
            by_cases hk7 : k < 70
            · have hd2 : decide ((k : Int) < 70) = true := decide_eq_true (by omega)
              obtain ⟨k2, rfl⟩ : ∃ k2, gk = k2 + 1 := ⟨gk - 1, by have := HK2.out; omega⟩
              have hLs : L.length ≤ 10000 := by have := HLn.out; omega
              have hcase : decide ((k : Int) < 16) = true ∨ (decide ((k : Int) < 16) = false ∧ ((k : Int) == 69) = true) ∨ (decide ((k : Int) < 16) = false ∧ ((k : Int) == 69) = false) := by
                by_cases c : k < 16
                · exact .inl (decide_eq_true (by omega))
                · by_cases c2 : k = 69
                  · exact .inr (.inl ⟨decide_eq_false (by omega), beq_iff_eq.mpr (by omega)⟩)
                  · exact .inr (.inr ⟨decide_eq_false (by omega), beq_eq_false_iff_ne.mpr (by omega)⟩)
              rcases hcase with c1 | ⟨c1, c2⟩ | ⟨c1, c2⟩
              iterate 2
                · go_wp2_with (first | ((with_reducible refine gate_builtin (b := .append) (xs := #[.tmp 52, .tmp 56]) rfl ?_); at_builtin; refine XApartW.wpList_append_keep 0 rfl (.tmp 52) (.tmp 56) 26 5 (.int .u8 0) 1 rfl Tryz.underlying26 grownBytes.infoT rfl u8 (ns i + k) (XApartW.form grownBytes.own grownBytes.mark ns i k) _ _ (grownBytes.mark i) rfl rfl (HT.out.alloc _).ou (XApartW.new_cell _ _ _ _) rfl (by simp only [maxLen]; omega) (by omega) (Nat.zero_le _) ?_; intro g2 cap2 w2 ho hg hp; have HT2 := Aside0.mk ((HT.out.alloc _).grow HS.out ho hg hp); clear ho hg hp) | ((with_reducible refine gate_builtin (b := .append) (xs := #[.tmp 64, .tmp 66]) rfl ?_); at_builtin; refine XApartW.wpList_append_keep w.heap.size rfl (.tmp 64) (.tmp 66) 50 26 (.slice none 0 0) 24 rfl Tryz.underlying50 grownBytes.infoS rfl u5 L.length (L.map XApartW.Rec.val) _ _ (.slice (some ⟨g2, 0, none⟩) (ns i + k + 1) cap2) rfl rfl (HT2.out.alloc _).om (XApartW.new_cell _ _ _ _) rfl (by simp only [maxLen]; omega) (by omega) (HT2.out.alloc _).inv.size ?_; intro m3 cm3 w3 ho hg hp; have HT3 := Aside0.mk ((HT2.out.alloc _).keepM HS.out hlt ho hg hp); clear ho hg hp) | ((with_reducible refine gate_builtin (b := .append) (xs := #[.tmp 68, .tmp 70]) rfl ?_); at_builtin; refine XApartW.wpList_append_keep w.heap.size rfl (.tmp 68) (.tmp 70) 86 3 (.int .i64 0) 8 rfl Tryz.underlying86 grownBytes.infoI rfl u6 L.length (L.map fun r => .int .i64 (r.i : Int)) _ _ (.int .i64 (i : Int)) rfl rfl (HT3.out.alloc _).oh (XApartW.new_cell _ _ _ _) rfl (by simp only [maxLen]; omega) (by omega) (HT3.out.alloc _).inv.size ?_; intro m4 cm4 w4 ho hg hp; have HT4 := Aside0.mk ((HT3.out.alloc _).keepH (r := ⟨g2, ns i + (k + 1), cap2, i⟩) HS.out rfl ho hg hp); clear ho hg hp))
                  go_roundg k2
                  case measure => have := HK2.out; omega
                  case rel => exact ⟨k + 1, L ++ [⟨g2, ns i + (k + 1), cap2, i⟩], by omega, ⟨by have := HK2.out; omega⟩, congrArg (Value.int .i64) (by omega), ⟨by have := HLn.out; simp only [List.length_append, List.length_cons, List.length_nil]; omega⟩, HT4⟩
              · go_wp2_with (first | ((with_reducible refine gate_builtin (b := .append) (xs := #[.tmp 52, .tmp 56]) rfl ?_); at_builtin; refine XApartW.wpList_append_keep 0 rfl (.tmp 52) (.tmp 56) 26 5 (.int .u8 0) 1 rfl Tryz.underlying26 grownBytes.infoT rfl u8 (ns i + k) (XApartW.form grownBytes.own grownBytes.mark ns i k) _ _ (grownBytes.mark i) rfl rfl (HT.out.alloc _).ou (XApartW.new_cell _ _ _ _) rfl (by simp only [maxLen]; omega) (by omega) (Nat.zero_le _) ?_; intro g2 cap2 w2 ho hg hp; have HT2 := Aside0.mk ((HT.out.alloc _).grow HS.out ho hg hp); clear ho hg hp))
                go_roundg k2
                case measure => have := HK2.out; omega
                case rel => exact ⟨k + 1, L, by omega, ⟨by have := HK2.out; omega⟩, congrArg (Value.int .i64) (by omega), ⟨by have := HLn.out; omega⟩, HT2⟩
            · obtain rfl : k = 70 := by omega
              have hd2 : decide (((70 : Nat) : Int) < 70) = false := by decide
              have HT' := Aside0.mk (HT.out.next HS.out)
              clear HT
              go_wp2_with fail
              go_roundg k1
              case measure => have := HK.out; omega
              case rel => exact ⟨i + 1, L, by omega, ⟨by have := HK.out; omega⟩, congrArg (Value.int .i64) (by omega), ⟨by have := HLn.out; omega⟩, HT'⟩
        · obtain rfl : i = N := by omega
          have hd : decide ((i : Int) < (i : Int)) = false := decide_eq_false (by omega)
          clear HK hlt hi
          obtain ⟨N, rfl⟩ : ∃ N, N = i := ⟨i, rfl⟩
          obtain ⟨wF, rfl⟩ : ∃ wF : World, wF = wr := ⟨_, rfl⟩
          obtain ⟨Am, cm, em⟩ : ∃ Am cm, u5 = .slice Am L.length cm := XApartW.ownW_slice HT.out.om
          obtain ⟨Ah, ch, eh⟩ : ∃ Ah ch, u6 = .slice Ah L.length ch := XApartW.ownW_slice HT.out.oh
          subst em eh
          go_wp2_with fail
          clear hd
          go_loop [10] (fun v => ∃ j : Nat, j ≤ L.length ∧ v = .int .i64 (j : Int)) (fun v => L.length - (intOf v).toNat)
          case atStart => exact ⟨0, by omega, rfl⟩
          case round =>
            obtain ⟨j, hjL, rfl⟩ := hrel
            have hL := HLn.out
            by_cases hlt : j < L.length
            · have hd : decide ((j : Int) < (L.length : Int)) = true := decide_eq_true (by omega)
              obtain ⟨m, cm', hh, ch', g, len, c, i, e1, e2, hx1, hx2, hi, hnl, hlen, hcells⟩ := HT.out.read j hlt
              cases e1
              cases e2
              have HCE := Aside0.mk hcells
              have HNL := Aside0.mk hnl
              have hx3 := HC.out wF HT.out.inv.but i hi
              have HB' := Aside0.mk (fun g' (hg' : gs i = some g') => (HT.out.inv.base i g' hg').cell)
              have hMi := HM.out i
              clear hcells hnl
              have hw1 : IntKind.u8.wrap (1 + (i : Int)) = 1 + (i : Int) := by rw [IntKind.wrap_u8]; omega
              have hw2 : IntKind.u8.wrap (128 + (i : Int)) = 128 + (i : Int) := by rw [IntKind.wrap_u8]; omega
              go_wp2_with fail
              go_loop [12] (fun v => ∃ k : Nat, k ≤ len ∧ v = .int .i64 (k : Int)) (fun v => len - (intOf v).toNat)
              case atStart => exact ⟨0, by omega, rfl⟩
              case round =>
                obtain ⟨k, hk, rfl⟩ := hrel
                by_cases hkl : k < len
                · have hd2 : decide ((k : Int) < (len : Int)) = true := decide_eq_true (by omega)
                  have hc1 := HCE.out k hkl
                  by_cases hk5 : k < ns i
                  · have hw : XApartW.want grownBytes.own grownBytes.mark ns i k = .int .u8 (1 + (i : Int)) := by unfold XApartW.want; rw [if_pos hk5]; rfl
                    rw [hw] at hc1
                    obtain ⟨g', hg'⟩ := HP.out i (by omega)
                    have hc2 := HB'.out g' hg' k hk5
                    rw [show XApartW.want grownBytes.own grownBytes.mark ns (⟨g', ns i, cs i, i⟩ : XApartW.Rec).i k = .int .u8 (1 + (i : Int)) from hw] at hc2
                    rw [hg'] at hx3
                    simp only [Option.map_some] at hx3
                    clear hw hg'
                    have hd3 : decide ((k : Int) < (ns i : Int)) = true := decide_eq_true (by omega)
                    go_wp2_with fail
                    go_round
                    case rel => exact ⟨k + 1, by omega, by go_num⟩
                    case measure => simp [intOf]; omega
                  · have hw : XApartW.want grownBytes.own grownBytes.mark ns i k = .int .u8 (128 + (i : Int)) := by unfold XApartW.want; rw [if_neg hk5]; rfl
                    rw [hw] at hc1
                    clear hw
                    have hd3 : decide ((k : Int) < (ns i : Int)) = false := decide_eq_false (by omega)
                    go_wp2_with fail
                    go_round
                    case rel => exact ⟨k + 1, by omega, by go_num⟩
                    case measure => simp [intOf]; omega
                · obtain rfl : k = len := by omega
                  have hd2 : decide ((k : Int) < (k : Int)) = false := decide_eq_false (by omega)
                  go_wp2_with fail
                  go_round
                  case rel => exact ⟨j + 1, by omega, by go_num⟩
                  case measure => simp [intOf]; omega
            · obtain rfl : j = L.length := by omega
              have hd : decide ((L.length : Int) < (L.length : Int)) = false := decide_eq_false (by omega)
              go_wp2_with fail
              go_ret
              exact ⟨rfl, HT.out.inv.but⟩
end Go.Proofs.YtlpllhpnnhablaaGreat.XGrownT
