/- Chapter 09: lists that came in are written full, grown place by place, read: written by gen_apart.py. -/
import Derived.Test.YtlpllhpnnhablaaProg
import Derived.Test.YtlpllhpnnhablaaWMore
import Derived.Test.YtlpllhpnnhablaaWLast
import Derived.Test.YtlpllhpnnhablaaWFoot
import Derived.Test.YtlpllhpnnhablaaXApartW
import Derived.WalkKit
import Derived.Deep.RegionHeld3
import Derived.Deep.RegionWith
import Derived.WalkSpells
namespace Go.Proofs.Ytlpllhpnnhablaa.XGrown
open Go.RowKit Go.Proofs.YtlpllhpnnhablaaW.PrintWords Go.Proofs.YtlpllhpnnhablaaW.PrintLast Go.Proofs.YtlpllhpnnhablaaW.PrintMore
set_option linter.unusedVariables false
set_option linter.unusedSimpArgs false
def grownInts.own (i : Nat) : Value := .int .i64 (1000 + (i : Int))
def grownInts.mark (i : Nat) : Value := .int .i64 (2000 + (i : Int))
theorem grownInts.infoT : (Try.prog.info? 2).map (fun i => (i.zero, i.size, i.bytes)) = some (some (.int .i64 0), 1, 8) := by kernel_rfl
theorem grownInts.infoS : (Try.prog.info? 22).map (fun i => (i.zero, i.size, i.bytes)) = some (some (.slice none 0 0), 1, 24) := by kernel_rfl
theorem grownInts.infoI : (Try.prog.info? 3).map (fun i => (i.zero, i.size, i.bytes)) = some (some (.int .i64 0), 1, 8) := by kernel_rfl
set_option maxHeartbeats 4000000 in
set_option maxRecDepth 100000 in
theorem grownInts.calls (w : World) (G c : Nat) (vs : List Value) (h : XApartW.Pre 2 22 1099511627776 w G vs) :
    Calls Try.prog 45 #[.slice (some ⟨G, 0, none⟩) vs.length c] w fun e w' => e = .returned (.bool true) ∧ XApartW.ButFor (XApartW.gsOf vs) w.heap.size w w' := by
  obtain ⟨hS, hF, hj, hM, hP, hcell⟩ := h.facts
  have hpos := h.pos
  have hfew := h.few
  have HF := Aside0.mk (hF grownInts.own)
  clear h hF
  generalize XApartW.nsOf vs = ns at hS HF hM hP hcell ⊢
  generalize XApartW.csOf vs = cs at hS HF hcell ⊢
  generalize XApartW.gsOf vs = gs at hS HF hj hP hcell ⊢
  generalize vs.length = N at hj hcell hpos hfew ⊢
  have HS := Aside0.mk hS
  have HJ := Aside0.mk hj
  have HM := Aside0.mk hM
  have HP := Aside0.mk hP
  have HC := Aside0.mk hcell
  clear hS hj hM hP hcell
  go_enter Try.func45, Try.ntmps45
  go_wp2_with fail
  go_loopg [3] (N + 1) (fun kq v3 w' => ∃ i : Nat, i ≤ N ∧ Aside0 (kq + i = N + 1) ∧ v3 = .int .i64 (i : Int) ∧ Aside0 (XApartW.Fill grownInts.own ns cs gs w.heap.size 2 w w' i 0))
  case atStart => exact ⟨0, by omega, ⟨rfl⟩, rfl, HF⟩
  case round =>
    clear HF
    obtain ⟨i, hi, HK, rfl, HF⟩ := hrel
    by_cases hlt : i < N
    · have hd : decide ((i : Int) < (N : Int)) = true := decide_eq_true (by omega)
      obtain ⟨k1, rfl⟩ : ∃ k1, gk = k1 + 1 := ⟨gk - 1, by have := HK.out; omega⟩
      have hMi := HM.out i
      go_wp2_with fail
      go_loopg [4] (ns i + 1) (fun kq v4 w' => ∃ k : Nat, k ≤ ns i ∧ Aside0 (kq + k = ns i + 1) ∧ v4 = .int .i64 (k : Int) ∧ Aside0 (XApartW.Fill grownInts.own ns cs gs w.heap.size 2 w w' i k))
      case atStart => exact ⟨0, by omega, ⟨rfl⟩, rfl, HF⟩
      case round =>
        clear HF
        obtain ⟨k, hk, HK2, rfl, HF⟩ := hrel
        have hx := HC.out wr HF.out.but i hlt
        by_cases hk5 : k < ns i
        · have hd2 : decide ((k : Int) < (ns i : Int)) = true := decide_eq_true (by omega)
          obtain ⟨k2, rfl⟩ : ∃ k2, gk = k2 + 1 := ⟨gk - 1, by have := HK2.out; omega⟩
          obtain ⟨g, hg⟩ := HP.out i (by omega)
          have HG := Aside0.mk hg
          rw [hg] at hx
          simp only [Option.map_some] at hx
          clear hg
          obtain ⟨⟨x, hxc⟩, hxf⟩ := HF.out.cell HS.out HG.out (t := k) hk5
          go_wp2_with fail
          have HF' := Aside0.mk (HF.out.store HS.out HG.out hk5)
          go_roundg k2
          case measure => have := HK2.out; omega
          case rel => exact ⟨k + 1, by omega, ⟨by have := HK2.out; omega⟩, congrArg (Value.int .i64) (by omega), HF'⟩
        · obtain rfl : k = ns i := by omega
          have hd2 : decide ((ns i : Int) < (ns i : Int)) = false := decide_eq_false (by omega)
          have HF' := Aside0.mk (HF.out.next (Nat.le_refl _))
          clear HF
          go_wp2_with fail
          go_roundg k1
          case measure => have := HK.out; omega
          case rel => exact ⟨i + 1, by omega, ⟨by have := HK.out; omega⟩, congrArg (Value.int .i64) (by omega), HF'⟩
    · obtain rfl : i = N := by omega
      have hd : decide ((i : Int) < (i : Int)) = false := decide_eq_false (by omega)
      have HT0 := Aside0.mk (XApartW.St.start (mark := grownInts.mark) (N := i) (eS := 22) (eI := 3) HF.out HS.out (fun j g hg => HJ.out j g hg) hpos)
      clear HF hlt hi
      obtain ⟨N, rfl⟩ : ∃ N, N = i := ⟨i, rfl⟩
      go_wp2_with fail
      clear hd HK
      go_loopg [5, 6, 7] (N + 1) (fun kq v5 v6 v7 w' => ∃ (i : Nat) (L : List XApartW.Rec), i ≤ N ∧ Aside0 (kq + i = N + 1) ∧ v7 = .int .i64 (i : Int) ∧ Aside0 (L.length ≤ 70 * i) ∧ Aside0 (XApartW.St grownInts.own grownInts.mark ns cs gs N w.heap.size 2 22 3 w w' i 0 (XApartW.sv ns cs gs i) v5 v6 L L))
      case atStart => exact ⟨0, [], by omega, ⟨rfl⟩, rfl, ⟨Nat.zero_le _⟩, HT0⟩
      case round =>
        clear HT0
        obtain ⟨i, L, hi, HK, rfl, HLn, HT⟩ := hrel
        by_cases hlt : i < N
        · have hx := HC.out wr HT.out.inv.but i hlt
          rw [show XApartW.sv ns cs gs i = .slice ((gs i).map fun g => ⟨g, 0, none⟩) (ns i) (cs i) from rfl] at HT
          have hd : decide ((i : Int) < (N : Int)) = true := decide_eq_true (by omega)
          obtain ⟨k1, rfl⟩ : ∃ k1, gk = k1 + 1 := ⟨gk - 1, by have := HK.out; omega⟩
          have hMi := HM.out i
          go_wp2_with fail
          clear hx
          go_loopg [5, 6, 8, 9] 71 (fun kq v5 v6 v8 v9 w' => ∃ (k : Nat) (L : List XApartW.Rec), k ≤ 70 ∧ Aside0 (kq + k = 71) ∧ v9 = .int .i64 (k : Int) ∧ Aside0 (L.length ≤ 70 * i + k) ∧ Aside0 (XApartW.St grownInts.own grownInts.mark ns cs gs N w.heap.size 2 22 3 w w' i k v8 v5 v6 L L))
          case atStart => exact ⟨0, L, by omega, ⟨rfl⟩, rfl, HLn, HT⟩
          case round =>
            clear HT HLn
            obtain ⟨k, L, hk, HK2, rfl, HLn, HT⟩ := hrel
            by_cases hk7 : k < 70
            · have hd2 : decide ((k : Int) < 70) = true := decide_eq_true (by omega)
              obtain ⟨k2, rfl⟩ : ∃ k2, gk = k2 + 1 := ⟨gk - 1, by have := HK2.out; omega⟩
              have hLs : L.length ≤ 10000 := by have := HLn.out; omega
              have hcase : decide ((k : Int) < 16) = true ∨ (decide ((k : Int) < 16) = false ∧ ((k : Int) == 69) = true) ∨ (decide ((k : Int) < 16) = false ∧ ((k : Int) == 69) = false) := by
                by_cases c : k < 16
                · exact .inl (decide_eq_true (by omega))
                · by_cases c2 : k = 69
                  · exact .inr (.inl ⟨decide_eq_false (by omega), beq_iff_eq.mpr (by omega)⟩)
                  · exact .inr (.inr ⟨decide_eq_false (by omega), beq_eq_false_iff_ne.mpr (by omega)⟩)
              rcases hcase with c1 | ⟨c1, c2⟩ | ⟨c1, c2⟩
              iterate 2
                · go_wp2_with (first | ((with_reducible refine gate_builtin (b := .append) (xs := #[.tmp 51, .tmp 54]) rfl ?_); at_builtin; refine XApartW.wpList_append_keep 0 rfl (.tmp 51) (.tmp 54) 22 2 (.int .i64 0) 8 rfl Try.underlying22 grownInts.infoT rfl u8 (ns i + k) (XApartW.form grownInts.own grownInts.mark ns i k) _ _ (grownInts.mark i) rfl rfl (HT.out.alloc _).ou (XApartW.new_cell _ _ _ _) rfl (by simp only [maxLen]; omega) (by omega) (Nat.zero_le _) ?_; intro g2 cap2 w2 ho hg hp; have HT2 := Aside0.mk ((HT.out.alloc _).grow HS.out ho hg hp); clear ho hg hp) | ((with_reducible refine gate_builtin (b := .append) (xs := #[.tmp 62, .tmp 64]) rfl ?_); at_builtin; refine XApartW.wpList_append_keep w.heap.size rfl (.tmp 62) (.tmp 64) 72 22 (.slice none 0 0) 24 rfl Try.underlying72 grownInts.infoS rfl u5 L.length (L.map XApartW.Rec.val) _ _ (.slice (some ⟨g2, 0, none⟩) (ns i + k + 1) cap2) rfl rfl (HT2.out.alloc _).om (XApartW.new_cell _ _ _ _) rfl (by simp only [maxLen]; omega) (by omega) (HT2.out.alloc _).inv.size ?_; intro m3 cm3 w3 ho hg hp; have HT3 := Aside0.mk ((HT2.out.alloc _).keepM HS.out hlt ho hg hp); clear ho hg hp) | ((with_reducible refine gate_builtin (b := .append) (xs := #[.tmp 66, .tmp 68]) rfl ?_); at_builtin; refine XApartW.wpList_append_keep w.heap.size rfl (.tmp 66) (.tmp 68) 118 3 (.int .i64 0) 8 rfl Try.underlying118 grownInts.infoI rfl u6 L.length (L.map fun r => .int .i64 (r.i : Int)) _ _ (.int .i64 (i : Int)) rfl rfl (HT3.out.alloc _).oh (XApartW.new_cell _ _ _ _) rfl (by simp only [maxLen]; omega) (by omega) (HT3.out.alloc _).inv.size ?_; intro m4 cm4 w4 ho hg hp; have HT4 := Aside0.mk ((HT3.out.alloc _).keepH (r := ⟨g2, ns i + (k + 1), cap2, i⟩) HS.out rfl ho hg hp); clear ho hg hp))
                  go_roundg k2
                  case measure => have := HK2.out; omega
                  case rel => exact ⟨k + 1, L ++ [⟨g2, ns i + (k + 1), cap2, i⟩], by omega, ⟨by have := HK2.out; omega⟩, congrArg (Value.int .i64) (by omega), ⟨by have := HLn.out; simp only [List.length_append, List.length_cons, List.length_nil]; omega⟩, HT4⟩
              · go_wp2_with (first | ((with_reducible refine gate_builtin (b := .append) (xs := #[.tmp 51, .tmp 54]) rfl ?_); at_builtin; refine XApartW.wpList_append_keep 0 rfl (.tmp 51) (.tmp 54) 22 2 (.int .i64 0) 8 rfl Try.underlying22 grownInts.infoT rfl u8 (ns i + k) (XApartW.form grownInts.own grownInts.mark ns i k) _ _ (grownInts.mark i) rfl rfl (HT.out.alloc _).ou (XApartW.new_cell _ _ _ _) rfl (by simp only [maxLen]; omega) (by omega) (Nat.zero_le _) ?_; intro g2 cap2 w2 ho hg hp; have HT2 := Aside0.mk ((HT.out.alloc _).grow HS.out ho hg hp); clear ho hg hp))
                go_roundg k2
                case measure => have := HK2.out; omega
                case rel => exact ⟨k + 1, L, by omega, ⟨by have := HK2.out; omega⟩, congrArg (Value.int .i64) (by omega), ⟨by have := HLn.out; omega⟩, HT2⟩
            · obtain rfl : k = 70 := by omega
              have hd2 : decide (((70 : Nat) : Int) < 70) = false := by decide
              have HT' := Aside0.mk (HT.out.next HS.out)
              clear HT
              go_wp2_with fail
              go_roundg k1
              case measure => have := HK.out; omega
              case rel => exact ⟨i + 1, L, by omega, ⟨by have := HK.out; omega⟩, congrArg (Value.int .i64) (by omega), ⟨by have := HLn.out; omega⟩, HT'⟩
        · obtain rfl : i = N := by omega
          have hd : decide ((i : Int) < (i : Int)) = false := decide_eq_false (by omega)
          clear HK hlt hi
          obtain ⟨N, rfl⟩ : ∃ N, N = i := ⟨i, rfl⟩
          obtain ⟨wF, rfl⟩ : ∃ wF : World, wF = wr := ⟨_, rfl⟩
          obtain ⟨Am, cm, em⟩ : ∃ Am cm, u5 = .slice Am L.length cm := XApartW.ownW_slice HT.out.om
          obtain ⟨Ah, ch, eh⟩ : ∃ Ah ch, u6 = .slice Ah L.length ch := XApartW.ownW_slice HT.out.oh
          subst em eh
          go_wp2_with fail
          clear hd
          go_loop [10] (fun v => ∃ j : Nat, j ≤ L.length ∧ v = .int .i64 (j : Int)) (fun v => L.length - (intOf v).toNat)
          case atStart => exact ⟨0, by omega, rfl⟩
          case round =>
            obtain ⟨j, hjL, rfl⟩ := hrel
            have hL := HLn.out
            by_cases hlt : j < L.length
            · have hd : decide ((j : Int) < (L.length : Int)) = true := decide_eq_true (by omega)
              obtain ⟨m, cm', hh, ch', g, len, c, i, e1, e2, hx1, hx2, hi, hnl, hlen, hcells⟩ := HT.out.read j hlt
              cases e1
              cases e2
              have HCE := Aside0.mk hcells
              have HNL := Aside0.mk hnl
              have hx3 := HC.out wF HT.out.inv.but i hi
              have HB' := Aside0.mk (fun g' (hg' : gs i = some g') => (HT.out.inv.base i g' hg').cell)
              have hMi := HM.out i
              clear hcells hnl
              go_wp2_with fail
              go_loop [12] (fun v => ∃ k : Nat, k ≤ len ∧ v = .int .i64 (k : Int)) (fun v => len - (intOf v).toNat)
              case atStart => exact ⟨0, by omega, rfl⟩
              case round =>
                obtain ⟨k, hk, rfl⟩ := hrel
                by_cases hkl : k < len
                · have hd2 : decide ((k : Int) < (len : Int)) = true := decide_eq_true (by omega)
                  have hc1 := HCE.out k hkl
                  by_cases hk5 : k < ns i
                  · have hw : XApartW.want grownInts.own grownInts.mark ns i k = .int .i64 (1000 + (i : Int)) := by unfold XApartW.want; rw [if_pos hk5]; rfl
                    rw [hw] at hc1
                    obtain ⟨g', hg'⟩ := HP.out i (by omega)
                    have hc2 := HB'.out g' hg' k hk5
                    rw [show XApartW.want grownInts.own grownInts.mark ns (⟨g', ns i, cs i, i⟩ : XApartW.Rec).i k = .int .i64 (1000 + (i : Int)) from hw] at hc2
                    rw [hg'] at hx3
                    simp only [Option.map_some] at hx3
                    clear hw hg'
                    have hd3 : decide ((k : Int) < (ns i : Int)) = true := decide_eq_true (by omega)
                    go_wp2_with fail
                    go_round
                    case rel => exact ⟨k + 1, by omega, by go_num⟩
                    case measure => simp [intOf]; omega
                  · have hw : XApartW.want grownInts.own grownInts.mark ns i k = .int .i64 (2000 + (i : Int)) := by unfold XApartW.want; rw [if_neg hk5]; rfl
                    rw [hw] at hc1
                    clear hw
                    have hd3 : decide ((k : Int) < (ns i : Int)) = false := decide_eq_false (by omega)
                    go_wp2_with fail
                    go_round
                    case rel => exact ⟨k + 1, by omega, by go_num⟩
                    case measure => simp [intOf]; omega
                · obtain rfl : k = len := by omega
                  have hd2 : decide ((k : Int) < (k : Int)) = false := decide_eq_false (by omega)
                  go_wp2_with fail
                  go_round
                  case rel => exact ⟨j + 1, by omega, by go_num⟩
                  case measure => simp [intOf]; omega
            · obtain rfl : j = L.length := by omega
              have hd : decide ((L.length : Int) < (L.length : Int)) = false := decide_eq_false (by omega)
              go_wp2_with fail
              go_ret
              exact ⟨rfl, HT.out.inv.but⟩
def grownBytes.own (i : Nat) : Value := .int .u8 (1 + (i : Int))
def grownBytes.mark (i : Nat) : Value := .int .u8 (128 + (i : Int))
theorem grownBytes.infoT : (Try.prog.info? 5).map (fun i => (i.zero, i.size, i.bytes)) = some (some (.int .u8 0), 1, 1) := by kernel_rfl
theorem grownBytes.infoS : (Try.prog.info? 46).map (fun i => (i.zero, i.size, i.bytes)) = some (some (.slice none 0 0), 1, 24) := by kernel_rfl
theorem grownBytes.infoI : (Try.prog.info? 3).map (fun i => (i.zero, i.size, i.bytes)) = some (some (.int .i64 0), 1, 8) := by kernel_rfl
set_option maxHeartbeats 4000000 in
set_option maxRecDepth 100000 in
theorem grownBytes.calls (w : World) (G c : Nat) (vs : List Value) (h : XApartW.Pre 5 46 1099511627776 w G vs) :
    Calls Try.prog 46 #[.slice (some ⟨G, 0, none⟩) vs.length c] w fun e w' => e = .returned (.bool true) ∧ XApartW.ButFor (XApartW.gsOf vs) w.heap.size w w' := by
  obtain ⟨hS, hF, hj, hM, hP, hcell⟩ := h.facts
  have hpos := h.pos
  have hfew := h.few
  have HF := Aside0.mk (hF grownBytes.own)
  clear h hF
  generalize XApartW.nsOf vs = ns at hS HF hM hP hcell ⊢
  generalize XApartW.csOf vs = cs at hS HF hcell ⊢
  generalize XApartW.gsOf vs = gs at hS HF hj hP hcell ⊢
  generalize vs.length = N at hj hcell hpos hfew ⊢
  have HS := Aside0.mk hS
  have HJ := Aside0.mk hj
  have HM := Aside0.mk hM
  have HP := Aside0.mk hP
  have HC := Aside0.mk hcell
  clear hS hj hM hP hcell
  go_enter Try.func46, Try.ntmps46
  go_wp2_with fail
  go_loopg [3] (N + 1) (fun kq v3 w' => ∃ i : Nat, i ≤ N ∧ Aside0 (kq + i = N + 1) ∧ v3 = .int .i64 (i : Int) ∧ Aside0 (XApartW.Fill grownBytes.own ns cs gs w.heap.size 5 w w' i 0))
  case atStart => exact ⟨0, by omega, ⟨rfl⟩, rfl, HF⟩
  case round =>
    clear HF
    obtain ⟨i, hi, HK, rfl, HF⟩ := hrel
    by_cases hlt : i < N
    · have hd : decide ((i : Int) < (N : Int)) = true := decide_eq_true (by omega)
      obtain ⟨k1, rfl⟩ : ∃ k1, gk = k1 + 1 := ⟨gk - 1, by have := HK.out; omega⟩
      have hMi := HM.out i
      have hw1 : IntKind.u8.wrap (1 + (i : Int)) = 1 + (i : Int) := by rw [IntKind.wrap_u8]; omega
      have hw2 : IntKind.u8.wrap (128 + (i : Int)) = 128 + (i : Int) := by rw [IntKind.wrap_u8]; omega
      go_wp2_with fail
      go_loopg [4] (ns i + 1) (fun kq v4 w' => ∃ k : Nat, k ≤ ns i ∧ Aside0 (kq + k = ns i + 1) ∧ v4 = .int .i64 (k : Int) ∧ Aside0 (XApartW.Fill grownBytes.own ns cs gs w.heap.size 5 w w' i k))
      case atStart => exact ⟨0, by omega, ⟨rfl⟩, rfl, HF⟩
      case round =>
        clear HF
        obtain ⟨k, hk, HK2, rfl, HF⟩ := hrel
        have hx := HC.out wr HF.out.but i hlt
        by_cases hk5 : k < ns i
        · have hd2 : decide ((k : Int) < (ns i : Int)) = true := decide_eq_true (by omega)
          obtain ⟨k2, rfl⟩ : ∃ k2, gk = k2 + 1 := ⟨gk - 1, by have := HK2.out; omega⟩
          obtain ⟨g, hg⟩ := HP.out i (by omega)
          have HG := Aside0.mk hg
          rw [hg] at hx
          simp only [Option.map_some] at hx
          clear hg
          obtain ⟨⟨x, hxc⟩, hxf⟩ := HF.out.cell HS.out HG.out (t := k) hk5
          go_wp2_with fail
          have HF' := Aside0.mk (HF.out.store HS.out HG.out hk5)
          go_roundg k2
          case measure => have := HK2.out; omega
          case rel => exact ⟨k + 1, by omega, ⟨by have := HK2.out; omega⟩, congrArg (Value.int .i64) (by omega), HF'⟩
        · obtain rfl : k = ns i := by omega
          have hd2 : decide ((ns i : Int) < (ns i : Int)) = false := decide_eq_false (by omega)
          have HF' := Aside0.mk (HF.out.next (Nat.le_refl _))
          clear HF
          go_wp2_with fail
          go_roundg k1
          case measure => have := HK.out; omega
          case rel => exact ⟨i + 1, by omega, ⟨by have := HK.out; omega⟩, congrArg (Value.int .i64) (by omega), HF'⟩
    · obtain rfl : i = N := by omega
      have hd : decide ((i : Int) < (i : Int)) = false := decide_eq_false (by omega)
      have HT0 := Aside0.mk (XApartW.St.start (mark := grownBytes.mark) (N := i) (eS := 46) (eI := 3) HF.out HS.out (fun j g hg => HJ.out j g hg) hpos)
      clear HF hlt hi
      obtain ⟨N, rfl⟩ : ∃ N, N = i := ⟨i, rfl⟩
      go_wp2_with fail
      clear hd HK
      go_loopg [5, 6, 7] (N + 1) (fun kq v5 v6 v7 w' => ∃ (i : Nat) (L : List XApartW.Rec), i ≤ N ∧ Aside0 (kq + i = N + 1) ∧ v7 = .int .i64 (i : Int) ∧ Aside0 (L.length ≤ 70 * i) ∧ Aside0 (XApartW.St grownBytes.own grownBytes.mark ns cs gs N w.heap.size 5 46 3 w w' i 0 (XApartW.sv ns cs gs i) v5 v6 L L))
      case atStart => exact ⟨0, [], by omega, ⟨rfl⟩, rfl, ⟨Nat.zero_le _⟩, HT0⟩
      case round =>
        clear HT0
        obtain ⟨i, L, hi, HK, rfl, HLn, HT⟩ := hrel
        by_cases hlt : i < N
        · have hx := HC.out wr HT.out.inv.but i hlt
          rw [show XApartW.sv ns cs gs i = .slice ((gs i).map fun g => ⟨g, 0, none⟩) (ns i) (cs i) from rfl] at HT
          have hd : decide ((i : Int) < (N : Int)) = true := decide_eq_true (by omega)
          obtain ⟨k1, rfl⟩ : ∃ k1, gk = k1 + 1 := ⟨gk - 1, by have := HK.out; omega⟩
          have hMi := HM.out i
          have hw1 : IntKind.u8.wrap (1 + (i : Int)) = 1 + (i : Int) := by rw [IntKind.wrap_u8]; omega
          have hw2 : IntKind.u8.wrap (128 + (i : Int)) = 128 + (i : Int) := by rw [IntKind.wrap_u8]; omega
          go_wp2_with fail
          clear hx
          go_loopg [5, 6, 8, 9] 71 (fun kq v5 v6 v8 v9 w' => ∃ (k : Nat) (L : List XApartW.Rec), k ≤ 70 ∧ Aside0 (kq + k = 71) ∧ v9 = .int .i64 (k : Int) ∧ Aside0 (L.length ≤ 70 * i + k) ∧ Aside0 (XApartW.St grownBytes.own grownBytes.mark ns cs gs N w.heap.size 5 46 3 w w' i k v8 v5 v6 L L))
          case atStart => exact ⟨0, L, by omega, ⟨rfl⟩, rfl, HLn, HT⟩
          case round =>
            clear HT HLn
            obtain ⟨k, L, hk, HK2, rfl, HLn, HT⟩ := hrel
            by_cases hk7 : k < 70
            · have hd2 : decide ((k : Int) < 70) = true := decide_eq_true (by omega)
              obtain ⟨k2, rfl⟩ : ∃ k2, gk = k2 + 1 := ⟨gk - 1, by have := HK2.out; omega⟩
              have hLs : L.length ≤ 10000 := by have := HLn.out; omega
              have hcase : decide ((k : Int) < 16) = true ∨ (decide ((k : Int) < 16) = false ∧ ((k : Int) == 69) = true) ∨ (decide ((k : Int) < 16) = false ∧ ((k : Int) == 69) = false) := by
                by_cases c : k < 16
                · exact .inl (decide_eq_true (by omega))
                · by_cases c2 : k = 69
                  · exact .inr (.inl ⟨decide_eq_false (by omega), beq_iff_eq.mpr (by omega)⟩)
                  · exact .inr (.inr ⟨decide_eq_false (by omega), beq_eq_false_iff_ne.mpr (by omega)⟩)
              rcases hcase with c1 | ⟨c1, c2⟩ | ⟨c1, c2⟩
              iterate 2
                · go_wp2_with (first | ((with_reducible refine gate_builtin (b := .append) (xs := #[.tmp 52, .tmp 56]) rfl ?_); at_builtin; refine XApartW.wpList_append_keep 0 rfl (.tmp 52) (.tmp 56) 46 5 (.int .u8 0) 1 rfl Try.underlying46 grownBytes.infoT rfl u8 (ns i + k) (XApartW.form grownBytes.own grownBytes.mark ns i k) _ _ (grownBytes.mark i) rfl rfl (HT.out.alloc _).ou (XApartW.new_cell _ _ _ _) rfl (by simp only [maxLen]; omega) (by omega) (Nat.zero_le _) ?_; intro g2 cap2 w2 ho hg hp; have HT2 := Aside0.mk ((HT.out.alloc _).grow HS.out ho hg hp); clear ho hg hp) | ((with_reducible refine gate_builtin (b := .append) (xs := #[.tmp 64, .tmp 66]) rfl ?_); at_builtin; refine XApartW.wpList_append_keep w.heap.size rfl (.tmp 64) (.tmp 66) 74 46 (.slice none 0 0) 24 rfl Try.underlying74 grownBytes.infoS rfl u5 L.length (L.map XApartW.Rec.val) _ _ (.slice (some ⟨g2, 0, none⟩) (ns i + k + 1) cap2) rfl rfl (HT2.out.alloc _).om (XApartW.new_cell _ _ _ _) rfl (by simp only [maxLen]; omega) (by omega) (HT2.out.alloc _).inv.size ?_; intro m3 cm3 w3 ho hg hp; have HT3 := Aside0.mk ((HT2.out.alloc _).keepM HS.out hlt ho hg hp); clear ho hg hp) | ((with_reducible refine gate_builtin (b := .append) (xs := #[.tmp 68, .tmp 70]) rfl ?_); at_builtin; refine XApartW.wpList_append_keep w.heap.size rfl (.tmp 68) (.tmp 70) 118 3 (.int .i64 0) 8 rfl Try.underlying118 grownBytes.infoI rfl u6 L.length (L.map fun r => .int .i64 (r.i : Int)) _ _ (.int .i64 (i : Int)) rfl rfl (HT3.out.alloc _).oh (XApartW.new_cell _ _ _ _) rfl (by simp only [maxLen]; omega) (by omega) (HT3.out.alloc _).inv.size ?_; intro m4 cm4 w4 ho hg hp; have HT4 := Aside0.mk ((HT3.out.alloc _).keepH (r := ⟨g2, ns i + (k + 1), cap2, i⟩) HS.out rfl ho hg hp); clear ho hg hp))
                  go_roundg k2
                  case measure => have := HK2.out; omega
                  case rel => exact ⟨k + 1, L ++ [⟨g2, ns i + (k + 1), cap2, i⟩], by omega, ⟨by have := HK2.out; omega⟩, congrArg (Value.int .i64) (by omega), ⟨by have := HLn.out; simp only [List.length_append, List.length_cons, List.length_nil]; omega⟩, HT4⟩
              · go_wp2_with (first | ((with_reducible refine gate_builtin (b := .append) (xs := #[.tmp 52, .tmp 56]) rfl ?_); at_builtin; refine XApartW.wpList_append_keep 0 rfl (.tmp 52) (.tmp 56) 46 5 (.int .u8 0) 1 rfl Try.underlying46 grownBytes.infoT rfl u8 (ns i + k) (XApartW.form grownBytes.own grownBytes.mark ns i k) _ _ (grownBytes.mark i) rfl rfl (HT.out.alloc _).ou (XApartW.new_cell _ _ _ _) rfl (by simp only [maxLen]; omega) (by omega) (Nat.zero_le _) ?_; intro g2 cap2 w2 ho hg hp; have HT2 := Aside0.mk ((HT.out.alloc _).grow HS.out ho hg hp); clear ho hg hp))
                go_roundg k2
                case measure => have := HK2.out; omega
                case rel => exact ⟨k + 1, L, by omega, ⟨by have := HK2.out; omega⟩, congrArg (Value.int .i64) (by omega), ⟨by have := HLn.out; omega⟩, HT2⟩
            · obtain rfl : k = 70 := by omega
              have hd2 : decide (((70 : Nat) : Int) < 70) = false := by decide
              have HT' := Aside0.mk (HT.out.next HS.out)
              clear HT
              go_wp2_with fail
              go_roundg k1
              case measure => have := HK.out; omega
              case rel => exact ⟨i + 1, L, by omega, ⟨by have := HK.out; omega⟩, congrArg (Value.int .i64) (by omega), ⟨by have := HLn.out; omega⟩, HT'⟩
        · obtain rfl : i = N := by omega
          have hd : decide ((i : Int) < (i : Int)) = false := decide_eq_false (by omega)
          clear HK hlt hi
          obtain ⟨N, rfl⟩ : ∃ N, N = i := ⟨i, rfl⟩
          obtain ⟨wF, rfl⟩ : ∃ wF : World, wF = wr := ⟨_, rfl⟩
          obtain ⟨Am, cm, em⟩ : ∃ Am cm, u5 = .slice Am L.length cm := XApartW.ownW_slice HT.out.om
          obtain ⟨Ah, ch, eh⟩ : ∃ Ah ch, u6 = .slice Ah L.length ch := XApartW.ownW_slice HT.out.oh
          subst em eh
          go_wp2_with fail
          clear hd
          go_loop [10] (fun v => ∃ j : Nat, j ≤ L.length ∧ v = .int .i64 (j : Int)) (fun v => L.length - (intOf v).toNat)
          case atStart => exact ⟨0, by omega, rfl⟩
          case round =>
            obtain ⟨j, hjL, rfl⟩ := hrel
            have hL := HLn.out
            by_cases hlt : j < L.length
            · have hd : decide ((j : Int) < (L.length : Int)) = true := decide_eq_true (by omega)
              obtain ⟨m, cm', hh, ch', g, len, c, i, e1, e2, hx1, hx2, hi, hnl, hlen, hcells⟩ := HT.out.read j hlt
              cases e1
              cases e2
              have HCE := Aside0.mk hcells
              have HNL := Aside0.mk hnl
              have hx3 := HC.out wF HT.out.inv.but i hi
              have HB' := Aside0.mk (fun g' (hg' : gs i = some g') => (HT.out.inv.base i g' hg').cell)
              have hMi := HM.out i
              clear hcells hnl
              have hw1 : IntKind.u8.wrap (1 + (i : Int)) = 1 + (i : Int) := by rw [IntKind.wrap_u8]; omega
              have hw2 : IntKind.u8.wrap (128 + (i : Int)) = 128 + (i : Int) := by rw [IntKind.wrap_u8]; omega
              go_wp2_with fail
              go_loop [12] (fun v => ∃ k : Nat, k ≤ len ∧ v = .int .i64 (k : Int)) (fun v => len - (intOf v).toNat)
              case atStart => exact ⟨0, by omega, rfl⟩
              case round =>
                obtain ⟨k, hk, rfl⟩ := hrel
                by_cases hkl : k < len
                · have hd2 : decide ((k : Int) < (len : Int)) = true := decide_eq_true (by omega)
                  have hc1 := HCE.out k hkl
                  by_cases hk5 : k < ns i
                  · have hw : XApartW.want grownBytes.own grownBytes.mark ns i k = .int .u8 (1 + (i : Int)) := by unfold XApartW.want; rw [if_pos hk5]; rfl
                    rw [hw] at hc1
                    obtain ⟨g', hg'⟩ := HP.out i (by omega)
                    have hc2 := HB'.out g' hg' k hk5
                    rw [show XApartW.want grownBytes.own grownBytes.mark ns (⟨g', ns i, cs i, i⟩ : XApartW.Rec).i k = .int .u8 (1 + (i : Int)) from hw] at hc2
                    rw [hg'] at hx3
                    simp only [Option.map_some] at hx3
                    clear hw hg'
                    have hd3 : decide ((k : Int) < (ns i : Int)) = true := decide_eq_true (by omega)
                    go_wp2_with fail
                    go_round
                    case rel => exact ⟨k + 1, by omega, by go_num⟩
                    case measure => simp [intOf]; omega
                  · have hw : XApartW.want grownBytes.own grownBytes.mark ns i k = .int .u8 (128 + (i : Int)) := by unfold XApartW.want; rw [if_neg hk5]; rfl
                    rw [hw] at hc1
                    clear hw
                    have hd3 : decide ((k : Int) < (ns i : Int)) = false := decide_eq_false (by omega)
                    go_wp2_with fail
                    go_round
                    case rel => exact ⟨k + 1, by omega, by go_num⟩
                    case measure => simp [intOf]; omega
                · obtain rfl : k = len := by omega
                  have hd2 : decide ((k : Int) < (k : Int)) = false := decide_eq_false (by omega)
                  go_wp2_with fail
                  go_round
                  case rel => exact ⟨j + 1, by omega, by go_num⟩
                  case measure => simp [intOf]; omega
            · obtain rfl : j = L.length := by omega
              have hd : decide ((L.length : Int) < (L.length : Int)) = false := decide_eq_false (by omega)
              go_wp2_with fail
              go_ret
              exact ⟨rfl, HT.out.inv.but⟩
def grownCodes.own (i : Nat) : Value := .int .u32 (1000 + (i : Int))
def grownCodes.mark (i : Nat) : Value := .int .u32 (2000 + (i : Int))
theorem grownCodes.infoT : (Try.prog.info? 61).map (fun i => (i.zero, i.size, i.bytes)) = some (some (.int .u32 0), 1, 4) := by kernel_rfl
theorem grownCodes.infoS : (Try.prog.info? 26).map (fun i => (i.zero, i.size, i.bytes)) = some (some (.slice none 0 0), 1, 24) := by kernel_rfl
theorem grownCodes.infoI : (Try.prog.info? 3).map (fun i => (i.zero, i.size, i.bytes)) = some (some (.int .i64 0), 1, 8) := by kernel_rfl
set_option maxHeartbeats 4000000 in
set_option maxRecDepth 100000 in
theorem grownCodes.calls (w : World) (G c : Nat) (vs : List Value) (h : XApartW.Pre 61 26 1099511627776 w G vs) :
    Calls Try.prog 47 #[.slice (some ⟨G, 0, none⟩) vs.length c] w fun e w' => e = .returned (.bool true) ∧ XApartW.ButFor (XApartW.gsOf vs) w.heap.size w w' := by
  obtain ⟨hS, hF, hj, hM, hP, hcell⟩ := h.facts
  have hpos := h.pos
  have hfew := h.few
  have HF := Aside0.mk (hF grownCodes.own)
  clear h hF
  generalize XApartW.nsOf vs = ns at hS HF hM hP hcell ⊢
  generalize XApartW.csOf vs = cs at hS HF hcell ⊢
  generalize XApartW.gsOf vs = gs at hS HF hj hP hcell ⊢
  generalize vs.length = N at hj hcell hpos hfew ⊢
  have HS := Aside0.mk hS
  have HJ := Aside0.mk hj
  have HM := Aside0.mk hM
  have HP := Aside0.mk hP
  have HC := Aside0.mk hcell
  clear hS hj hM hP hcell
  go_enter Try.func47, Try.ntmps47
  go_wp2_with fail
  go_loopg [3] (N + 1) (fun kq v3 w' => ∃ i : Nat, i ≤ N ∧ Aside0 (kq + i = N + 1) ∧ v3 = .int .i64 (i : Int) ∧ Aside0 (XApartW.Fill grownCodes.own ns cs gs w.heap.size 61 w w' i 0))
  case atStart => exact ⟨0, by omega, ⟨rfl⟩, rfl, HF⟩
  case round =>
    clear HF
    obtain ⟨i, hi, HK, rfl, HF⟩ := hrel
    by_cases hlt : i < N
    · have hd : decide ((i : Int) < (N : Int)) = true := decide_eq_true (by omega)
      obtain ⟨k1, rfl⟩ : ∃ k1, gk = k1 + 1 := ⟨gk - 1, by have := HK.out; omega⟩
      have hMi := HM.out i
      have hw1 : IntKind.u32.wrap (1000 + (i : Int)) = 1000 + (i : Int) := by rw [IntKind.wrap_u32]; omega
      have hw2 : IntKind.u32.wrap (2000 + (i : Int)) = 2000 + (i : Int) := by rw [IntKind.wrap_u32]; omega
      go_wp2_with fail
      go_loopg [4] (ns i + 1) (fun kq v4 w' => ∃ k : Nat, k ≤ ns i ∧ Aside0 (kq + k = ns i + 1) ∧ v4 = .int .i64 (k : Int) ∧ Aside0 (XApartW.Fill grownCodes.own ns cs gs w.heap.size 61 w w' i k))
      case atStart => exact ⟨0, by omega, ⟨rfl⟩, rfl, HF⟩
      case round =>
        clear HF
        obtain ⟨k, hk, HK2, rfl, HF⟩ := hrel
        have hx := HC.out wr HF.out.but i hlt
        by_cases hk5 : k < ns i
        · have hd2 : decide ((k : Int) < (ns i : Int)) = true := decide_eq_true (by omega)
          obtain ⟨k2, rfl⟩ : ∃ k2, gk = k2 + 1 := ⟨gk - 1, by have := HK2.out; omega⟩
          obtain ⟨g, hg⟩ := HP.out i (by omega)
          have HG := Aside0.mk hg
          rw [hg] at hx
          simp only [Option.map_some] at hx
          clear hg
          obtain ⟨⟨x, hxc⟩, hxf⟩ := HF.out.cell HS.out HG.out (t := k) hk5
          go_wp2_with fail
          have HF' := Aside0.mk (HF.out.store HS.out HG.out hk5)
          go_roundg k2
          case measure => have := HK2.out; omega
          case rel => exact ⟨k + 1, by omega, ⟨by have := HK2.out; omega⟩, congrArg (Value.int .i64) (by omega), HF'⟩
        · obtain rfl : k = ns i := by omega
          have hd2 : decide ((ns i : Int) < (ns i : Int)) = false := decide_eq_false (by omega)
          have HF' := Aside0.mk (HF.out.next (Nat.le_refl _))
          clear HF
          go_wp2_with fail
          go_roundg k1
          case measure => have := HK.out; omega
          case rel => exact ⟨i + 1, by omega, ⟨by have := HK.out; omega⟩, congrArg (Value.int .i64) (by omega), HF'⟩
    · obtain rfl : i = N := by omega
      have hd : decide ((i : Int) < (i : Int)) = false := decide_eq_false (by omega)
      have HT0 := Aside0.mk (XApartW.St.start (mark := grownCodes.mark) (N := i) (eS := 26) (eI := 3) HF.out HS.out (fun j g hg => HJ.out j g hg) hpos)
      clear HF hlt hi
      obtain ⟨N, rfl⟩ : ∃ N, N = i := ⟨i, rfl⟩
      go_wp2_with fail
      clear hd HK
      go_loopg [5, 6, 7] (N + 1) (fun kq v5 v6 v7 w' => ∃ (i : Nat) (L : List XApartW.Rec), i ≤ N ∧ Aside0 (kq + i = N + 1) ∧ v7 = .int .i64 (i : Int) ∧ Aside0 (L.length ≤ 70 * i) ∧ Aside0 (XApartW.St grownCodes.own grownCodes.mark ns cs gs N w.heap.size 61 26 3 w w' i 0 (XApartW.sv ns cs gs i) v5 v6 L L))
      case atStart => exact ⟨0, [], by omega, ⟨rfl⟩, rfl, ⟨Nat.zero_le _⟩, HT0⟩
      case round =>
        clear HT0
        obtain ⟨i, L, hi, HK, rfl, HLn, HT⟩ := hrel
        by_cases hlt : i < N
        · have hx := HC.out wr HT.out.inv.but i hlt
          rw [show XApartW.sv ns cs gs i = .slice ((gs i).map fun g => ⟨g, 0, none⟩) (ns i) (cs i) from rfl] at HT
          have hd : decide ((i : Int) < (N : Int)) = true := decide_eq_true (by omega)
          obtain ⟨k1, rfl⟩ : ∃ k1, gk = k1 + 1 := ⟨gk - 1, by have := HK.out; omega⟩
          have hMi := HM.out i
          have hw1 : IntKind.u32.wrap (1000 + (i : Int)) = 1000 + (i : Int) := by rw [IntKind.wrap_u32]; omega
          have hw2 : IntKind.u32.wrap (2000 + (i : Int)) = 2000 + (i : Int) := by rw [IntKind.wrap_u32]; omega
          go_wp2_with fail
          clear hx
          go_loopg [5, 6, 8, 9] 71 (fun kq v5 v6 v8 v9 w' => ∃ (k : Nat) (L : List XApartW.Rec), k ≤ 70 ∧ Aside0 (kq + k = 71) ∧ v9 = .int .i64 (k : Int) ∧ Aside0 (L.length ≤ 70 * i + k) ∧ Aside0 (XApartW.St grownCodes.own grownCodes.mark ns cs gs N w.heap.size 61 26 3 w w' i k v8 v5 v6 L L))
          case atStart => exact ⟨0, L, by omega, ⟨rfl⟩, rfl, HLn, HT⟩
          case round =>
            clear HT HLn
            obtain ⟨k, L, hk, HK2, rfl, HLn, HT⟩ := hrel
            by_cases hk7 : k < 70
            · have hd2 : decide ((k : Int) < 70) = true := decide_eq_true (by omega)
              obtain ⟨k2, rfl⟩ : ∃ k2, gk = k2 + 1 := ⟨gk - 1, by have := HK2.out; omega⟩
              have hLs : L.length ≤ 10000 := by have := HLn.out; omega
              have hcase : decide ((k : Int) < 16) = true ∨ (decide ((k : Int) < 16) = false ∧ ((k : Int) == 69) = true) ∨ (decide ((k : Int) < 16) = false ∧ ((k : Int) == 69) = false) := by
                by_cases c : k < 16
                · exact .inl (decide_eq_true (by omega))
                · by_cases c2 : k = 69
                  · exact .inr (.inl ⟨decide_eq_false (by omega), beq_iff_eq.mpr (by omega)⟩)
                  · exact .inr (.inr ⟨decide_eq_false (by omega), beq_eq_false_iff_ne.mpr (by omega)⟩)
              rcases hcase with c1 | ⟨c1, c2⟩ | ⟨c1, c2⟩
              iterate 2
                · go_wp2_with (first | ((with_reducible refine gate_builtin (b := .append) (xs := #[.tmp 52, .tmp 56]) rfl ?_); at_builtin; refine XApartW.wpList_append_keep 0 rfl (.tmp 52) (.tmp 56) 26 61 (.int .u32 0) 4 rfl Try.underlying26 grownCodes.infoT rfl u8 (ns i + k) (XApartW.form grownCodes.own grownCodes.mark ns i k) _ _ (grownCodes.mark i) rfl rfl (HT.out.alloc _).ou (XApartW.new_cell _ _ _ _) rfl (by simp only [maxLen]; omega) (by omega) (Nat.zero_le _) ?_; intro g2 cap2 w2 ho hg hp; have HT2 := Aside0.mk ((HT.out.alloc _).grow HS.out ho hg hp); clear ho hg hp) | ((with_reducible refine gate_builtin (b := .append) (xs := #[.tmp 64, .tmp 66]) rfl ?_); at_builtin; refine XApartW.wpList_append_keep w.heap.size rfl (.tmp 64) (.tmp 66) 76 26 (.slice none 0 0) 24 rfl Try.underlying76 grownCodes.infoS rfl u5 L.length (L.map XApartW.Rec.val) _ _ (.slice (some ⟨g2, 0, none⟩) (ns i + k + 1) cap2) rfl rfl (HT2.out.alloc _).om (XApartW.new_cell _ _ _ _) rfl (by simp only [maxLen]; omega) (by omega) (HT2.out.alloc _).inv.size ?_; intro m3 cm3 w3 ho hg hp; have HT3 := Aside0.mk ((HT2.out.alloc _).keepM HS.out hlt ho hg hp); clear ho hg hp) | ((with_reducible refine gate_builtin (b := .append) (xs := #[.tmp 68, .tmp 70]) rfl ?_); at_builtin; refine XApartW.wpList_append_keep w.heap.size rfl (.tmp 68) (.tmp 70) 118 3 (.int .i64 0) 8 rfl Try.underlying118 grownCodes.infoI rfl u6 L.length (L.map fun r => .int .i64 (r.i : Int)) _ _ (.int .i64 (i : Int)) rfl rfl (HT3.out.alloc _).oh (XApartW.new_cell _ _ _ _) rfl (by simp only [maxLen]; omega) (by omega) (HT3.out.alloc _).inv.size ?_; intro m4 cm4 w4 ho hg hp; have HT4 := Aside0.mk ((HT3.out.alloc _).keepH (r := ⟨g2, ns i + (k + 1), cap2, i⟩) HS.out rfl ho hg hp); clear ho hg hp))
                  go_roundg k2
                  case measure => have := HK2.out; omega
                  case rel => exact ⟨k + 1, L ++ [⟨g2, ns i + (k + 1), cap2, i⟩], by omega, ⟨by have := HK2.out; omega⟩, congrArg (Value.int .i64) (by omega), ⟨by have := HLn.out; simp only [List.length_append, List.length_cons, List.length_nil]; omega⟩, HT4⟩
              · go_wp2_with (first | ((with_reducible refine gate_builtin (b := .append) (xs := #[.tmp 52, .tmp 56]) rfl ?_); at_builtin; refine XApartW.wpList_append_keep 0 rfl (.tmp 52) (.tmp 56) 26 61 (.int .u32 0) 4 rfl Try.underlying26 grownCodes.infoT rfl u8 (ns i + k) (XApartW.form grownCodes.own grownCodes.mark ns i k) _ _ (grownCodes.mark i) rfl rfl (HT.out.alloc _).ou (XApartW.new_cell _ _ _ _) rfl (by simp only [maxLen]; omega) (by omega) (Nat.zero_le _) ?_; intro g2 cap2 w2 ho hg hp; have HT2 := Aside0.mk ((HT.out.alloc _).grow HS.out ho hg hp); clear ho hg hp))
                go_roundg k2
                case measure => have := HK2.out; omega
                case rel => exact ⟨k + 1, L, by omega, ⟨by have := HK2.out; omega⟩, congrArg (Value.int .i64) (by omega), ⟨by have := HLn.out; omega⟩, HT2⟩
            · obtain rfl : k = 70 := by omega
              have hd2 : decide (((70 : Nat) : Int) < 70) = false := by decide
              have HT' := Aside0.mk (HT.out.next HS.out)
              clear HT
              go_wp2_with fail
              go_roundg k1
              case measure => have := HK.out; omega
              case rel => exact ⟨i + 1, L, by omega, ⟨by have := HK.out; omega⟩, congrArg (Value.int .i64) (by omega), ⟨by have := HLn.out; omega⟩, HT'⟩
        · obtain rfl : i = N := by omega
          have hd : decide ((i : Int) < (i : Int)) = false := decide_eq_false (by omega)
          clear HK hlt hi
          obtain ⟨N, rfl⟩ : ∃ N, N = i := ⟨i, rfl⟩
          obtain ⟨wF, rfl⟩ : ∃ wF : World, wF = wr := ⟨_, rfl⟩
          obtain ⟨Am, cm, em⟩ : ∃ Am cm, u5 = .slice Am L.length cm := XApartW.ownW_slice HT.out.om
          obtain ⟨Ah, ch, eh⟩ : ∃ Ah ch, u6 = .slice Ah L.length ch := XApartW.ownW_slice HT.out.oh
          subst em eh
          go_wp2_with fail
          clear hd
          go_loop [10] (fun v => ∃ j : Nat, j ≤ L.length ∧ v = .int .i64 (j : Int)) (fun v => L.length - (intOf v).toNat)
          case atStart => exact ⟨0, by omega, rfl⟩
          case round =>
            obtain ⟨j, hjL, rfl⟩ := hrel
            have hL := HLn.out
            by_cases hlt : j < L.length
            · have hd : decide ((j : Int) < (L.length : Int)) = true := decide_eq_true (by omega)
              obtain ⟨m, cm', hh, ch', g, len, c, i, e1, e2, hx1, hx2, hi, hnl, hlen, hcells⟩ := HT.out.read j hlt
              cases e1
              cases e2
              have HCE := Aside0.mk hcells
              have HNL := Aside0.mk hnl
              have hx3 := HC.out wF HT.out.inv.but i hi
              have HB' := Aside0.mk (fun g' (hg' : gs i = some g') => (HT.out.inv.base i g' hg').cell)
              have hMi := HM.out i
              clear hcells hnl
              have hw1 : IntKind.u32.wrap (1000 + (i : Int)) = 1000 + (i : Int) := by rw [IntKind.wrap_u32]; omega
              have hw2 : IntKind.u32.wrap (2000 + (i : Int)) = 2000 + (i : Int) := by rw [IntKind.wrap_u32]; omega
              go_wp2_with fail
              go_loop [12] (fun v => ∃ k : Nat, k ≤ len ∧ v = .int .i64 (k : Int)) (fun v => len - (intOf v).toNat)
              case atStart => exact ⟨0, by omega, rfl⟩
              case round =>
                obtain ⟨k, hk, rfl⟩ := hrel
                by_cases hkl : k < len
                · have hd2 : decide ((k : Int) < (len : Int)) = true := decide_eq_true (by omega)
                  have hc1 := HCE.out k hkl
                  by_cases hk5 : k < ns i
                  · have hw : XApartW.want grownCodes.own grownCodes.mark ns i k = .int .u32 (1000 + (i : Int)) := by unfold XApartW.want; rw [if_pos hk5]; rfl
                    rw [hw] at hc1
                    obtain ⟨g', hg'⟩ := HP.out i (by omega)
                    have hc2 := HB'.out g' hg' k hk5
                    rw [show XApartW.want grownCodes.own grownCodes.mark ns (⟨g', ns i, cs i, i⟩ : XApartW.Rec).i k = .int .u32 (1000 + (i : Int)) from hw] at hc2
                    rw [hg'] at hx3
                    simp only [Option.map_some] at hx3
                    clear hw hg'
                    have hd3 : decide ((k : Int) < (ns i : Int)) = true := decide_eq_true (by omega)
                    go_wp2_with fail
                    go_round
                    case rel => exact ⟨k + 1, by omega, by go_num⟩
                    case measure => simp [intOf]; omega
                  · have hw : XApartW.want grownCodes.own grownCodes.mark ns i k = .int .u32 (2000 + (i : Int)) := by unfold XApartW.want; rw [if_neg hk5]; rfl
                    rw [hw] at hc1
                    clear hw
                    have hd3 : decide ((k : Int) < (ns i : Int)) = false := decide_eq_false (by omega)
                    go_wp2_with fail
                    go_round
                    case rel => exact ⟨k + 1, by omega, by go_num⟩
                    case measure => simp [intOf]; omega
                · obtain rfl : k = len := by omega
                  have hd2 : decide ((k : Int) < (k : Int)) = false := decide_eq_false (by omega)
                  go_wp2_with fail
                  go_round
                  case rel => exact ⟨j + 1, by omega, by go_num⟩
                  case measure => simp [intOf]; omega
            · obtain rfl : j = L.length := by omega
              have hd : decide ((L.length : Int) < (L.length : Int)) = false := decide_eq_false (by omega)
              go_wp2_with fail
              go_ret
              exact ⟨rfl, HT.out.inv.but⟩
end Go.Proofs.Ytlpllhpnnhablaa.XGrown
