/- Chapter 08: lists that came in are written full, grown place by place, read: written by gen_apart.py. -/
import Derived.Test.YtkepimkabfoapabProg
import Derived.Test.YtkepimkabfoapabWMore
import Derived.Test.YtkepimkabfoapabWLast
import Derived.Test.YtkepimkabfoapabWFoot
import Derived.Test.YtkepimkabfoapabXApart
import Derived.WalkKit
import Derived.Deep.RegionHeld3
import Derived.Deep.RegionWith
import Derived.WalkSpells
namespace Go.Proofs.Ytkepimkabfoapab.XOwn
open Go.RowKit Go.Proofs.YtkepimkabfoapabW.PrintWords Go.Proofs.YtkepimkabfoapabW.PrintLast Go.Proofs.YtkepimkabfoapabW.PrintMore
set_option linter.unusedVariables false
set_option linter.unusedSimpArgs false
def apart.own (i : Nat) : Value := .int .u8 (i : Int)
def apart.mark (i : Nat) : Value := .int .u8 (128 + (i : Int))
theorem apart.infoT : (Try.prog.info? 5).map (fun i => (i.zero, i.size, i.bytes)) = some (some (.int .u8 0), 1, 1) := by kernel_rfl
theorem apart.infoS : (Try.prog.info? 24).map (fun i => (i.zero, i.size, i.bytes)) = some (some (.slice none 0 0), 1, 24) := by kernel_rfl
theorem apart.infoI : (Try.prog.info? 3).map (fun i => (i.zero, i.size, i.bytes)) = some (some (.int .i64 0), 1, 8) := by kernel_rfl
set_option maxHeartbeats 4000000 in
set_option maxRecDepth 100000 in
theorem apart.calls (w : World) (G c : Nat) (vs : List Value) (h : XApart.Pre 5 24 1099511627776 w G vs) :
    Calls Try.prog 31 #[.slice (some ⟨G, 0, none⟩) vs.length c] w fun e w' => e = .returned (.bool true) ∧ XApart.ButFor (XApart.gsOf vs) w.heap.size w w' := by
  obtain ⟨hS, hF, hj, hM, hP, hcell⟩ := h.facts
  have hpos := h.pos
  have hfew := h.few
  have HF := Aside0.mk (hF apart.own)
  clear h hF
  generalize XApart.nsOf vs = ns at hS HF hM hP hcell ⊢
  generalize XApart.csOf vs = cs at hS HF hcell ⊢
  generalize XApart.gsOf vs = gs at hS HF hj hP hcell ⊢
  generalize vs.length = N at hj hcell hpos hfew ⊢
  have HS := Aside0.mk hS
  have HJ := Aside0.mk hj
  have HM := Aside0.mk hM
  have HP := Aside0.mk hP
  have HC := Aside0.mk hcell
  clear hS hj hM hP hcell
  go_enter Try.func31, Try.ntmps31
  go_wp2_with fail
  go_loopg [3] (N + 1) (fun kq v3 w' => ∃ i : Nat, i ≤ N ∧ Aside0 (kq + i = N + 1) ∧ v3 = .int .i64 (i : Int) ∧ Aside0 (XApart.Fill apart.own ns cs gs w.heap.size 5 w w' i 0))
  case atStart => exact ⟨0, by omega, ⟨rfl⟩, rfl, HF⟩
  case round =>
    clear HF
    obtain ⟨i, hi, HK, rfl, HF⟩ := hrel
    by_cases hlt : i < N
    · have hd : decide ((i : Int) < (N : Int)) = true := decide_eq_true (by omega)
      obtain ⟨k1, rfl⟩ : ∃ k1, gk = k1 + 1 := ⟨gk - 1, by have := HK.out; omega⟩
      have hMi := HM.out i
      have hw1 : IntKind.u8.wrap (i : Int) = (i : Int) := by rw [IntKind.wrap_u8]; omega
      have hw2 : IntKind.u8.wrap (128 + (i : Int)) = 128 + (i : Int) := by rw [IntKind.wrap_u8]; omega
      go_wp2_with fail
      go_loopg [4] (ns i + 1) (fun kq v4 w' => ∃ k : Nat, k ≤ ns i ∧ Aside0 (kq + k = ns i + 1) ∧ v4 = .int .i64 (k : Int) ∧ Aside0 (XApart.Fill apart.own ns cs gs w.heap.size 5 w w' i k))
      case atStart => exact ⟨0, by omega, ⟨rfl⟩, rfl, HF⟩
      case round =>
        clear HF
        obtain ⟨k, hk, HK2, rfl, HF⟩ := hrel
        have hx := HC.out wr HF.out.but i hlt
        by_cases hk5 : k < ns i
        · have hd2 : decide ((k : Int) < (ns i : Int)) = true := decide_eq_true (by omega)
          obtain ⟨k2, rfl⟩ : ∃ k2, gk = k2 + 1 := ⟨gk - 1, by have := HK2.out; omega⟩
          obtain ⟨g, hg⟩ := HP.out i (by omega)
          have HG := Aside0.mk hg
          rw [hg] at hx
          simp only [Option.map_some] at hx
          clear hg
          obtain ⟨⟨x, hxc⟩, hxf⟩ := HF.out.cell HS.out HG.out (t := k) hk5
          go_wp2_with fail
          have HF' := Aside0.mk (HF.out.store HS.out HG.out hk5)
          go_roundg k2
          case measure => have := HK2.out; omega
          case rel => exact ⟨k + 1, by omega, ⟨by have := HK2.out; omega⟩, congrArg (Value.int .i64) (by omega), HF'⟩
        · obtain rfl : k = ns i := by omega
          have hd2 : decide ((ns i : Int) < (ns i : Int)) = false := decide_eq_false (by omega)
          have HF' := Aside0.mk (HF.out.next (Nat.le_refl _))
          clear HF
          go_wp2_with fail
          go_roundg k1
          case measure => have := HK.out; omega
          case rel => exact ⟨i + 1, by omega, ⟨by have := HK.out; omega⟩, congrArg (Value.int .i64) (by omega), HF'⟩
    · obtain rfl : i = N := by omega
      have hd : decide ((i : Int) < (i : Int)) = false := decide_eq_false (by omega)
      have HT0 := Aside0.mk (XApart.St.start (mark := apart.mark) (N := i) (eS := 24) (eI := 3) HF.out HS.out (fun j g hg => HJ.out j g hg) hpos)
      clear HF hlt hi
      obtain ⟨N, rfl⟩ : ∃ N, N = i := ⟨i, rfl⟩
      go_wp2_with fail
      clear hd HK
      go_loopg [5, 6, 7] (N + 1) (fun kq v5 v6 v7 w' => ∃ (i : Nat) (L : List XApart.Rec), i ≤ N ∧ Aside0 (kq + i = N + 1) ∧ v7 = .int .i64 (i : Int) ∧ Aside0 (L.length ≤ 66 * i) ∧ Aside0 (XApart.St apart.own apart.mark ns cs gs N w.heap.size 5 24 3 w w' i 0 (XApart.sv ns cs gs i) v5 v6 L L))
      case atStart => exact ⟨0, [], by omega, ⟨rfl⟩, rfl, ⟨Nat.zero_le _⟩, HT0⟩
      case round =>
        clear HT0
        obtain ⟨i, L, hi, HK, rfl, HLn, HT⟩ := hrel
        by_cases hlt : i < N
        · have hx := HC.out wr HT.out.inv.but i hlt
          rw [show XApart.sv ns cs gs i = .slice ((gs i).map fun g => ⟨g, 0, none⟩) (ns i) (cs i) from rfl] at HT
          have hd : decide ((i : Int) < (N : Int)) = true := decide_eq_true (by omega)
          obtain ⟨k1, rfl⟩ : ∃ k1, gk = k1 + 1 := ⟨gk - 1, by have := HK.out; omega⟩
          have hMi := HM.out i
          have hw1 : IntKind.u8.wrap (i : Int) = (i : Int) := by rw [IntKind.wrap_u8]; omega
          have hw2 : IntKind.u8.wrap (128 + (i : Int)) = 128 + (i : Int) := by rw [IntKind.wrap_u8]; omega
          go_wp2_with fail
          clear hx
          go_loopg [5, 6, 8, 9] 67 (fun kq v5 v6 v8 v9 w' => ∃ (k : Nat) (L : List XApart.Rec), k ≤ 66 ∧ Aside0 (kq + k = 67) ∧ v9 = .int .i64 (k : Int) ∧ Aside0 (L.length ≤ 66 * i + k) ∧ Aside0 (XApart.St apart.own apart.mark ns cs gs N w.heap.size 5 24 3 w w' i k v8 v5 v6 L L))
          case atStart => exact ⟨0, L, by omega, ⟨rfl⟩, rfl, HLn, HT⟩
          case round =>
            clear HT HLn
            obtain ⟨k, L, hk, HK2, rfl, HLn, HT⟩ := hrel
            by_cases hk7 : k < 66
            · have hd2 : decide ((k : Int) < 66) = true := decide_eq_true (by omega)
              obtain ⟨k2, rfl⟩ : ∃ k2, gk = k2 + 1 := ⟨gk - 1, by have := HK2.out; omega⟩
              have hLs : L.length ≤ 10000 := by have := HLn.out; omega
              have hcase : decide ((k : Int) < 16) = true ∨ (decide ((k : Int) < 16) = false ∧ ((k : Int) == 65) = true) ∨ (decide ((k : Int) < 16) = false ∧ ((k : Int) == 65) = false) := by
                by_cases c : k < 16
                · exact .inl (decide_eq_true (by omega))
                · by_cases c2 : k = 65
                  · exact .inr (.inl ⟨decide_eq_false (by omega), beq_iff_eq.mpr (by omega)⟩)
                  · exact .inr (.inr ⟨decide_eq_false (by omega), beq_eq_false_iff_ne.mpr (by omega)⟩)
              rcases hcase with c1 | ⟨c1, c2⟩ | ⟨c1, c2⟩
              iterate 2
                · go_wp2_with (first | ((with_reducible refine gate_builtin (b := .append) (xs := #[.tmp 51, .tmp 55]) rfl ?_); at_builtin; refine XApart.wpList_append_keep 0 rfl (.tmp 51) (.tmp 55) 24 5 (.int .u8 0) 1 rfl Try.underlying24 apart.infoT rfl u8 (ns i + k) (XApart.form apart.own apart.mark ns i k) _ _ (apart.mark i) rfl rfl (HT.out.alloc _).ou (XApart.new_cell _ _ _ _) rfl (by simp only [maxLen]; omega) (by omega) (Nat.zero_le _) ?_; intro g2 cap2 w2 ho hg hp; have HT2 := Aside0.mk ((HT.out.alloc _).grow HS.out ho hg hp); clear ho hg hp) | ((with_reducible refine gate_builtin (b := .append) (xs := #[.tmp 63, .tmp 65]) rfl ?_); at_builtin; refine XApart.wpList_append_keep w.heap.size rfl (.tmp 63) (.tmp 65) 56 24 (.slice none 0 0) 24 rfl Try.underlying56 apart.infoS rfl u5 L.length (L.map XApart.Rec.val) _ _ (.slice (some ⟨g2, 0, none⟩) (ns i + k + 1) cap2) rfl rfl (HT2.out.alloc _).om (XApart.new_cell _ _ _ _) rfl (by simp only [maxLen]; omega) (by omega) (HT2.out.alloc _).inv.size ?_; intro m3 cm3 w3 ho hg hp; have HT3 := Aside0.mk ((HT2.out.alloc _).keepM HS.out hlt ho hg hp); clear ho hg hp) | ((with_reducible refine gate_builtin (b := .append) (xs := #[.tmp 67, .tmp 69]) rfl ?_); at_builtin; refine XApart.wpList_append_keep w.heap.size rfl (.tmp 67) (.tmp 69) 72 3 (.int .i64 0) 8 rfl Try.underlying72 apart.infoI rfl u6 L.length (L.map fun r => .int .i64 (r.i : Int)) _ _ (.int .i64 (i : Int)) rfl rfl (HT3.out.alloc _).oh (XApart.new_cell _ _ _ _) rfl (by simp only [maxLen]; omega) (by omega) (HT3.out.alloc _).inv.size ?_; intro m4 cm4 w4 ho hg hp; have HT4 := Aside0.mk ((HT3.out.alloc _).keepH (r := ⟨g2, ns i + (k + 1), cap2, i⟩) HS.out rfl ho hg hp); clear ho hg hp))
                  go_roundg k2
                  case measure => have := HK2.out; omega
                  case rel => exact ⟨k + 1, L ++ [⟨g2, ns i + (k + 1), cap2, i⟩], by omega, ⟨by have := HK2.out; omega⟩, congrArg (Value.int .i64) (by omega), ⟨by have := HLn.out; simp only [List.length_append, List.length_cons, List.length_nil]; omega⟩, HT4⟩
              · go_wp2_with (first | ((with_reducible refine gate_builtin (b := .append) (xs := #[.tmp 51, .tmp 55]) rfl ?_); at_builtin; refine XApart.wpList_append_keep 0 rfl (.tmp 51) (.tmp 55) 24 5 (.int .u8 0) 1 rfl Try.underlying24 apart.infoT rfl u8 (ns i + k) (XApart.form apart.own apart.mark ns i k) _ _ (apart.mark i) rfl rfl (HT.out.alloc _).ou (XApart.new_cell _ _ _ _) rfl (by simp only [maxLen]; omega) (by omega) (Nat.zero_le _) ?_; intro g2 cap2 w2 ho hg hp; have HT2 := Aside0.mk ((HT.out.alloc _).grow HS.out ho hg hp); clear ho hg hp))
                go_roundg k2
                case measure => have := HK2.out; omega
                case rel => exact ⟨k + 1, L, by omega, ⟨by have := HK2.out; omega⟩, congrArg (Value.int .i64) (by omega), ⟨by have := HLn.out; omega⟩, HT2⟩
            · obtain rfl : k = 66 := by omega
              have hd2 : decide (((66 : Nat) : Int) < 66) = false := by decide
              have HT' := Aside0.mk (HT.out.next HS.out)
              clear HT
              go_wp2_with fail
              go_roundg k1
              case measure => have := HK.out; omega
              case rel => exact ⟨i + 1, L, by omega, ⟨by have := HK.out; omega⟩, congrArg (Value.int .i64) (by omega), ⟨by have := HLn.out; omega⟩, HT'⟩
        · obtain rfl : i = N := by omega
          have hd : decide ((i : Int) < (i : Int)) = false := decide_eq_false (by omega)
          clear HK hlt hi
          obtain ⟨N, rfl⟩ : ∃ N, N = i := ⟨i, rfl⟩
          obtain ⟨wF, rfl⟩ : ∃ wF : World, wF = wr := ⟨_, rfl⟩
          obtain ⟨Am, cm, em⟩ : ∃ Am cm, u5 = .slice Am L.length cm := own_slice HT.out.om
          obtain ⟨Ah, ch, eh⟩ : ∃ Ah ch, u6 = .slice Ah L.length ch := own_slice HT.out.oh
          subst em eh
          go_wp2_with fail
          clear hd
          go_loop [10] (fun v => ∃ j : Nat, j ≤ L.length ∧ v = .int .i64 (j : Int)) (fun v => L.length - (intOf v).toNat)
          case atStart => exact ⟨0, by omega, rfl⟩
          case round =>
            obtain ⟨j, hjL, rfl⟩ := hrel
            have hL := HLn.out
            by_cases hlt : j < L.length
            · have hd : decide ((j : Int) < (L.length : Int)) = true := decide_eq_true (by omega)
              obtain ⟨m, cm', hh, ch', g, len, c, i, e1, e2, hx1, hx2, hi, hnl, hlen, hcells⟩ := HT.out.read j hlt
              cases e1
              cases e2
              have HCE := Aside0.mk hcells
              have HNL := Aside0.mk hnl
              have hx3 := HC.out wF HT.out.inv.but i hi
              have HB' := Aside0.mk (fun g' (hg' : gs i = some g') => (HT.out.inv.base i g' hg').cell)
              have hMi := HM.out i
              clear hcells hnl
              have hw1 : IntKind.u8.wrap (i : Int) = (i : Int) := by rw [IntKind.wrap_u8]; omega
              have hw2 : IntKind.u8.wrap (128 + (i : Int)) = 128 + (i : Int) := by rw [IntKind.wrap_u8]; omega
              go_wp2_with fail
              go_loop [12] (fun v => ∃ k : Nat, k ≤ len ∧ v = .int .i64 (k : Int)) (fun v => len - (intOf v).toNat)
              case atStart => exact ⟨0, by omega, rfl⟩
              case round =>
                obtain ⟨k, hk, rfl⟩ := hrel
                by_cases hkl : k < len
                · have hd2 : decide ((k : Int) < (len : Int)) = true := decide_eq_true (by omega)
                  have hc1 := HCE.out k hkl
                  by_cases hk5 : k < ns i
                  · have hw : XApart.want apart.own apart.mark ns i k = .int .u8 (i : Int) := by unfold XApart.want; rw [if_pos hk5]; rfl
                    rw [hw] at hc1
                    obtain ⟨g', hg'⟩ := HP.out i (by omega)
                    have hc2 := HB'.out g' hg' k hk5
                    rw [show XApart.want apart.own apart.mark ns (⟨g', ns i, cs i, i⟩ : XApart.Rec).i k = .int .u8 (i : Int) from hw] at hc2
                    rw [hg'] at hx3
                    simp only [Option.map_some] at hx3
                    clear hw hg'
                    have hd3 : decide ((k : Int) < (ns i : Int)) = true := decide_eq_true (by omega)
                    go_wp2_with fail
                    go_round
                    case rel => exact ⟨k + 1, by omega, by go_num⟩
                    case measure => simp [intOf]; omega
                  · have hw : XApart.want apart.own apart.mark ns i k = .int .u8 (128 + (i : Int)) := by unfold XApart.want; rw [if_neg hk5]; rfl
                    rw [hw] at hc1
                    clear hw
                    have hd3 : decide ((k : Int) < (ns i : Int)) = false := decide_eq_false (by omega)
                    go_wp2_with fail
                    go_round
                    case rel => exact ⟨k + 1, by omega, by go_num⟩
                    case measure => simp [intOf]; omega
                · obtain rfl : k = len := by omega
                  have hd2 : decide ((k : Int) < (k : Int)) = false := decide_eq_false (by omega)
                  go_wp2_with fail
                  go_round
                  case rel => exact ⟨j + 1, by omega, by go_num⟩
                  case measure => simp [intOf]; omega
            · obtain rfl : j = L.length := by omega
              have hd : decide ((L.length : Int) < (L.length : Int)) = false := decide_eq_false (by omega)
              go_wp2_with fail
              go_ret
              exact ⟨rfl, HT.out.inv.but⟩
def apartInts.own (i : Nat) : Value := .int .i64 (i : Int)
def apartInts.mark (i : Nat) : Value := .int .i64 (1000 + (i : Int))
theorem apartInts.infoT : (Try.prog.info? 2).map (fun i => (i.zero, i.size, i.bytes)) = some (some (.int .i64 0), 1, 8) := by kernel_rfl
theorem apartInts.infoS : (Try.prog.info? 22).map (fun i => (i.zero, i.size, i.bytes)) = some (some (.slice none 0 0), 1, 24) := by kernel_rfl
theorem apartInts.infoI : (Try.prog.info? 3).map (fun i => (i.zero, i.size, i.bytes)) = some (some (.int .i64 0), 1, 8) := by kernel_rfl
set_option maxHeartbeats 4000000 in
set_option maxRecDepth 100000 in
theorem apartInts.calls (w : World) (G c : Nat) (vs : List Value) (h : XApart.Pre 2 22 1099511627776 w G vs) :
    Calls Try.prog 32 #[.slice (some ⟨G, 0, none⟩) vs.length c] w fun e w' => e = .returned (.bool true) ∧ XApart.ButFor (XApart.gsOf vs) w.heap.size w w' := by
  obtain ⟨hS, hF, hj, hM, hP, hcell⟩ := h.facts
  have hpos := h.pos
  have hfew := h.few
  have HF := Aside0.mk (hF apartInts.own)
  clear h hF
  generalize XApart.nsOf vs = ns at hS HF hM hP hcell ⊢
  generalize XApart.csOf vs = cs at hS HF hcell ⊢
  generalize XApart.gsOf vs = gs at hS HF hj hP hcell ⊢
  generalize vs.length = N at hj hcell hpos hfew ⊢
  have HS := Aside0.mk hS
  have HJ := Aside0.mk hj
  have HM := Aside0.mk hM
  have HP := Aside0.mk hP
  have HC := Aside0.mk hcell
  clear hS hj hM hP hcell
  go_enter Try.func32, Try.ntmps32
  go_wp2_with fail
  go_loopg [3] (N + 1) (fun kq v3 w' => ∃ i : Nat, i ≤ N ∧ Aside0 (kq + i = N + 1) ∧ v3 = .int .i64 (i : Int) ∧ Aside0 (XApart.Fill apartInts.own ns cs gs w.heap.size 2 w w' i 0))
  case atStart => exact ⟨0, by omega, ⟨rfl⟩, rfl, HF⟩
  case round =>
    clear HF
    obtain ⟨i, hi, HK, rfl, HF⟩ := hrel
    by_cases hlt : i < N
    · have hd : decide ((i : Int) < (N : Int)) = true := decide_eq_true (by omega)
      obtain ⟨k1, rfl⟩ : ∃ k1, gk = k1 + 1 := ⟨gk - 1, by have := HK.out; omega⟩
      have hMi := HM.out i
      go_wp2_with fail
      go_loopg [4] (ns i + 1) (fun kq v4 w' => ∃ k : Nat, k ≤ ns i ∧ Aside0 (kq + k = ns i + 1) ∧ v4 = .int .i64 (k : Int) ∧ Aside0 (XApart.Fill apartInts.own ns cs gs w.heap.size 2 w w' i k))
      case atStart => exact ⟨0, by omega, ⟨rfl⟩, rfl, HF⟩
      case round =>
        clear HF
        obtain ⟨k, hk, HK2, rfl, HF⟩ := hrel
        have hx := HC.out wr HF.out.but i hlt
        by_cases hk5 : k < ns i
        · have hd2 : decide ((k : Int) < (ns i : Int)) = true := decide_eq_true (by omega)
          obtain ⟨k2, rfl⟩ : ∃ k2, gk = k2 + 1 := ⟨gk - 1, by have := HK2.out; omega⟩
          obtain ⟨g, hg⟩ := HP.out i (by omega)
          have HG := Aside0.mk hg
          rw [hg] at hx
          simp only [Option.map_some] at hx
          clear hg
          obtain ⟨⟨x, hxc⟩, hxf⟩ := HF.out.cell HS.out HG.out (t := k) hk5
          go_wp2_with fail
          have HF' := Aside0.mk (HF.out.store HS.out HG.out hk5)
          go_roundg k2
          case measure => have := HK2.out; omega
          case rel => exact ⟨k + 1, by omega, ⟨by have := HK2.out; omega⟩, congrArg (Value.int .i64) (by omega), HF'⟩
        · obtain rfl : k = ns i := by omega
          have hd2 : decide ((ns i : Int) < (ns i : Int)) = false := decide_eq_false (by omega)
          have HF' := Aside0.mk (HF.out.next (Nat.le_refl _))
          clear HF
          go_wp2_with fail
          go_roundg k1
          case measure => have := HK.out; omega
          case rel => exact ⟨i + 1, by omega, ⟨by have := HK.out; omega⟩, congrArg (Value.int .i64) (by omega), HF'⟩
    · obtain rfl : i = N := by omega
      have hd : decide ((i : Int) < (i : Int)) = false := decide_eq_false (by omega)
      have HT0 := Aside0.mk (XApart.St.start (mark := apartInts.mark) (N := i) (eS := 22) (eI := 3) HF.out HS.out (fun j g hg => HJ.out j g hg) hpos)
      clear HF hlt hi
      obtain ⟨N, rfl⟩ : ∃ N, N = i := ⟨i, rfl⟩
      go_wp2_with fail
      clear hd HK
      go_loopg [5, 6, 7] (N + 1) (fun kq v5 v6 v7 w' => ∃ (i : Nat) (L : List XApart.Rec), i ≤ N ∧ Aside0 (kq + i = N + 1) ∧ v7 = .int .i64 (i : Int) ∧ Aside0 (L.length ≤ 66 * i) ∧ Aside0 (XApart.St apartInts.own apartInts.mark ns cs gs N w.heap.size 2 22 3 w w' i 0 (XApart.sv ns cs gs i) v5 v6 L L))
      case atStart => exact ⟨0, [], by omega, ⟨rfl⟩, rfl, ⟨Nat.zero_le _⟩, HT0⟩
      case round =>
        clear HT0
        obtain ⟨i, L, hi, HK, rfl, HLn, HT⟩ := hrel
        by_cases hlt : i < N
        · have hx := HC.out wr HT.out.inv.but i hlt
          rw [show XApart.sv ns cs gs i = .slice ((gs i).map fun g => ⟨g, 0, none⟩) (ns i) (cs i) from rfl] at HT
          have hd : decide ((i : Int) < (N : Int)) = true := decide_eq_true (by omega)
          obtain ⟨k1, rfl⟩ : ∃ k1, gk = k1 + 1 := ⟨gk - 1, by have := HK.out; omega⟩
          have hMi := HM.out i
          go_wp2_with fail
          clear hx
          go_loopg [5, 6, 8, 9] 67 (fun kq v5 v6 v8 v9 w' => ∃ (k : Nat) (L : List XApart.Rec), k ≤ 66 ∧ Aside0 (kq + k = 67) ∧ v9 = .int .i64 (k : Int) ∧ Aside0 (L.length ≤ 66 * i + k) ∧ Aside0 (XApart.St apartInts.own apartInts.mark ns cs gs N w.heap.size 2 22 3 w w' i k v8 v5 v6 L L))
          case atStart => exact ⟨0, L, by omega, ⟨rfl⟩, rfl, HLn, HT⟩
          case round =>
            clear HT HLn
            obtain ⟨k, L, hk, HK2, rfl, HLn, HT⟩ := hrel
            by_cases hk7 : k < 66
            · have hd2 : decide ((k : Int) < 66) = true := decide_eq_true (by omega)
              obtain ⟨k2, rfl⟩ : ∃ k2, gk = k2 + 1 := ⟨gk - 1, by have := HK2.out; omega⟩
              have hLs : L.length ≤ 10000 := by have := HLn.out; omega
              have hcase : decide ((k : Int) < 16) = true ∨ (decide ((k : Int) < 16) = false ∧ ((k : Int) == 65) = true) ∨ (decide ((k : Int) < 16) = false ∧ ((k : Int) == 65) = false) := by
                by_cases c : k < 16
                · exact .inl (decide_eq_true (by omega))
                · by_cases c2 : k = 65
                  · exact .inr (.inl ⟨decide_eq_false (by omega), beq_iff_eq.mpr (by omega)⟩)
                  · exact .inr (.inr ⟨decide_eq_false (by omega), beq_eq_false_iff_ne.mpr (by omega)⟩)
              rcases hcase with c1 | ⟨c1, c2⟩ | ⟨c1, c2⟩
              iterate 2
                · go_wp2_with (first | ((with_reducible refine gate_builtin (b := .append) (xs := #[.tmp 50, .tmp 53]) rfl ?_); at_builtin; refine XApart.wpList_append_keep 0 rfl (.tmp 50) (.tmp 53) 22 2 (.int .i64 0) 8 rfl Try.underlying22 apartInts.infoT rfl u8 (ns i + k) (XApart.form apartInts.own apartInts.mark ns i k) _ _ (apartInts.mark i) rfl rfl (HT.out.alloc _).ou (XApart.new_cell _ _ _ _) rfl (by simp only [maxLen]; omega) (by omega) (Nat.zero_le _) ?_; intro g2 cap2 w2 ho hg hp; have HT2 := Aside0.mk ((HT.out.alloc _).grow HS.out ho hg hp); clear ho hg hp) | ((with_reducible refine gate_builtin (b := .append) (xs := #[.tmp 61, .tmp 63]) rfl ?_); at_builtin; refine XApart.wpList_append_keep w.heap.size rfl (.tmp 61) (.tmp 63) 58 22 (.slice none 0 0) 24 rfl Try.underlying58 apartInts.infoS rfl u5 L.length (L.map XApart.Rec.val) _ _ (.slice (some ⟨g2, 0, none⟩) (ns i + k + 1) cap2) rfl rfl (HT2.out.alloc _).om (XApart.new_cell _ _ _ _) rfl (by simp only [maxLen]; omega) (by omega) (HT2.out.alloc _).inv.size ?_; intro m3 cm3 w3 ho hg hp; have HT3 := Aside0.mk ((HT2.out.alloc _).keepM HS.out hlt ho hg hp); clear ho hg hp) | ((with_reducible refine gate_builtin (b := .append) (xs := #[.tmp 65, .tmp 67]) rfl ?_); at_builtin; refine XApart.wpList_append_keep w.heap.size rfl (.tmp 65) (.tmp 67) 72 3 (.int .i64 0) 8 rfl Try.underlying72 apartInts.infoI rfl u6 L.length (L.map fun r => .int .i64 (r.i : Int)) _ _ (.int .i64 (i : Int)) rfl rfl (HT3.out.alloc _).oh (XApart.new_cell _ _ _ _) rfl (by simp only [maxLen]; omega) (by omega) (HT3.out.alloc _).inv.size ?_; intro m4 cm4 w4 ho hg hp; have HT4 := Aside0.mk ((HT3.out.alloc _).keepH (r := ⟨g2, ns i + (k + 1), cap2, i⟩) HS.out rfl ho hg hp); clear ho hg hp))
                  go_roundg k2
                  case measure => have := HK2.out; omega
                  case rel => exact ⟨k + 1, L ++ [⟨g2, ns i + (k + 1), cap2, i⟩], by omega, ⟨by have := HK2.out; omega⟩, congrArg (Value.int .i64) (by omega), ⟨by have := HLn.out; simp only [List.length_append, List.length_cons, List.length_nil]; omega⟩, HT4⟩
              · go_wp2_with (first | ((with_reducible refine gate_builtin (b := .append) (xs := #[.tmp 50, .tmp 53]) rfl ?_); at_builtin; refine XApart.wpList_append_keep 0 rfl (.tmp 50) (.tmp 53) 22 2 (.int .i64 0) 8 rfl Try.underlying22 apartInts.infoT rfl u8 (ns i + k) (XApart.form apartInts.own apartInts.mark ns i k) _ _ (apartInts.mark i) rfl rfl (HT.out.alloc _).ou (XApart.new_cell _ _ _ _) rfl (by simp only [maxLen]; omega) (by omega) (Nat.zero_le _) ?_; intro g2 cap2 w2 ho hg hp; have HT2 := Aside0.mk ((HT.out.alloc _).grow HS.out ho hg hp); clear ho hg hp))
                go_roundg k2
                case measure => have := HK2.out; omega
                case rel => exact ⟨k + 1, L, by omega, ⟨by have := HK2.out; omega⟩, congrArg (Value.int .i64) (by omega), ⟨by have := HLn.out; omega⟩, HT2⟩
            · obtain rfl : k = 66 := by omega
              have hd2 : decide (((66 : Nat) : Int) < 66) = false := by decide
              have HT' := Aside0.mk (HT.out.next HS.out)
              clear HT
              go_wp2_with fail
              go_roundg k1
              case measure => have := HK.out; omega
              case rel => exact ⟨i + 1, L, by omega, ⟨by have := HK.out; omega⟩, congrArg (Value.int .i64) (by omega), ⟨by have := HLn.out; omega⟩, HT'⟩
        · obtain rfl : i = N := by omega
          have hd : decide ((i : Int) < (i : Int)) = false := decide_eq_false (by omega)
          clear HK hlt hi
          obtain ⟨N, rfl⟩ : ∃ N, N = i := ⟨i, rfl⟩
          obtain ⟨wF, rfl⟩ : ∃ wF : World, wF = wr := ⟨_, rfl⟩
          obtain ⟨Am, cm, em⟩ : ∃ Am cm, u5 = .slice Am L.length cm := own_slice HT.out.om
          obtain ⟨Ah, ch, eh⟩ : ∃ Ah ch, u6 = .slice Ah L.length ch := own_slice HT.out.oh
          subst em eh
          go_wp2_with fail
          clear hd
          go_loop [10] (fun v => ∃ j : Nat, j ≤ L.length ∧ v = .int .i64 (j : Int)) (fun v => L.length - (intOf v).toNat)
          case atStart => exact ⟨0, by omega, rfl⟩
          case round =>
            obtain ⟨j, hjL, rfl⟩ := hrel
            have hL := HLn.out
            by_cases hlt : j < L.length
            · have hd : decide ((j : Int) < (L.length : Int)) = true := decide_eq_true (by omega)
              obtain ⟨m, cm', hh, ch', g, len, c, i, e1, e2, hx1, hx2, hi, hnl, hlen, hcells⟩ := HT.out.read j hlt
              cases e1
              cases e2
              have HCE := Aside0.mk hcells
              have HNL := Aside0.mk hnl
              have hx3 := HC.out wF HT.out.inv.but i hi
              have HB' := Aside0.mk (fun g' (hg' : gs i = some g') => (HT.out.inv.base i g' hg').cell)
              have hMi := HM.out i
              clear hcells hnl
              go_wp2_with fail
              go_loop [12] (fun v => ∃ k : Nat, k ≤ len ∧ v = .int .i64 (k : Int)) (fun v => len - (intOf v).toNat)
              case atStart => exact ⟨0, by omega, rfl⟩
              case round =>
                obtain ⟨k, hk, rfl⟩ := hrel
                by_cases hkl : k < len
                · have hd2 : decide ((k : Int) < (len : Int)) = true := decide_eq_true (by omega)
                  have hc1 := HCE.out k hkl
                  by_cases hk5 : k < ns i
                  · have hw : XApart.want apartInts.own apartInts.mark ns i k = .int .i64 (i : Int) := by unfold XApart.want; rw [if_pos hk5]; rfl
                    rw [hw] at hc1
                    obtain ⟨g', hg'⟩ := HP.out i (by omega)
                    have hc2 := HB'.out g' hg' k hk5
                    rw [show XApart.want apartInts.own apartInts.mark ns (⟨g', ns i, cs i, i⟩ : XApart.Rec).i k = .int .i64 (i : Int) from hw] at hc2
                    rw [hg'] at hx3
                    simp only [Option.map_some] at hx3
                    clear hw hg'
                    have hd3 : decide ((k : Int) < (ns i : Int)) = true := decide_eq_true (by omega)
                    go_wp2_with fail
                    go_round
                    case rel => exact ⟨k + 1, by omega, by go_num⟩
                    case measure => simp [intOf]; omega
                  · have hw : XApart.want apartInts.own apartInts.mark ns i k = .int .i64 (1000 + (i : Int)) := by unfold XApart.want; rw [if_neg hk5]; rfl
                    rw [hw] at hc1
                    clear hw
                    have hd3 : decide ((k : Int) < (ns i : Int)) = false := decide_eq_false (by omega)
                    go_wp2_with fail
                    go_round
                    case rel => exact ⟨k + 1, by omega, by go_num⟩
                    case measure => simp [intOf]; omega
                · obtain rfl : k = len := by omega
                  have hd2 : decide ((k : Int) < (k : Int)) = false := decide_eq_false (by omega)
                  go_wp2_with fail
                  go_round
                  case rel => exact ⟨j + 1, by omega, by go_num⟩
                  case measure => simp [intOf]; omega
            · obtain rfl : j = L.length := by omega
              have hd : decide ((L.length : Int) < (L.length : Int)) = false := decide_eq_false (by omega)
              go_wp2_with fail
              go_ret
              exact ⟨rfl, HT.out.inv.but⟩
def apartTexts.ch (i : Nat) : ByteArray := strOfNums [65 + (i : Int)]
theorem apartTexts.ch_size (i : Nat) : (apartTexts.ch i).size = 1 := by unfold apartTexts.ch; rw [strOfNums_size]; rfl
theorem apartTexts.new_cell2 (w : World) (o : Obj) (y : Value) (t : TypeId) (fr : Nat × Nat) : ((w.alloc o).alloc (.cells #[y] t fr)).cell? ⟨w.heap.size + 1, 0, none⟩ = some y := by
  have h := XApart.new_cell (w.alloc o) y t fr
  rwa [World.size_alloc] at h
theorem apartTexts.fdrew {own : Nat → Value} {ns cs : Nat → Nat} {gs : Nat → Option Nat} {W0 eT i k : Nat} {w0 w : World} (h : XApart.Fill own ns cs gs W0 eT w0 w i k) (hS : XApart.Static ns cs gs W0) : XApart.Fill own ns cs gs W0 eT w0 w.drew i k :=
  h.move hS (w' := w.drew) ⟨rfl, rfl, rfl, Nat.le_refl _, fun _ _ _ => rfl⟩
theorem apartTexts.butfor {gs : Nat → Option Nat} {W0 : Nat} {w w1 w2 : World} (h : XApart.ButFor gs W0 w w1) (hW : W0 ≤ w1.heap.size) (hb : Below w1.heap.size w1 w2) : XApart.ButFor gs W0 w w2 :=
  h.grown hW (row := none) ⟨hb.os, hb.tape, hb.output, hb.size, fun k hk _ => hb.block k hk⟩ (by simp)
theorem apartTexts.lit_C (W : World) (e : TypeId) (fr : Nat × Nat) (l : List Int) (hl : l.length ≤ 9223372036854775807) :
    Kd.C (Kd.int .u8) (W.alloc (.cells (l.map (Value.int .u8)).toArray e fr)) (some ⟨W.heap.size, 0, none⟩) l.length l := by
  refine Kd.C_of_reads (h1 := fun _ => rfl) (d := 0) ⟨rfl, hl, fun _ => ⟨_, rfl, fun j hj => ?_⟩⟩
  rw [add_plain, World.cell?_alloc_mark]
  simp [List.getD_eq_getElem?_getD, hj]
theorem apartTexts.conv (W : World) (i : Nat) : (convert 24 9 (.slice (some ⟨W.heap.size, 0, none⟩) 1 1)).run Try.prog (W.alloc (.cells #[.int .u8 (65 + (i : Int))] 5)) = .ok (.string (apartTexts.ch i)) (W.alloc (.cells #[.int .u8 (65 + (i : Int))] 5)) :=
  Kd.C_string (P := Try.prog) Try.underlying24 Try.underlying5 Try.underlying9 (apartTexts.lit_C W 5 (0, 0) [65 + (i : Int)] (by simp))
theorem apartTexts.conv2 (W : World) (i : Nat) : (convert 24 9 (.slice (some ⟨W.heap.size, 0, none⟩) 1 1)).run Try.prog (W.alloc (.cells #[.int .u8 (65 + (i : Int))] 5)).drew = .ok (.string (apartTexts.ch i)) (W.alloc (.cells #[.int .u8 (65 + (i : Int))] 5)).drew :=
  Kd.C_string (P := Try.prog) Try.underlying24 Try.underlying5 Try.underlying9 (Kd.C_drew (apartTexts.lit_C W 5 (0, 0) [65 + (i : Int)] (by simp)))
theorem apartTexts.conv3 (W : World) (o : Obj) (i : Nat) : (convert 24 9 (.slice (some ⟨W.heap.size + 1, 0, none⟩) 1 1)).run Try.prog ((W.alloc o).alloc (.cells #[.int .u8 (65 + (i : Int))] 5)) = .ok (.string (apartTexts.ch i)) ((W.alloc o).alloc (.cells #[.int .u8 (65 + (i : Int))] 5)) := by
  have h := apartTexts.conv (W.alloc o) i
  rwa [World.size_alloc] at h
def apartTexts.own (i : Nat) : Value := .string ((⟨#[111, 119, 110]⟩ : ByteArray) ++ apartTexts.ch i)
def apartTexts.mark (i : Nat) : Value := .string ((⟨#[109, 111, 114, 101]⟩ : ByteArray) ++ apartTexts.ch i)
theorem apartTexts.infoT : (Try.prog.info? 9).map (fun i => (i.zero, i.size, i.bytes)) = some (some (.string ByteArray.empty), 1, 16) := by kernel_rfl
theorem apartTexts.infoS : (Try.prog.info? 23).map (fun i => (i.zero, i.size, i.bytes)) = some (some (.slice none 0 0), 1, 24) := by kernel_rfl
theorem apartTexts.infoI : (Try.prog.info? 3).map (fun i => (i.zero, i.size, i.bytes)) = some (some (.int .i64 0), 1, 8) := by kernel_rfl
set_option maxHeartbeats 4000000 in
set_option maxRecDepth 100000 in
theorem apartTexts.calls (w : World) (G c : Nat) (vs : List Value) (h : XApart.Pre 9 23 1099511627776 w G vs) :
    Calls Try.prog 33 #[.slice (some ⟨G, 0, none⟩) vs.length c] w fun e w' => e = .returned (.bool true) ∧ XApart.ButFor (XApart.gsOf vs) w.heap.size w w' := by
  obtain ⟨hS, hF, hj, hM, hP, hcell⟩ := h.facts
  have hpos := h.pos
  have hfew := h.few
  have HF := Aside0.mk (hF apartTexts.own)
  clear h hF
  generalize XApart.nsOf vs = ns at hS HF hM hP hcell ⊢
  generalize XApart.csOf vs = cs at hS HF hcell ⊢
  generalize XApart.gsOf vs = gs at hS HF hj hP hcell ⊢
  generalize vs.length = N at hj hcell hpos hfew ⊢
  have HS := Aside0.mk hS
  have HJ := Aside0.mk hj
  have HM := Aside0.mk hM
  have HP := Aside0.mk hP
  have HC := Aside0.mk hcell
  clear hS hj hM hP hcell
  go_enter Try.func33, Try.ntmps33
  go_wp2_with fail
  go_loopg [3] (N + 1) (fun kq v3 w' => ∃ i : Nat, i ≤ N ∧ Aside0 (kq + i = N + 1) ∧ v3 = .int .i64 (i : Int) ∧ Aside0 (XApart.Fill apartTexts.own ns cs gs w.heap.size 9 w w' i 0))
  case atStart => exact ⟨0, by omega, ⟨rfl⟩, rfl, HF⟩
  case round =>
    clear HF
    obtain ⟨i, hi, HK, rfl, HF⟩ := hrel
    by_cases hlt : i < N
    · have hd : decide ((i : Int) < (N : Int)) = true := decide_eq_true (by omega)
      obtain ⟨k1, rfl⟩ : ∃ k1, gk = k1 + 1 := ⟨gk - 1, by have := HK.out; omega⟩
      have hMi := HM.out i
      have hw2 : IntKind.u8.wrap (65 + (i : Int)) = 65 + (i : Int) := by rw [IntKind.wrap_u8]; omega
      have hcv := fun W => apartTexts.conv W i
      have hcv2 := fun W => apartTexts.conv2 W i
      have hcv3 := fun W o => apartTexts.conv3 W o i
      have hsz := apartTexts.ch_size i
      go_wp2_with fail
      go_loopg [4] (ns i + 1) (fun kq v4 w' => ∃ k : Nat, k ≤ ns i ∧ Aside0 (kq + k = ns i + 1) ∧ v4 = .int .i64 (k : Int) ∧ Aside0 (XApart.Fill apartTexts.own ns cs gs w.heap.size 9 w w' i k))
      case atStart => exact ⟨0, by omega, ⟨rfl⟩, rfl, HF⟩
      case round =>
        clear HF
        obtain ⟨k, hk, HK2, rfl, HF⟩ := hrel
        have hx := HC.out wr HF.out.but i hlt
        by_cases hk5 : k < ns i
        · have hd2 : decide ((k : Int) < (ns i : Int)) = true := decide_eq_true (by omega)
          obtain ⟨k2, rfl⟩ : ∃ k2, gk = k2 + 1 := ⟨gk - 1, by have := HK2.out; omega⟩
          obtain ⟨g, hg⟩ := HP.out i (by omega)
          have HG := Aside0.mk hg
          rw [hg] at hx
          simp only [Option.map_some] at hx
          clear hg
          obtain ⟨⟨x, hxc⟩, hxf⟩ := HF.out.cell HS.out HG.out (t := k) hk5
          have hGs := World.new_ne wr _ hx
          have hgs := World.new_ne wr _ hxc
          have hw3 : IntKind.i64.wrap (65 + (i : Int)) = 65 + (i : Int) := by rw [i64_w]; unfold wrap64; omega
          have hfz : ∀ o, (wr.alloc o).drew.frozen? ⟨g, k, none⟩ = false := fun o => ((below_alloc (Below.refl wr.heap.size wr) o).frozen (p := ⟨g, k, none⟩) (World.block_lt_of_cell? wr _ hxc)).trans hxf
          go_wp2_with fail
          have hxz : ∀ o, (wr.alloc o).drew.cell? ⟨g, k, none⟩ = some x := fun o => ((below_alloc (Below.refl wr.heap.size wr) o).cell (p := ⟨g, k, none⟩) (World.block_lt_of_cell? wr _ hxc)).trans hxc
          have hyz : ∀ o, (wr.alloc o).drew.cell? ⟨G, i, none⟩ = some (.slice (some ⟨g, 0, none⟩) (ns i) (cs i)) := fun o => ((below_alloc (Below.refl wr.heap.size wr) o).cell (p := ⟨G, i, none⟩) (World.block_lt_of_cell? wr _ hx)).trans hx
          go_region_with (fail)
          all_goals (
            have HF' := Aside0.mk (apartTexts.fdrew ((HF.out.move HS.out (World.grownBy_alloc wr (.cells #[.int .u8 (65 + (i : Int))] 5) none)).store HS.out HG.out hk5) HS.out)
            clear hcv hcv2 hcv3 hfz hxz hyz hx hxc hxf hGs hgs
            go_wp2_with fail
            go_roundg k2
            case measure => have := HK2.out; omega
            case rel => exact ⟨k + 1, by omega, ⟨by have := HK2.out; omega⟩, congrArg (Value.int .i64) (by omega), HF'⟩)
        · obtain rfl : k = ns i := by omega
          have hd2 : decide ((ns i : Int) < (ns i : Int)) = false := decide_eq_false (by omega)
          have HF' := Aside0.mk (HF.out.next (Nat.le_refl _))
          clear HF
          go_wp2_with fail
          go_roundg k1
          case measure => have := HK.out; omega
          case rel => exact ⟨i + 1, by omega, ⟨by have := HK.out; omega⟩, congrArg (Value.int .i64) (by omega), HF'⟩
    · obtain rfl : i = N := by omega
      have hd : decide ((i : Int) < (i : Int)) = false := decide_eq_false (by omega)
      have HT0 := Aside0.mk (XApart.St.start (mark := apartTexts.mark) (N := i) (eS := 23) (eI := 3) HF.out HS.out (fun j g hg => HJ.out j g hg) hpos)
      clear HF hlt hi
      obtain ⟨N, rfl⟩ : ∃ N, N = i := ⟨i, rfl⟩
      go_wp2_with fail
      clear hd HK
      go_loopg [5, 6, 7] (N + 1) (fun kq v5 v6 v7 w' => ∃ (i : Nat) (L : List XApart.Rec), i ≤ N ∧ Aside0 (kq + i = N + 1) ∧ v7 = .int .i64 (i : Int) ∧ Aside0 (L.length ≤ 66 * i) ∧ Aside0 (XApart.St apartTexts.own apartTexts.mark ns cs gs N w.heap.size 9 23 3 w w' i 0 (XApart.sv ns cs gs i) v5 v6 L L))
      case atStart => exact ⟨0, [], by omega, ⟨rfl⟩, rfl, ⟨Nat.zero_le _⟩, HT0⟩
      case round =>
        clear HT0
        obtain ⟨i, L, hi, HK, rfl, HLn, HT⟩ := hrel
        by_cases hlt : i < N
        · have hx := HC.out wr HT.out.inv.but i hlt
          rw [show XApart.sv ns cs gs i = .slice ((gs i).map fun g => ⟨g, 0, none⟩) (ns i) (cs i) from rfl] at HT
          have hd : decide ((i : Int) < (N : Int)) = true := decide_eq_true (by omega)
          obtain ⟨k1, rfl⟩ : ∃ k1, gk = k1 + 1 := ⟨gk - 1, by have := HK.out; omega⟩
          have hMi := HM.out i
          have hw2 : IntKind.u8.wrap (65 + (i : Int)) = 65 + (i : Int) := by rw [IntKind.wrap_u8]; omega
          have hcv := fun W => apartTexts.conv W i
          have hcv2 := fun W => apartTexts.conv2 W i
          have hcv3 := fun W o => apartTexts.conv3 W o i
          have hsz := apartTexts.ch_size i
          go_wp2_with fail
          clear hx
          go_loopg [5, 6, 8, 9] 67 (fun kq v5 v6 v8 v9 w' => ∃ (k : Nat) (L : List XApart.Rec), k ≤ 66 ∧ Aside0 (kq + k = 67) ∧ v9 = .int .i64 (k : Int) ∧ Aside0 (L.length ≤ 66 * i + k) ∧ Aside0 (XApart.St apartTexts.own apartTexts.mark ns cs gs N w.heap.size 9 23 3 w w' i k v8 v5 v6 L L))
          case atStart => exact ⟨0, L, by omega, ⟨rfl⟩, rfl, HLn, HT⟩
          case round =>
            clear HT HLn
            obtain ⟨k, L, hk, HK2, rfl, HLn, HT⟩ := hrel
            by_cases hk7 : k < 66
            · have hd2 : decide ((k : Int) < 66) = true := decide_eq_true (by omega)
              obtain ⟨k2, rfl⟩ : ∃ k2, gk = k2 + 1 := ⟨gk - 1, by have := HK2.out; omega⟩
              have hLs : L.length ≤ 10000 := by have := HLn.out; omega
              have hcase : decide ((k : Int) < 16) = true ∨ (decide ((k : Int) < 16) = false ∧ ((k : Int) == 65) = true) ∨ (decide ((k : Int) < 16) = false ∧ ((k : Int) == 65) = false) := by
                by_cases c : k < 16
                · exact .inl (decide_eq_true (by omega))
                · by_cases c2 : k = 65
                  · exact .inr (.inl ⟨decide_eq_false (by omega), beq_iff_eq.mpr (by omega)⟩)
                  · exact .inr (.inr ⟨decide_eq_false (by omega), beq_eq_false_iff_ne.mpr (by omega)⟩)
              rcases hcase with c1 | ⟨c1, c2⟩ | ⟨c1, c2⟩
              iterate 2
                · go_wp2_with (first | ((with_reducible refine gate_builtin (b := .append) (xs := #[.tmp 55, .tmp 62]) rfl ?_); at_builtin; refine XApart.wpList_append_keep 0 rfl (.tmp 55) (.tmp 62) 23 9 (.string ByteArray.empty) 16 rfl Try.underlying23 apartTexts.infoT rfl u8 (ns i + k) (XApart.form apartTexts.own apartTexts.mark ns i k) _ _ (apartTexts.mark i) rfl rfl ((HT.out.alloc _).alloc _).ou (apartTexts.new_cell2 _ _ _ _ _) rfl (by simp only [maxLen]; omega) (by omega) (Nat.zero_le _) ?_; intro g2 cap2 w2 ho hg hp; have HT2 := Aside0.mk (((HT.out.alloc _).alloc _).grow HS.out ho hg hp); clear ho hg hp) | ((with_reducible refine gate_builtin (b := .append) (xs := #[.tmp 70, .tmp 72]) rfl ?_); at_builtin; refine XApart.wpList_append_keep w.heap.size rfl (.tmp 70) (.tmp 72) 44 23 (.slice none 0 0) 24 rfl Try.underlying44 apartTexts.infoS rfl u5 L.length (L.map XApart.Rec.val) _ _ (.slice (some ⟨g2, 0, none⟩) (ns i + k + 1) cap2) rfl rfl (HT2.out.alloc _).om (XApart.new_cell _ _ _ _) rfl (by simp only [maxLen]; omega) (by omega) (HT2.out.alloc _).inv.size ?_; intro m3 cm3 w3 ho hg hp; have HT3 := Aside0.mk ((HT2.out.alloc _).keepM HS.out hlt ho hg hp); clear ho hg hp) | ((with_reducible refine gate_builtin (b := .append) (xs := #[.tmp 74, .tmp 76]) rfl ?_); at_builtin; refine XApart.wpList_append_keep w.heap.size rfl (.tmp 74) (.tmp 76) 72 3 (.int .i64 0) 8 rfl Try.underlying72 apartTexts.infoI rfl u6 L.length (L.map fun r => .int .i64 (r.i : Int)) _ _ (.int .i64 (i : Int)) rfl rfl (HT3.out.alloc _).oh (XApart.new_cell _ _ _ _) rfl (by simp only [maxLen]; omega) (by omega) (HT3.out.alloc _).inv.size ?_; intro m4 cm4 w4 ho hg hp; have HT4 := Aside0.mk ((HT3.out.alloc _).keepH (r := ⟨g2, ns i + (k + 1), cap2, i⟩) HS.out rfl ho hg hp); clear ho hg hp))
                  go_roundg k2
                  case measure => have := HK2.out; omega
                  case rel => exact ⟨k + 1, L ++ [⟨g2, ns i + (k + 1), cap2, i⟩], by omega, ⟨by have := HK2.out; omega⟩, congrArg (Value.int .i64) (by omega), ⟨by have := HLn.out; simp only [List.length_append, List.length_cons, List.length_nil]; omega⟩, HT4⟩
              · go_wp2_with (first | ((with_reducible refine gate_builtin (b := .append) (xs := #[.tmp 55, .tmp 62]) rfl ?_); at_builtin; refine XApart.wpList_append_keep 0 rfl (.tmp 55) (.tmp 62) 23 9 (.string ByteArray.empty) 16 rfl Try.underlying23 apartTexts.infoT rfl u8 (ns i + k) (XApart.form apartTexts.own apartTexts.mark ns i k) _ _ (apartTexts.mark i) rfl rfl ((HT.out.alloc _).alloc _).ou (apartTexts.new_cell2 _ _ _ _ _) rfl (by simp only [maxLen]; omega) (by omega) (Nat.zero_le _) ?_; intro g2 cap2 w2 ho hg hp; have HT2 := Aside0.mk (((HT.out.alloc _).alloc _).grow HS.out ho hg hp); clear ho hg hp))
                go_roundg k2
                case measure => have := HK2.out; omega
                case rel => exact ⟨k + 1, L, by omega, ⟨by have := HK2.out; omega⟩, congrArg (Value.int .i64) (by omega), ⟨by have := HLn.out; omega⟩, HT2⟩
            · obtain rfl : k = 66 := by omega
              have hd2 : decide (((66 : Nat) : Int) < 66) = false := by decide
              have HT' := Aside0.mk (HT.out.next HS.out)
              clear HT
              go_wp2_with fail
              go_roundg k1
              case measure => have := HK.out; omega
              case rel => exact ⟨i + 1, L, by omega, ⟨by have := HK.out; omega⟩, congrArg (Value.int .i64) (by omega), ⟨by have := HLn.out; omega⟩, HT'⟩
        · obtain rfl : i = N := by omega
          have hd : decide ((i : Int) < (i : Int)) = false := decide_eq_false (by omega)
          clear HK hlt hi
          obtain ⟨N, rfl⟩ : ∃ N, N = i := ⟨i, rfl⟩
          obtain ⟨wF, rfl⟩ : ∃ wF : World, wF = wr := ⟨_, rfl⟩
          obtain ⟨Am, cm, em⟩ : ∃ Am cm, u5 = .slice Am L.length cm := own_slice HT.out.om
          obtain ⟨Ah, ch, eh⟩ : ∃ Ah ch, u6 = .slice Ah L.length ch := own_slice HT.out.oh
          subst em eh
          go_wp2_with fail
          clear hd
          go_loopg [10] (L.length + 1) (fun kq v w' => ∃ j : Nat, j ≤ L.length ∧ Aside0 (kq + j = L.length + 1) ∧ v = .int .i64 (j : Int) ∧ Aside0 (Below wF.heap.size wF w'))
          case atStart => exact ⟨0, by omega, ⟨by omega⟩, rfl, ⟨Below.refl _ _⟩⟩
          case round =>
            obtain ⟨j, hjL, HKj, rfl, HBj⟩ := hrel
            have hL := HLn.out
            by_cases hlt : j < L.length
            · have hd : decide ((j : Int) < (L.length : Int)) = true := decide_eq_true (by omega)
              obtain ⟨k1, rfl⟩ : ∃ k1, gk = k1 + 1 := ⟨gk - 1, by have := HKj.out; omega⟩
              obtain ⟨m, cm', hh, ch', g, len, c, i, e1, e2, hx1, hx2, hi, hnl, hlen, hcells⟩ := HT.out.read j hlt
              cases e1
              cases e2
              have HCE := Aside0.mk hcells
              have HNL := Aside0.mk hnl
              have hx3 := HC.out wF HT.out.inv.but i hi
              have HB' := Aside0.mk (fun g' (hg' : gs i = some g') => (HT.out.inv.base i g' hg').cell)
              have hMi := HM.out i
              have HX1 := Aside0.mk hx1
              have HX2 := Aside0.mk hx2
              have HX3 := Aside0.mk hx3
              replace hx1 := (HBj.out.cell (World.block_lt_of_cell? _ _ hx1)).trans hx1
              replace hx2 := (HBj.out.cell (World.block_lt_of_cell? _ _ hx2)).trans hx2
              replace hx3 := (HBj.out.cell (World.block_lt_of_cell? _ _ hx3)).trans hx3
              clear hcells hnl
              have hw2 : IntKind.u8.wrap (65 + (i : Int)) = 65 + (i : Int) := by rw [IntKind.wrap_u8]; omega
              have hcv := fun W => apartTexts.conv W i
              have hcv2 := fun W => apartTexts.conv2 W i
              have hcv3 := fun W o => apartTexts.conv3 W o i
              have hsz := apartTexts.ch_size i
              go_wp2_with fail
              clear hx1 hx2 hx3
              go_loopg [12] (len + 1) (fun kq v w' => ∃ k : Nat, k ≤ len ∧ Aside0 (kq + k = len + 1) ∧ v = .int .i64 (k : Int) ∧ Aside0 (Below wF.heap.size wF w'))
              case atStart => exact ⟨0, by omega, ⟨by omega⟩, rfl, HBj⟩
              case round =>
                clear HBj
                obtain ⟨k, hk, HKk, rfl, HBj⟩ := hrel
                have hx1 := (HBj.out.cell (World.block_lt_of_cell? _ _ HX1.out)).trans HX1.out
                have hx3 := (HBj.out.cell (World.block_lt_of_cell? _ _ HX3.out)).trans HX3.out
                have l1 := World.block_lt_of_cell? _ _ hx1
                have l3 := World.block_lt_of_cell? _ _ hx3
                have n1 : wr.heap.size ≠ m ∧ wr.heap.size + 1 ≠ m := by dsimp only at l1; omega
                have n3 : wr.heap.size ≠ G ∧ wr.heap.size + 1 ≠ G := by dsimp only at l3; omega
                by_cases hkl : k < len
                · have hd2 : decide ((k : Int) < (len : Int)) = true := decide_eq_true (by omega)
                  obtain ⟨k2, rfl⟩ : ∃ k2, gk = k2 + 1 := ⟨gk - 1, by have := HKk.out; omega⟩
                  have hc1 := HCE.out k hkl
                  replace hc1 := (HBj.out.cell (World.block_lt_of_cell? _ _ hc1)).trans hc1
                  have l2 := World.block_lt_of_cell? _ _ hc1
                  have n2 : wr.heap.size ≠ g ∧ wr.heap.size + 1 ≠ g := by dsimp only at l2; omega
                  by_cases hk5 : k < ns i
                  · have hw : XApart.want apartTexts.own apartTexts.mark ns i k = .string ((⟨#[111, 119, 110]⟩ : ByteArray) ++ apartTexts.ch i) := by unfold XApart.want; rw [if_pos hk5]; rfl
                    rw [hw] at hc1
                    obtain ⟨g', hg'⟩ := HP.out i (by omega)
                    have hc2 := HB'.out g' hg' k hk5
                    replace hc2 := (HBj.out.cell (World.block_lt_of_cell? _ _ hc2)).trans hc2
                    have l4 := World.block_lt_of_cell? _ _ hc2
                    have n4 : wr.heap.size ≠ g' ∧ wr.heap.size + 1 ≠ g' := by dsimp only at l4; omega
                    obtain ⟨n4a, n4b⟩ := n4
                    obtain ⟨n3a, n3b⟩ := n3
                    obtain ⟨n2a, n2b⟩ := n2
                    obtain ⟨n1a, n1b⟩ := n1
                    rw [show XApart.want apartTexts.own apartTexts.mark ns (⟨g', ns i, cs i, i⟩ : XApart.Rec).i k = .string ((⟨#[111, 119, 110]⟩ : ByteArray) ++ apartTexts.ch i) from hw] at hc2
                    rw [hg'] at hx3
                    simp only [Option.map_some] at hx3
                    clear hw hg'
                    have hd3 : decide ((k : Int) < (ns i : Int)) = true := decide_eq_true (by omega)
                    go_wp2_with fail
                    go_roundg k2
                    case measure => have := HKk.out; omega
                    case rel => exact ⟨k + 1, by omega, ⟨by have := HKk.out; omega⟩, congrArg (Value.int .i64) (by omega), ⟨below_alloc (below_alloc HBj.out _) _⟩⟩
                  · have hw : XApart.want apartTexts.own apartTexts.mark ns i k = .string ((⟨#[109, 111, 114, 101]⟩ : ByteArray) ++ apartTexts.ch i) := by unfold XApart.want; rw [if_neg hk5]; rfl
                    rw [hw] at hc1
                    clear hw
                    have hd3 : decide ((k : Int) < (ns i : Int)) = false := decide_eq_false (by omega)
                    obtain ⟨n3a, n3b⟩ := n3
                    obtain ⟨n2a, n2b⟩ := n2
                    obtain ⟨n1a, n1b⟩ := n1
                    go_wp2_with fail
                    go_roundg k2
                    case measure => have := HKk.out; omega
                    case rel => exact ⟨k + 1, by omega, ⟨by have := HKk.out; omega⟩, congrArg (Value.int .i64) (by omega), ⟨below_alloc HBj.out _⟩⟩
                · obtain rfl : k = len := by omega
                  have hd2 : decide ((k : Int) < (k : Int)) = false := decide_eq_false (by omega)
                  go_wp2_with fail
                  go_roundg k1
                  case measure => have := HKj.out; omega
                  case rel => exact ⟨j + 1, by omega, ⟨by have := HKj.out; omega⟩, congrArg (Value.int .i64) (by omega), HBj⟩
            · obtain rfl : j = L.length := by omega
              have hd : decide ((L.length : Int) < (L.length : Int)) = false := decide_eq_false (by omega)
              go_wp2_with fail
              go_ret
              exact ⟨rfl, apartTexts.butfor HT.out.inv.but HT.out.inv.size HBj.out⟩
end Go.Proofs.Ytkepimkabfoapab.XOwn
