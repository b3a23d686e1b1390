-- The law's contract by hand (gen_back09.py), over the printed parts; Lean checks it.
import Derived.Test.YtlpllhpnnhablaaGreatPDictBackx0
import Derived.Test.YtlpllhpnnhablaaGreatPDictBackx1
import Derived.Test.YtlpllhpnnhablaaGreatPDictBackx2
import Derived.Test.YtlpllhpnnhablaaGreatPDictBackx3
import Derived.Test.YtlpllhpnnhablaaGreatPDictBackx4
import Derived.Test.YtlpllhpnnhablaaGreatPDictBackx5
import Derived.Test.YtlpllhpnnhablaaGreatPDictBackx6
import Derived.Test.YtlpllhpnnhablaaGreatPDictBackx7
import Derived.Test.YtlpllhpnnhablaaGreatPDictBackx8
import Derived.Test.YtlpllhpnnhablaaGreatPDictBackx9
import Derived.Test.YtlpllhpnnhablaaGreatPDictBackx10
import Derived.Test.YtlpllhpnnhablaaGreatPDictBackx11
namespace Go.Proofs.YtlpllhpnnhablaaGreat.PDictBack
open Go.RowKit Go.Proofs.YtlpllhpnnhablaaGreatW.PrintWords Go.Proofs.YtlpllhpnnhablaaGreatW.PrintLast Go.Proofs.YtlpllhpnnhablaaGreatW.PrintMore
attribute [local go_sem] max2_int min2_int max_two min_two max_three min_three max_four min_four   -- for this text's walks alone
set_option linter.unusedVariables false
set_option linter.unusedSimpArgs false

set_option maxHeartbeats 4000000 in
set_option maxRecDepth 100000 in
theorem colonnadelaw09_DictBack.skip (k : Nat) (A0 : Option Addr) (c0 : Nat) (l0 : List Int) (A1 : Option Addr) (c1 : Nat) (l1 : List ByteArray) (w : World) (hr1 : Kd.C Kd.string w A1 l1.length l1) (hc1 : l1.length ≤ c1) (r : Bool) (h0 : colonnadelaw09_may.f k l1 = some r) (h1 : r = false ∨ 65536 < l0.length ∨ 65536 < l1.length) :
    Calls Tryz.prog 3 #[.slice A0 l0.length c0, .slice A1 l1.length c1] w fun e w' => e = .returned (.bool true) ∧ Below w.heap.size w w' := by
  have HR1 := Aside0.mk hr1
  have HC1 := Aside0.mk hc1
  have H0 := Aside0.mk h0
  clear hr1 hc1 h0
  have hcase : r = false ∨ (r = true ∧ decide ((65536 : Int) < (l0.length : Int)) = true) ∨ (r = true ∧ decide ((65536 : Int) < (l0.length : Int)) = false ∧ decide ((65536 : Int) < (l1.length : Int)) = true) := by
    cases r with
    | false => exact .inl rfl
    | true =>
      by_cases c : 65536 < l0.length
      · exact .inr (.inl ⟨rfl, decide_eq_true (by omega)⟩)
      · exact .inr (.inr ⟨rfl, decide_eq_false (by omega), decide_eq_true (by rcases h1 with h | h | h; cases h; omega; omega)⟩)
  clear h1
  rcases hcase with rfl | ⟨rfl, hd1⟩ | ⟨rfl, hd1, hd2⟩
  all_goals (
    go_enter Tryz.func3, Tryz.ntmps3
    go_wp2_with (first | (go_at_call 5; refine (XKn.known _).mono ?_; rintro e w1 ⟨rfl, hb1⟩; have HB1 := Aside0.mk hb1; clear hb1) | (go_at_call 6; (with_reducible refine (colonnadelaw09_may.calls k A1 c1 l1 _ _ (Kd.C_below HR1.out HB1.out) HC1.out H0.out).mono ?_); rintro e w2 ⟨rfl, ⟨nd2, rfl⟩⟩))
    go_ret
    exact ⟨rfl, pw_below_drewN HB1.out _⟩)
set_option maxHeartbeats 8000000 in
set_option maxRecDepth 100000 in
theorem colonnadelaw09_DictBack.go (k : Nat) (A0 : Option Addr) (c0 : Nat) (l0 : List Int) (A1 : Option Addr) (c1 : Nat) (l1 : List ByteArray) (w : World) (hr0 : Kd.C (Kd.int .i64) w A0 l0.length l0) (hc0 : l0.length ≤ c0) (hr1 : Kd.C Kd.string w A1 l1.length l1) (hc1 : l1.length ≤ c1)
    (B P KS CS LN LT CT : List Int) (KT : List ByteArray) (WD WT : Int) (hl0 : l0.length ≤ 65536) (hl1 : l1.length ≤ 65536) (h0 : colonnadelaw09_may.f k l1 = some true) (hi : colonnadelaw09_ints.f l0 = some l0) (ht : colonnadelaw09_texts.f l1 = some l1) (hp : dict_PutInts.f k l0 = some (B, 0)) (htb : colonnadelaw09_twin.f B = some B) (hin : dict_Ints.f k B (l0.length : Int) = some (KS, WD, LN, 0)) (hu : pack_Unpack_uint32.f k LN WD (l0.length : Int) = some (CS, 0))
    (hpt : dict_PutTexts.f k l1 = some (P, 0)) (htp : colonnadelaw09_twin.f P = some P) (hit : dict_Texts.f k P (l1.length : Int) = some (KT, WT, LT, 0)) (hut : pack_Unpack_uint32.f k LT WT (l1.length : Int) = some (CT, 0)) (h1 : KS.length = 1 → LN.length = 0) (hkl : KS.length ≤ 65536) (hkt : KT.length ≤ 65536) (hcl : CS.length ≤ 65536) (hct : CT.length ≤ 65536)
    (hcs : ∀ c ∈ CS, 0 ≤ c ∧ c < (KS.length : Int)) (hbk : CS.map (rd KS) = l0) (hcc : ∀ c ∈ CT, 0 ≤ c ∧ c < (KT.length : Int)) (htd : CT.map (rdOf ByteArray.empty KT) = l1) (hsi : colonnadelaw09_sameInts.f k l0 l0 = some true) (hst : colonnadelaw09_sameTexts.f k l1 l1 = some true) :
    Calls Tryz.prog 3 #[.slice A0 l0.length c0, .slice A1 l1.length c1] w fun e w' => e = .returned (.bool true) ∧ Below w.heap.size w w' := by
  have Xhr0 := Aside0.mk hr0
  have Xhc0 := Aside0.mk hc0
  have Xhr1 := Aside0.mk hr1
  have Xhc1 := Aside0.mk hc1
  have Xhl0 := Aside0.mk hl0
  have Xhl1 := Aside0.mk hl1
  have Xh0 := Aside0.mk h0
  have Xhi := Aside0.mk hi
  have Xht := Aside0.mk ht
  have Xhp := Aside0.mk hp
  have Xhtb := Aside0.mk htb
  have Xhin := Aside0.mk hin
  have Xhu := Aside0.mk hu
  have Xhpt := Aside0.mk hpt
  have Xhtp := Aside0.mk htp
  have Xhit := Aside0.mk hit
  have Xhut := Aside0.mk hut
  have Xhkl := Aside0.mk hkl
  have Xhkt := Aside0.mk hkt
  have Xhcl := Aside0.mk hcl
  have Xhct := Aside0.mk hct
  have Xhcs := Aside0.mk hcs
  have Xhbk := Aside0.mk hbk
  have Xhcc := Aside0.mk hcc
  have Xhtd := Aside0.mk htd
  have Xhsi := Aside0.mk hsi
  have Xhst := Aside0.mk hst
  have hd1 : decide ((65536 : Int) < (l0.length : Int)) = false := decide_eq_false (by omega)
  have hd2 : decide ((65536 : Int) < (l1.length : Int)) = false := decide_eq_false (by omega)
  have hcase : ((KS.length : Int) == 1) = false ∨ (((KS.length : Int) == 1) = true ∧ ((LN.length : Int) != 0) = false) := by
    by_cases c : KS.length = 1
    · exact .inr ⟨by simp [c], by simp [h1 c]⟩
    · exact .inl (by simpa using (show ¬ (KS.length : Int) = 1 by omega))
  clear hr0 hc0 hr1 hc1 hl0 hl1 h0 hi ht hp htb hin hu hpt htp hit hut h1 hkl hkt hcl hct hcs hbk hcc htd hsi hst
  go_enter Tryz.func3, Tryz.ntmps3
  go_wp2_with (first | (go_at_call 5; refine (XKn.known _).mono ?_; rintro e w1 ⟨rfl, hb1⟩; have HB1 := Aside0.mk hb1; clear hb1) | (go_at_call 6; (with_reducible refine (colonnadelaw09_may.calls k A1 c1 l1 _ _ (Kd.C_below Xhr1.out HB1.out) Xhc1.out Xh0.out).mono ?_); rintro e w2 ⟨rfl, ⟨nd2, rfl⟩⟩))
  have L2 := Aside0.mk (Kd.C_drewN (Kd.C_below Xhr0.out HB1.out) nd2)
  have M2 := Aside0.mk (Kd.C_drewN (Kd.C_below Xhr1.out HB1.out) nd2)
  have HB2 := Aside0.mk (pw_below_drewN HB1.out nd2)
  clear HB1 Xhr0 Xhr1 hd1 hd2
  refine (colonnadelaw09_ints.calls A0 c0 l0 l0 _ L2.out Xhc0.out Xhi.out).mono ?_
  rintro e w3 ⟨vI, rfl, hvI, hb3⟩
  obtain ⟨AI, nI, rfl⟩ := Kd.R_slice hvI
  have L3 := Aside0.mk (Kd.C_below L2.out hb3)
  have M3 := Aside0.mk (Kd.C_below M2.out hb3)
  have I3 := Aside0.mk (Kd.R_reads' hvI).2.2
  have NI := Aside0.mk (Kd.R_reads' hvI).2.1
  have HB3 := Aside0.mk (below_then HB2.out HB2.out.size hb3)
  clear hvI hb3 L2 M2 HB2
  go_wp2_with fail
  refine (dict_PutInts.calls k AI nI l0 B 0 w3 I3.out NI.out Xhp.out).mono ?_
  rintro e w4 ⟨vB, rfl, hvB, hb4⟩
  obtain ⟨AB, nB, rfl⟩ := Kd.R_slice hvB
  have L4 := Aside0.mk (Kd.C_below L3.out hb4)
  have M4 := Aside0.mk (Kd.C_below M3.out hb4)
  have I4 := Aside0.mk (Kd.C_below I3.out hb4)
  have B4 := Aside0.mk (Kd.R_reads' hvB).2.2
  have NB := Aside0.mk (Kd.R_reads' hvB).2.1
  have HB4 := Aside0.mk (below_then HB3.out HB3.out.size hb4)
  clear hvB hb4 L3 M3 I3 HB3
  clear I4 NI
  go_wp2_with fail
  refine (colonnadelaw09_twin.calls AB nB B B w4 B4.out NB.out Xhtb.out).mono ?_
  rintro e w5 ⟨vD, rfl, hvD, hb5⟩
  obtain ⟨AD, nD, rfl⟩ := Kd.R_slice hvD
  have L5 := Aside0.mk (Kd.C_below L4.out hb5)
  have M5 := Aside0.mk (Kd.C_below M4.out hb5)
  have B5 := Aside0.mk (Kd.C_below B4.out hb5)
  have D5 := Aside0.mk (Kd.R_reads' hvD).2.2
  have ND := Aside0.mk (Kd.R_reads' hvD).2.1
  have HB5 := Aside0.mk (below_then HB4.out HB4.out.size hb5)
  clear hvD hb5 L4 M4 B4 HB4
  go_wp2_with fail
  refine (dict_Ints.calls k AD nD B (l0.length : Int) KS WD LN 0 w5 D5.out ND.out Xhin.out).mono ?_
  rintro e w6 ⟨vK, vE, rfl, hvK, hvE, hb6⟩
  obtain ⟨AK, nK, rfl⟩ := Kd.R_slice hvK
  obtain ⟨AE, nE, rfl⟩ := Kd.R_slice hvE
  have L6 := Aside0.mk (Kd.C_below L5.out hb6)
  have M6 := Aside0.mk (Kd.C_below M5.out hb6)
  have B6 := Aside0.mk (Kd.C_below B5.out hb6)
  have D6 := Aside0.mk (Kd.C_below D5.out hb6)
  have K6 := Aside0.mk (Kd.R_reads' hvK).2.2
  have NK := Aside0.mk (Kd.R_reads' hvK).2.1
  have E6 := Aside0.mk (Kd.R_reads' hvE).2.2
  have NE := Aside0.mk (Kd.R_reads' hvE).2.1
  have HB6 := Aside0.mk (below_then HB5.out HB5.out.size hb6)
  clear hvK hvE hb6 L5 M5 B5 D5 HB5
  clear D6 ND
  go_wp2_with fail
  refine (pack_Unpack_uint32.calls k AE nE LN WD (l0.length : Int) CS 0 w6 E6.out NE.out Xhu.out).mono ?_
  rintro e w7 ⟨vC, rfl, hvC, hb7⟩
  obtain ⟨AC, nC, rfl⟩ := Kd.R_slice hvC
  have L7 := Aside0.mk (Kd.C_below L6.out hb7)
  have M7 := Aside0.mk (Kd.C_below M6.out hb7)
  have B7 := Aside0.mk (Kd.C_below B6.out hb7)
  have K7 := Aside0.mk (Kd.C_below K6.out hb7)
  have E7 := Aside0.mk (Kd.C_below E6.out hb7)
  have C7 := Aside0.mk (Kd.R_reads' hvC).2.2
  have NC := Aside0.mk (Kd.R_reads' hvC).2.1
  have HB7 := Aside0.mk (below_then HB6.out HB6.out.size hb7)
  clear hvC hb7 L6 M6 B6 K6 E6 HB6
  clear E7 NE
  go_wp2_with fail
  refine (colonnadelaw09_texts.calls A1 c1 l1 l1 w7 M7.out Xhc1.out Xht.out).mono ?_
  rintro e w8 ⟨vT, rfl, hvT, hb8⟩
  obtain ⟨AT, nT, rfl⟩ := Kd.R_slice hvT
  have L8 := Aside0.mk (Kd.C_below L7.out hb8)
  have M8 := Aside0.mk (Kd.C_below M7.out hb8)
  have B8 := Aside0.mk (Kd.C_below B7.out hb8)
  have K8 := Aside0.mk (Kd.C_below K7.out hb8)
  have C8 := Aside0.mk (Kd.C_below C7.out hb8)
  have T8 := Aside0.mk (Kd.R_reads' hvT).2.2
  have NT := Aside0.mk (Kd.R_reads' hvT).2.1
  have HB8 := Aside0.mk (below_then HB7.out HB7.out.size hb8)
  clear hvT hb8 L7 M7 B7 K7 C7 HB7
  go_wp2_with fail
  refine (dict_PutTexts.calls k AT nT l1 P 0 w8 T8.out NT.out Xhpt.out).mono ?_
  rintro e w9 ⟨vP, rfl, hvP, hb9⟩
  obtain ⟨AP, nP, rfl⟩ := Kd.R_slice hvP
  have L9 := Aside0.mk (Kd.C_below L8.out hb9)
  have M9 := Aside0.mk (Kd.C_below M8.out hb9)
  have B9 := Aside0.mk (Kd.C_below B8.out hb9)
  have K9 := Aside0.mk (Kd.C_below K8.out hb9)
  have C9 := Aside0.mk (Kd.C_below C8.out hb9)
  have T9 := Aside0.mk (Kd.C_below T8.out hb9)
  have P9 := Aside0.mk (Kd.R_reads' hvP).2.2
  have NP := Aside0.mk (Kd.R_reads' hvP).2.1
  have HB9 := Aside0.mk (below_then HB8.out HB8.out.size hb9)
  clear hvP hb9 L8 M8 B8 K8 C8 T8 HB8
  clear T9 NT
  go_wp2_with fail
  refine (colonnadelaw09_twin.calls AP nP P P w9 P9.out NP.out Xhtp.out).mono ?_
  rintro e w10 ⟨vG, rfl, hvG, hb10⟩
  obtain ⟨AG, nG, rfl⟩ := Kd.R_slice hvG
  have L10 := Aside0.mk (Kd.C_below L9.out hb10)
  have M10 := Aside0.mk (Kd.C_below M9.out hb10)
  have B10 := Aside0.mk (Kd.C_below B9.out hb10)
  have K10 := Aside0.mk (Kd.C_below K9.out hb10)
  have C10 := Aside0.mk (Kd.C_below C9.out hb10)
  have P10 := Aside0.mk (Kd.C_below P9.out hb10)
  have G10 := Aside0.mk (Kd.R_reads' hvG).2.2
  have NG := Aside0.mk (Kd.R_reads' hvG).2.1
  have HB10 := Aside0.mk (below_then HB9.out HB9.out.size hb10)
  clear hvG hb10 L9 M9 B9 K9 C9 P9 HB9
  go_wp2_with fail
  refine (dict_Texts.calls k AG nG P (l1.length : Int) KT WT LT 0 w10 G10.out NG.out Xhit.out).mono ?_
  rintro e w11 ⟨vU, vF, rfl, hvU, hvF, hb11⟩
  obtain ⟨AU, nU, rfl⟩ := Kd.R_slice hvU
  obtain ⟨AF, nF, rfl⟩ := Kd.R_slice hvF
  have L11 := Aside0.mk (Kd.C_below L10.out hb11)
  have M11 := Aside0.mk (Kd.C_below M10.out hb11)
  have B11 := Aside0.mk (Kd.C_below B10.out hb11)
  have K11 := Aside0.mk (Kd.C_below K10.out hb11)
  have C11 := Aside0.mk (Kd.C_below C10.out hb11)
  have P11 := Aside0.mk (Kd.C_below P10.out hb11)
  have G11 := Aside0.mk (Kd.C_below G10.out hb11)
  have U11 := Aside0.mk (Kd.R_reads' hvU).2.2
  have NU := Aside0.mk (Kd.R_reads' hvU).2.1
  have F11 := Aside0.mk (Kd.R_reads' hvF).2.2
  have NF := Aside0.mk (Kd.R_reads' hvF).2.1
  have HB11 := Aside0.mk (below_then HB10.out HB10.out.size hb11)
  clear hvU hvF hb11 L10 M10 B10 K10 C10 P10 G10 HB10
  clear G11 NG
  go_wp2_with fail
  refine (pack_Unpack_uint32.calls k AF nF LT WT (l1.length : Int) CT 0 w11 F11.out NF.out Xhut.out).mono ?_
  rintro e w12 ⟨vV, rfl, hvV, hb12⟩
  obtain ⟨AV, nV, rfl⟩ := Kd.R_slice hvV
  have L12 := Aside0.mk (Kd.C_below L11.out hb12)
  have M12 := Aside0.mk (Kd.C_below M11.out hb12)
  have B12 := Aside0.mk (Kd.C_below B11.out hb12)
  have K12 := Aside0.mk (Kd.C_below K11.out hb12)
  have C12 := Aside0.mk (Kd.C_below C11.out hb12)
  have P12 := Aside0.mk (Kd.C_below P11.out hb12)
  have U12 := Aside0.mk (Kd.C_below U11.out hb12)
  have F12 := Aside0.mk (Kd.C_below F11.out hb12)
  have V12 := Aside0.mk (Kd.R_reads' hvV).2.2
  have NV := Aside0.mk (Kd.R_reads' hvV).2.1
  have HB12 := Aside0.mk (below_then HB11.out HB11.out.size hb12)
  clear hvV hb12 L11 M11 B11 K11 C11 P11 U11 F11 HB11
  clear F12 NF
  rcases hcase with hq1 | ⟨hq1, hq2⟩
  all_goals (
    go_wp2_with fail
    go_loopg [21, 22] (CS.length + 1) (fun kq v21 v22 w' => ∃ j : Nat, j ≤ CS.length ∧ Aside0 (kq + j = CS.length + 1) ∧ v22 = .int .i64 (j : Int) ∧ Aside0 (Below w12.heap.size w12 w') ∧ Aside0 ((Kd.int .i64).R 2 w' w12.heap.size (fun _ => True) v21 ((CS.take j).map (rd KS))))
    case atStart => exact ⟨0, Nat.zero_le _, ⟨by omega⟩, rfl, ⟨Below.refl _ _⟩, ⟨Kd.R_nil _ _ _ _ _⟩⟩
    case round =>
      obtain ⟨j, hj, HK, rfl, HBj, HVj⟩ := hrel
      by_cases hlt : j < CS.length
      · have hd : decide ((j : Int) < (CS.length : Int)) = true := decide_eq_true (by omega)
        obtain ⟨k1, rfl⟩ : ∃ k1, gk = k1 + 1 := ⟨gk - 1, by have := HK.out; omega⟩
        have hcl := Xhcl.out
        have hkl := Xhkl.out
        have hcx := Xhcs.out CS[j] (List.getElem_mem hlt)
        have hrc : rd CS (j : Int) = CS[j] := by simp [rd, hlt]
        have CC := Aside0.mk (Kd.C_below C12.out HBj.out)
        have KK := Aside0.mk (Kd.C_below K12.out HBj.out)
        obtain ⟨ad, hA, hx⟩ := Kd.at_int CC.out (j : Int) (by omega) (by omega)
        rw [hrc, Int.toNat_natCast] at hx; clear hrc
        have hmp : (CS.take (j + 1)).map (rd KS) = (CS.take j).map (rd KS) ++ [rd KS CS[j]] := by rw [List.take_succ_eq_append_getElem hlt, List.map_append]; rfl
        have hlen : ((CS.take j).map (rd KS)).length ≤ 65536 := by rw [List.length_map, List.length_take]; omega
        generalize CS[j] = x at hx hcx hmp
        obtain ⟨y, rfl⟩ := Int.eq_ofNat_of_zero_le hcx.1
        have hyk : (y : Int) < (KS.length : Int) := hcx.2
        have hdg : decide ((KS.length : Int) ≤ (y : Int)) = false := decide_eq_false (by omega)
        have hdg2 : decide ((y : Int) < (KS.length : Int)) = true := decide_eq_true hyk
        have hwy : IntKind.i64.wrap (y : Int) = (y : Int) := by rw [IntKind.wrap_i64]; omega
        obtain ⟨ak, hB, hk⟩ := Kd.at_int KK.out (y : Int) (by omega) (by omega)
        rw [Int.toNat_natCast] at hk
        subst hA hB
        generalize rd KS (y : Int) = z at hk hmp
        generalize (CS.take j).map (rd KS) = XS at HVj hmp hlen
        have HLX := Aside0.mk hlen
        have HMP := Aside0.mk hmp
        have HLT := Aside0.mk hlt
        have hj0 : (0 : Int) ≤ (j : Int) := by omega
        have hjl : (j : Int) < (CS.length : Int) := by omega
        have hy0 : (0 : Int) ≤ (y : Int) := by omega
        clear hlen hmp hlt hcl hkl hcx CC KK
        go_wp2_with (first | ((with_reducible refine gate_builtin (b := .append) (xs := #[.tmp 138, .tmp 146]) rfl ?_); (try (refine gate_guard (by rfl) ?_; dsimp only)); at_builtin; refine Kd.R_append (Kd.int .i64) (w0 := w12) w12.heap.size rfl (.tmp 138) (.tmp 146) 22 2 (.int .i64 0) 8 rfl Tryz.underlying22 info2 rfl (by decide) (by omega) u21 XS z [.int .i64 z] (fun _ => True) (fun _ => False) rfl rfl ?aP (fun _ hk => hk.elim) ?aF ?aO ?aB ?aS ?aL ?_; (case aP => exact rfl); (case aB => exact HBj.out); (case aF => exact fun _ _ => trivial); (case aO => exact HVj.out); (case aS => exact below_size HBj.out); (case aL => have := HLX.out; omega); intro v299 w60 ho hb hg hat; rw [← HMP.out] at ho; have HV2 := Aside0.mk ho; have HB2 := Aside0.mk hb; clear ho hb hg hat))
        go_roundg k1
        case measure => have := HK.out; omega
        case rel => exact ⟨j + 1, HLT.out, ⟨by have := HK.out; omega⟩, congrArg (Value.int .i64) (by have := Xhcl.out; have := HLT.out; first | omega | (unfold wrap64; omega)), HB2, HV2⟩
      · obtain rfl : j = CS.length := by omega
        have hd : decide ((CS.length : Int) < (CS.length : Int)) = false := decide_eq_false (by omega)
        rw [List.take_of_length_le (Nat.le_refl _), Xhbk.out] at HVj
        obtain ⟨Ab, nb, eb⟩ := Kd.R_slice HVj.out
        subst eb
        obtain ⟨wm, rfl⟩ : ∃ wm : World, wm = wr := ⟨_, rfl⟩
        have BK := Aside0.mk (Kd.R_reads' HVj.out).2.2
        have NBK := Aside0.mk (Kd.R_reads' HVj.out).2.1
        have LM := Aside0.mk (Kd.C_below L12.out HBj.out)
        have MM := Aside0.mk (Kd.C_below M12.out HBj.out)
        have BM := Aside0.mk (Kd.C_below B12.out HBj.out)
        have PM := Aside0.mk (Kd.C_below P12.out HBj.out)
        have UM := Aside0.mk (Kd.C_below U12.out HBj.out)
        have VM := Aside0.mk (Kd.C_below V12.out HBj.out)
        have HBM := Aside0.mk (below_then HB12.out HB12.out.size HBj.out)
        clear HVj HBj L12 M12 B12 P12 U12 V12 K12 C12 HB12 HK hlt
        go_wp2_with fail
        clear hd hj
        go_loopg [23, 24] (CT.length + 1) (fun kq v23 v24 w' => ∃ j : Nat, j ≤ CT.length ∧ Aside0 (kq + j = CT.length + 1) ∧ v24 = .int .i64 (j : Int) ∧ Aside0 (Below wm.heap.size wm w') ∧ Aside0 (Kd.string.R 9 w' wm.heap.size (fun _ => True) v23 ((CT.take j).map (rdOf ByteArray.empty KT))))
        case atStart => exact ⟨0, Nat.zero_le _, ⟨by omega⟩, rfl, ⟨Below.refl _ _⟩, ⟨Kd.R_nil _ _ _ _ _⟩⟩
        case round =>
          obtain ⟨j, hj, HK, rfl, HBj, HVj⟩ := hrel
          by_cases hlt : j < CT.length
          · have hd : decide ((j : Int) < (CT.length : Int)) = true := decide_eq_true (by omega)
            obtain ⟨k1, rfl⟩ : ∃ k1, gk = k1 + 1 := ⟨gk - 1, by have := HK.out; omega⟩
            have hct := Xhct.out
            have hkt := Xhkt.out
            have hcx := Xhcc.out CT[j] (List.getElem_mem hlt)
            have hrc : rd CT (j : Int) = CT[j] := by simp [rd, hlt]
            have CC := Aside0.mk (Kd.C_below VM.out HBj.out)
            have KK := Aside0.mk (Kd.C_below UM.out HBj.out)
            obtain ⟨ad, hA, hx⟩ := Kd.at_int CC.out (j : Int) (by omega) (by omega)
            rw [hrc, Int.toNat_natCast] at hx; clear hrc
            have hmp : (CT.take (j + 1)).map (rdOf ByteArray.empty KT) = (CT.take j).map (rdOf ByteArray.empty KT) ++ [rdOf ByteArray.empty KT CT[j]] := by rw [List.take_succ_eq_append_getElem hlt, List.map_append]; rfl
            have hlen : ((CT.take j).map (rdOf ByteArray.empty KT)).length ≤ 65536 := by rw [List.length_map, List.length_take]; omega
            generalize CT[j] = x at hx hcx hmp
            obtain ⟨y, rfl⟩ := Int.eq_ofNat_of_zero_le hcx.1
            have hyk : (y : Int) < (KT.length : Int) := hcx.2
            have hdg : decide ((KT.length : Int) ≤ (y : Int)) = false := decide_eq_false (by omega)
            have hdg2 : decide ((y : Int) < (KT.length : Int)) = true := decide_eq_true hyk
            have hwy : IntKind.i64.wrap (y : Int) = (y : Int) := by rw [IntKind.wrap_i64]; omega
            obtain ⟨ak, hB, hk⟩ := Kd.at_string KK.out (y : Int) (by omega) (by omega)
            rw [Int.toNat_natCast] at hk
            subst hA hB
            generalize rdOf ByteArray.empty KT (y : Int) = z at hk hmp
            generalize (CT.take j).map (rdOf ByteArray.empty KT) = XS at HVj hmp hlen
            have HLX := Aside0.mk hlen
            have HMP := Aside0.mk hmp
            have HLT := Aside0.mk hlt
            have hj0 : (0 : Int) ≤ (j : Int) := by omega
            have hjl : (j : Int) < (CT.length : Int) := by omega
            have hy0 : (0 : Int) ≤ (y : Int) := by omega
            clear hlen hmp hlt hct hkt hcx CC KK
            go_wp2_with (first | ((with_reducible refine gate_builtin (b := .append) (xs := #[.tmp 162, .tmp 170]) rfl ?_); (try (refine gate_guard (by rfl) ?_; dsimp only)); at_builtin; refine Kd.R_append Kd.string (w0 := wm) wm.heap.size rfl (.tmp 162) (.tmp 170) 23 9 (.string ⟨#[]⟩) 16 rfl Tryz.underlying23 info9 rfl (by decide) (by omega) u23 XS z [.string z] (fun _ => True) (fun _ => False) rfl rfl ?aP (fun _ hk => hk.elim) ?aF ?aO ?aB ?aS ?aL ?_; (case aP => exact rfl); (case aB => exact HBj.out); (case aF => exact fun _ _ => trivial); (case aO => exact HVj.out); (case aS => exact below_size HBj.out); (case aL => have := HLX.out; omega); intro v299 w60 ho hb hg hat; rw [← HMP.out] at ho; have HV2 := Aside0.mk ho; have HB2 := Aside0.mk hb; clear ho hb hg hat))
            go_roundg k1
            case measure => have := HK.out; omega
            case rel => exact ⟨j + 1, HLT.out, ⟨by have := HK.out; omega⟩, congrArg (Value.int .i64) (by have := Xhct.out; have := HLT.out; first | omega | (unfold wrap64; omega)), HB2, HV2⟩
          · obtain rfl : j = CT.length := by omega
            have hd : decide ((CT.length : Int) < (CT.length : Int)) = false := decide_eq_false (by omega)
            rw [List.take_of_length_le (Nat.le_refl _), Xhtd.out] at HVj
            obtain ⟨At, nt, et⟩ := Kd.R_slice HVj.out
            subst et
            obtain ⟨wn, rfl⟩ : ∃ wn : World, wn = wr := ⟨_, rfl⟩
            have TK := Aside0.mk (Kd.R_reads' HVj.out).2.2
            have NTK := Aside0.mk (Kd.R_reads' HVj.out).2.1
            have BK2 := Aside0.mk (Kd.C_below BK.out HBj.out)
            have LN2 := Aside0.mk (Kd.C_below LM.out HBj.out)
            have MN2 := Aside0.mk (Kd.C_below MM.out HBj.out)
            have BN2 := Aside0.mk (Kd.C_below BM.out HBj.out)
            have PN2 := Aside0.mk (Kd.C_below PM.out HBj.out)
            have HBN := Aside0.mk (below_then HBM.out HBM.out.size HBj.out)
            clear HVj HBj BK LM MM BM PM UM VM HBM HK hlt hj
            go_wp2_with fail
            refine (dict_PutInts.calls k Ab nb l0 B 0 wn BK2.out NBK.out Xhp.out).mono ?_
            rintro e wa ⟨va, rfl, hva, hba⟩
            obtain ⟨Aa, na, rfl⟩ := Kd.R_slice hva
            have AG := Aside0.mk (Kd.R_reads' hva).2.2
            have BK3 := Aside0.mk (Kd.C_below BK2.out hba)
            have TK3 := Aside0.mk (Kd.C_below TK.out hba)
            have LN3 := Aside0.mk (Kd.C_below LN2.out hba)
            have MN3 := Aside0.mk (Kd.C_below MN2.out hba)
            have BN3 := Aside0.mk (Kd.C_below BN2.out hba)
            have PN3 := Aside0.mk (Kd.C_below PN2.out hba)
            have HBA := Aside0.mk (below_then HBN.out HBN.out.size hba)
            clear hva hba BK2 TK LN2 MN2 BN2 PN2 HBN
            go_wp2_with fail
            refine (dict_PutTexts.calls k At nt l1 P 0 wa TK3.out NTK.out Xhpt.out).mono ?_
            rintro e wb ⟨vb, rfl, hvb, hbb⟩
            obtain ⟨Ac, nc, rfl⟩ := Kd.R_slice hvb
            have TW := Aside0.mk (Kd.R_reads' hvb).2.2
            have AG4 := Aside0.mk (Kd.C_below AG.out hbb)
            have BK4 := Aside0.mk (Kd.C_below BK3.out hbb)
            have TK4 := Aside0.mk (Kd.C_below TK3.out hbb)
            have LN4 := Aside0.mk (Kd.C_below LN3.out hbb)
            have MN4 := Aside0.mk (Kd.C_below MN3.out hbb)
            have BN4 := Aside0.mk (Kd.C_below BN3.out hbb)
            have PN4 := Aside0.mk (Kd.C_below PN3.out hbb)
            have HBB := Aside0.mk (below_then HBA.out HBA.out.size hbb)
            clear hvb hbb AG BK3 TK3 LN3 MN3 BN3 PN3 HBA
            have cv1 := fun m_ : Nat => Kd.C_string (P := Tryz.prog) (c := na) Tryz.underlying26 Tryz.underlying5 Tryz.underlying9 (Kd.C_drewN AG4.out m_)
            have cv2 := fun m_ : Nat => Kd.C_string (P := Tryz.prog) (c := nB) Tryz.underlying26 Tryz.underlying5 Tryz.underlying9 (Kd.C_drewN BN4.out m_)
            have cv3 := fun m_ : Nat => Kd.C_string (P := Tryz.prog) (c := nc) Tryz.underlying26 Tryz.underlying5 Tryz.underlying9 (Kd.C_drewN TW.out m_)
            have cv4 := fun m_ : Nat => Kd.C_string (P := Tryz.prog) (c := nP) Tryz.underlying26 Tryz.underlying5 Tryz.underlying9 (Kd.C_drewN PN4.out m_)
            go_wp2_with (first
              | (go_at_call 15; (with_reducible refine (colonnadelaw09_sameInts.calls k Ab nb l0 A0 c0 l0 true wb BK4.out NBK.out LN4.out Xhc0.out Xhsi.out).mono ?_); rintro e w5 ⟨rfl, ⟨nd5, rfl⟩⟩)
              | (go_at_call 16; (with_reducible refine (colonnadelaw09_sameTexts.calls k At nt l1 A1 c1 l1 true _ (Kd.C_drewN TK4.out _) NTK.out (Kd.C_drewN MN4.out _) Xhc1.out Xhst.out).mono ?_); rintro e w6 ⟨rfl, ⟨nd6, rfl⟩⟩))
            go_ret
            exact ⟨rfl, pw_below_drewN HBB.out _⟩)
def colonnadelaw09_DictBack.OK (k : Nat) (l0 : List Int) (l1 : List ByteArray) : Prop := ∃ (B P KS CS LN LT CT : List Int) (KT : List ByteArray) (WD WT : Int), (l0.length ≤ 65536) ∧ (l1.length ≤ 65536) ∧ (colonnadelaw09_may.f k l1 = some true) ∧ (colonnadelaw09_ints.f l0 = some l0) ∧ (colonnadelaw09_texts.f l1 = some l1) ∧ (dict_PutInts.f k l0 = some (B, 0)) ∧ (colonnadelaw09_twin.f B = some B) ∧ (dict_Ints.f k B (l0.length : Int) = some (KS, WD, LN, 0)) ∧ (pack_Unpack_uint32.f k LN WD (l0.length : Int) = some (CS, 0)) ∧ (dict_PutTexts.f k l1 = some (P, 0)) ∧ (colonnadelaw09_twin.f P = some P) ∧ (dict_Texts.f k P (l1.length : Int) = some (KT, WT, LT, 0)) ∧ (pack_Unpack_uint32.f k LT WT (l1.length : Int) = some (CT, 0)) ∧ (KS.length = 1 → LN.length = 0) ∧ (KS.length ≤ 65536) ∧ (KT.length ≤ 65536) ∧ (CS.length ≤ 65536) ∧ (CT.length ≤ 65536) ∧ (∀ c ∈ CS, 0 ≤ c ∧ c < (KS.length : Int)) ∧ (CS.map (rd KS) = l0) ∧ (∀ c ∈ CT, 0 ≤ c ∧ c < (KT.length : Int)) ∧ (CT.map (rdOf ByteArray.empty KT) = l1) ∧ (colonnadelaw09_sameInts.f k l0 l0 = some true) ∧ (colonnadelaw09_sameTexts.f k l1 l1 = some true)
open Classical in
noncomputable def colonnadelaw09_DictBack.f (k : Nat) (l0 : List Int) (l1 : List ByteArray) : Option Bool :=
  if (∃ r, colonnadelaw09_may.f k l1 = some r ∧ (r = false ∨ 65536 < l0.length ∨ 65536 < l1.length)) ∨ colonnadelaw09_DictBack.OK k l0 l1 then some true else none
theorem colonnadelaw09_DictBack.calls (k : Nat) (A0 : Option Addr) (c0 : Nat) (l0 : List Int) (A1 : Option Addr) (c1 : Nat) (l1 : List ByteArray) (r : Bool) (w : World) (hr0 : Kd.C (Kd.int .i64) w A0 l0.length l0) (hc0 : l0.length ≤ c0) (hr1 : Kd.C Kd.string w A1 l1.length l1) (hc1 : l1.length ≤ c1) (h : colonnadelaw09_DictBack.f k l0 l1 = some r) :
    Calls Tryz.prog 3 #[.slice A0 l0.length c0, .slice A1 l1.length c1] w fun e w' => e = .returned (.bool r) ∧ Below w.heap.size w w' := by
  unfold colonnadelaw09_DictBack.f at h
  split at h
  · rename_i hc
    obtain rfl := Option.some.inj h
    rcases hc with ⟨q, hq, hs⟩ | hok
    · exact colonnadelaw09_DictBack.skip k A0 c0 l0 A1 c1 l1 w hr1 hc1 q hq hs
    · obtain ⟨B, P, KS, CS, LN, LT, CT, KT, WD, WT, hl0, hl1, h0, hi, ht, hp, htb, hin, hu, hpt, htp, hit, hut, h1, hkl, hkt, hcl, hct, hcs, hbk, hcc, htd, hsi, hst⟩ := hok
      exact colonnadelaw09_DictBack.go k A0 c0 l0 A1 c1 l1 w hr0 hc0 hr1 hc1 B P KS CS LN LT CT KT WD WT hl0 hl1 h0 hi ht hp htb hin hu hpt htp hit hut h1 hkl hkt hcl hct hcs hbk hcc htd hsi hst
  · cases h

end Go.Proofs.YtlpllhpnnhablaaGreat.PDictBack
