-- Written by xprint.py, this session's own program over the kit's print; Lean checks it.
import Derived.Test.YtlpllhpnnhablaaGreatPDictTextsOwnx0
import Derived.Test.YtlpllhpnnhablaaGreatPDictTextsOwnx7
import Derived.Test.YtlpllhpnnhablaaGreatPDictTextsOwnx8
import Derived.Test.YtlpllhpnnhablaaGreatPDictTextsOwnx11
namespace Go.Proofs.YtlpllhpnnhablaaGreat.PDictTextsOwn
open Go.RowKit Go.Proofs.YtlpllhpnnhablaaGreatW.PrintWords Go.Proofs.YtlpllhpnnhablaaGreatW.PrintLast Go.Proofs.YtlpllhpnnhablaaGreatW.PrintMore
attribute [local go_sem] max2_int min2_int max_two min_two max_three min_three max_four min_four   -- for this text's walks alone
set_option linter.unusedVariables false
set_option linter.unusedSimpArgs false

/-! ### colonnadelaw09_DictTextsOwn: function 4 -/
theorem XRt.info64 : (Tryz.prog.info? 2).map (fun i => (i.zero, i.size, i.bytes)) = some (some (.int .i64 0), 1, 8) := by kernel_rfl
theorem XRt.info8 : (Tryz.prog.info? 5).map (fun i => (i.zero, i.size, i.bytes)) = some (some (.int .u8 0), 1, 1) := by kernel_rfl
theorem XRt.litR {α : Type} (enc : α → Value) (h1 : ∀ x, (enc x).oneCell' = true) (W : World) (e : TypeId) (xs : List α) (hl : xs.length ≤ maxLen) : (Kd.scalar enc h1).R e (W.alloc (.cells (encs enc xs).toArray e)) W.heap.size (fun _ => True) (.slice (some ⟨W.heap.size, 0, none⟩) xs.length xs.length) xs :=
  Kd.R_of_own (own_lit_of (enc := enc) W W.heap.size e xs (Nat.le_refl _) hl) (fun _ _ => trivial)
theorem XRt.twin {W : World} {base : Nat} {l : List XRowsW.RowD} (h : XRowsW.Rows W base l) (hbase : base ≤ W.heap.size) {A : Option Addr} {n c : Nat} {X : List Int} (hC : Kd.C (Kd.int .u8) W A n X ∧ n ≤ c) (hn : X.length = n) (hf : colonnadelaw09_twin.f X = some X) :
    Calls Tryz.prog 10 #[.slice A n c] W fun e W' => ∃ A' c', e = .returned (.slice A' X.length c') ∧ Below W.heap.size W W' ∧ XRowsW.Rows W' base (⟨5, .slice A' X.length c', encs (Value.int .u8) X⟩ :: l) := by
  subst hn
  refine (colonnadelaw09_twin.calls A c X X W hC.1 hC.2 hf).mono ?_
  rintro e W' ⟨v, rfl, hR, hb⟩
  obtain ⟨A', c', rfl⟩ := Kd.R_slice hR
  exact ⟨A', c', rfl, hb, h.add hb hbase (r := ⟨_, _, _⟩) (XRowsW.ofR hR)⟩
theorem XRt.str_app (a b : List Int) : strOfNums (a ++ b) = strOfNums a ++ strOfNums b := by
  simp [strOfNums, ByteArray.ext_iff]
theorem XRt.str_size (a : List Int) : (strOfNums a).size = a.length := by
  show (strOfNums a).data.size = _
  simp [strOfNums]
def XRt.ov (q p : List Int) (i : Nat) : List Int := q.take i ++ p.drop i
theorem XRt.ov_len (q p : List Int) (i : Nat) (hi : i ≤ q.length) (hq : q.length ≤ p.length) : (XRt.ov q p i).length = p.length := by
  simp only [XRt.ov, List.length_append, List.length_take, List.length_drop]; omega
theorem XRt.ov_set (q p : List Int) (i : Nat) (hi : i < q.length) (hq : q.length ≤ p.length) : (XRt.ov q p i).set i (rd q (i : Int)) = XRt.ov q p (i + 1) := by
  apply List.ext_getElem?
  intro j
  simp only [XRt.ov, rd, Int.toNat_natCast, List.getElem?_set, List.getElem?_append, List.length_append, List.length_take, List.length_drop, List.getElem?_take, List.getElem?_drop]
  by_cases h1 : i = j
  · subst h1
    simp only [if_true]
    rw [if_pos (by omega), if_pos (by omega), if_pos (by omega), List.getElem?_eq_getElem hi]
    simp [List.getD_eq_getElem?_getD, hi]
  · rw [if_neg h1]
    by_cases h2 : j < i
    · rw [if_pos (by omega), if_pos (by omega), if_pos (by omega), if_pos (by omega)]
    · rw [if_neg (by omega), if_neg (by omega)]
      congr 1
      omega
theorem XRt.ov_zero (q p : List Int) : XRt.ov q p 0 = p := by simp [XRt.ov]
theorem XRt.ov_full (q p r : List Int) (h : q.length = p.length) : XRt.ov q (p ++ r) q.length = q ++ r := by
  simp [XRt.ov, h, List.take_of_length_le (Nat.le_of_eq h)]
theorem XRt.infoS : (Tryz.prog.info? 9).map (fun i => (i.zero, i.size, i.bytes)) = some (some (.string ByteArray.empty), 1, 16) := by kernel_rfl
theorem XRt.texts {W : World} {base : Nat} {l : List XRowsW.RowD} (h : XRowsW.Rows W base l) (hbase : base ≤ W.heap.size) {A : Option Addr} {n c : Nat} {X : List ByteArray} (hC : Kd.C Kd.string W A n X ∧ n ≤ c) (hn : X.length = n) (hf : colonnadelaw09_texts.f X = some X) :
    Calls Tryz.prog 13 #[.slice A n c] W fun e W' => ∃ A' c', e = .returned (.slice A' X.length c') ∧ Below W.heap.size W W' ∧ XRowsW.Rows W' base (⟨9, .slice A' X.length c', encs Value.string X⟩ :: l) := by
  subst hn
  refine (colonnadelaw09_texts.calls A c X X W hC.1 hC.2 hf).mono ?_
  rintro e W' ⟨v, rfl, hR, hb⟩
  obtain ⟨A', c', rfl⟩ := Kd.R_slice hR
  exact ⟨A', c', rfl, hb, h.add hb hbase (r := ⟨_, _, _⟩) (XRowsW.ofR hR)⟩
theorem XRt.dictTexts {W : World} {base : Nat} {l : List XRowsW.RowD} (h : XRowsW.Rows W base l) (hbase : base ≤ W.heap.size) (K : Nat) {A : Option Addr} {n c : Nat} {X r3 : List Int} {r1 : List ByteArray} {m r2 r4 : Int} (hC : Kd.C (Kd.int .u8) W A n X ∧ n ≤ c) (hn : X.length = n) (hf : dict_Texts.f K X m = some (r1, r2, r3, r4)) :
    Calls Tryz.prog 14 #[.slice A n c, .int .i64 m] W fun e W' => ∃ A1 c1 A2 c2, e = .returned (.tuple #[.slice A1 r1.length c1, .int .i64 r2, .slice A2 r3.length c2, .int .i64 r4]) ∧ Below W.heap.size W W' ∧
      XRowsW.Rows W' base (⟨9, .slice A1 r1.length c1, encs Value.string r1⟩ :: ⟨5, .slice A2 r3.length c2, encs (Value.int .u8) r3⟩ :: l) := by
  subst hn
  refine (dict_Texts.calls K A c X m r1 r2 r3 r4 W hC.1 hC.2 hf).mono ?_
  rintro e W' ⟨v, v', rfl, hR, hR', hb⟩
  obtain ⟨A1, c1, rfl⟩ := Kd.R_slice hR
  obtain ⟨A2, c2, rfl⟩ := Kd.R_slice hR'
  exact ⟨A1, c1, A2, c2, rfl, hb, h.add2 hb hbase (r := ⟨_, _, _⟩) (s := ⟨_, _, _⟩) (XRowsW.ofR hR) (XRowsW.ofR hR') (XRowsW.apart_ty (XRowsW.ofR hR) (XRowsW.ofR hR') (by decide))⟩
theorem XRt.putTexts {W : World} {base : Nat} {l : List XRowsW.RowD} (h : XRowsW.Rows W base l) (hbase : base ≤ W.heap.size) (K : Nat) {A : Option Addr} {n c : Nat} {X : List ByteArray} {r : List Int} {m : Int} (hC : Kd.C Kd.string W A n X ∧ n ≤ c) (hn : X.length = n) (hf : dict_PutTexts.f K X = some (r, m)) :
    Calls Tryz.prog 12 #[.slice A n c] W fun e W' => ∃ A' c', e = .returned (.tuple #[.slice A' r.length c', .int .i64 m]) ∧ Below W.heap.size W W' ∧ XRowsW.Rows W' base (⟨5, .slice A' r.length c', encs (Value.int .u8) r⟩ :: l) := by
  subst hn
  refine (dict_PutTexts.calls K A c X r m W hC.1 hC.2 hf).mono ?_
  rintro e W' ⟨v, rfl, hR, hb⟩
  obtain ⟨A', c', rfl⟩ := Kd.R_slice hR
  exact ⟨A', c', rfl, hb, h.add hb hbase (r := ⟨_, _, _⟩) (XRowsW.ofR hR)⟩
theorem XRt.build {W : World} {base : Nat} {l : List XRowsW.RowD} (h : XRowsW.Rows W base l) (hbase : base ≤ W.heap.size) {A : Option Addr} {n c : Nat} {X SK : List ByteArray} (hC : Kd.C Kd.string W A n X ∧ n ≤ c) (hn : X.length = n) (hw : ∀ x ∈ X, x.size ≤ maxLen) (hl : n < 4294967296) (hSK : XMapS.keysOf X = SK) :
    Calls Tryz.prog 17 #[.slice A n c] W fun e W' => ∃ Ak Ac, e = .returned (.tuple #[.slice Ak SK.length SK.length, .slice Ac n n]) ∧ Below W.heap.size W W' ∧
      XRowsW.Rows W' base (⟨9, .slice Ak SK.length SK.length, encs Value.string SK⟩ :: l) := by
  subst hn
  refine (XBuildS.build A c X W hC.1 hC.2 hw hl XBuildS.sortC).mono ?_
  rintro e W' ⟨Ak, b, SK', hSK', rfl, hCk, hRc, hap, hb⟩
  obtain rfl : SK' = SK := hSK'.trans hSK
  have hK : XApartW.ownsW W' W.heap.size 9 (.slice Ak SK'.length SK'.length) (encs Value.string SK').length (encs Value.string SK') := by rw [encs_length]; exact hap.2
  exact ⟨Ak, some ⟨b, 0, none⟩, rfl, hb, h.add hb hbase (r := ⟨_, _, _⟩) hK⟩
theorem XRt.sameT (K : Nat) {W : World} {A0 A1 : Option Addr} {n m c0 c1 : Nat} {l0 l1 : List ByteArray} {r : Bool} (h0 : Kd.C Kd.string W A0 n l0 ∧ n ≤ c0) (hn0 : l0.length = n) (h1 : Kd.C Kd.string W A1 m l1 ∧ m ≤ c1) (hn1 : l1.length = m) (hf : colonnadelaw09_sameTexts.f K l0 l1 = some r) :
    Calls Tryz.prog 16 #[.slice A0 n c0, .slice A1 m c1] W fun e W' => e = .returned (.bool r) ∧ Drawn0 W W' := by
  subst hn0 hn1
  exact colonnadelaw09_sameTexts.calls K A0 c0 l0 A1 c1 l1 r W h0.1 h0.2 h1.1 h1.2 hf
theorem XRt.quietT (K : Nat) {W : World} {A0 A1 : Option Addr} {n m' m c0 c1 : Nat} {l0 l1 : List ByteArray} {r : Bool} (h0 : Kd.C Kd.string W A0 n l0 ∧ n ≤ c0) (hn0 : l0.length = n) (h1 : Kd.C Kd.string W A1 m' l1 ∧ m' ≤ c1) (hn1 : l1.length = m') (hf : colonnadelaw09_sameTexts.f K l0 l1 = some r) :
    Calls Tryz.prog 16 #[.slice A0 n c0, .slice A1 m' c1] (W.drewN m) fun e W' => e = .returned (.bool r) ∧ ∃ k, W' = W.drewN k :=
  Calls.quiet_of ((XRt.sameT K ⟨Kd.C_drewN h0.1 m, h0.2⟩ hn0 ⟨Kd.C_drewN h1.1 m, h1.2⟩ hn1 hf).mono fun _ _ h => ⟨h.1, h.2.out⟩)
def XRt.one : ByteArray := ⟨#[111, 110, 101]⟩
def XRt.two : ByteArray := ⟨#[116, 119, 111]⟩
theorem XRt.rd9 (X : List ByteArray) : rdOf ByteArray.empty (X ++ [XRt.one, XRt.two]) ((X.length : Nat) : Int) = XRt.one := by simp [rdOf]
theorem XRt.rd10 (X : List ByteArray) : rdOf ByteArray.empty (X ++ [XRt.one, XRt.two]) ((X.length + 1 : Nat) : Int) = XRt.two := by
  show (X ++ [XRt.one, XRt.two]).getD (X.length + 1) ByteArray.empty = XRt.two
  simp [List.getD_eq_getElem?_getD]
def XRt.ovT (q p : List ByteArray) (i : Nat) : List ByteArray := q.take i ++ p.drop i
theorem XRt.ovT_len (q p : List ByteArray) (i : Nat) (hi : i ≤ q.length) (hq : q.length ≤ p.length) : (XRt.ovT q p i).length = p.length := by
  simp only [XRt.ovT, List.length_append, List.length_take, List.length_drop]; omega
theorem XRt.ovT_set (q p : List ByteArray) (i : Nat) (hi : i < q.length) (hq : q.length ≤ p.length) : (XRt.ovT q p i).set i (rdOf ByteArray.empty q (i : Int)) = XRt.ovT q p (i + 1) := by
  apply List.ext_getElem?
  intro j
  simp only [XRt.ovT, rdOf, Int.toNat_natCast, List.getElem?_set, List.getElem?_append, List.length_append, List.length_take, List.length_drop, List.getElem?_take, List.getElem?_drop]
  by_cases h1 : i = j
  · subst h1
    simp only [if_true]
    rw [if_pos (by omega), if_pos (by omega), if_pos (by omega), List.getElem?_eq_getElem hi]
    simp [List.getD_eq_getElem?_getD, hi]
  · rw [if_neg h1]
    by_cases h2 : j < i
    · rw [if_pos (by omega), if_pos (by omega), if_pos (by omega), if_pos (by omega)]
    · rw [if_neg (by omega), if_neg (by omega)]
      congr 1
      omega
theorem XRt.ovT_zero (q p : List ByteArray) : XRt.ovT q p 0 = p := by simp [XRt.ovT]
theorem XRt.ovT_full (q p r : List ByteArray) (h : q.length = p.length) : XRt.ovT q (p ++ r) q.length = q ++ r := by
  simp [XRt.ovT, h, List.take_of_length_le (Nat.le_of_eq h)]
set_option maxHeartbeats 8000000 in
set_option maxRecDepth 100000 in
theorem XRt.reads (K : Nat) (A0 : Option Addr) (c0 : Nat) (X : List ByteArray) (A1 : Option Addr) (c1 : Nat) (Y : List ByteArray) (w : World) (P Q : List Int) (KP KQ : List ByteArray) (LP LQ : List Int) (WP WQ : Int)
    (hr0 : Kd.C Kd.string w A0 X.length X) (hc0 : X.length ≤ c0) (hr1 : Kd.C Kd.string w A1 X.length Y) (hc1 : X.length ≤ c1) (hyx : Y.length = X.length) (htx : colonnadelaw09_texts.f X = some X) (hty : colonnadelaw09_texts.f Y = some Y) (hpx : dict_PutTexts.f K X = some (P, 0)) (hpy : dict_PutTexts.f K Y = some (Q, 0)) (hp : dict_Texts.f K P (X.length : Int) = some (KP, WP, LP, 0)) (hq : dict_Texts.f K Q (X.length : Int) = some (KQ, WQ, LQ, 0)) (htp : colonnadelaw09_twin.f P = some P) (htq : colonnadelaw09_twin.f Q = some Q) (hpl : P.length ≤ 1099511627776) (hql : Q.length ≤ 1099511627776) (hkp : KP.length ≤ 1048576) (hkq : KQ.length ≤ 1048576) (hlp : LP.length ≤ 1048576) (hlq : LQ.length ≤ 1048576) (hsp : colonnadelaw09_sameTexts.f K KP KP = some true) (hsq : colonnadelaw09_sameTexts.f K KQ KQ = some true) :
    Calls Tryz.prog 20 #[.slice A0 X.length c0, .slice A1 X.length c1] w fun e w' => e = .returned (.bool true) ∧ Below w.heap.size w w' := by
  have Xhr0 := Aside0.mk hr0
  have Xhc0 := Aside0.mk hc0
  have Xhr1 := Aside0.mk hr1
  have Xhc1 := Aside0.mk hc1
  have Xhyx := Aside0.mk hyx
  have Xhtx := Aside0.mk htx
  have Xhty := Aside0.mk hty
  have Xhpx := Aside0.mk hpx
  have Xhpy := Aside0.mk hpy
  have Xhp := Aside0.mk hp
  have Xhq := Aside0.mk hq
  have Xhtp := Aside0.mk htp
  have Xhtq := Aside0.mk htq
  have Xhpl := Aside0.mk hpl
  have Xhql := Aside0.mk hql
  have Xhkp := Aside0.mk hkp
  have Xhkq := Aside0.mk hkq
  have Xhlp := Aside0.mk hlp
  have Xhlq := Aside0.mk hlq
  have Xhsp := Aside0.mk hsp
  have Xhsq := Aside0.mk hsq
  have hz0 : (0 : Int) ≤ (P.length : Int) := by omega
  have hsz3 : (9223372036854775807 < (strOfNums P).size + 3) = False := eq_false (by rw [XRt.str_size]; omega)
  clear hr0 hc0 hr1 hc1 hyx htx hty hpx hpy hp hq htp htq hpl hql hkp hkq hlp hlq hsp hsq
  have HB0 := Aside0.mk (Below.refl w.heap.size w)
  have HW0 := Aside0.mk (XRowsW.Rows.nil w w.heap.size)
  go_enter Tryz.func20, Tryz.ntmps20
  go_wp2_with fail
  refine (XRt.texts HW0.out HB0.out.size ⟨Kd.C_below Xhr0.out HB0.out, Xhc0.out⟩ rfl Xhtx.out).mono ?_
  rintro e w1 ⟨Ax, cx, rfl, hb, hw⟩
  have HB1 := Aside0.mk (below_then HB0.out HB0.out.size hb)
  have HW1 := Aside0.mk hw
  clear hb hw HB0 HW0
  go_wp2_with fail
  refine (XRt.putTexts HW1.out HB1.out.size K (HW1.out.Cn (fun _ => rfl) ByteArray.empty 0 rfl rfl) rfl Xhpx.out).mono ?_
  rintro e w2 ⟨Ap, cp, rfl, hb, hw⟩
  have HB2 := Aside0.mk (below_then HB1.out HB1.out.size hb)
  have HW2 := Aside0.mk hw
  clear hb hw HB1 HW1
  go_wp2_with fail
  refine (XRt.texts HW2.out HB2.out.size ⟨Kd.C_below Xhr1.out HB2.out, Xhc1.out⟩ Xhyx.out Xhty.out).mono ?_
  rintro e w3 ⟨Ay, cy, rfl, hb, hw⟩
  have HB3 := Aside0.mk (below_then HB2.out HB2.out.size hb)
  have HW3 := Aside0.mk hw
  clear hb hw HB2 HW2
  go_wp2_with fail
  refine (XRt.putTexts HW3.out HB3.out.size K (HW3.out.Cn (fun _ => rfl) ByteArray.empty 0 rfl rfl) rfl Xhpy.out).mono ?_
  rintro e w4 ⟨Aq, cq, rfl, hb, hw⟩
  have HB4 := Aside0.mk (below_then HB3.out HB3.out.size hb)
  have HW4 := Aside0.mk hw
  clear hb hw HB3 HW3
  go_wp2_with fail
  refine (colonnadelaw09_twin.calls Ap cp P P w4 (HW4.out.Cn (fun _ => rfl) 0 2 rfl rfl).1 (HW4.out.Cn (fun _ => rfl) 0 2 rfl rfl).2 Xhtp.out).mono ?_
  rintro e w5 ⟨v1, rfl, hR, hb⟩
  have HR := Aside0.mk hR
  have HBt := Aside0.mk hb
  clear hR hb
  have HL := Aside0.mk (XRt.litR (Value.int .u8) (fun _ => rfl) w5 5 [201, 202, 203] (by simp [maxLen]))
  go_wp2_with (first | ((with_reducible refine gate_builtin (b := .append) (xs := #[.tmp 52, .tmp 53]) rfl ?_); at_builtin; refine Kd.R_append_rows (Kd.int .u8) (w0 := w4) w4.heap.size rfl (.tmp 52) (.tmp 53) 26 5 (.int .u8 0) 1 rfl Tryz.underlying26 XRt.info8 rfl (by decide) (by omega) v1 P [201, 202, 203] _ _ _ (fun _ => True) (fun _ => False) rfl rfl (Kd.R_alloc HR.out _) (Kd.R_reads' HL.out).2.2 (fun _ _ h => h) (fun _ h => h.elim) (fun _ _ => trivial) (below_alloc HBt.out _) (below_size (below_alloc HBt.out _)) (by have := Xhpl.out; first | omega | (simp only [List.length_cons, List.length_nil]; omega)) ?_; intro v2 w6 ho hb hg hat; obtain ⟨Ar, cr, rfl⟩ := Kd.R_slice ho; have hw := HW4.out.add hb HB4.out.size (r := ⟨_, _, _⟩) (XRowsW.ofR ho); have HB6 := Aside0.mk (below_then HB4.out HB4.out.size hb); have HW6 := Aside0.mk hw; have hcr0 := (hw.C (fun _ => rfl) (0 : Int) 0 rfl).2; rw [List.length_append] at hcr0; have hcr : (P.length : Int) ≤ (cr : Int) := (by omega); clear hcr0; clear ho hb hg hat hw HR HBt HL HB4 HW4))
  refine (XRt.dictTexts HW6.out HB6.out.size K (HW6.out.Ct (fun _ => rfl) (0 : Int) 0 rfl rfl) rfl Xhp.out).mono ?_
  rintro e w7 ⟨Ak1, ck1, Al1, cl1, rfl, hb, hw⟩
  have HB7 := Aside0.mk (below_then HB6.out HB6.out.size hb)
  have HW7 := Aside0.mk hw
  clear hb hw HB6 HW6
  go_wp2_with fail
  refine (XRt.twin HW7.out HB7.out.size (HW7.out.Cn (fun _ => rfl) 0 3 rfl rfl) rfl Xhtq.out).mono ?_
  rintro e w8 ⟨Aq1, cq1, rfl, hb, hw⟩
  have HB8 := Aside0.mk (below_then HB7.out HB7.out.size hb)
  have HW8 := Aside0.mk hw
  clear hb hw HB7 HW7
  go_wp2_with fail
  refine (XRt.dictTexts HW8.out HB8.out.size K (HW8.out.Cn (fun _ => rfl) 0 0 rfl rfl) rfl Xhq.out).mono ?_
  rintro e w9 ⟨Ak2, ck2, Al2, cl2, rfl, hb, hw⟩
  have HB9 := Aside0.mk (below_then HB8.out HB8.out.size hb)
  have HW9 := Aside0.mk hw
  clear hb hw HB8 HW8
  go_wp2_with fail
  refine (XRt.dictTexts HW9.out HB9.out.size K (HW9.out.Ct (fun _ => rfl) (0 : Int) 5 rfl rfl) rfl Xhp.out).mono ?_
  rintro e w10 ⟨Ak3, ck3, Al3, cl3, rfl, hb, hw⟩
  have HB10 := Aside0.mk (below_then HB9.out HB9.out.size hb)
  have HW10 := Aside0.mk hw
  clear hb hw HB9 HW9
  go_wp2_with fail
  refine (XRt.dictTexts HW10.out HB10.out.size K (HW10.out.Ct (fun _ => rfl) (0 : Int) 7 rfl rfl) rfl Xhp.out).mono ?_
  rintro e w11 ⟨Ak4, ck4, Al4, cl4, rfl, hb, hw⟩
  have HB11 := Aside0.mk (below_then HB10.out HB10.out.size hb)
  have HW11 := Aside0.mk hw
  clear hb hw HB10 HW10
  have cv1 := fun m_ : Nat => Kd.C_string (P := Tryz.prog) Tryz.underlying26 Tryz.underlying5 Tryz.underlying9 (c := cl1) (Kd.C_drewN (HW11.out.Cn (fun _ => rfl) 0 8 rfl rfl).1 m_)
  have cv2 := fun m_ : Nat => Kd.C_string (P := Tryz.prog) Tryz.underlying26 Tryz.underlying5 Tryz.underlying9 (c := cl3) (Kd.C_drewN (HW11.out.Cn (fun _ => rfl) 0 3 rfl rfl).1 m_)
  have cv3 := fun m_ : Nat => Kd.C_string (P := Tryz.prog) Tryz.underlying26 Tryz.underlying5 Tryz.underlying9 (c := cl4) (Kd.C_drewN (HW11.out.Cn (fun _ => rfl) 0 1 rfl rfl).1 m_)
  have cv4 := fun m_ : Nat => Kd.C_string (P := Tryz.prog) Tryz.underlying26 Tryz.underlying5 Tryz.underlying9 (c := cr) (Kd.C_drewN (HW11.out.Cn (m := P.length + 3) (xs := P ++ [201, 202, 203]) (fun _ => rfl) (0 : Int) 9 rfl (by simp)).1 m_)
  have cv5 := fun m_ : Nat => Kd.C_string (P := Tryz.prog) Tryz.underlying26 Tryz.underlying5 Tryz.underlying9 (c := cp) (Kd.C_drewN (HW11.out.Cn (fun _ => rfl) 0 12 rfl rfl).1 m_)
  rw [XRt.str_app, show strOfNums [201, 202, 203] = (⟨#[201, 202, 203]⟩ : ByteArray) from rfl] at cv4
  have SC0 := Aside0.mk (fun m_ : Nat => XRt.sameT K (W := w11.drewN m_) ⟨Kd.C_drewN (HW11.out.Cn (fun _ => rfl) ByteArray.empty 7 rfl rfl).1 m_, (HW11.out.Cn (fun _ => rfl) ByteArray.empty 7 rfl rfl).2⟩ rfl ⟨Kd.C_drewN (HW11.out.Cn (fun _ => rfl) ByteArray.empty 2 rfl rfl).1 m_, (HW11.out.Cn (fun _ => rfl) ByteArray.empty 2 rfl rfl).2⟩ rfl Xhsp.out)
  have SCz := Aside0.mk (XRt.sameT K (HW11.out.Cn (fun _ => rfl) ByteArray.empty 7 rfl rfl) rfl (HW11.out.Cn (fun _ => rfl) ByteArray.empty 2 rfl rfl) rfl Xhsp.out)
  have SC1 := Aside0.mk (fun m_ : Nat => XRt.sameT K (W := w11.drewN m_) ⟨Kd.C_drewN (HW11.out.Cn (fun _ => rfl) ByteArray.empty 7 rfl rfl).1 m_, (HW11.out.Cn (fun _ => rfl) ByteArray.empty 7 rfl rfl).2⟩ rfl ⟨Kd.C_drewN (HW11.out.Cn (fun _ => rfl) ByteArray.empty 0 rfl rfl).1 m_, (HW11.out.Cn (fun _ => rfl) ByteArray.empty 0 rfl rfl).2⟩ rfl Xhsp.out)
  go_wp2_with (first
      | (go_at_call 16; (with_reducible refine SCz.out.mono ?_); rintro e wz ⟨rfl, ⟨ndz, rfl⟩⟩)
      | (go_at_call 16; (with_reducible refine (SC0.out _).mono ?_); rintro e wz ⟨rfl, ⟨ndz0, rfl⟩⟩)
      | (go_at_call 16; (with_reducible refine (SC1.out _).mono ?_); rintro e wz ⟨rfl, ⟨ndz1, rfl⟩⟩))
  clear SCz SC0 SC1
  clear cv1 cv2 cv3 cv4 cv5
  have HBd := Aside0.mk (pw_below_drewN HB11.out (ndz + ndz1))
  have HWd := Aside0.mk (HW11.out.below (pw_below_drewN (Below.refl _ _) (ndz + ndz1)))
  clear HB11 HW11
  have hsd : w11.heap.size = (w11.drewN (ndz + ndz1)).heap.size := rfl
  rw [hsd]
  generalize w11.drewN (ndz + ndz1) = wd at HBd HWd ⊢
  obtain ⟨w12, rfl⟩ : ∃ x : World, x = wd := ⟨_, rfl⟩
  have HB12 := HBd
  have HW12 := HWd
  clear HBd HWd
  obtain ⟨hP, hgr⟩ := HW12.out.grow HB12.out.size [7, 4, 2, 0] [1, 3, 5, 6, 8, 9, 12, 10] (by decide) (eT := 9) 23 1099511627776 (vs := [.slice Ak1 KP.length ck1, .slice Ak2 KQ.length ck2, .slice Ak3 KP.length ck3, .slice Ak4 KP.length ck4]) rfl (fun k hk => by
    match k, hk with
    | 0, _ => exact ⟨_, rfl, by rw [encs_length]; have h1 := Xhkp.out; have h2 := Xhkq.out; omega⟩
    | 1, _ => exact ⟨_, rfl, by rw [encs_length]; have h1 := Xhkp.out; have h2 := Xhkq.out; omega⟩
    | 2, _ => exact ⟨_, rfl, by rw [encs_length]; have h1 := Xhkp.out; have h2 := Xhkq.out; omega⟩
    | 3, _ => exact ⟨_, rfl, by rw [encs_length]; have h1 := Xhkp.out; have h2 := Xhkq.out; omega⟩
    | k + 4, hk => exact absurd hk (by simp)) (by decide) (by decide)
  refine (XGrownT.grownTexts.calls _ _ 4 _ hP).mono ?_
  rintro e w13 ⟨rfl, hbf⟩
  obtain ⟨hw, hb⟩ := hgr _ hbf
  have HB13 := Aside0.mk (HB12.out.trans hb)
  have HW13 := Aside0.mk hw
  clear hw hb hbf hgr hP HB12 HW12
  go_wp2_with fail
  obtain ⟨hP, hgr⟩ := HW13.out.grow HB13.out.size [4, 2, 1, 0] [5, 6, 7] (by decide) (eT := 5) 26 1099511627776 (vs := [.slice Al1 LP.length cl1, .slice Al2 LQ.length cl2, .slice Al3 LP.length cl3, .slice Al4 LP.length cl4]) rfl (fun k hk => by
    match k, hk with
    | 0, _ => exact ⟨_, rfl, by rw [encs_length]; have h1 := Xhlp.out; have h2 := Xhlq.out; omega⟩
    | 1, _ => exact ⟨_, rfl, by rw [encs_length]; have h1 := Xhlp.out; have h2 := Xhlq.out; omega⟩
    | 2, _ => exact ⟨_, rfl, by rw [encs_length]; have h1 := Xhlp.out; have h2 := Xhlq.out; omega⟩
    | 3, _ => exact ⟨_, rfl, by rw [encs_length]; have h1 := Xhlp.out; have h2 := Xhlq.out; omega⟩
    | k + 4, hk => exact absurd hk (by simp)) (by decide) (by decide)
  refine (XGrownT.grownBytes.calls _ _ 4 _ hP).mono ?_
  rintro e w14 ⟨rfl, hbf⟩
  obtain ⟨hw, hb⟩ := hgr _ hbf
  have HB14 := Aside0.mk (HB13.out.trans hb)
  have HW14 := Aside0.mk hw
  clear hw hb hbf hgr hP HB13 HW13
  have cv4 := Kd.C_string (P := Tryz.prog) Tryz.underlying26 Tryz.underlying5 Tryz.underlying9 (c := cr) (HW14.out.Cn (m := P.length + 3) (xs := P ++ [201, 202, 203]) (fun _ => rfl) (0 : Int) 0 rfl (by simp)).1
  have cv5 := Kd.C_string (P := Tryz.prog) Tryz.underlying26 Tryz.underlying5 Tryz.underlying9 (c := cp) (HW14.out.Cn (fun _ => rfl) 0 1 rfl rfl).1
  rw [XRt.str_app, show strOfNums [201, 202, 203] = (⟨#[201, 202, 203]⟩ : ByteArray) from rfl] at cv4
  by_cases hq : Q.length = P.length
  case neg =>
    have hq1 : ((Q.length : Int) != (P.length : Int)) = true := bne_iff_ne.mpr (by omega)
    clear hq
    go_wp2_with fail
    go_ret
    exact ⟨rfl, HB14.out⟩
  have hq1 : ((Q.length : Int) != (P.length : Int)) = false := bne_eq_false_iff_eq.mpr (by omega)
  have Xq := Aside0.mk hq
  clear hq
  go_wp2_with fail
  refine (XRt.dictTexts HW14.out HB14.out.size K (HW14.out.Ct (fun _ => rfl) (0 : Int) 0 rfl rfl) rfl Xhp.out).mono ?_
  rintro e w15 ⟨Ak7, ck7, Al7, cl7, rfl, hb, hw⟩
  have HB15 := Aside0.mk (below_then HB14.out HB14.out.size hb)
  have HW15 := Aside0.mk hw
  clear hb hw HB14 HW14
  go_wp2_with fail
  have HW0 : Aside0 (XRowsW.Rows w15 w.heap.size [⟨9, .slice Ak7 KP.length ck7, encs Value.string KP⟩, ⟨5, .slice Al7 LP.length cl7, encs (Value.int .u8) LP⟩, ⟨5, .slice Ar (P.length + 3) cr, encs (Value.int .u8) (XRt.ov Q (P ++ [201, 202, 203]) 0)⟩, ⟨5, .slice Ap P.length cp, encs (Value.int .u8) P⟩, ⟨5, .slice Aq Q.length cq, encs (Value.int .u8) Q⟩]) := ⟨by rw [XRt.ov_zero]; have h := HW15.out; rw [(by simp : (P ++ ([201, 202, 203] : List Int)).length = P.length + 3)] at h; exact h⟩
  (try simp only [add_plain])
  go_loopg [28] (Q.length + 1) (fun kq v28 w' => ∃ i : Nat, i ≤ Q.length ∧ Aside0 (kq + i = Q.length + 1) ∧ v28 = .int .i64 (i : Int) ∧ Aside0 (Below w.heap.size w w') ∧ Aside0 (XRowsW.Rows w' w.heap.size [⟨9, .slice Ak7 KP.length ck7, encs Value.string KP⟩, ⟨5, .slice Al7 LP.length cl7, encs (Value.int .u8) LP⟩, ⟨5, .slice Ar (P.length + 3) cr, encs (Value.int .u8) (XRt.ov Q (P ++ [201, 202, 203]) i)⟩, ⟨5, .slice Ap P.length cp, encs (Value.int .u8) P⟩, ⟨5, .slice Aq Q.length cq, encs (Value.int .u8) Q⟩]))
  case atStart => exact ⟨0, Nat.zero_le _, ⟨by omega⟩, rfl, HB15, HW0⟩
  case round =>
    clear HB15 HW15 HW0
    obtain ⟨i, hi, HK, rfl, HB, HW⟩ := hrel
    by_cases hlt : i < Q.length
    · have hdc : decide ((i : Int) < (Q.length : Int)) = true := decide_eq_true (by omega)
      have hql := Xq.out
      obtain ⟨k1, rfl⟩ : ∃ k1, gk = k1 + 1 := ⟨gk - 1, by have := HK.out; omega⟩
      have hol : (XRt.ov Q (P ++ [201, 202, 203]) i).length = (P ++ [201, 202, 203]).length := XRt.ov_len Q _ i (by omega) (by simp; omega)
      obtain ⟨g, rfl, hbg, hcell⟩ := HW.out.cell (0 : Int) 2 rfl (by rw [hol]; simp)
      obtain ⟨hx, hf⟩ := hcell i (by rw [hol]; simp; omega)
      obtain ⟨gq, rfl, _, hcq⟩ := HW.out.cell (0 : Int) 4 rfl (by omega)
      have hx1 := (hcq i hlt).1
      clear hcell hol hcq
      have p1 : (0 : Int) ≤ (i : Int) := by omega
      have q1 : (i : Int) < (Q.length : Int) := by omega
      have q2 : (i : Int) < (P.length : Int) := by omega
      clear hql
      have hb1 : (i : Int) < 1099511627776 := by have := Xhql.out; omega
      go_wp2_with fail
      have HW' := Aside0.mk (HW.out.putE 2 rfl i (rd Q (i : Int)))
      rw [XRt.ov_set Q _ i hlt (by have := Xq.out; simp; omega)] at HW'
      have HB' := Aside0.mk (HB.out.setCell (p := ⟨g, i, none⟩) hbg (.int .u8 (rd Q (i : Int))))
      go_roundg k1
      case measure => have := HK.out; omega
      case rel => exact ⟨i + 1, by omega, ⟨by have := HK.out; omega⟩, congrArg (Value.int .i64) (by omega), HB', HW'⟩
    · obtain rfl : i = Q.length := by omega
      have hdc : decide ((Q.length : Int) < (Q.length : Int)) = false := decide_eq_false (by omega)
      rw [XRt.ov_full Q P [201, 202, 203] Xq.out] at HW
      have HB15 := HB
      have HW15 := HW
      clear HB HW
      obtain ⟨w15, rfl⟩ : ∃ x : World, x = wr := ⟨_, rfl⟩
      go_wp2_with fail
      refine (XRt.dictTexts HW15.out HB15.out.size K (HW15.out.Ct (fun _ => rfl) (0 : Int) 2 rfl Xq.out) Xq.out Xhq.out).mono ?_
      rintro e w16 ⟨Ak5, ck5, Al5, cl5, rfl, hb, hw⟩
      have HB16 := Aside0.mk (below_then HB15.out HB15.out.size hb)
      have HW16 := Aside0.mk hw
      clear hb hw HB15 HW15
      go_wp2_with fail
      refine (XRt.twin HW16.out HB16.out.size (HW16.out.Cn (fun _ => rfl) 0 6 rfl rfl) rfl Xhtq.out).mono ?_
      rintro e w17 ⟨Aq2, cq2, rfl, hb, hw⟩
      have HB17 := Aside0.mk (below_then HB16.out HB16.out.size hb)
      have HW17 := Aside0.mk hw
      clear hb hw HB16 HW16
      go_wp2_with fail
      refine (XRt.dictTexts HW17.out HB17.out.size K (HW17.out.Cn (fun _ => rfl) 0 0 rfl rfl) rfl Xhq.out).mono ?_
      rintro e w18 ⟨Ak6, ck6, Al6, cl6, rfl, hb, hw⟩
      have HB18 := Aside0.mk (below_then HB17.out HB17.out.size hb)
      have HW18 := Aside0.mk hw
      clear hb hw HB17 HW17
      have cv1 := fun m_ : Nat => Kd.C_string (P := Tryz.prog) Tryz.underlying26 Tryz.underlying5 Tryz.underlying9 (c := cl5) (Kd.C_drewN (HW18.out.Cn (fun _ => rfl) 0 4 rfl rfl).1 m_)
      have cv2 := fun m_ : Nat => Kd.C_string (P := Tryz.prog) Tryz.underlying26 Tryz.underlying5 Tryz.underlying9 (c := cl6) (Kd.C_drewN (HW18.out.Cn (fun _ => rfl) 0 1 rfl rfl).1 m_)
      have SC0 := Aside0.mk (fun m_ : Nat => XRt.sameT K (W := w18.drewN m_) ⟨Kd.C_drewN (HW18.out.Cn (fun _ => rfl) ByteArray.empty 3 rfl rfl).1 m_, (HW18.out.Cn (fun _ => rfl) ByteArray.empty 3 rfl rfl).2⟩ rfl ⟨Kd.C_drewN (HW18.out.Cn (fun _ => rfl) ByteArray.empty 0 rfl rfl).1 m_, (HW18.out.Cn (fun _ => rfl) ByteArray.empty 0 rfl rfl).2⟩ rfl Xhsq.out)
      have SCz := Aside0.mk (XRt.sameT K (HW18.out.Cn (fun _ => rfl) ByteArray.empty 3 rfl rfl) rfl (HW18.out.Cn (fun _ => rfl) ByteArray.empty 0 rfl rfl) rfl Xhsq.out)
      go_wp2_with (first
          | (go_at_call 16; (with_reducible refine SCz.out.mono ?_); rintro e wz ⟨rfl, ⟨ndz, rfl⟩⟩)
          | (go_at_call 16; (with_reducible refine (SC0.out _).mono ?_); rintro e wz ⟨rfl, ⟨ndz0, rfl⟩⟩))
      clear SCz SC0
      go_ret
      exact ⟨rfl, pw_below_drewN HB18.out _⟩

set_option maxHeartbeats 4000000 in
set_option maxRecDepth 100000 in
theorem colonnadelaw09_DictTextsOwn.skip (K : Nat) (A0 : Option Addr) (c0 : Nat) (l0 : List ByteArray) (A1 : Option Addr) (c1 : Nat) (l1 : List ByteArray) (w : World) (hr0 : Kd.C Kd.string w A0 l0.length l0) (hc0 : l0.length ≤ c0) (hr1 : Kd.C Kd.string w A1 l1.length l1) (hc1 : l1.length ≤ c1) (a b : Bool) (h0 : colonnadelaw09_may.f K l0 = some a) (h1 : a = true → colonnadelaw09_may.f K l1 = some b) (hab : (a && b) = false) :
    Calls Tryz.prog 4 #[.slice A0 l0.length c0, .slice A1 l1.length c1] w fun e w' => e = .returned (.bool true) ∧ Below w.heap.size w w' := by
  have HR0 := Aside0.mk hr0
  have HC0 := Aside0.mk hc0
  have HR1 := Aside0.mk hr1
  have HC1 := Aside0.mk hc1
  have H0 := Aside0.mk h0
  have H1 := Aside0.mk h1
  clear hr0 hc0 hr1 hc1 h0 h1
  cases a
  · go_enter Tryz.func4, Tryz.ntmps4
    go_wp2_with (first | (go_at_call 5; refine (XKn.known _).mono ?_; rintro e w1 ⟨rfl, hb1⟩; have HB1 := Aside0.mk hb1; clear hb1) | (go_at_call 6; (with_reducible refine (colonnadelaw09_may.calls K A0 c0 l0 _ _ (Kd.C_below HR0.out HB1.out) HC0.out H0.out).mono ?_); rintro e w2 ⟨rfl, ⟨nd2, rfl⟩⟩))
    go_ret
    exact ⟨rfl, pw_below_drewN HB1.out _⟩
  · obtain rfl : b = false := by simpa using hab
    have H2 : Aside0 (colonnadelaw09_may.f K l1 = some false) := ⟨H1.out rfl⟩
    clear H1 hab
    go_enter Tryz.func4, Tryz.ntmps4
    go_wp2_with (first | (go_at_call 5; refine (XKn.known _).mono ?_; rintro e w1 ⟨rfl, hb1⟩; have HB1 := Aside0.mk hb1; clear hb1) | (go_at_call 6; (with_reducible refine (colonnadelaw09_may.calls K A0 c0 l0 _ _ (Kd.C_below HR0.out HB1.out) HC0.out H0.out).mono ?_); rintro e w2 ⟨rfl, ⟨nd2, rfl⟩⟩) | (go_at_call 6; (with_reducible refine (colonnadelaw09_may.calls K A1 c1 l1 false _ (Kd.C_drewN (Kd.C_below HR1.out HB1.out) _) HC1.out H2.out).mono ?_); rintro e w2 ⟨rfl, ⟨nd3, rfl⟩⟩))
    go_ret
    exact ⟨rfl, pw_below_drewN HB1.out _⟩
set_option maxHeartbeats 16000000 in
set_option maxRecDepth 100000 in
theorem colonnadelaw09_DictTextsOwn.go (K : Nat) (A0 : Option Addr) (c0 : Nat) (l0 X : List ByteArray) (A1 : Option Addr) (c1 M : Nat) (l1 Y : List ByteArray) (w : World) (SX SY : List ByteArray) (P Q LP LQ : List Int) (WP WQ : Int)
    (hf0 : Kd.C Kd.string w A0 l0.length l0) (hfc0 : l0.length ≤ c0) (hf1 : Kd.C Kd.string w A1 l1.length l1) (hfc1 : l1.length ≤ c1) (hm0 : colonnadelaw09_may.f K l0 = some true) (hm1 : colonnadelaw09_may.f K l1 = some true) (hr0 : Kd.C Kd.string w A0 X.length X) (hc0 : X.length ≤ c0) (hr1 : Kd.C Kd.string w A1 X.length Y) (hc1 : X.length ≤ c1) (hyx : Y.length = X.length) (hmin : (if l1.length < l0.length then (l1.length : Int) else (l0.length : Int)) = (M : Int)) (hmi2 : (if (1000 : Int) < (M : Int) then (1000 : Int) else (M : Int)) = (X.length : Int)) (hmi3 : (if 1000 < M then (1000 : Int) else (M : Int)) = (X.length : Int)) (hxl : X.length ≤ 1000) (hx1 : X.length ≤ l1.length) (htx : colonnadelaw09_texts.f X = some X) (hty : colonnadelaw09_texts.f Y = some Y) (hwx : ∀ x ∈ X, x.size ≤ maxLen) (hwy : ∀ x ∈ Y, x.size ≤ maxLen) (hsx : XMapS.keysOf X = SX) (hsy : XMapS.keysOf Y = SY) (hpx : dict_PutTexts.f K X = some (P, 0)) (hpy : dict_PutTexts.f K Y = some (Q, 0)) (hp : dict_Texts.f K P (X.length : Int) = some (SX, WP, LP, 0)) (hq : dict_Texts.f K Q (X.length : Int) = some (SY, WQ, LQ, 0)) (htp : colonnadelaw09_twin.f P = some P) (htq : colonnadelaw09_twin.f Q = some Q) (hpl : P.length ≤ 1099511627776) (hql : Q.length ≤ 1099511627776) (hlp : LP.length ≤ 1048576) (hlq : LQ.length ≤ 1048576) (hsp : colonnadelaw09_sameTexts.f K SX SX = some true) (hsq : colonnadelaw09_sameTexts.f K SY SY = some true) (hs3 : colonnadelaw09_sameTexts.f K X X = some true) (hlx : SX.length ≤ 1000) (hly : SY.length ≤ 1000) :
    Calls Tryz.prog 4 #[.slice A0 l0.length c0, .slice A1 l1.length c1] w fun e w' => e = .returned (.bool true) ∧ Below w.heap.size w w' := by
  have Xhf0 := Aside0.mk hf0
  have Xhfc0 := Aside0.mk hfc0
  have Xhf1 := Aside0.mk hf1
  have Xhfc1 := Aside0.mk hfc1
  have Xhm0 := Aside0.mk hm0
  have Xhm1 := Aside0.mk hm1
  have Xhr0 := Aside0.mk hr0
  have Xhc0 := Aside0.mk hc0
  have Xhr1 := Aside0.mk hr1
  have Xhc1 := Aside0.mk hc1
  have Xhyx := Aside0.mk hyx
  have Xhmin := Aside0.mk hmin
  have Xhmi2 := Aside0.mk hmi2
  have Xhmi3 := Aside0.mk hmi3
  have Xhxl := Aside0.mk hxl
  have Xhx1 := Aside0.mk hx1
  have Xhtx := Aside0.mk htx
  have Xhty := Aside0.mk hty
  have Xhwx := Aside0.mk hwx
  have Xhwy := Aside0.mk hwy
  have Xhsx := Aside0.mk hsx
  have Xhsy := Aside0.mk hsy
  have Xhpx := Aside0.mk hpx
  have Xhpy := Aside0.mk hpy
  have Xhp := Aside0.mk hp
  have Xhq := Aside0.mk hq
  have Xhtp := Aside0.mk htp
  have Xhtq := Aside0.mk htq
  have Xhpl := Aside0.mk hpl
  have Xhql := Aside0.mk hql
  have Xhlp := Aside0.mk hlp
  have Xhlq := Aside0.mk hlq
  have Xhsp := Aside0.mk hsp
  have Xhsq := Aside0.mk hsq
  have Xhs3 := Aside0.mk hs3
  have Xhlx := Aside0.mk hlx
  have Xhly := Aside0.mk hly
  have hmi4 : (if l1.length < l0.length then (l1.length : Int) else (l0.length : Int)) = (M : Int) := hmin
  clear Xhmin Xhmi2 Xhmi3
  have hz0 : (0 : Int) ≤ (X.length : Int) := by omega
  have hz1 : (X.length : Int) ≤ (c0 : Int) := by omega
  have hz2 : (X.length : Int) ≤ (c1 : Int) := by omega
  have hlt : (X.length : Int) < 1001 := by omega
  clear hf0 hfc0 hf1 hfc1 hm0 hm1 hr0 hc0 hr1 hc1 hyx hxl hx1 htx hty hwx hwy hsx hsy hpx hpy hp hq htp htq hpl hql hlp hlq hsp hsq hs3 hlx hly
  go_enter Tryz.func4, Tryz.ntmps4
  go_wp2_with (first | (go_at_call 5; refine (XKn.known _).mono ?_; rintro e w1 ⟨rfl, hb1⟩; have HB1 := Aside0.mk hb1; clear hb1) | (go_at_call 6; (with_reducible refine (colonnadelaw09_may.calls K A0 c0 l0 true _ (Kd.C_below Xhf0.out HB1.out) Xhfc0.out Xhm0.out).mono ?_); rintro e w2 ⟨rfl, ⟨nd2, rfl⟩⟩) | (go_at_call 6; (with_reducible refine (colonnadelaw09_may.calls K A1 c1 l1 true _ (Kd.C_drewN (Kd.C_below Xhf1.out HB1.out) _) Xhfc1.out Xhm1.out).mono ?_); rintro e w2 ⟨rfl, ⟨nd3, rfl⟩⟩))
  have HBd := Aside0.mk (pw_below_drewN HB1.out (nd2 + nd3))
  clear HB1
  generalize w1.drewN (nd2 + nd3) = wd at HBd ⊢
  obtain ⟨w1, rfl⟩ : ∃ x : World, x = wd := ⟨_, rfl⟩
  have HB1 := HBd
  clear HBd
  refine (colonnadelaw09_texts.calls A0 c0 X X w1 (Kd.C_below Xhr0.out HB1.out) Xhc0.out Xhtx.out).mono ?_
  rintro e w2 ⟨v1, rfl, hR, hb⟩
  have HR2 := Aside0.mk hR
  have HB2 := Aside0.mk hb
  clear hR hb
  have HL2 := Aside0.mk (XRt.litR Value.string (fun _ => rfl) w2 9 [XRt.one, XRt.two] (by simp [maxLen]))
  go_wp2_with (first | ((with_reducible refine gate_builtin (b := .append) (xs := #[.tmp 50, .tmp 51]) rfl ?_); at_builtin; refine Kd.R_append_rows Kd.string (w0 := w1) w1.heap.size rfl (.tmp 50) (.tmp 51) 23 9 (.string ByteArray.empty) 16 rfl Tryz.underlying23 XRt.infoS rfl (by decide) (by omega) v1 X [XRt.one, XRt.two] _ _ _ (fun _ => True) (fun _ => False) rfl rfl (Kd.R_alloc HR2.out _) (Kd.R_reads' HL2.out).2.2 (fun _ _ h => h) (fun _ h => h.elim) (fun _ _ => trivial) (below_alloc HB2.out _) (below_size (below_alloc HB2.out _)) (by have := Xhxl.out; first | omega | (simp only [List.length_cons, List.length_nil]; omega)) ?_; intro v2 w3 ho hb hg hat; obtain ⟨Ar, cr, rfl⟩ := Kd.R_slice ho; have hw := (XRowsW.Rows.nil w1 w.heap.size).add hb HB1.out.size (r := ⟨_, _, _⟩) (XRowsW.ofR ho); have HB3 := Aside0.mk (below_then HB1.out HB1.out.size hb); have HW3 := Aside0.mk hw; have hcr0 := (hw.C (fun _ => rfl) ByteArray.empty 0 rfl).2; rw [List.length_append] at hcr0; have hcr : (X.length : Int) ≤ (cr : Int) := (by omega); clear hcr0; clear ho hb hg hat hw HR2 HB2 HL2 HB1))
  obtain ⟨rg, rfl, hrg, hrc⟩ := HW3.out.cell ByteArray.empty 0 rfl (by rw [List.length_append]; simp only [List.length_cons, List.length_nil]; omega)
  clear hrc
  refine (XRt.build HW3.out HB3.out.size (HW3.out.Ct (fun _ => rfl) ByteArray.empty 0 rfl rfl) rfl Xhwx.out (by have h1_ := Xhxl.out; have h2_ := Xhyx.out; omega) Xhsx.out).mono ?_
  rintro e w4 ⟨Ak1, Ac1, rfl, hb, hw⟩
  have HB4 := Aside0.mk (below_then HB3.out HB3.out.size hb)
  have HW4 := Aside0.mk hw
  clear hb hw HB3 HW3
  go_wp2_with fail
  refine (XRt.putTexts HW4.out HB4.out.size K (HW4.out.Ct (fun _ => rfl) ByteArray.empty 1 rfl rfl) rfl Xhpx.out).mono ?_
  rintro e w5 ⟨Ap1, cp1, rfl, hb, hw⟩
  have HB5 := Aside0.mk (below_then HB4.out HB4.out.size hb)
  have HW5 := Aside0.mk hw
  clear hb hw HB4 HW4
  go_wp2_with fail
  refine (XRt.build HW5.out HB5.out.size (HW5.out.Ct (fun _ => rfl) ByteArray.empty 2 rfl rfl) rfl Xhwx.out (by have h1_ := Xhxl.out; have h2_ := Xhyx.out; omega) Xhsx.out).mono ?_
  rintro e w6 ⟨Ak2, Ac2, rfl, hb, hw⟩
  have HB6 := Aside0.mk (below_then HB5.out HB5.out.size hb)
  have HW6 := Aside0.mk hw
  clear hb hw HB5 HW5
  go_wp2_with fail
  refine (XRt.putTexts HW6.out HB6.out.size K (HW6.out.Ct (fun _ => rfl) ByteArray.empty 3 rfl rfl) rfl Xhpx.out).mono ?_
  rintro e w7 ⟨Ap2, cp2, rfl, hb, hw⟩
  have HB7 := Aside0.mk (below_then HB6.out HB6.out.size hb)
  have HW7 := Aside0.mk hw
  clear hb hw HB6 HW6
  go_wp2_with fail
  refine (XRt.texts HW7.out HB7.out.size ⟨Kd.C_below Xhr1.out HB7.out, Xhc1.out⟩ Xhyx.out Xhty.out).mono ?_
  rintro e w8 ⟨Ai1, ci1, rfl, hb, hw⟩
  have HB8 := Aside0.mk (below_then HB7.out HB7.out.size hb)
  have HW8 := Aside0.mk hw
  clear hb hw HB7 HW7
  go_wp2_with fail
  refine (XRt.build HW8.out HB8.out.size (HW8.out.Cn (fun _ => rfl) ByteArray.empty 0 rfl rfl) rfl Xhwy.out (by have h1_ := Xhxl.out; have h2_ := Xhyx.out; omega) Xhsy.out).mono ?_
  rintro e w9 ⟨Ak3, Ac3, rfl, hb, hw⟩
  have HB9 := Aside0.mk (below_then HB8.out HB8.out.size hb)
  have HW9 := Aside0.mk hw
  clear hb hw HB8 HW8
  go_wp2_with fail
  refine (XRt.texts HW9.out HB9.out.size ⟨Kd.C_below Xhr1.out HB9.out, Xhc1.out⟩ Xhyx.out Xhty.out).mono ?_
  rintro e w10 ⟨Ai2, ci2, rfl, hb, hw⟩
  have HB10 := Aside0.mk (below_then HB9.out HB9.out.size hb)
  have HW10 := Aside0.mk hw
  clear hb hw HB9 HW9
  go_wp2_with fail
  refine (XRt.putTexts HW10.out HB10.out.size K (HW10.out.Cn (fun _ => rfl) ByteArray.empty 0 rfl rfl) rfl Xhpy.out).mono ?_
  rintro e w11 ⟨Ap3, cp3, rfl, hb, hw⟩
  have HB11 := Aside0.mk (below_then HB10.out HB10.out.size hb)
  have HW11 := Aside0.mk hw
  clear hb hw HB10 HW10
  go_wp2_with fail
  refine (XRt.twin HW11.out HB11.out.size (HW11.out.Cn (fun _ => rfl) 0 6 rfl rfl) rfl Xhtp.out).mono ?_
  rintro e w12 ⟨At4, ct4, rfl, hb, hw⟩
  have HB12 := Aside0.mk (below_then HB11.out HB11.out.size hb)
  have HW12 := Aside0.mk hw
  clear hb hw HB11 HW11
  go_wp2_with fail
  refine (XRt.dictTexts HW12.out HB12.out.size K (HW12.out.Cn (fun _ => rfl) 0 0 rfl rfl) rfl Xhp.out).mono ?_
  rintro e w13 ⟨Ak4, ck4, Al4, cl4, rfl, hb, hw⟩
  have HB13 := Aside0.mk (below_then HB12.out HB12.out.size hb)
  have HW13 := Aside0.mk hw
  clear hb hw HB12 HW12
  go_wp2_with fail
  refine (XRt.twin HW13.out HB13.out.size (HW13.out.Cn (fun _ => rfl) 0 9 rfl rfl) rfl Xhtp.out).mono ?_
  rintro e w14 ⟨At5, ct5, rfl, hb, hw⟩
  have HB14 := Aside0.mk (below_then HB13.out HB13.out.size hb)
  have HW14 := Aside0.mk hw
  clear hb hw HB13 HW13
  go_wp2_with fail
  refine (XRt.dictTexts HW14.out HB14.out.size K (HW14.out.Cn (fun _ => rfl) 0 0 rfl rfl) rfl Xhp.out).mono ?_
  rintro e w15 ⟨Ak5, ck5, Al5, cl5, rfl, hb, hw⟩
  have HB15 := Aside0.mk (below_then HB14.out HB14.out.size hb)
  have HW15 := Aside0.mk hw
  clear hb hw HB14 HW14
  go_wp2_with fail
  obtain ⟨rg2, hrg2, _, hrc⟩ := HW15.out.cell ByteArray.empty 14 rfl (by rw [List.length_append]; simp only [List.length_cons, List.length_nil]; omega)
  obtain rfl : rg = rg2 := by injection hrg2 with h; injection h
  clear hrg2
  have hr9 := (hrc X.length (by simp)).1
  have hr10 := (hrc (X.length + 1) (by simp)).1
  clear hrc
  rw [XRt.rd9] at hr9
  rw [XRt.rd10] at hr10
  unfold XRt.one at hr9
  unfold XRt.two at hr10
  have cv1 := fun m_ : Nat => Kd.C_string (P := Tryz.prog) Tryz.underlying26 Tryz.underlying5 Tryz.underlying9 (c := cl4) (Kd.C_drewN (HW15.out.Cn (fun _ => rfl) 0 4 rfl rfl).1 m_)
  have cv2 := fun m_ : Nat => Kd.C_string (P := Tryz.prog) Tryz.underlying26 Tryz.underlying5 Tryz.underlying9 (c := cl5) (Kd.C_drewN (HW15.out.Cn (fun _ => rfl) 0 1 rfl rfl).1 m_)
  have cv3 := fun m_ : Nat => Kd.C_string (P := Tryz.prog) Tryz.underlying26 Tryz.underlying5 Tryz.underlying9 (c := cp1) (Kd.C_drewN (HW15.out.Cn (fun _ => rfl) 0 12 rfl rfl).1 m_)
  have cv4 := fun m_ : Nat => Kd.C_string (P := Tryz.prog) Tryz.underlying26 Tryz.underlying5 Tryz.underlying9 (c := cp2) (Kd.C_drewN (HW15.out.Cn (fun _ => rfl) 0 10 rfl rfl).1 m_)
  have hca := (HW15.out.Cn (fun _ => rfl) ByteArray.empty 13 rfl rfl)
  have hcb := (HW15.out.Cn (fun _ => rfl) ByteArray.empty 11 rfl rfl)
  have SC0 := Aside0.mk (fun m_ : Nat => XRt.quietT K (W := w15) (m := m_) hca rfl hcb rfl Xhsp.out)
  clear hca hcb
  have hca := (HW15.out.Cn (fun _ => rfl) ByteArray.empty 13 rfl rfl)
  have hcb := (HW15.out.Cn (fun _ => rfl) ByteArray.empty 3 rfl rfl)
  have SC1 := Aside0.mk (fun m_ : Nat => XRt.quietT K (W := w15) (m := m_) hca rfl hcb rfl Xhsp.out)
  clear hca hcb
  have hca := (HW15.out.Cn (fun _ => rfl) ByteArray.empty 13 rfl rfl)
  have hcb := (HW15.out.Cn (fun _ => rfl) ByteArray.empty 0 rfl rfl)
  have SC2 := Aside0.mk (fun m_ : Nat => XRt.quietT K (W := w15) (m := m_) hca rfl hcb rfl Xhsp.out)
  clear hca hcb
  have hca := (HW15.out.Ct (fun _ => rfl) ByteArray.empty 14 rfl rfl)
  have hcb := (And.intro (Kd.C_below Xhr0.out HB15.out) Xhc0.out)
  have SC3 := Aside0.mk (fun m_ : Nat => XRt.quietT K (W := w15) (m := m_) hca rfl hcb rfl Xhs3.out)
  clear hca hcb
  dsimp only [List.append]
  go_quiet (first
      | (go_at_call 16; with_reducible exact SC0.out _)
      | (go_at_call 16; with_reducible exact SC1.out _)
      | (go_at_call 16; with_reducible exact SC2.out _)
      | (go_at_call 16; with_reducible exact SC3.out _))
  clear SC0 SC1 SC2 SC3
  go_wp2_with fail
  clear cv1 cv2 cv3 cv4 hr9 hr10
  have HBd := Aside0.mk (pw_below_drewN HB15.out nq)
  have HWd := Aside0.mk (HW15.out.below (pw_below_drewN (Below.refl _ _) nq))
  clear HB15 HW15
  have hsd : w15.heap.size = (w15.drewN nq).heap.size := rfl
  rw [hsd]
  generalize w15.drewN nq = wd at HBd HWd ⊢
  obtain ⟨w16, rfl⟩ : ∃ x : World, x = wd := ⟨_, rfl⟩
  have HB16 := HBd
  have HW16 := HWd
  clear HBd HWd
  obtain ⟨hP, hgr⟩ := HW16.out.grow HB16.out.size [13, 11, 8, 3, 0] [12, 10, 6, 4, 1, 14] (by decide) (eT := 9) 23 1099511627776 (vs := [.slice Ak1 SX.length SX.length, .slice Ak2 SX.length SX.length, .slice Ak3 SY.length SY.length, .slice Ak4 SX.length ck4, .slice Ak5 SX.length ck5]) rfl (fun k hk => by
    match k, hk with
    | 0, _ => exact ⟨_, rfl, by rw [encs_length]; have h1 := Xhlx.out; have h2 := Xhly.out; omega⟩
    | 1, _ => exact ⟨_, rfl, by rw [encs_length]; have h1 := Xhlx.out; have h2 := Xhly.out; omega⟩
    | 2, _ => exact ⟨_, rfl, by rw [encs_length]; have h1 := Xhlx.out; have h2 := Xhly.out; omega⟩
    | 3, _ => exact ⟨_, rfl, by rw [encs_length]; have h1 := Xhlx.out; have h2 := Xhly.out; omega⟩
    | 4, _ => exact ⟨_, rfl, by rw [encs_length]; have h1 := Xhlx.out; have h2 := Xhly.out; omega⟩
    | k + 5, hk => exact absurd hk (by simp)) (by decide) (by decide)
  refine (XGrownT.grownTexts.calls _ _ 5 _ hP).mono ?_
  rintro e w17 ⟨rfl, hbf⟩
  obtain ⟨hw, hb⟩ := hgr _ hbf
  have HB17 := Aside0.mk (HB16.out.trans hb)
  have HW17 := Aside0.mk hw
  clear hw hb hbf hgr hP HB16 HW16
  go_wp2_with fail
  obtain ⟨hP, hgr⟩ := HW17.out.grow HB17.out.size [0, 1, 2, 3, 4] [5] (by decide) (eT := 5) 26 1099511627776 (vs := [.slice Ap1 P.length cp1, .slice Ap2 P.length cp2, .slice Ap3 Q.length cp3, .slice Al4 LP.length cl4, .slice Al5 LP.length cl5]) rfl (fun k hk => by
    match k, hk with
    | 0, _ => exact ⟨_, rfl, by rw [encs_length]; have h1 := Xhpl.out; have h2 := Xhql.out; have h3 := Xhlp.out; omega⟩
    | 1, _ => exact ⟨_, rfl, by rw [encs_length]; have h1 := Xhpl.out; have h2 := Xhql.out; have h3 := Xhlp.out; omega⟩
    | 2, _ => exact ⟨_, rfl, by rw [encs_length]; have h1 := Xhpl.out; have h2 := Xhql.out; have h3 := Xhlp.out; omega⟩
    | 3, _ => exact ⟨_, rfl, by rw [encs_length]; have h1 := Xhpl.out; have h2 := Xhql.out; have h3 := Xhlp.out; omega⟩
    | 4, _ => exact ⟨_, rfl, by rw [encs_length]; have h1 := Xhpl.out; have h2 := Xhql.out; have h3 := Xhlp.out; omega⟩
    | k + 5, hk => exact absurd hk (by simp)) (by decide) (by decide)
  refine (XGrownT.grownBytes.calls _ _ 5 _ hP).mono ?_
  rintro e w18 ⟨rfl, hbf⟩
  obtain ⟨hw, hb⟩ := hgr _ hbf
  have HB18 := Aside0.mk (HB17.out.trans hb)
  have HW18 := Aside0.mk hw
  clear hw hb hbf hgr hP HB17 HW17
  go_wp2_with fail
  have SR : Aside0 (Calls Tryz.prog 20 #[.slice (some ⟨rg, 0, none⟩) X.length cr, .slice A1 X.length c1] w18.drew fun e w' => e = .returned (.bool true) ∧ Below w18.heap.size w18 w') := Aside0.mk ((XRt.reads K (some ⟨rg, 0, none⟩) cr X A1 c1 Y (w18.drewN 1) P Q SX SY LP LQ WP WQ (Kd.C_drewN (HW18.out.Ct (fun _ => rfl) ByteArray.empty 0 rfl rfl).1 1) (HW18.out.Ct (fun _ => rfl) ByteArray.empty 0 rfl rfl).2 (Kd.C_drewN (Kd.C_below Xhr1.out HB18.out) 1) Xhc1.out Xhyx.out Xhtx.out Xhty.out Xhpx.out Xhpy.out Xhp.out Xhq.out Xhtp.out Xhtq.out Xhpl.out Xhql.out (by have h1 := Xhlx.out; omega) (by have h1 := Xhly.out; omega) Xhlp.out Xhlq.out Xhsp.out Xhsq.out).mono fun _ _ h => ⟨h.1, below_then (pw_below_drewN (Below.refl _ _) 1) (Nat.le_refl _) h.2⟩)
  go_region_with (go_at_call 20; (with_reducible refine SR.out.mono ?_); rintro e w19 ⟨rfl, hb⟩; have hw := HW18.out.below hb; have HB19 := Aside0.mk (below_then HB18.out HB18.out.size hb); have HW19 := Aside0.mk hw; clear hb hw HB18 HW18)
  clear SR
  go_wp2_with fail
  refine (XRt.putTexts HW19.out HB19.out.size K (HW19.out.Ct (fun _ => rfl) ByteArray.empty 0 rfl rfl) rfl Xhpx.out).mono ?_
  rintro e w20 ⟨Ap7, cp7, rfl, hb, hw⟩
  have HB20 := Aside0.mk (below_then HB19.out HB19.out.size hb)
  have HW20 := Aside0.mk hw
  clear hb hw HB19 HW19
  have HW0 : Aside0 (XRowsW.Rows w20 w.heap.size [⟨5, .slice Ap7 P.length cp7, encs (Value.int .u8) P⟩, ⟨9, .slice (some ⟨rg, 0, none⟩) (X.length + 2) cr, encs Value.string (XRt.ovT Y (X ++ [XRt.one, XRt.two]) 0)⟩]) := ⟨by rw [XRt.ovT_zero]; have h := HW20.out; rw [(by simp : (X ++ [XRt.one, XRt.two]).length = X.length + 2)] at h; exact h⟩
  go_wp2_with fail
  (try simp only [add_plain])
  go_loopg [27] (X.length + 1) (fun kq v27 w' => ∃ i : Nat, i ≤ X.length ∧ Aside0 (kq + i = X.length + 1) ∧ v27 = .int .i64 (i : Int) ∧ Aside0 (Below w.heap.size w w') ∧ Aside0 (XRowsW.Rows w' w.heap.size [⟨5, .slice Ap7 P.length cp7, encs (Value.int .u8) P⟩, ⟨9, .slice (some ⟨rg, 0, none⟩) (X.length + 2) cr, encs Value.string (XRt.ovT Y (X ++ [XRt.one, XRt.two]) i)⟩]))
  case atStart => exact ⟨0, Nat.zero_le _, ⟨by omega⟩, rfl, HB20, HW0⟩
  case round =>
    clear HB20 HW20 HW0
    obtain ⟨i, hi, HK, rfl, HB, HW⟩ := hrel
    by_cases hlti : i < X.length
    · have hdc : decide ((i : Int) < (X.length : Int)) = true := decide_eq_true (by omega)
      have hyl := Xhyx.out
      obtain ⟨k1, rfl⟩ : ∃ k1, gk = k1 + 1 := ⟨gk - 1, by have := HK.out; omega⟩
      have hol : (XRt.ovT Y (X ++ [XRt.one, XRt.two]) i).length = (X ++ [XRt.one, XRt.two]).length := XRt.ovT_len Y _ i (by omega) (by rw [List.length_append]; omega)
      obtain ⟨g, hg, hbg, hcell⟩ := HW.out.cell ByteArray.empty 1 rfl (by rw [hol, List.length_append]; simp only [List.length_cons, List.length_nil]; omega)
      obtain rfl : rg = g := by injection hg with h; injection h
      clear hg
      obtain ⟨hx, hf⟩ := hcell i (by rw [hol, List.length_append]; omega)
      clear hcell hol
      have p1 : (0 : Int) ≤ (i : Int) := by omega
      have q1 : (i : Int) < (l1.length : Int) := by have := Xhx1.out; omega
      have q2 : (i : Int) < (X.length : Int) := by omega
      obtain ⟨ad1, e1, hx1⟩ := Kd.at_string (Kd.C_below Xhr1.out HB.out) (i : Int) p1 q2
      cases e1
      change wr.cell? (ad1.add i) = _ at hx1
      clear hyl
      have hb1 : (i : Int) < 1048576 := by omega
      go_wp2_with fail
      have HW' := Aside0.mk (HW.out.putE 1 rfl i (rdOf ByteArray.empty Y (i : Int)))
      rw [XRt.ovT_set Y _ i (by have := Xhyx.out; omega) (by have := Xhyx.out; rw [List.length_append]; omega)] at HW'
      have HB' := Aside0.mk (HB.out.setCell (p := ⟨rg, i, none⟩) hbg (.string (rdOf ByteArray.empty Y (i : Int))))
      go_roundg k1
      case measure => have := HK.out; omega
      case rel => exact ⟨i + 1, by omega, ⟨by have := HK.out; omega⟩, congrArg (Value.int .i64) (by omega), HB', HW'⟩
    · obtain rfl : i = X.length := by omega
      have hdc : decide ((X.length : Int) < (X.length : Int)) = false := decide_eq_false (by omega)
      rw [show XRt.ovT Y (X ++ [XRt.one, XRt.two]) X.length = Y ++ [XRt.one, XRt.two] from Xhyx.out ▸ XRt.ovT_full Y X [XRt.one, XRt.two] Xhyx.out] at HW
      have HB20 := HB
      have HW20 := HW
      clear HB HW
      obtain ⟨w20, rfl⟩ : ∃ x : World, x = wr := ⟨_, rfl⟩
      go_wp2_with fail
      refine (XRt.putTexts HW20.out HB20.out.size K (HW20.out.Ct (fun _ => rfl) ByteArray.empty 1 rfl Xhyx.out) Xhyx.out Xhpy.out).mono ?_
      rintro e w21 ⟨Ap5, cp5, rfl, hb, hw⟩
      have HB21 := Aside0.mk (below_then HB20.out HB20.out.size hb)
      have HW21 := Aside0.mk hw
      clear hb hw HB20 HW20
      go_wp2_with fail
      refine (XRt.texts HW21.out HB21.out.size ⟨Kd.C_below Xhr1.out HB21.out, Xhc1.out⟩ Xhyx.out Xhty.out).mono ?_
      rintro e w22 ⟨Ai6, ci6, rfl, hb, hw⟩
      have HB22 := Aside0.mk (below_then HB21.out HB21.out.size hb)
      have HW22 := Aside0.mk hw
      clear hb hw HB21 HW21
      go_wp2_with fail
      refine (XRt.putTexts HW22.out HB22.out.size K (HW22.out.Cn (fun _ => rfl) ByteArray.empty 0 rfl rfl) rfl Xhpy.out).mono ?_
      rintro e w23 ⟨Ap6, cp6, rfl, hb, hw⟩
      have HB23 := Aside0.mk (below_then HB22.out HB22.out.size hb)
      have HW23 := Aside0.mk hw
      clear hb hw HB22 HW22
      have cv1 := Kd.C_string (P := Tryz.prog) Tryz.underlying26 Tryz.underlying5 Tryz.underlying9 (c := cp5) (HW23.out.Cn (fun _ => rfl) 0 2 rfl rfl).1
      have cv2 := Kd.C_string (P := Tryz.prog) Tryz.underlying26 Tryz.underlying5 Tryz.underlying9 (c := cp6) (HW23.out.Cn (fun _ => rfl) 0 0 rfl rfl).1
      go_wp2_with fail
      go_ret
      exact ⟨rfl, HB23.out⟩
def colonnadelaw09_DictTextsOwn.X (l0 l1 : List ByteArray) : List ByteArray := l0.take (min (min l0.length l1.length) 1000)
def colonnadelaw09_DictTextsOwn.Y (l0 l1 : List ByteArray) : List ByteArray := l1.take (min (min l0.length l1.length) 1000)
def colonnadelaw09_DictTextsOwn.OK (K : Nat) (l0 l1 : List ByteArray) : Prop := ∃ (P Q LP LQ : List Int) (WP WQ : Int), (colonnadelaw09_may.f K l0 = some true) ∧ (colonnadelaw09_may.f K l1 = some true) ∧ (colonnadelaw09_texts.f (colonnadelaw09_DictTextsOwn.X l0 l1) = some (colonnadelaw09_DictTextsOwn.X l0 l1)) ∧ (colonnadelaw09_texts.f (colonnadelaw09_DictTextsOwn.Y l0 l1) = some (colonnadelaw09_DictTextsOwn.Y l0 l1)) ∧ (∀ x ∈ (colonnadelaw09_DictTextsOwn.X l0 l1), x.size ≤ maxLen) ∧ (∀ x ∈ (colonnadelaw09_DictTextsOwn.Y l0 l1), x.size ≤ maxLen) ∧ (dict_PutTexts.f K (colonnadelaw09_DictTextsOwn.X l0 l1) = some (P, 0)) ∧ (dict_PutTexts.f K (colonnadelaw09_DictTextsOwn.Y l0 l1) = some (Q, 0)) ∧ (dict_Texts.f K P ((colonnadelaw09_DictTextsOwn.X l0 l1).length : Int) = some ((XMapS.keysOf (colonnadelaw09_DictTextsOwn.X l0 l1)), WP, LP, 0)) ∧ (dict_Texts.f K Q ((colonnadelaw09_DictTextsOwn.X l0 l1).length : Int) = some ((XMapS.keysOf (colonnadelaw09_DictTextsOwn.Y l0 l1)), WQ, LQ, 0)) ∧ (colonnadelaw09_twin.f P = some P) ∧ (colonnadelaw09_twin.f Q = some Q) ∧ (P.length ≤ 1099511627776) ∧ (Q.length ≤ 1099511627776) ∧ (LP.length ≤ 1048576) ∧ (LQ.length ≤ 1048576) ∧ (colonnadelaw09_sameTexts.f K (XMapS.keysOf (colonnadelaw09_DictTextsOwn.X l0 l1)) (XMapS.keysOf (colonnadelaw09_DictTextsOwn.X l0 l1)) = some true) ∧ (colonnadelaw09_sameTexts.f K (XMapS.keysOf (colonnadelaw09_DictTextsOwn.Y l0 l1)) (XMapS.keysOf (colonnadelaw09_DictTextsOwn.Y l0 l1)) = some true) ∧ (colonnadelaw09_sameTexts.f K (colonnadelaw09_DictTextsOwn.X l0 l1) (colonnadelaw09_DictTextsOwn.X l0 l1) = some true)
def colonnadelaw09_DictTextsOwn.no (K : Nat) (l0 l1 : List ByteArray) : Prop := ∃ a b : Bool, colonnadelaw09_may.f K l0 = some a ∧ (a = true → colonnadelaw09_may.f K l1 = some b) ∧ (a && b) = false
open Classical in
noncomputable def colonnadelaw09_DictTextsOwn.f (K : Nat) (l0 l1 : List ByteArray) : Option Bool := if colonnadelaw09_DictTextsOwn.no K l0 l1 ∨ colonnadelaw09_DictTextsOwn.OK K l0 l1 then some true else none
theorem colonnadelaw09_DictTextsOwn.calls (K : Nat) (A0 : Option Addr) (c0 : Nat) (l0 : List ByteArray) (A1 : Option Addr) (c1 : Nat) (l1 : List ByteArray) (r : Bool) (w : World) (hr0 : Kd.C Kd.string w A0 l0.length l0) (hc0 : l0.length ≤ c0) (hr1 : Kd.C Kd.string w A1 l1.length l1) (hc1 : l1.length ≤ c1) (h : colonnadelaw09_DictTextsOwn.f K l0 l1 = some r) :
    Calls Tryz.prog 4 #[.slice A0 l0.length c0, .slice A1 l1.length c1] w fun e w' => e = .returned (.bool r) ∧ Below w.heap.size w w' := by
  unfold colonnadelaw09_DictTextsOwn.f at h
  split at h
  · rename_i hok
    obtain rfl := Option.some.inj h
    rcases hok with ⟨a, b, h1, h2, h3⟩ | hok
    · exact colonnadelaw09_DictTextsOwn.skip K A0 c0 l0 A1 c1 l1 w hr0 hc0 hr1 hc1 a b h1 h2 h3
    obtain ⟨P, Q, LP, LQ, WP, WQ, hm0, hm1, htx, hty, hwx, hwy, hpx, hpy, hp, hq, htp, htq, hpl, hql, hlp, hlq, hsp, hsq, hs3⟩ := hok
    have eX : (colonnadelaw09_DictTextsOwn.X l0 l1).length = min (min l0.length l1.length) 1000 := by unfold colonnadelaw09_DictTextsOwn.X; rw [List.length_take]; omega
    have eY : (colonnadelaw09_DictTextsOwn.Y l0 l1).length = min (min l0.length l1.length) 1000 := by unfold colonnadelaw09_DictTextsOwn.Y; rw [List.length_take]; omega
    have h0 : Kd.C Kd.string w A0 (colonnadelaw09_DictTextsOwn.X l0 l1).length (colonnadelaw09_DictTextsOwn.X l0 l1) :=
      Kd.C_take hr0 (m := min (min l0.length l1.length) 1000) (by omega)
    have h1 : Kd.C Kd.string w A1 (colonnadelaw09_DictTextsOwn.X l0 l1).length (colonnadelaw09_DictTextsOwn.Y l0 l1) := by
      have := Kd.C_take hr1 (m := min (min l0.length l1.length) 1000) (by omega)
      rw [eX, ← eY]; exact this
    have kx := XMapS.keysOf_length (colonnadelaw09_DictTextsOwn.X l0 l1)
    have ky := XMapS.keysOf_length (colonnadelaw09_DictTextsOwn.Y l0 l1)
    have m1 : (if l1.length < l0.length then (l1.length : Int) else (l0.length : Int)) = ((min l0.length l1.length : Nat) : Int) := by split <;> omega
    have m2 : (if (1000 : Int) < ((min l0.length l1.length : Nat) : Int) then (1000 : Int) else ((min l0.length l1.length : Nat) : Int)) = ((colonnadelaw09_DictTextsOwn.X l0 l1).length : Int) := by rw [eX]; split <;> omega
    have m3 : (if 1000 < min l0.length l1.length then (1000 : Int) else ((min l0.length l1.length : Nat) : Int)) = ((colonnadelaw09_DictTextsOwn.X l0 l1).length : Int) := by rw [eX]; split <;> omega
    exact colonnadelaw09_DictTextsOwn.go K A0 c0 l0 (colonnadelaw09_DictTextsOwn.X l0 l1) A1 c1 (min l0.length l1.length) l1 (colonnadelaw09_DictTextsOwn.Y l0 l1) w _ _ P Q LP LQ WP WQ hr0 hc0 hr1 hc1 hm0 hm1 h0 (by omega) h1 (by omega) (by omega) m1 m2 m3 (by omega) (by omega) htx hty hwx hwy rfl rfl hpx hpy hp hq htp htq hpl hql hlp hlq hsp hsq hs3 (by omega) (by omega)
  · cases h

end Go.Proofs.YtlpllhpnnhablaaGreat.PDictTextsOwn
