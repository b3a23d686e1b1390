-- Written by xprint.py, this session's own program over the kit's print; Lean checks it.
import Derived.Test.YtlpllhpnnhablaaGreatPDictTextsOwnx0
import Derived.Test.YtlpllhpnnhablaaGreatPDictTextsOwnx1
import Derived.Test.YtlpllhpnnhablaaGreatPDictTextsOwnx2
import Derived.Test.YtlpllhpnnhablaaGreatPDictTextsOwnx6
import Derived.Test.YtlpllhpnnhablaaGreatPDictTextsOwnx9
import Derived.Test.YtlpllhpnnhablaaGreatPDictTextsOwnx10
namespace Go.Proofs.YtlpllhpnnhablaaGreat.PDictTextsOwn
open Go.RowKit Go.Proofs.YtlpllhpnnhablaaGreatW.PrintWords Go.Proofs.YtlpllhpnnhablaaGreatW.PrintLast Go.Proofs.YtlpllhpnnhablaaGreatW.PrintMore
attribute [local go_sem] max2_int min2_int max_two min_two max_three min_three max_four min_four   -- for this text's walks alone
set_option linter.unusedVariables false
set_option linter.unusedSimpArgs false

/-! ### dict_Texts: function 14 -/
theorem XTxt.width4 (w : World) : Calls Tryz.prog 67 #[] w fun e w' => e = .returned (.int .i64 4) ∧ Drawn0 w w' := by
  have hx : IntKind.u64.wrap (Go.bits .xor .u32 IntKind.u32.max 0) = 4294967295 := by decide +kernel
  go_enter Tryz.func67, Tryz.ntmps67
  go_wp2_with fail
  refine (bits_Len64.calls 4294967295 32 _ (by decide +kernel)).mono ?_
  rintro e w' ⟨rfl, ⟨nd, rfl⟩⟩
  go_wp2_with fail
  refine bodyPost_ret (v := .int .i64 4) (by simp [results, Tryz.results67, go_sem]) rfl ?_
  exact ⟨rfl, ⟨_, rfl⟩⟩
/-- what four bytes tell, after i of them -/
def XTxt.fold (l : List Int) : Nat → Int
  | 0 => 0
  | i + 1 => Go.bits .or .u64 (XTxt.fold l i) (IntKind.u64.wrap (IntKind.u64.wrap (rd l (i : Int)) * 2 ^ (8 * i)))
set_option maxHeartbeats 1000000 in
set_option maxRecDepth 100000 in
theorem XTxt.tk1 {M : Nat} {Wc W1 : World} {g b1 b2 : Nat} {L : List Int} {at_ : Nat} (h : XCur.Rdr M Wc g L at_ 0) (hL : L.length ≤ 140737488351232) (hn : 4 ≤ L.length - at_) (m1 : M ≤ b1) (m2 : M ≤ b2) (hne : b1 ≠ b2)
    (h1 : Wc.cell? ⟨b1, 0, none⟩ = some (.pointer (some ⟨g, 0, none⟩))) (h2 : Wc.heap[b2]? = some (.cells #[.int .u32 0] 37 (0, 0))) (hB : Below Wc.heap.size Wc W1) :
    Calls Tryz.prog 66 #[.pointer (some ⟨b1, 0, none⟩), .pointer (some ⟨b2, 0, none⟩)] W1
      (XCur.Body M Wc.heap.size g L (fun w' => XCur.Rdr M w' g L (at_ + 4) 0 ∧ w'.heap[b2]? = some (.cells #[.int .u32 (IntKind.u32.wrap (XTxt.fold ((L.drop at_).take 4) 4))] 37 (0, 0))) (fun _ _ => False) W1) := by
  obtain ⟨Ls, hLs⟩ : ∃ Ls, (L.drop at_).take 4 = Ls := ⟨_, rfl⟩
  rw [hLs]
  have hll : Ls.length = 4 := by rw [← hLs]; simp; omega
  have HLL := Aside0.mk hll
  have HLS := Aside0.mk hLs
  clear hLs hll
  have l1 := World.block_lt_of_cell? Wc _ h1
  have l2 : b2 < Wc.heap.size := (Array.getElem?_eq_some_iff.1 h2).1
  have c1 := pw_cell_below hB h1
  have H := Aside0.mk (h.below hB)
  have gM := h.1
  have H2 := Aside0.mk ((hB.block b2 l2).trans h2)
  have HM := Aside0.mk h.2.1
  have hs := hB.size
  have l1' : b1 < W1.heap.size := Nat.lt_of_lt_of_le l1 hs
  have l2' : b2 < W1.heap.size := Nat.lt_of_lt_of_le l2 hs
  have HN := Aside0.mk hn
  have hw4 : IntKind.u64.wrap (4 : Int) = 4 := by decide
  clear h h1 h2 hB hn
  go_enter Tryz.func66, Tryz.ntmps66
  go_wp2_with fail
  refine wp_region_held_drew (S := (fun w' => w'.cell? ⟨b1, 0, none⟩ = some (.pointer (some ⟨g, 0, none⟩)))) (by kernel_rfl) (by go_simp) (fun hHeld => ?_)
  refine wpAnyH_take (i := 0) (oi := ⟨some 5, _, _, _, _, _⟩) (v := ?v_1) rfl (by kernel_rfl) (by kernel_rfl) (by kernel_rfl) (fun _ _ _ h => h) (Or.inl ⟨by rfl, ?y_1⟩) (by assumption) ?n_1
  case y_1 => (intro w_ hSw; (try dsimp only at hSw); go_simp; try (with_reducible rfl))
  try simp only [Act.put, List.setIfInBounds_toArray, List.set_cons_zero, List.set_cons_succ]
  refine wpAnyH_take (i := 5) (oi := ⟨some 10, _, _, _, _, _⟩) (v := ?v_2) rfl (by kernel_rfl) (by kernel_rfl) (by kernel_rfl) (fun _ _ _ h => h) (Or.inl ⟨by rfl, ?y_2⟩) (by assumption) ?n_2
  case y_2 => (intro w_ hSw; (try dsimp only at hSw); go_simp; try (with_reducible rfl))
  try simp only [Act.put, List.setIfInBounds_toArray, List.set_cons_zero, List.set_cons_succ]
  refine wpAnyH_ready (rs := [1]) (by kernel_rfl) (by simp) ?_
  refine AllReadyH.cons (o := ⟨some 6, _, _, _, _, _⟩) rfl (fun K_ hK_ => ?_) AllReadyH.nil
  go_simp
  refine (XTxt.width4 _).mono ?_
  rintro e w1 ⟨rfl, ⟨nd1, rfl⟩⟩
  refine hK_.out _ _ (by go_simp) (fun hHeld => ?_)
  clear hK_ K_
  try simp only [Act.put, List.setIfInBounds_toArray, List.set_cons_zero, List.set_cons_succ]
  refine wpAnyH_take (i := 2) (oi := ⟨some 7, _, _, _, _, _⟩) (v := ?v_3) rfl (by kernel_rfl) (by kernel_rfl) (by kernel_rfl) (fun _ _ _ h => h) (Or.inl ⟨by rfl, ?y_3⟩) (by assumption) ?n_3
  case y_3 => (intro w_ hSw; (try dsimp only at hSw); go_simp; try (with_reducible rfl))
  try simp only [Act.put, List.setIfInBounds_toArray, List.set_cons_zero, List.set_cons_succ]
  refine wpAnyH_ready (rs := [3]) (by kernel_rfl) (by simp) ?_
  refine AllReadyH.cons (o := ⟨some 8, _, _, _, _, _⟩) rfl (fun K_ hK_ => ?_) AllReadyH.nil
  go_simp
  refine (XCur.take_ok (H.out.drewN _) hL 4 HN.out).mono ?_
  rintro e w2 ⟨A2, c2', rfl, hc2, hC2, hR2, hg2⟩
  have c2 : w2.cell? ⟨b1, 0, none⟩ = some (.pointer (some ⟨g, 0, none⟩)) := (World.cell?_of_block (a := ⟨b1, 0, none⟩) (hg2.block b1 (by simpa using l1') (fun e => by cases e; omega))).trans (by go_simp)
  have H2' := Aside0.mk ((hg2.block b2 (by simpa using l2') (fun e => by cases e; omega)).trans (show (W1.drewN _).heap[b2]? = _ from H2.out))
  rw [HLS.out] at hC2
  have HC2 := Aside0.mk hC2
  have HR2 := Aside0.mk hR2
  have HG2 := Aside0.mk hg2
  clear hC2 hR2 hg2 hc2
  refine hK_.out _ _ (c2) (fun hHeld => ?_)
  clear hK_ K_
  try simp only [Act.put, List.setIfInBounds_toArray, List.set_cons_zero, List.set_cons_succ]
  refine wpAnyH_take (i := 4) (oi := ⟨some 9, _, _, _, _, _⟩) (v := ?v_4) rfl (by kernel_rfl) (by kernel_rfl) (by kernel_rfl) (fun _ _ _ h => h) (Or.inl ⟨by rfl, ?y_4⟩) (by assumption) ?n_4
  case y_4 => (intro w_ hSw; (try dsimp only at hSw); go_simp; try (with_reducible rfl))
  try simp only [Act.put, List.setIfInBounds_toArray, List.set_cons_zero, List.set_cons_succ]
  refine wpAnyH_done (by kernel_rfl) ?_ _
  go_wp2_with fail
  (try simp only [add_plain])
  go_loopg [2, 10] 5 (fun kq v2 v10 w' => ∃ i : Nat, i ≤ 4 ∧ Aside0 (kq + i = 5) ∧ v2 = .int .u64 (XTxt.fold Ls i) ∧ v10 = .int .i64 (i : Int) ∧ w' = w2)
  case atStart => exact ⟨0, by omega, ⟨rfl⟩, rfl, rfl, rfl⟩
  case round =>
    obtain ⟨i, hi, HK, rfl, rfl, hw⟩ := hrel
    obtain rfl := hw.symm
    obtain ⟨k1, rfl⟩ : ∃ k1, gk = k1 + 1 := ⟨gk - 1, by have := HK.out; omega⟩
    by_cases hlt : i < 4
    · have hd : decide ((i : Int) < 4) = true := decide_eq_true (by omega)
      have hd2 : decide (i < 4) = true := decide_eq_true hlt
      have hi8 : IntKind.i64.wrap (8 * (i : Int)) = 8 * (i : Int) := by rw [IntKind.wrap_i64]; omega
      have hge : (0 : Int) ≤ 8 * (i : Int) := by omega
      have hge2 : (0 : Int) ≤ (i : Int) := by omega
      have hlt2 : (i : Int) < 4 := by omega
      obtain ⟨ad, rfl, hx⟩ := Kd.at_int HC2.out (i : Int) (by omega) (by have := HLL.out; omega)
      rw [Int.toNat_natCast] at hx
      go_wp2_with fail
      go_roundg k1
      case measure => omega
      case rel => exact ⟨i + 1, by omega, ⟨by have := HK.out; omega⟩, rfl, congrArg (Value.int .i64) (by omega), rfl⟩
    · obtain rfl : i = 4 := by omega
      have k2 : w2.cell? ⟨b2, 0, none⟩ = some (.int .u32 0) := by simp [World.cell?, H2'.out]
      have k3 : w2.frozen? ⟨b2, 0, none⟩ = false := by simp [World.frozen?, H2'.out]
      go_wp2_with fail
      go_end0
      refine ⟨((XCur.Fr.of_below (pw_below_drewN (Below.refl _ _) (1 + nd1)) H.out.2.1).trans (XCur.Fr.of_grown HG2.out (by simpa using H.out.2.1))).trans (XCur.Fr.set _ _ _ (Or.inr m2)), fun k hk hk1 => ?_, Or.inl ⟨rfl, ?_, ?_⟩⟩
      · rw [heap_setCell_other _ _ _ _ (by simp; omega), HG2.out.block k (by simpa using hk1) (fun e => by cases e; have := HM.out; omega)]
        rfl
      · exact HR2.out.other (by exact ⟨rfl, rfl, rfl, by simp, fun k _ hk => heap_setCell_other _ _ _ _ (fun e => hk (by rw [e]))⟩) m2
      · rw [heap_setCell_same _ _ _ _ _ _ H2'.out]; rfl
set_option maxHeartbeats 1000000 in
set_option maxRecDepth 100000 in
theorem XTxt.take32 {M : Nat} {W : World} {g : Nat} {L : List Int} {at_ : Nat} (h : XCur.Rdr M W g L at_ 0) (hL : L.length ≤ 140737488351232) (hn : 4 ≤ L.length - at_) :
    Calls Tryz.prog 40 #[.pointer (some ⟨g, 0, none⟩)] W fun e w' => e = .returned (.int .u32 (IntKind.u32.wrap (XTxt.fold ((L.drop at_).take 4) 4))) ∧ W.grownBy w' (some g) := by
  obtain ⟨V, hV⟩ : ∃ V, IntKind.u32.wrap (XTxt.fold ((L.drop at_).take 4) 4) = V := ⟨_, rfl⟩
  rw [hV]
  have HV := Aside0.mk hV
  clear hV
  have h' := h.wider h.2.1 (Nat.le_refl _)
  have H := Aside0.mk h'
  have HL := Aside0.mk hL
  have HN := Aside0.mk hn
  have hmf : ∀ (fn : Fn) (first cap : Array Value) (w : World), (Instr.makeFunc fn first cap).run Tryz.prog w = .ok (.func fn first cap) w := fun _ _ _ _ => rfl
  have hgM := h'.1
  clear h h' hL hn
  go_enter Tryz.func40, Tryz.ntmps40
  go_wp2_with fail
  have hb := below_alloc (below_alloc (Below.refl W.heap.size W) (.cells #[.pointer (some ⟨g, 0, none⟩)] 62)) (.cells #[.int .u32 0] 37)
  refine (XCur.reading _ _ (fun _ _ => enters_of Tryz.func66 (by kernel_rfl) rfl _ _) (H.out.below hb) _ _ ?hq (fun W1 hW1 => XTxt.tk1 (H.out.below hb) HL.out HN.out (Nat.le_refl _) (Nat.le_succ _) (by omega) ?h1 ?h2 hW1)).mono ?_
  case hq => exact fun _ _ _ _ h => h.elim
  case h1 => go_simp
  case h2 => exact XCur.heap_new2 _ _ _
  rintro e w2 ⟨rfl, hF, hcase⟩
  have HF := Aside0.mk ((XCur.Fr.of_below hb (Nat.le_refl _) : XCur.Fr W.heap.size g W _).trans hF)
  clear hF hb
  rcases hcase with ⟨hR, h2⟩ | ⟨c, hR, e0⟩
  · rw [HV.out] at h2
    have k2 : w2.cell? ⟨W.heap.size + 1, 0, none⟩ = some (.int .u32 V) := by simp [World.cell?, h2]
    clear hR h2
    go_wp2_with fail
    refine bodyPost_ret (v := .int .u32 V) (by simp [results, Tryz.results40, go_sem]) rfl ⟨rfl, ?_⟩
    have hF' := HF.out
    exact ⟨hF'.os, hF'.tape, hF'.output, hF'.size, fun k hk hne => hF'.block k hk (fun e => hne (by rw [e]))⟩
  · exact e0.elim

theorem XTxt.clip (A : Option Addr) (n c : Nat) (w : World) (hc : n ≤ c) : Calls Tryz.prog 42 #[.slice A n c] w fun e w' => e = .returned (.slice A n n) ∧ w' = w := by
  go_enter Tryz.func42, Tryz.ntmps42
  go_wp2_with fail
  refine bodyPost_ret (results_tmp rfl _ _ _) rfl ?_
  exact ⟨rfl, rfl⟩
/-- bytes appended to bytes that have no room: both rows, one behind the other -/
theorem XTxt.app {ops : Array Oper} {rest : List Oper} {o : Oper} {a : Act} {Q : Exit → Act → World → Prop} {W : World} (hgd : o.guard = none) (s x : Operand)
    (ho : o.op = .call { callee := .builtin .append, args := #[s, x], argTypes := #[26, 26] })
    (A4 A5 : Option Addr) (n5 : Nat) (X Y Z : List Int) (hZ : X ++ Y = Z) (hs : a.eval s = .slice A4 X.length X.length) (hx : a.eval x = .slice A5 Y.length n5)
    (H4 : Kd.C (Kd.int .u8) W A4 X.length X) (H5 : Kd.C (Kd.int .u8) W A5 Y.length Y) (hpos : 0 < X.length) (hl : X.length + Y.length ≤ 140737488355328)
    (h : ∀ A' c' w1, Kd.C (Kd.int .u8) w1 A' Z.length Z → Z.length ≤ c' → W.grownBy w1 none → wpList Tryz.prog ops Q rest (a.put o.dst (.slice A' Z.length c')) w1) :
    wpList Tryz.prog ops Q (o :: rest) a W := by
  subst hZ
  obtain ⟨i0, hi0, hz0, hsz, hby⟩ := info_parts info5
  obtain ⟨q1, q2, q3⟩ := (Kd.reads_of_C (enc := Value.int .u8) (d := (0 : Int)) H4 : ReadsOf (Value.int .u8) 0 W A4 X.length X)
  obtain ⟨p1, p2, p3⟩ := (Kd.reads_of_C (enc := Value.int .u8) (d := (0 : Int)) H5 : ReadsOf (Value.int .u8) 0 W A5 Y.length Y)
  obtain ⟨b, rfl, hb⟩ := q3 hpos
  have cells : ∀ (Z : List Int) (ad : Addr), (∀ j, j < Z.length → W.cell? (ad.add j) = some (.int .u8 (Z.getD j 0))) → ∀ j u, (Z.map (Value.int .u8))[j]? = some u → W.cell? (ad.add j) = some u := fun Z ad hz j u hu => by
    rw [List.getElem?_map] at hu
    obtain ⟨y, hy, rfl⟩ := Option.map_eq_some_iff.mp hu
    obtain ⟨hj, rfl⟩ := List.getElem?_eq_some_iff.mp hy
    rw [hz j hj, List.getD_eq_getElem?_getD, hy]
    rfl
  by_cases h0 : Y.length = 0
  · obtain rfl : Y = [] := List.eq_nil_of_length_eq_zero h0
    have hsrc : Src Tryz.prog i0.size 26 (.slice A5 0 n5) 0 [] W := by
      cases A5 with
      | none => exact Src.ofNil W Tryz.underlying26 n5
      | some ad => exact Src.ofSlice W Tryz.underlying26 ad 0 n5 [] (by simp) (fun j u hj => by simp at hj) (fun u hu => by simp at hu)
    have hrun := run_append_nothing W 26 26 o.type 5 i0 Tryz.underlying26 hi0 (some b) X.length X.length (Nat.le_refl _) _ hsrc
    refine wpList_plain hgd fun K hK' => ?_
    unfold Oper.wp
    have hx' : a.eval x = .slice A5 0 n5 := hx
    simp [execOp, ho, resolve, invoke, builtin, hs, hx', hrun, Result.andThen]
    refine hK' _ _ ?_
    have := h (some b) X.length W
    rw [List.append_nil] at this
    exact this H4 (Nat.le_refl _) ⟨rfl, rfl, rfl, Nat.le_refl _, fun _ _ _ => rfl⟩
  · obtain ⟨ad, rfl, had⟩ := p3 (by omega)
    refine wpList_append_grows W hgd s x 26 ho 5 i0 (.int .u8 0) 1 1 Tryz.underlying26 hi0 hz0 hsz hby rfl (by decide) (some b) X.length X.length (X.map (Value.int .u8)) hs (fun e => by cases e) (by simp) (fun b' e => by cases e; exact cells X b hb) ad Y.length n5 (Y.map (Value.int .u8)) hx (by simp) (cells Y ad had) (fun u hu => by
      obtain ⟨y, _, rfl⟩ := List.mem_map.mp hu
      rfl) (by omega) (by simp only [maxLen]; omega) (by omega) ?_
    intro v1 w1 hown hg
    have hR : (Kd.int .u8).R 5 w1 W.heap.size (fun _ => True) v1 (X ++ Y) := Kd.R_of_own (by rw [List.length_append]; simpa [encs] using hown) (fun _ _ => trivial)
    obtain ⟨A', c', rfl⟩ := Kd.R_slice hR
    obtain ⟨_, h2, h3⟩ := Kd.R_reads' hR
    exact h A' c' w1 h3 h2 hg
/-- what dict.Texts answers -/
def XTxt.textsM (K : Nat) (l : List Int) (n : Int) : Option (List ByteArray × Int × List Int × Int) :=
  (dict_count.f n).bind fun e => if e = 0 then
    (match XCur.num l 10 0 0 0 with
    | .error _ => some ([], 0, [], 90)
    | .ok (v, a) => if v ≤ 65536 then
        (if ((l.length - a : Nat) : Int) < 4 * v + 4 then some ([], 0, [], 90)
        else if ((l.length - (a + (4 * v + 4).toNat) : Nat) : Int) < IntKind.u32.wrap (XTxt.fold (((((l.drop a).take (4 * v + 4).toNat).drop (4 * v).toNat).drop 0).take 4) 4) then some ([], 0, [], 90)
        else (plain_Texts.f K (((l.drop a).take (4 * v + 4).toNat) ++ ((l.drop (a + (4 * v + 4).toNat)).take (IntKind.u32.wrap (XTxt.fold (((((l.drop a).take (4 * v + 4).toNat).drop (4 * v).toNat).drop 0).take 4) 4)).toNat)) v).bind fun ke => if ke.2 = 0 then
          ((dict_used_string.f K ke.1 (l.drop (a + (4 * v + 4).toNat + (IntKind.u32.wrap (XTxt.fold (((((l.drop a).take (4 * v + 4).toNat).drop (4 * v).toNat).drop 0).take 4) 4)).toNat)) n).bind fun u => if u = true then (dict_width.f v).bind fun wd => some (ke.1, wd, l.drop (a + (4 * v + 4).toNat + (IntKind.u32.wrap (XTxt.fold (((((l.drop a).take (4 * v + 4).toNat).drop (4 * v).toNat).drop 0).take 4) 4)).toNat), 0) else some ([], 0, [], 90))
          else some ([], 0, [], 90))
      else some ([], 0, [], 90))
  else some ([], 0, [], e)
def XTxt.TextsPost (w : World) (r : List ByteArray × Int × List Int × Int) (e : Ending) (w' : World) : Prop :=
  ∃ vk vl, e = .returned (.tuple #[vk, .int .i64 r.2.1, vl, .int .i64 r.2.2.2]) ∧ Kd.string.R 9 w' w.heap.size (fun _ => True) vk r.1 ∧ (Kd.int .u8).R 5 w' w.heap.size (fun _ => True) vl r.2.2.1 ∧ Below w.heap.size w w'
set_option maxHeartbeats 4000000 in
set_option maxRecDepth 100000 in
theorem XTxt.texts (K : Nat) (A : Option Addr) (c : Nat) (l : List Int) (n : Int) (r : List ByteArray × Int × List Int × Int) (w : World) (hr : Kd.C (Kd.int .u8) w A l.length l) (hl : l.length ≤ 140737488351232) (h : XTxt.textsM K l n = some r) :
    Calls Tryz.prog 14 #[.slice A l.length c, .int .i64 n] w (XTxt.TextsPost w r) := by
  have HR := Aside0.mk hr
  have HL := Aside0.mk hl
  unfold XTxt.textsM at h
  obtain ⟨e0, hcnt, h2⟩ := Option.bind_eq_some_iff.mp h
  have HC := Aside0.mk hcnt
  clear hr hl hcnt h
  have nil2 : ∀ (W : World) (er : Int), Below w.heap.size w W → XTxt.TextsPost w ([], 0, [], er) (.returned (.tuple #[.slice none 0 0, .int .i64 0, .slice none 0 0, .int .i64 er])) W := fun W er hb => ⟨_, _, rfl, Kd.R_nil _ _ _ _ _, Kd.R_nil _ _ _ _ _, hb⟩
  by_cases hz : e0 = 0
  · subst hz
    rw [if_pos rfl] at h2
    obtain ⟨R, hR0⟩ : ∃ R, XCur.num l 10 0 0 0 = R := ⟨_, rfl⟩
    rw [hR0] at h2
    have HR0 := Aside0.mk hR0
    have HH := Aside0.mk h2
    clear hR0 h2
    have NIL2 := Aside0.mk nil2
    clear nil2
    go_enter Tryz.func14, Tryz.ntmps14
    go_wp2_with (go_at_call 27; (with_reducible refine (dict_count.calls _ _ _ HC.out).mono ?_); rintro e w1 ⟨rfl, ⟨nd, rfl⟩⟩)
    refine (XCur.keyed A c l (w.drewN nd) (Kd.C_drewN HR.out nd) HL.out).mono ?_
    intro e w2 hpost
    rw [XCur.KeyedPost, HR0.out] at hpost
    obtain ⟨g, hg, hB, hpost⟩ := hpost
    have HG : Aside0 (w.heap.size ≤ g) := ⟨by simpa using hg⟩
    have HB := Aside0.mk (below_then (pw_below_drewN (Below.refl w.heap.size w) nd) (Nat.le_refl _) hB)
    clear hg hB
    cases R with
    | error cc =>
      obtain ⟨rfl, hR2⟩ := hpost
      clear hR2
      obtain rfl := Option.some.inj HH.out
      go_wp2_with fail
      refine bodyPost_ret (v := .tuple #[.slice none 0 0, .int .i64 0, .slice none 0 0, .int .i64 90]) (by simp [results, Tryz.results14, go_sem]) rfl ?_
      exact NIL2.out _ _ HB.out
    | ok p =>
      obtain ⟨v, a⟩ := p
      obtain ⟨rfl, hR2⟩ := hpost
      obtain ⟨hv0, hav, hal⟩ := XCur.num_nonneg _ _ _ _ _ HR0.out
      simp only at hv0 hav hal
      have HR2 := Aside0.mk hR2
      have hh := HH.out
      simp only at hh
      clear hR2 HH
      by_cases hc : v ≤ 65536
      · rw [if_pos hc] at hh
        obtain ⟨V, rfl⟩ := Int.eq_ofNat_of_zero_le hv0
        obtain ⟨p, hp⟩ : ∃ p, p = 4 * V := ⟨_, rfl⟩
        obtain ⟨q, hq⟩ : ∃ q, q = 4 * V + 4 := ⟨_, rfl⟩
        have hmn : (if (65536 : Int) < (V : Int) then (65536 : Int) else (V : Int)) = (V : Int) := if_neg (by omega)
        have hw4 : IntKind.i64.wrap (4 * (V : Int)) = (p : Int) := by rw [IntKind.wrap_i64]; omega
        have hw5 : IntKind.i64.wrap ((p : Int) + 4) = (q : Int) := by rw [IntKind.wrap_i64]; omega
        rw [show (4 * (V : Int) + 4).toNat = q by omega, show (4 * (V : Int)).toNat = p by omega] at hh
        rw [hmn, decide_eq_true hc]
        clear hmn
        by_cases hs : l.length - a < q
        · rw [if_pos (by omega)] at hh
          obtain rfl := Option.some.inj hh
          have hd : decide (l.length - a < q) = true := decide_eq_true hs
          clear hv0 hav hal hc hp hq hs hh
          go_wp2_with (go_at_call 29; (with_reducible refine (XCur.left HR2.out (by have := HL.out; omega)).mono ?_); rintro e w3 ⟨rfl, ⟨nd3, rfl⟩⟩)
          refine bodyPost_ret (v := .tuple #[.slice none 0 0, .int .i64 0, .slice none 0 0, .int .i64 90]) (by simp [results, Tryz.results14, go_sem]) rfl ?_
          exact NIL2.out _ _ (pw_below_drewN HB.out _)
        · rw [if_neg (by omega)] at hh
          have hd : decide (l.length - a < q) = false := decide_eq_false hs
          have hlen : ((l.drop a).take q).length = q := by simp; omega
          obtain ⟨Ls, hLs⟩ : ∃ Ls, (l.drop a).take q = Ls := ⟨_, rfl⟩
          rw [hLs] at hh hlen
          obtain ⟨Le, hLe⟩ : ∃ Le, Ls.drop p = Le := ⟨_, rfl⟩
          rw [hLe] at hh
          obtain ⟨hp4, hhp⟩ : ∃ x, IntKind.u32.wrap (XTxt.fold ((Le.drop 0).take 4) 4) = x := ⟨_, rfl⟩
          rw [hhp] at hh
          have hp0 : 0 ≤ hp4 ∧ hp4 < 4294967296 := by rw [← hhp]; exact ⟨Int.emod_nonneg _ (by decide), Int.emod_lt_of_pos _ (by decide)⟩
          obtain ⟨m, rfl⟩ := Int.eq_ofNat_of_zero_le hp0.1
          rw [Int.toNat_natCast] at hh
          have hwm : IntKind.i64.wrap (m : Int) = (m : Int) := by rw [IntKind.wrap_i64]; omega
          have hl4 : Le.length = 4 := by rw [← hLe, List.length_drop]; omega
          have HLE := Aside0.mk hLe
          have HHP := Aside0.mk hhp
          have HL4 := Aside0.mk hl4
          have HH := Aside0.mk hh
          have HLS := Aside0.mk hLs
          have HLEN := Aside0.mk hlen
          have HQ : Aside0 (q ≤ l.length - a) := ⟨by omega⟩
          have HPQ : Aside0 (p + 4 = q) := ⟨by omega⟩
          have HA : Aside0 (a ≤ l.length) := ⟨hal⟩
          have HM : Aside0 (m < 4294967296) := ⟨by omega⟩
          clear hv0 hav hal hc hp hq hs hh hLs hhp hp0 hl4 hlen hLe
          go_wp2_with (go_at_call 29; (with_reducible refine (XCur.left HR2.out (by have := HL.out; omega)).mono ?_); rintro e w3 ⟨rfl, ⟨nd3, rfl⟩⟩)
          refine (XCur.bytes (HR2.out.drewN nd3) HL.out q HQ.out).mono ?_
          rintro e w4 ⟨v4, rfl, hg4, hR4, hV4⟩
          rw [HLS.out] at hV4
          obtain ⟨A4, n4, rfl⟩ := Kd.R_slice hV4
          obtain ⟨_, hn4, hC4⟩ := Kd.R_reads' hV4
          obtain ⟨i0, hi0, _, hsz, _⟩ := info_parts info5
          obtain ⟨A4', hcut, hcA, hcC⟩ := print_drop_of (P := Tryz.prog) (Value.int .u8) 0 26 5 .i64 Tryz.underlying26 hi0 hsz A4 n4 Ls (p : Int) (by omega) (by have := HPQ.out; have := HLEN.out; omega) hn4
          rw [Int.toNat_natCast, HLE.out] at hcut hcA hcC
          have HC4c : Aside0 (Kd.C (Kd.int .u8) w4 A4' Le.length Le) := ⟨Kd.C_of_reads (h1 := fun _ => rfl) (hcA _ (Kd.reads_of_C hC4))⟩
          have HB4 := Aside0.mk ((pw_below_drewN HB.out nd3).grown hg4 (by simpa using HB.out.size) (fun k hk => by cases hk; exact HG.out))
          have HGL : Aside0 (g < (w2.drewN nd3).heap.size) := ⟨by simpa using HR2.out.1⟩
          have HR4 := Aside0.mk (hR4.wider hg4.size (Nat.le_refl _))
          have HV4 := Aside0.mk (Kd.R_bound hV4)
          have HN4 := Aside0.mk hn4
          clear hg4 hR4 hV4 hC4 hn4 HB HR2 hd hcA hcC hsz hi0
          go_wp2_with fail
          refine (XCur.open_ A4' (n4 - p) Le w4 HC4c.out (by have := HL4.out; omega)).mono ?_
          rintro e w5 ⟨g2, rfl, hg2, hRd2, hB5⟩
          have HG2 := Aside0.mk hg2
          have HRD2 := Aside0.mk hRd2
          have HB5 := Aside0.mk hB5
          clear hg2 hRd2 hB5 hcut HC4c
          go_wp2_with fail
          refine (XTxt.take32 HRD2.out (by have := HL4.out; omega) (by have := HL4.out; omega)).mono ?_
          rintro e w6 ⟨he6, hg6⟩
          rw [HHP.out] at he6
          subst he6
          have keep6 : ∀ k, k < w4.heap.size → w6.heap[k]? = w4.heap[k]? := fun k hk => (hg6.block k (Nat.lt_of_lt_of_le hk HB5.out.size) (fun e => by cases e; have := HG2.out; omega)).trans (HB5.out.block k hk)
          have HS6 : Aside0 (w4.heap.size ≤ w6.heap.size) := ⟨Nat.le_trans HB5.out.size hg6.size⟩
          have HB6 := Aside0.mk ((below_then HB4.out HB4.out.size HB5.out).grown hg6 (Nat.le_trans HB4.out.size HB5.out.size) (fun k hk => by cases hk; exact Nat.le_trans HB4.out.size HG2.out))
          have HR6 := Aside0.mk (HR4.out.keep HS6.out keep6)
          have HV6 := Aside0.mk (Kd.R_move HV4.out (fun k hk => keep6 k (by simpa using hk.2.2.1)))
          clear hg6 keep6 HRD2 HB5 HG2 HR4 HV4 HB4
          by_cases hs2 : l.length - (a + q) < m
          · have hh := HH.out
            rw [if_pos (by omega)] at hh
            obtain rfl := Option.some.inj hh
            have hd2 : decide (l.length - (a + q) < m) = true := decide_eq_true hs2
            clear hh hs2 HH
            go_wp2_with (go_at_call 29; (with_reducible refine (XCur.left HR6.out (by have := HL.out; omega)).mono ?_); rintro e w7 ⟨rfl, ⟨nd7, rfl⟩⟩)
            refine bodyPost_ret (v := .tuple #[.slice none 0 0, .int .i64 0, .slice none 0 0, .int .i64 90]) (by simp [results, Tryz.results14, go_sem]) rfl ?_
            exact NIL2.out _ _ (pw_below_drewN HB6.out _)
          · have hh := HH.out
            rw [if_neg (by omega)] at hh
            have hd2 : decide (l.length - (a + q) < m) = false := decide_eq_false hs2
            have hlh : ((l.drop (a + q)).take m).length = m := by simp; omega
            obtain ⟨Lh, hLh⟩ : ∃ Lh, (l.drop (a + q)).take m = Lh := ⟨_, rfl⟩
            rw [hLh] at hh hlh
            obtain ⟨⟨ks, er⟩, hpi, hh⟩ := Option.bind_eq_some_iff.mp hh
            obtain ⟨LL, hLL⟩ : ∃ LL, Ls ++ Lh = LL := ⟨_, rfl⟩
            rw [hLL] at hpi
            have HLL := Aside0.mk hLL
            obtain ⟨Lr, hLr⟩ : ∃ Lr, l.drop (a + q + m) = Lr := ⟨_, rfl⟩
            rw [hLr] at hh
            have HLR := Aside0.mk hLr
            have HLH := Aside0.mk hLh
            have HLHL := Aside0.mk hlh
            have HPI := Aside0.mk hpi
            have HH2 := Aside0.mk hh
            have HS2 : Aside0 (m ≤ l.length - (a + q)) := ⟨by omega⟩
            clear hh hs2 HH hLr hLh hpi hlh hLL
            obtain ⟨_, hn6, hC6⟩ := Kd.R_reads' HV6.out
            have HN6 := Aside0.mk hn6
            clear hn6 hC6
            go_wp2_with (first | (go_at_call 29; (with_reducible refine (XCur.left HR6.out (by have := HL.out; omega)).mono ?_); rintro e w7 ⟨rfl, ⟨nd7, rfl⟩⟩) | (go_at_call 42; (with_reducible refine (XTxt.clip _ _ _ _ HN6.out).mono ?_); rintro e w7b ⟨rfl, rfl⟩))
            refine (XCur.bytes (HR6.out.drewN nd7) HL.out m HS2.out).mono ?_
            rintro e w8 ⟨v8, rfl, hg8, hR8, hV8⟩
            rw [HLH.out] at hV8
            obtain ⟨A8, n8, rfl⟩ := Kd.R_slice hV8
            obtain ⟨_, hn8, hC8⟩ := Kd.R_reads' hV8
            have HC8 := Aside0.mk hC8
            have hLs8 := Kd.R_move HV6.out (fun k hk => hg8.block k (by have := HS6.out; have := hk.2.2.1; simp only [World.heap_drewN]; omega) (fun e => by cases e; have := HGL.out; have := hk.2.1; omega))
            have HC4s := Aside0.mk (Kd.R_reads' hLs8).2.2
            have HB8 := Aside0.mk ((pw_below_drewN HB6.out nd7).grown hg8 (by simpa using HB6.out.size) (fun k hk => by cases hk; exact HG.out))
            have HR8 := Aside0.mk (hR8.wider hg8.size (Nat.le_refl _))
            have HPOS : Aside0 (0 < Ls.length) := ⟨by have := HLEN.out; have := HPQ.out; omega⟩
            have HLE8 : Aside0 (Ls.length + Lh.length ≤ 140737488355328) := ⟨by have := HLEN.out; have := HLHL.out; have := HS2.out; have := HQ.out; have := HL.out; omega⟩
            clear hg8 hR8 hV8 hC8 hn8 hLs8 hd2 HV6 HR6 HB6 HS6
            go_wp2_with (at_builtin; refine XTxt.app rfl _ _ rfl A4 A8 n8 Ls Lh LL HLL.out rfl rfl HC4s.out HC8.out HPOS.out HLE8.out ?_; intro A9 c9 w9 hC9 hc9 hg9)
            have HC9 := Aside0.mk hC9
            have HN9 := Aside0.mk hc9
            have HB9 := Aside0.mk (HB8.out.grown hg9 HB8.out.size (fun k hk => by cases hk))
            have HR9 := Aside0.mk ((HR8.out.keep hg9.size (fun k hk => hg9.block k hk (by simp))).wider hg9.size (Nat.le_refl _))
            have HG9 : Aside0 (g < w9.heap.size) := ⟨HR9.out.1⟩
            clear hC9 hc9 hg9 HC4s HC8 HB8 HR8
            refine (plain_Texts.calls K A9 c9 LL V ks er w9 HC9.out HN9.out HPI.out).mono ?_
            rintro e w10 ⟨v10, rfl, hv10, hb10⟩
            have HB10 := Aside0.mk (below_then HB9.out HB9.out.size hb10)
            have HR10 := Aside0.mk (HR9.out.below hb10)
            have HV10 := Aside0.mk (Kd.R_bound hv10)
            have HS9 : Aside0 (w.heap.size ≤ w9.heap.size) := ⟨HB9.out.size⟩
            obtain ⟨A10, n10, rfl⟩ := Kd.R_slice hv10
            clear hv10 hb10 HB9 HR9 HC9 HN9
            go_wp2_with (go_at_call 29; (with_reducible refine (XCur.left HR10.out (by have := HL.out; omega)).mono ?_); rintro e w11 ⟨rfl, ⟨nd11, rfl⟩⟩)
            refine (XCur.bytes (HR10.out.drewN nd11) HL.out (l.length - (a + q + m)) (Nat.le_refl _)).mono ?_
            rintro e w12 ⟨v12, rfl, hg12, hR12, hV12⟩
            have htk : (l.drop (a + q + m)).take (l.length - (a + q + m)) = l.drop (a + q + m) := List.take_of_length_le (by simp)
            rw [htk, HLR.out] at hV12
            obtain ⟨A12, n12, rfl⟩ := Kd.R_slice hV12
            obtain ⟨_, hn12, hC12⟩ := Kd.R_reads' hV12
            have HB12 := Aside0.mk ((pw_below_drewN HB10.out nd11).grown hg12 (by simpa using HB10.out.size) (fun k hk => by cases hk; exact HG.out))
            have hV10' : Kd.string.R 9 w12 w9.heap.size (fun _ => True) (.slice A10 ks.length n10) ks := Kd.R_mono (Kd.R_move HV10.out (fun k hk => hg12.block k (by simpa using hk.2.2.1) (fun e => by cases e; have := HG9.out; omega))) (fun _ _ => trivial)
            obtain ⟨_, hn10, hC10⟩ := Kd.R_reads' hV10'
            have HV10' := Aside0.mk (Kd.R_lower hV10' HS9.out)
            have HV12 := Aside0.mk (Kd.R_mono (Kd.R_lower hV12 (show w.heap.size ≤ (w10.drewN nd11).heap.size by simpa using HB10.out.size)) (fun _ _ => trivial))
            have HC10 := Aside0.mk hC10
            have HC12 := Aside0.mk hC12
            have HN10 := Aside0.mk hn10
            have HN12 := Aside0.mk hn12
            have HH2 := HH2.out
            clear hg12 hR12 hV12 hC12 hn12 hV10' hC10 hn10 HV10 HB10 HR10 htk
            try simp only at HH2
            by_cases he : er = 0
            · subst he
              rw [if_pos rfl] at HH2
              obtain ⟨u, hu, HH3⟩ := Option.bind_eq_some_iff.mp HH2
              have HU := Aside0.mk hu
              clear HH2 hu
              by_cases hut : u = true
              · subst hut
                rw [if_pos rfl] at HH3
                obtain ⟨wd, hwd, HH4⟩ := Option.bind_eq_some_iff.mp HH3
                have HW := Aside0.mk hwd
                obtain rfl := Option.some.inj HH4
                clear HH3 HH4 hwd
                go_wp2_with (first | (go_at_call 43; (with_reducible refine (dict_used_string.calls K A10 n10 ks A12 n12 Lr n true _ HC10.out HN10.out HC12.out HN12.out HU.out).mono ?_); rintro e w13 ⟨rfl, hb13⟩; have HB13 := Aside0.mk hb13; clear hb13) | (go_at_call 33; (with_reducible refine (dict_width.calls _ _ _ HW.out).mono ?_); rintro e w14 ⟨rfl, ⟨nd14, rfl⟩⟩))
                refine bodyPost_ret (v := .tuple #[.slice A10 ks.length n10, .int .i64 wd, .slice A12 Lr.length n12, .int .i64 0]) (by simp [results, Tryz.results14, go_sem]) rfl ?_
                have hb14 := pw_below_drewN HB13.out nd14
                exact ⟨_, _, rfl, Kd.R_below HV10'.out hb14, Kd.R_below HV12.out hb14, below_then HB12.out HB12.out.size hb14⟩
              · obtain rfl : u = false := by simpa using hut
                obtain rfl := Option.some.inj HH3
                clear HH3 hut
                go_wp2_with (go_at_call 43; (with_reducible refine (dict_used_string.calls K A10 n10 ks A12 n12 Lr n false _ HC10.out HN10.out HC12.out HN12.out HU.out).mono ?_); rintro e w13 ⟨rfl, hb13⟩; have HB13 := Aside0.mk hb13; clear hb13)
                refine bodyPost_ret (v := .tuple #[.slice none 0 0, .int .i64 0, .slice none 0 0, .int .i64 90]) (by simp [results, Tryz.results14, go_sem]) rfl ?_
                exact NIL2.out _ _ (below_then HB12.out HB12.out.size HB13.out)
            · rw [if_neg he] at HH2
              obtain rfl := Option.some.inj HH2
              have heb : (er == 0) = false := by simpa using he
              have heb2 : (er != 0) = true := by simpa using he
              clear HH2 he
              go_wp2_with fail
              refine bodyPost_ret (v := .tuple #[.slice none 0 0, .int .i64 0, .slice none 0 0, .int .i64 90]) (by simp [results, Tryz.results14, go_sem]) rfl ?_
              exact NIL2.out _ _ HB12.out
      · rw [if_neg hc] at hh
        obtain rfl := Option.some.inj hh
        rw [decide_eq_false hc, if_pos (show (65536 : Int) < v by omega)]
        clear hh hv0 hav hal hc
        go_wp2_with fail
        refine bodyPost_ret (v := .tuple #[.slice none 0 0, .int .i64 0, .slice none 0 0, .int .i64 90]) (by simp [results, Tryz.results14, go_sem]) rfl ?_
        exact NIL2.out _ _ HB.out
  · rw [if_neg hz] at h2
    obtain rfl := Option.some.inj h2
    have heb : (e0 == 0) = false := by simpa using hz
    have heb2 : (e0 != 0) = true := by simpa using hz
    have NIL2 := Aside0.mk nil2
    clear nil2 h2 hz
    go_enter Tryz.func14, Tryz.ntmps14
    go_wp2_with (go_at_call 27; (with_reducible refine (dict_count.calls _ _ _ HC.out).mono ?_); rintro e w1 ⟨rfl, ⟨nd, rfl⟩⟩)
    refine bodyPost_ret (v := .tuple #[.slice none 0 0, .int .i64 0, .slice none 0 0, .int .i64 e0]) (by simp [results, Tryz.results14, go_sem]) rfl ?_
    exact NIL2.out _ _ (pw_below_drewN (Below.refl _ _) _)

def dict_Texts.f (k : Nat) (l0 : List Int) (a1 : Int) : Option (List ByteArray × Int × List Int × Int) := if l0.length ≤ 140737488351232 then XTxt.textsM k l0 a1 else none
theorem dict_Texts.mono : ∀ a0 a1 k, LeO (dict_Texts.f k a0 a1) (dict_Texts.f (k + 1) a0 a1) := by
  intro a0 a1 k
  unfold dict_Texts.f XTxt.textsM
  refine LeO.ite (LeO.bind (LeO.refl _) fun e => LeO.ite ?_ (LeO.refl _)) (LeO.none _)
  split
  · exact LeO.refl _
  · exact LeO.ite (LeO.ite (LeO.refl _) (LeO.ite (LeO.refl _) (LeO.bind (plain_Texts.mono _ _ _) fun _ => LeO.ite (LeO.bind (dict_used_string.mono _ _ _ _) fun _ => LeO.refl _) (LeO.refl _)))) (LeO.refl _)
theorem dict_Texts.calls (k : Nat) (A0 : Option Addr) (c0 : Nat) (l0 : List Int) (a1 : Int) (r1 : List ByteArray) (r2 : Int) (r3 : List Int) (r4 : Int) (w : World) (hr0 : Kd.C (Kd.int .u8) w A0 l0.length l0) (hc0 : l0.length ≤ c0) (h : dict_Texts.f k l0 a1 = some (r1, r2, r3, r4)) :
    Calls Tryz.prog 14 #[.slice A0 l0.length c0, .int .i64 a1] w fun e w' => ∃ v0_ v1_ : Value, e = .returned (.tuple #[v0_, .int .i64 r2, v1_, .int .i64 r4]) ∧ Kd.R Kd.string 9 w' w.heap.size (fun _ => True) v0_ r1 ∧ Kd.R (Kd.int .u8) 5 w' w.heap.size (fun _ => True) v1_ r3 ∧ Below w.heap.size w w' := by
  unfold dict_Texts.f at h
  split at h
  · rename_i hl
    exact XTxt.texts k A0 c0 l0 a1 (r1, r2, r3, r4) w hr0 hl h
  · cases h

/-! ### colonnadelaw09_sameTexts: function 16 -/
def colonnadelaw09_sameTexts.l0 : Nat → List ByteArray → List ByteArray → Int → Option (Bool)
  | 0, _, _, _ => none
  | k + 1, x0, x1, x5 => if x5 < (x0.length : Int) then (if 0 ≤ x5 then (if x5 < (x1.length : Int) then (if (rdOf ByteArray.empty x0 x5).toList = (rdOf ByteArray.empty x1 x5).toList then (colonnadelaw09_sameTexts.l0 k x0 x1 (wrap64 (x5 + 1))) else (some false)) else (none)) else (none)) else (some true)
def colonnadelaw09_sameTexts.f (k : Nat) (l0 : List ByteArray) (l1 : List ByteArray) : Option (Bool) := if (l0.length : Int) = (l1.length : Int) then (colonnadelaw09_sameTexts.l0 k l0 l1 0) else (some false)
theorem colonnadelaw09_sameTexts.mono_l : ∀ k, (∀ y0 y1 y2, LeO (colonnadelaw09_sameTexts.l0 k y0 y1 y2) (colonnadelaw09_sameTexts.l0 (k + 1) y0 y1 y2))
  | 0 => fun _ _ _ r h => by simp [colonnadelaw09_sameTexts.l0] at h
  | k + 1 => by
    have ih0 := colonnadelaw09_sameTexts.mono_l k
    · intro y0 y1 y2
      unfold colonnadelaw09_sameTexts.l0
      repeat' first
      | (with_reducible exact ih0 _ _ _)
      | (with_reducible exact LeO.refl _)
      | (with_reducible exact LeO.none _)
      | (with_reducible refine LeO.ite ?_ ?_)
      | (with_reducible refine LeO.bind ?_ (fun _ => ?_))
      | exact ih0 _ _ _
      | exact LeO.none _
      | refine LeO.ite ?_ ?_
      | refine LeO.bind ?_ (fun _ => ?_)
theorem colonnadelaw09_sameTexts.mono : ∀ a0 a1 k, LeO (colonnadelaw09_sameTexts.f k a0 a1) (colonnadelaw09_sameTexts.f (k + 1) a0 a1) := by
  intro a0 a1 k
  have ih0 := colonnadelaw09_sameTexts.mono_l k
  unfold colonnadelaw09_sameTexts.f
  repeat' first
      | (with_reducible exact ih0 _ _ _)
      | (with_reducible exact LeO.refl _)
      | (with_reducible exact LeO.none _)
      | (with_reducible refine LeO.ite ?_ ?_)
      | (with_reducible refine LeO.bind ?_ (fun _ => ?_))
      | exact ih0 _ _ _
      | exact LeO.none _
      | refine LeO.ite ?_ ?_
      | refine LeO.bind ?_ (fun _ => ?_)
set_option maxHeartbeats 8000000 in
set_option maxRecDepth 100000 in
theorem colonnadelaw09_sameTexts.calls (k : Nat) (A0 : Option Addr) (c0 : Nat) (l0 : List ByteArray) (A1 : Option Addr) (c1 : Nat) (l1 : List ByteArray) (r : Bool) (w : World) (hr0 : Kd.C Kd.string w A0 l0.length l0) (hc0 : l0.length ≤ c0) (hr1 : Kd.C Kd.string w A1 l1.length l1) (hc1 : l1.length ≤ c1) (h : colonnadelaw09_sameTexts.f k l0 l1 = some r) :
    Calls Tryz.prog 16 #[.slice A0 l0.length c0, .slice A1 l1.length c1] w fun e w' => e = .returned (.bool r) ∧ Drawn0 w w' := by
  have HR0 := Aside0.mk hr0
  have HC0 := Aside0.mk hc0
  clear hr0 hc0
  have HR1 := Aside0.mk hr1
  have HC1 := Aside0.mk hc1
  clear hr1 hc1
  have H : (if (l0.length : Int) = (l1.length : Int) then (colonnadelaw09_sameTexts.l0 k l0 l1 0) else (some false)) = some r := h
  clear h
  by_cases c3 : (l0.length : Int) = (l1.length : Int)
  · rw [if_pos c3] at H
    have c3b0 : ((l0.length : Int) == (l1.length : Int)) = true := beq_iff_eq.mpr c3
    have c3b1 : ((l0.length : Int) != (l1.length : Int)) = false := bne_eq_false_iff_eq.mpr c3
    have c3b2 : (l0.length == l1.length) = true := by first | simpa using c3 | (simp at c3 ⊢; omega)
    clear c3
    have H' := Aside0.mk H
    clear H
    go_enter Tryz.func16, Tryz.ntmps16
    go_wp2
    repeat (go_quiet (fail); try go_wp2)
    (try simp only [add_plain])
    go_loopg [5] k (fun kq v5 w' => ∃ (x5_1 : Int), v5 = .int .i64 x5_1 ∧ Aside0 (colonnadelaw09_sameTexts.l0 kq l0 l1 x5_1 = some r) ∧ Aside0 (kq ≤ k) ∧ Drawn0 w w')
    case atStart => exact ⟨(0), (by first | rfl | (simp; done) | (simp [*]; done)), H', ⟨Nat.le_refl _⟩, by repeat (first | exact Drawn0.refl _ | apply Drawn0.step)⟩
    case round =>
      clear H'
      try clear c1
      try clear p2
      try clear c3
      try clear c3b0
      try clear c3b1
      try clear c3b2
      obtain ⟨x5_1, rfl, HA, HK1, ⟨m1, rfl⟩⟩ := hrel
      cases gk with
      | zero => exact absurd HA.out (by simp [colonnadelaw09_sameTexts.l0])
      | succ k1 =>
        have H := HA.out
        clear HA
        simp only [colonnadelaw09_sameTexts.l0] at H
        by_cases c4 : x5_1 < (l0.length : Int)
        · rw [if_pos c4] at H
          have c4b0 : decide (x5_1 < (l0.length : Int)) = true := decide_eq_true c4
          clear c4
          by_cases c5 : 0 ≤ x5_1
          · rw [if_pos c5] at H
            have c5b0 : decide (0 ≤ x5_1) = true := decide_eq_true c5
            clear c5
            by_cases c6 : x5_1 < (l1.length : Int)
            · rw [if_pos c6] at H
              have c6b0 : decide (x5_1 < (l1.length : Int)) = true := decide_eq_true c6
              clear c6
              by_cases c7 : (rdOf ByteArray.empty l0 x5_1).toList = (rdOf ByteArray.empty l1 x5_1).toList
              · rw [if_pos c7] at H
                have c7b0 : ((rdOf ByteArray.empty l0 x5_1).toList == (rdOf ByteArray.empty l1 x5_1).toList) = true := beq_iff_eq.mpr c7
                have c7b1 : ((rdOf ByteArray.empty l0 x5_1).toList != (rdOf ByteArray.empty l1 x5_1).toList) = false := bne_eq_false_iff_eq.mpr c7
                clear c7
                have H' := Aside0.mk H
                clear H
                have p244 : 0 ≤ (x5_1 : Int) := of_decide_eq_true (by first | (with_reducible assumption) | assumption)
                have q244 : x5_1 < (l0.length : Int) := of_decide_eq_true (by first | (with_reducible assumption) | assumption)
                obtain ⟨ad244, e244, hx244_0⟩ := Kd.at_string HR0.out x5_1 p244 q244
                cases e244
                replace p244 := eq_true p244
                replace q244 := eq_true q244
                have p245 : 0 ≤ (x5_1 : Int) := of_decide_eq_true (by first | (with_reducible assumption) | assumption)
                have q245 : x5_1 < (l1.length : Int) := of_decide_eq_true (by first | (with_reducible assumption) | assumption)
                obtain ⟨ad245, e245, hx245_0⟩ := Kd.at_string HR1.out x5_1 p245 q245
                cases e245
                replace p245 := eq_true p245
                replace q245 := eq_true q245
                go_wp2
                repeat (go_quiet (fail); try go_wp2)
                go_roundg k1
                case measure => have := HK1.out; omega
                case rel => exact ⟨(wrap64 (x5_1 + 1)), (by first | rfl | (simp; done) | (simp [*]; done)), H', ⟨by have := HK1.out; omega⟩, by repeat (first | exact Drawn0.refl _ | apply Drawn0.step)⟩
              · rw [if_neg c7] at H
                have c7b0 : ((rdOf ByteArray.empty l0 x5_1).toList == (rdOf ByteArray.empty l1 x5_1).toList) = false := beq_eq_false_iff_ne.mpr c7
                have c7b1 : ((rdOf ByteArray.empty l0 x5_1).toList != (rdOf ByteArray.empty l1 x5_1).toList) = true := bne_iff_ne.mpr c7
                obtain rfl := Option.some.inj H
                have p244 : 0 ≤ (x5_1 : Int) := of_decide_eq_true (by first | (with_reducible assumption) | assumption)
                have q244 : x5_1 < (l0.length : Int) := of_decide_eq_true (by first | (with_reducible assumption) | assumption)
                obtain ⟨ad244, e244, hx244_0⟩ := Kd.at_string HR0.out x5_1 p244 q244
                cases e244
                replace p244 := eq_true p244
                replace q244 := eq_true q244
                have p245 : 0 ≤ (x5_1 : Int) := of_decide_eq_true (by first | (with_reducible assumption) | assumption)
                have q245 : x5_1 < (l1.length : Int) := of_decide_eq_true (by first | (with_reducible assumption) | assumption)
                obtain ⟨ad245, e245, hx245_0⟩ := Kd.at_string HR1.out x5_1 p245 q245
                cases e245
                replace p245 := eq_true p245
                replace q245 := eq_true q245
                go_wp2
                repeat (go_quiet (fail); try go_wp2)
                go_ret
                exact ⟨by first | rfl | (simp; done) | (simp [*]; done), by repeat (first | exact Drawn0.refl _ | apply Drawn0.step)⟩
            · rw [if_neg c6] at H
              exact absurd H (by simp)
          · rw [if_neg c5] at H
            exact absurd H (by simp)
        · rw [if_neg c4] at H
          have c4b0 : decide (x5_1 < (l0.length : Int)) = false := decide_eq_false c4
          clear c4
          obtain rfl := Option.some.inj H
          go_wp2
          repeat (go_quiet (fail); try go_wp2)
          go_ret
          exact ⟨by first | rfl | (simp; done) | (simp [*]; done), by repeat (first | exact Drawn0.refl _ | apply Drawn0.step)⟩
  · rw [if_neg c3] at H
    have c3b0 : ((l0.length : Int) == (l1.length : Int)) = false := beq_eq_false_iff_ne.mpr c3
    have c3b1 : ((l0.length : Int) != (l1.length : Int)) = true := bne_iff_ne.mpr c3
    have c3b2 : (l0.length == l1.length) = false := by first | simpa using c3 | (simp at c3 ⊢; omega)
    obtain rfl := Option.some.inj H
    go_enter Tryz.func16, Tryz.ntmps16
    go_wp2
    repeat (go_quiet (fail); try go_wp2)
    go_ret
    exact ⟨by first | rfl | (simp; done) | (simp [*]; done), by repeat (first | exact Drawn0.refl _ | apply Drawn0.step)⟩

/-! ### colonnadelaw09_mark: function 47 -/
def colonnadelaw09_mark.f (a0 : Int) (a1 : Bool) : Option (ByteArray) := if a1 = true then ((some (([(wrap64 (65 + a0)) % 256] : List Int) : List Int)).bind fun y246 => (if 2 + (strOfNums y246).size ≤ 9223372036854775807 then (some ((⟨#[105, 110]⟩ : ByteArray) ++ (strOfNums y246))) else (none))) else ((some (([(wrap64 (65 + a0)) % 256] : List Int) : List Int)).bind fun y249 => (if 6 + (strOfNums y249).size ≤ 9223372036854775807 then (some ((⟨#[98, 101, 104, 105, 110, 100]⟩ : ByteArray) ++ (strOfNums y249))) else (none)))
set_option maxHeartbeats 8000000 in
set_option maxRecDepth 100000 in
theorem colonnadelaw09_mark.calls (a0 : Int) (a1 : Bool) (r : ByteArray) (w : World) (h : colonnadelaw09_mark.f a0 a1 = some r) :
    Calls Tryz.prog 47 #[.int .i64 a0, .bool a1] w fun e w' => e = .returned (.string r) ∧ Below w.heap.size w w' := by
  have HB := Aside0.mk (Below.refl w.heap.size w)
  have H : (if a1 = true then ((some (([(wrap64 (65 + a0)) % 256] : List Int) : List Int)).bind fun y246 => (if 2 + (strOfNums y246).size ≤ 9223372036854775807 then (some ((⟨#[105, 110]⟩ : ByteArray) ++ (strOfNums y246))) else (none))) else ((some (([(wrap64 (65 + a0)) % 256] : List Int) : List Int)).bind fun y249 => (if 6 + (strOfNums y249).size ≤ 9223372036854775807 then (some ((⟨#[98, 101, 104, 105, 110, 100]⟩ : ByteArray) ++ (strOfNums y249))) else (none)))) = some r := h
  clear h
  by_cases c3 : a1 = true
  · subst c3
    have H1 : ((some (([(wrap64 (65 + a0)) % 256] : List Int) : List Int)).bind fun y246 => (if 2 + (strOfNums y246).size ≤ 9223372036854775807 then (some ((⟨#[105, 110]⟩ : ByteArray) ++ (strOfNums y246))) else (none))) = some r := by rw [if_pos rfl] at H; exact H
    clear H
    have H := H1
    clear H1
    obtain ⟨y246, hy246⟩ : ∃ y_ : List Int, y_ = (([(wrap64 (65 + a0)) % 256] : List Int)) := ⟨_, rfl⟩
    replace H : (if 2 + (strOfNums y246).size ≤ 9223372036854775807 then (some ((⟨#[105, 110]⟩ : ByteArray) ++ (strOfNums y246))) else (none)) = some r := by first | (rw [hy246]; with_reducible exact H) | (have H2_ := (Option.bind_some _ _).symm.trans H; rw [hy246]; with_reducible exact H2_) | (have H2_ := (Option.bind_some _ _).symm.trans H; with_reducible exact H2_) | with_reducible exact H | (rw [hy246]; exact H) | exact H
    have Ny246 := Aside0.mk hy246
    clear hy246
    by_cases c4 : 2 + (strOfNums y246).size ≤ 9223372036854775807
    · rw [if_pos c4] at H
      have c4b0 := eq_true c4
      have c4b1 : decide (2 + (strOfNums y246).size ≤ 9223372036854775807) = true := decide_eq_true c4
      try have c4b2 : (9223372036854775807 < 2 + (strOfNums y246).size) = False := eq_false (Nat.not_lt.2 c4)
      obtain rfl := Option.some.inj H
      go_enter Tryz.func47, Tryz.ntmps47
      go_wp2_with (first | ((with_reducible refine gate_dst (N := 9) rfl ?_); refine Kd.R_lit (Kd.int .u8) _ 5 ?hg (N := 9) ?hd (xs := ([(wrap64 (65 + a0)) % 256] : List Int)) (inner := [.int .u8 ((wrap64 (65 + a0)) % 256)]) (ok := fun _ => True) (okp := fun _ => True) ?hr ?hp (fun _ hk => hk) trivial (Below.refl _ _) (Nat.le_refl _) (by simp) ?_; (case hd => rfl); (case hg => rfl); (case hr => first | (go_simp; done) | (go_simp; rfl)); (case hp => exact (Reps.one (show Kd.M (Kd.int .u8) _ _ _ ((wrap64 (65 + a0)) % 256) [.int .u8 ((wrap64 (65 + a0)) % 256)] from rfl) (Reps.none _ _))); intro v247 w5 ho6 hb hg_ hnew_; clear hg_ hnew_; (first | rw [← Ny246.out] at ho6 | (simp only [Int.reduceToNat] at ho6; rw [← Ny246.out] at ho6)); have n0_ := Aside0.mk (Kd.R_lower ho6 (below_size (by repeat (first | (with_reducible first | exact HB.out | apply below_alloc | apply pw_below_drewN | apply below_drew1) | exact HB.out)))); have n1_ := Aside0.mk (below_step (by repeat (first | (with_reducible first | exact HB.out | apply below_alloc | apply pw_below_drewN | apply below_drew1) | exact HB.out)) hb); clear HB; have HO248 := n0_; have HB := n1_; clear n0_ n1_; clear hb ho6; have hcv7 := own_string (P := Tryz.prog) Tryz.underlying26 Tryz.underlying5 Tryz.underlying9 (Kd.own_of_R HO248.out); have hcv7m_ := fun m_ : Nat => own_string (P := Tryz.prog) Tryz.underlying26 Tryz.underlying5 Tryz.underlying9 (Kd.own_of_R (Kd.R_drewN HO248.out m_))))
      go_ret
      exact ⟨by first | rfl | (simp [errW_none, errW_some] <;> rfl) | (simp [*, errW_none, errW_some] <;> rfl), by repeat (first | (with_reducible first | exact HB.out | apply below_alloc | apply pw_below_drewN | apply below_drew1) | exact HB.out)⟩
    · rw [if_neg c4] at H
      exact absurd H (by simp)
  · replace c3 := Bool.eq_false_iff.mpr c3
    subst c3
    have H1 : ((some (([(wrap64 (65 + a0)) % 256] : List Int) : List Int)).bind fun y249 => (if 6 + (strOfNums y249).size ≤ 9223372036854775807 then (some ((⟨#[98, 101, 104, 105, 110, 100]⟩ : ByteArray) ++ (strOfNums y249))) else (none))) = some r := by rw [if_neg (show ¬ (false = true) by decide)] at H; exact H
    clear H
    have H := H1
    clear H1
    obtain ⟨y249, hy249⟩ : ∃ y_ : List Int, y_ = (([(wrap64 (65 + a0)) % 256] : List Int)) := ⟨_, rfl⟩
    replace H : (if 6 + (strOfNums y249).size ≤ 9223372036854775807 then (some ((⟨#[98, 101, 104, 105, 110, 100]⟩ : ByteArray) ++ (strOfNums y249))) else (none)) = some r := by first | (rw [hy249]; with_reducible exact H) | (have H2_ := (Option.bind_some _ _).symm.trans H; rw [hy249]; with_reducible exact H2_) | (have H2_ := (Option.bind_some _ _).symm.trans H; with_reducible exact H2_) | with_reducible exact H | (rw [hy249]; exact H) | exact H
    have Ny249 := Aside0.mk hy249
    clear hy249
    by_cases c8 : 6 + (strOfNums y249).size ≤ 9223372036854775807
    · rw [if_pos c8] at H
      have c8b0 := eq_true c8
      have c8b1 : decide (6 + (strOfNums y249).size ≤ 9223372036854775807) = true := decide_eq_true c8
      try have c8b2 : (9223372036854775807 < 6 + (strOfNums y249).size) = False := eq_false (Nat.not_lt.2 c8)
      obtain rfl := Option.some.inj H
      go_enter Tryz.func47, Tryz.ntmps47
      go_wp2_with (first | ((with_reducible refine gate_dst (N := 15) rfl ?_); refine Kd.R_lit (Kd.int .u8) _ 5 ?hg (N := 15) ?hd (xs := ([(wrap64 (65 + a0)) % 256] : List Int)) (inner := [.int .u8 ((wrap64 (65 + a0)) % 256)]) (ok := fun _ => True) (okp := fun _ => True) ?hr ?hp (fun _ hk => hk) trivial (Below.refl _ _) (Nat.le_refl _) (by simp) ?_; (case hd => rfl); (case hg => rfl); (case hr => first | (go_simp; done) | (go_simp; rfl)); (case hp => exact (Reps.one (show Kd.M (Kd.int .u8) _ _ _ ((wrap64 (65 + a0)) % 256) [.int .u8 ((wrap64 (65 + a0)) % 256)] from rfl) (Reps.none _ _))); intro v250 w9 ho10 hb hg_ hnew_; clear hg_ hnew_; (first | rw [← Ny249.out] at ho10 | (simp only [Int.reduceToNat] at ho10; rw [← Ny249.out] at ho10)); have n0_ := Aside0.mk (Kd.R_lower ho10 (below_size (by repeat (first | (with_reducible first | exact HB.out | apply below_alloc | apply pw_below_drewN | apply below_drew1) | exact HB.out)))); have n1_ := Aside0.mk (below_step (by repeat (first | (with_reducible first | exact HB.out | apply below_alloc | apply pw_below_drewN | apply below_drew1) | exact HB.out)) hb); clear HB; have HO251 := n0_; have HB := n1_; clear n0_ n1_; clear hb ho10; have hcv11 := own_string (P := Tryz.prog) Tryz.underlying26 Tryz.underlying5 Tryz.underlying9 (Kd.own_of_R HO251.out); have hcv11m_ := fun m_ : Nat => own_string (P := Tryz.prog) Tryz.underlying26 Tryz.underlying5 Tryz.underlying9 (Kd.own_of_R (Kd.R_drewN HO251.out m_))))
      go_ret
      exact ⟨by first | rfl | (simp [errW_none, errW_some] <;> rfl) | (simp [*, errW_none, errW_some] <;> rfl), by repeat (first | (with_reducible first | exact HB.out | apply below_alloc | apply pw_below_drewN | apply below_drew1) | exact HB.out)⟩
    · rw [if_neg c8] at H
      exact absurd H (by simp)

/-! ### colonnadelaw09_grownTexts: function 18 -/
def colonnadelaw09_grownTexts.f (l0 : List (List ByteArray)) : Option (Bool) := none
set_option maxHeartbeats 8000000 in
set_option maxRecDepth 100000 in
theorem colonnadelaw09_grownTexts.calls (A0 : Option Addr) (c0 : Nat) (l0 : List (List ByteArray)) (r : Bool) (w : World) (hr0 : Kd.C (Kd.slice 9 Kd.string) w A0 l0.length l0) (hc0 : l0.length ≤ c0) (h : colonnadelaw09_grownTexts.f l0 = some r) :
    Calls Tryz.prog 18 #[.slice A0 l0.length c0] w fun e w' => e = .returned (.bool r) ∧ Below w.heap.size w w' := by
  have HR0 := Aside0.mk hr0
  have HC0 := Aside0.mk hc0
  clear hr0 hc0
  have HB := Aside0.mk (Below.refl w.heap.size w)
  have H : (none) = some r := h
  clear h
  exact absurd H (by simp)

/-! ### colonnadelaw09_grownBytes: function 19 -/
def colonnadelaw09_grownBytes.f (l0 : List (List Int)) : Option (Bool) := none
set_option maxHeartbeats 8000000 in
set_option maxRecDepth 100000 in
theorem colonnadelaw09_grownBytes.calls (A0 : Option Addr) (c0 : Nat) (l0 : List (List Int)) (r : Bool) (w : World) (hr0 : Kd.C (Kd.slice 5 (Kd.int .u8)) w A0 l0.length l0) (hc0 : l0.length ≤ c0) (h : colonnadelaw09_grownBytes.f l0 = some r) :
    Calls Tryz.prog 19 #[.slice A0 l0.length c0] w fun e w' => e = .returned (.bool r) ∧ Below w.heap.size w w' := by
  have HR0 := Aside0.mk hr0
  have HC0 := Aside0.mk hc0
  clear hr0 hc0
  have HB := Aside0.mk (Below.refl w.heap.size w)
  have H : (none) = some r := h
  clear h
  exact absurd H (by simp)

/-! ### colonnadelaw09_readsTexts: function 20 -/
def colonnadelaw09_readsTexts.f (l0 : List ByteArray) (l1 : List ByteArray) : Option (Bool) := none
set_option maxHeartbeats 8000000 in
set_option maxRecDepth 100000 in
theorem colonnadelaw09_readsTexts.calls (A0 : Option Addr) (c0 : Nat) (l0 : List ByteArray) (A1 : Option Addr) (c1 : Nat) (l1 : List ByteArray) (r : Bool) (w : World) (hr0 : Kd.C Kd.string w A0 l0.length l0) (hc0 : l0.length ≤ c0) (hr1 : Kd.C Kd.string w A1 l1.length l1) (hc1 : l1.length ≤ c1) (h : colonnadelaw09_readsTexts.f l0 l1 = some r) :
    Calls Tryz.prog 20 #[.slice A0 l0.length c0, .slice A1 l1.length c1] w fun e w' => e = .returned (.bool r) ∧ Below w.heap.size w w' := by
  have HR0 := Aside0.mk hr0
  have HC0 := Aside0.mk hc0
  clear hr0 hc0
  have HR1 := Aside0.mk hr1
  have HC1 := Aside0.mk hc1
  clear hr1 hc1
  have HB := Aside0.mk (Below.refl w.heap.size w)
  have H : (none) = some r := h
  clear h
  exact absurd H (by simp)

end Go.Proofs.YtlpllhpnnhablaaGreat.PDictTextsOwn
