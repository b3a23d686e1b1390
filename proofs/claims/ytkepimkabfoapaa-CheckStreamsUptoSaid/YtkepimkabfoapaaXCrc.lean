/- The register of the check sum over bytes: the walks of check.step, check.halves and check.over, each for every input. -/
import Derived.Test.YtkepimkabfoapaaProg
import Derived.Laws.BitsAllLaws
import Derived.Test.YtkepimkabfoapaaWMore
import Derived.Test.YtkepimkabfoapaaWLast
import Derived.Deep.LoopGhost
import Derived.KernelRfl
import Derived.IntWalk
import Derived.Laws.CopyOwn
namespace Go.Proofs.Ytkepimkabfoapaa.XCrc
open Go.RowKit Go.Proofs.YtkepimkabfoapaaW.PrintWords Go.Proofs.YtkepimkabfoapaaW.PrintLast Go.Proofs.YtkepimkabfoapaaW.PrintMore

/-- one step of the register -/
def stepB (r : BitVec 32) : BitVec 32 := if r &&& 1#32 = 1#32 then (r >>> 1) ^^^ 0xEDB88320#32 else r >>> 1
def I (r : BitVec 32) : Int := (r.toNat : Int)
theorem I_lt (r : BitVec 32) : 0 ≤ I r ∧ I r < 4294967296 := by unfold I; have := r.isLt; omega
theorem I_and1 (r : BitVec 32) : bits .and .u32 (I r) 1 = I (r &&& 1#32) := by
  have h := u32_and_nat r.toNat 1 r.isLt (by omega)
  unfold I; rw [BitVec.toNat_and]; exact h
theorem I_and15 (r : BitVec 32) : bits .and .u32 (I r) 15 = I (r &&& 15#32) := by
  have h := u32_and_nat r.toNat 15 r.isLt (by omega)
  unfold I; rw [BitVec.toNat_and]; exact h
theorem I_xor (r s : BitVec 32) : bits .xor .u32 (I r) (I s) = I (r ^^^ s) := by
  have h := u32_xor_nat r.toNat s.toNat r.isLt s.isLt
  unfold I; rw [BitVec.toNat_xor]; exact h
theorem I_shr1 (r : BitVec 32) : I r / 2 = I (r >>> 1) := by
  unfold I; rw [BitVec.toNat_ushiftRight, Nat.shiftRight_eq_div_pow]; omega
theorem I_shr4 (r : BitVec 32) : I r / 16 = I (r >>> 4) := by
  unfold I; rw [BitVec.toNat_ushiftRight, Nat.shiftRight_eq_div_pow]; omega
theorem I_inj {r s : BitVec 32} (h : I r = I s) : r = s := by
  unfold I at h; exact BitVec.eq_of_toNat_eq (by omega)

set_option maxHeartbeats 400000 in
theorem step_calls (a : Int) (r : BitVec 32) (w : World) (ha : a = I r) :
    Calls Try.prog 41 #[.int .u32 a] w fun e w' => e = .returned (.int .u32 (I (stepB r))) ∧ w = w' := by
  subst ha
  have hb := I_lt r
  have h1 := I_and1 r
  have h2 := I_shr1 r
  by_cases hc : r &&& 1#32 = 1#32
  · have hf : I (stepB r) = bits .xor .u32 (I r / 2) 3988292384 := by
      unfold stepB; rw [if_pos hc, show (I r / 2 : Int) = I (r >>> 1) from I_shr1 r]; exact (I_xor (r >>> 1) 0xEDB88320#32).symm
    have ht : (bits .and .u32 (I r) 1 == 1) = true := by rw [h1, hc]; rfl
    have HF := Aside0.mk hf
    clear hf h1 h2
    obtain ⟨x, hx⟩ : ∃ x, I r = x := ⟨_, rfl⟩
    rw [hx] at ht hb ⊢
    go_enter Try.func41, Try.ntmps41
    go_wp2
    go_ret
    refine ⟨?_, rfl⟩
    rw [HF.out, hx]
    rfl
  · have hf : I (stepB r) = I r / 2 := by
      unfold stepB; rw [if_neg hc]; exact (I_shr1 r).symm
    have ht : (bits .and .u32 (I r) 1 == 1) = false := by
      rw [h1]; apply beq_eq_false_iff_ne.2; intro h; exact hc (I_inj h)
    have HF := Aside0.mk hf
    clear hf h1 h2
    obtain ⟨x, hx⟩ : ∃ x, I r = x := ⟨_, rfl⟩
    rw [hx] at ht hb ⊢
    go_enter Try.func41, Try.ntmps41
    go_wp2
    go_ret
    refine ⟨?_, rfl⟩
    rw [HF.out, hx]
    rfl


def nib4 (r : BitVec 32) : BitVec 32 := stepB (stepB (stepB (stepB r)))
def tabV (k : Nat) : Array Value := ((List.range 16).map fun j => Value.int .u32 (if j < k then I (nib4 (BitVec.ofNat 32 j)) else 0)).toArray
theorem tabV_size (k : Nat) : (tabV k).size = 16 := by simp [tabV]
theorem tabV_at (k j : Nat) (h : j < 16) : (tabV k)[j]? = some (.int .u32 (if j < k then I (nib4 (BitVec.ofNat 32 j)) else 0)) := by
  simp [tabV, h]
theorem tabV_set (k : Nat) (h : k < 16) : (tabV k).setIfInBounds k (.int .u32 (I (nib4 (BitVec.ofNat 32 k)))) = tabV (k + 1) := by
  apply Array.ext
  · simp [tabV]
  · intro i h1 h2
    have hi : i < 16 := by simpa [tabV] using h2
    by_cases e : i = k
    · subst e; simp [tabV]
    · rw [Array.getElem_setIfInBounds (by rw [tabV_size]; exact hi)]
      simp only [tabV, List.getElem_toArray, List.getElem_map, List.getElem_range]
      rw [if_neg (fun h => e h.symm)]
      by_cases h3 : i < k
      · rw [if_pos h3, if_pos (by omega)]
      · rw [if_neg h3, if_neg (by omega)]
theorem tabV_zero : tabV 0 = #[Value.int IntKind.u32 0, Value.int IntKind.u32 0, Value.int IntKind.u32 0, Value.int IntKind.u32 0,
          Value.int IntKind.u32 0, Value.int IntKind.u32 0, Value.int IntKind.u32 0, Value.int IntKind.u32 0,
          Value.int IntKind.u32 0, Value.int IntKind.u32 0, Value.int IntKind.u32 0, Value.int IntKind.u32 0,
          Value.int IntKind.u32 0, Value.int IntKind.u32 0, Value.int IntKind.u32 0, Value.int IntKind.u32 0] := rfl
theorem I_nat (k : Nat) (h : k < 16) : (k : Int) = I (BitVec.ofNat 32 k) := by
  unfold I; rw [BitVec.toNat_ofNat, Nat.mod_eq_of_lt (by omega)]
theorem tabV_all (k : Nat) : (tabV k).all (·.oneCell') = true := by simp [tabV, Value.oneCell']

theorem size69 : (Try.prog.info? 69).map (·.size) = some 16 := by kernel_rfl
structure HalvesRel (w : World) (k : Nat) (wr : World) : Prop where
  blk : wr.heap[w.heap.size + 1]? = some (.cells (tabV k) 69 (0, 0))
  res : wr.heap[w.heap.size]? = some (.cells (tabV 0) 69 (0, 0))
  bel : Below w.heap.size w wr
  siz : w.heap.size + 1 < wr.heap.size

set_option maxHeartbeats 1000000 in
set_option maxRecDepth 100000 in
theorem halves_calls (w : World) :
    Calls Try.prog 40 #[] w fun e w' => e = .returned (.agg (tabV 16)) ∧ Below w.heap.size w w' := by
  go_enter Try.func40, Try.ntmps40
  go_wp2
  go_loopw [3] (fun v wr => ∃ k : Nat, k ≤ 16 ∧ v = .int .i64 k ∧ HalvesRel w k wr) (fun v _ => 16 - (intOf v).toNat)
  case atStart =>
    refine ⟨0, by omega, rfl, ?_, ?_, ?_, ?_⟩
    · rw [tabV_zero]; exact heap_alloc2_new _ _ _
    · rw [tabV_zero]; exact heap_alloc2_old _ _ _
    · exact below_alloc (below_alloc (Below.refl _ _) _) _
    · simp
  case round =>
    obtain ⟨k, hk, rfl, hr⟩ := hrel
    by_cases hlt : k < 16
    · have hcell : wr.cell? ⟨w.heap.size + 1, k, none⟩ = some (.int .u32 0) := by
        rw [cell_of_row _ _ _ _ _ _ hr.blk, tabV_at k k hlt, if_neg (by omega)]
      have hfz : wr.frozen? ⟨w.heap.size + 1, k, none⟩ = false := frozen_of_row _ _ _ _ _ hr.blk
      have HR := Aside0.mk hr
      have hnat : ((k : Int)).toNat = k := by omega
      have HI := Aside0.mk (I_nat k hlt)
      clear hr
      have hd : decide ((k : Int) < 16) = true := decide_eq_true (by omega)
      go_wp2_with fail
      refine (step_calls _ (BitVec.ofNat 32 k) _ HI.out).mono ?_
      rintro e w' ⟨rfl, rfl⟩
      go_wp2_with fail
      refine (step_calls _ _ _ rfl).mono ?_
      rintro e w' ⟨rfl, rfl⟩
      go_wp2_with fail
      refine (step_calls _ _ _ rfl).mono ?_
      rintro e w' ⟨rfl, rfl⟩
      go_wp2_with fail
      refine (step_calls _ _ _ rfl).mono ?_
      rintro e w' ⟨rfl, rfl⟩
      go_wp2_with fail
      go_roundw
      case rel =>
        refine ⟨k + 1, by omega, by go_num, ?_, ?_, ?_, ?_⟩
        · rw [← tabV_set k hlt]; exact blk_set HR.out.blk k _
        · exact blk_far HR.out.res (by simp) _
        · exact below_set HR.out.bel (Nat.le_succ _)
        · have := HR.out.siz; simpa [World.setCell] using this
      case measure => simp [intOf]; omega
    · obtain rfl : k = 16 := by omega
      have hd : decide ((((16 : Nat) : Int)) < 16) = false := by decide
      have HB := Aside0.mk hr.blk
      have HR := Aside0.mk hr.res
      have hlr := hr.siz
      have Hbel := Aside0.mk hr.bel
      clear hr
      obtain ⟨T, hT⟩ : ∃ T, tabV 16 = T := ⟨_, rfl⟩
      obtain ⟨Z, hZ⟩ : ∃ Z, tabV 0 = Z := ⟨_, rfl⟩
      have hTs : T.size = 16 := by rw [← hT]; exact tabV_size _
      have hZs : Z.size = 16 := by rw [← hZ]; exact tabV_size _
      have hTa : T.all (·.oneCell') = true := by rw [← hT]; exact tabV_all _
      rw [hT] at HB
      rw [hZ] at HR
      have HT := Aside0.mk hT
      have HTs := Aside0.mk hTs
      have HZs := Aside0.mk hZs
      have HTa := Aside0.mk hTa
      clear hT hZ hTs hZs hTa
      go_wp2_with (first | (refine wpList_load_row rfl 69 _ rfl (w.heap.size + 1) rfl 69 T (0, 0) _ HB.out Try.underlying69 rfl (by rw [HTs.out]; exact size69) ?_) | (refine wpList_store_row rfl 69 _ _ rfl w.heap.size T rfl rfl 69 Z HR.out (by rw [HTs.out]; exact size69) (by rw [HTs.out, HZs.out]) HTa.out ?_))
      refine bodyPost_ret (v := .agg T) (results_cell_row rfl _ _ w.heap.size 69 T (0, 0) _ rfl (setRow_heap _ _ _ _ _ _ HR.out) Try.underlying69 rfl (by rw [HTs.out]; exact size69)) rfl ⟨by rw [HT.out], below_setRow Hbel.out (Nat.le_refl _) _⟩

def nibB (r : BitVec 32) : BitVec 32 := (r >>> 4) ^^^ nib4 (r &&& 15#32)
def byteB (r x : BitVec 32) : BitVec 32 := nibB (nibB (r ^^^ x))
def overB (r : BitVec 32) (l : List Int) : BitVec 32 := l.foldl (fun r x => byteB r (BitVec.ofInt 32 x)) r
theorem overB_snoc (r : BitVec 32) (l : List Int) (x : Int) : overB r (l ++ [x]) = byteB (overB r l) (BitVec.ofInt 32 x) := by
  unfold overB; rw [List.foldl_append]; rfl
theorem I_ofInt (x : Int) (h0 : 0 ≤ x) (h1 : x < 256) : x = I (BitVec.ofInt 32 x) := by
  unfold I; rw [BitVec.toNat_ofInt]; omega
theorem and15_lt (r : BitVec 32) : (r &&& 15#32).toNat < 16 := by
  rw [BitVec.toNat_and]; exact Nat.lt_of_le_of_lt Nat.and_le_right (by decide)
theorem tab_at (r : BitVec 32) : (tabV 16)[(I (r &&& 15#32)).toNat]? = some (.int .u32 (I (nib4 (r &&& 15#32)))) := by
  have h := and15_lt r
  have e : (I (r &&& 15#32)).toNat = (r &&& 15#32).toNat := by unfold I; omega
  rw [e, tabV_at 16 _ h, if_pos h]
  rw [show BitVec.ofNat 32 (r &&& 15#32).toNat = r &&& 15#32 from by simp]
theorem nib_x (r : BitVec 32) : bits .xor .u32 (I r / 16) (I (nib4 (r &&& 15#32))) = I (nibB r) := by
  rw [show (I r / 16 : Int) = I (r >>> 4) from I_shr4 r]; exact I_xor _ _
theorem take_snoc {l : List Int} {k : Nat} (h : k < l.length) : l.take (k + 1) = l.take k ++ [rd l k] := by
  rw [List.take_succ_eq_append_getElem h]; simp [rd, h]

set_option maxHeartbeats 1000000 in
set_option maxRecDepth 100000 in
theorem over_calls (r : BitVec 32) (a0 : Int) (A1 : Option Addr) (c1 : Nat) (l1 : List Int) (w : World) (ha : a0 = I r) (hl : ∀ x ∈ l1, 0 ≤ x ∧ x < 256)
    (hr1 : Kd.C (Kd.int .u8) w A1 l1.length l1) :
    Calls Try.prog 37 #[.int .u32 a0, .slice A1 l1.length c1] w fun e w' => e = .returned (.int .u32 (I (overB r l1))) ∧ Below w.heap.size w w' := by
  subst ha
  have HR := Aside0.mk hr1
  have hmax := Kd.C_max hr1
  have HL := Aside0.mk hl
  clear hr1 hl
  go_enter Try.func37, Try.ntmps37
  go_wp2_with fail
  refine (halves_calls _).mono ?_
  rintro e w1 ⟨rfl, hb1⟩
  obtain ⟨T, hT⟩ : ∃ T, tabV 16 = T := ⟨_, rfl⟩
  have hTs : T.size = 16 := by rw [← hT]; exact tabV_size _
  have hTa : T.all (·.oneCell') = true := by rw [← hT]; exact tabV_all _
  rw [hT]
  have HT := Aside0.mk hT
  have HTs := Aside0.mk hTs
  have HTa := Aside0.mk hTa
  have HB1 := Aside0.mk hb1
  clear hT hTs hTa hb1
  go_wp2_with (refine wpList_store_row rfl 69 _ _ rfl w1.heap.size T rfl rfl 69 (tabV 0) (by rw [tabV_zero]; exact heap_alloc_new _ _) (by rw [HTs.out]; exact size69) (by rw [HTs.out]; exact tabV_size 0) HTa.out ?_)
  obtain ⟨W2, hW2⟩ : ∃ W2, (w1.alloc (Obj.cells (tabV 0) 69)).setRow w1.heap.size T = W2 := ⟨_, rfl⟩
  rw [tabV_zero] at hW2
  rw [hW2]
  have hblk : W2.heap[w1.heap.size]? = some (.cells T 69 (0, 0)) := by rw [← hW2]; exact setRow_heap _ _ _ _ _ _ (heap_alloc_new _ _)
  have hbel : Below w.heap.size w W2 := by
    rw [← hW2]; exact below_setRow (below_alloc HB1.out _) HB1.out.size _
  have HW := Aside0.mk hW2
  clear hW2
  have HC := Aside0.mk (Kd.C_below HR.out hbel)
  have HBL := Aside0.mk hblk
  have HBE := Aside0.mk hbel
  clear hblk hbel
  obtain ⟨g, hg⟩ : ∃ g, w1.heap.size = g := ⟨_, rfl⟩
  rw [hg] at HBL ⊢
  clear hg HW HB1 HR
  go_loop [0, 7, 11] (fun v _ i => ∃ k : Nat, k ≤ l1.length ∧ i = .int .i64 k ∧ v = .int .u32 (I (overB r (l1.take k)))) (fun _ _ i => l1.length - (intOf i).toNat)
  case atStart => exact ⟨0, by omega, rfl, rfl⟩
  case round =>
    obtain ⟨k, hk, rfl, rfl⟩ := hrel
    by_cases hlt : k < l1.length
    · have hd : decide ((k : Int) < (l1.length : Int)) = true := decide_eq_true (by omega)
      obtain ⟨ad, e0, hx0⟩ := Kd.at_int HC.out (k : Int) (by omega) (by omega)
      cases e0
      rw [Int.toNat_natCast] at hx0
      have hmem : rd l1 k ∈ l1 := by
        unfold rd; rw [Int.toNat_natCast, List.getD_eq_getElem?_getD, List.getElem?_eq_getElem hlt]; exact List.getElem_mem hlt
      obtain ⟨hxa, hxb⟩ := HL.out _ hmem
      have hsn : overB r (l1.take (k + 1)) = byteB (overB r (l1.take k)) (BitVec.ofInt 32 (rd l1 k)) := by
        rw [take_snoc hlt, overB_snoc]
      have hxi := I_ofInt _ hxa hxb
      obtain ⟨q, hq⟩ : ∃ q, BitVec.ofInt 32 (rd l1 k) = q := ⟨_, rfl⟩
      obtain ⟨r0, hr0⟩ : ∃ r0, overB r (l1.take k) = r0 := ⟨_, rfl⟩
      rw [hq] at hxi hsn
      rw [hr0] at hsn ⊢
      obtain ⟨x, hx⟩ : ∃ x, rd l1 k = x := ⟨_, rfl⟩
      rw [hx] at hx0 hxa hxb hxi
      clear hmem hx hq hr0
      -- the two halves
      have e1 : bits .xor .u32 (I r0) x = I (r0 ^^^ q) := by rw [hxi]; exact I_xor _ _
      have e2 := I_and15 (r0 ^^^ q)
      have c1 := tab_at (r0 ^^^ q)
      have b1 := and15_lt (r0 ^^^ q)
      have e3 := nib_x (r0 ^^^ q)
      have e4 := I_and15 (nibB (r0 ^^^ q))
      have c2 := tab_at (nibB (r0 ^^^ q))
      have b2 := and15_lt (nibB (r0 ^^^ q))
      have e5 := nib_x (nibB (r0 ^^^ q))
      rw [HT.out] at c1 c2
      have d1 : W2.cell? ⟨g, (I ((r0 ^^^ q) &&& 15#32)).toNat, none⟩ = _ := (cell_of_row _ _ _ _ _ _ HBL.out).trans c1
      have d2 : W2.cell? ⟨g, (I (nibB (r0 ^^^ q) &&& 15#32)).toNat, none⟩ = _ := (cell_of_row _ _ _ _ _ _ HBL.out).trans c2
      have p1 : 0 ≤ I ((r0 ^^^ q) &&& 15#32) ∧ I ((r0 ^^^ q) &&& 15#32) < 16 := by unfold I; omega
      have p2 : 0 ≤ I (nibB (r0 ^^^ q) &&& 15#32) ∧ I (nibB (r0 ^^^ q) &&& 15#32) < 16 := by unfold I; omega
      have z1 := I_lt (r0 ^^^ q)
      have z2 := I_lt (nibB (r0 ^^^ q))
      rw [show byteB r0 q = nibB (nibB (r0 ^^^ q)) from rfl] at hsn
      obtain ⟨F, hF⟩ : ∃ F, I (nibB (nibB (r0 ^^^ q))) = F := ⟨_, rfl⟩
      rw [hF] at e5
      obtain ⟨X2, hX2⟩ : ∃ X2, I (nibB (r0 ^^^ q)) = X2 := ⟨_, rfl⟩
      obtain ⟨J2, hJ2⟩ : ∃ J2, I (nibB (r0 ^^^ q) &&& 15#32) = J2 := ⟨_, rfl⟩
      obtain ⟨T2, hT2⟩ : ∃ T2, I (nib4 (nibB (r0 ^^^ q) &&& 15#32)) = T2 := ⟨_, rfl⟩
      rw [hX2] at e3 e4 e5 z2
      rw [hJ2] at e4 d2 p2
      rw [hT2] at d2 e5
      obtain ⟨X1, hX1⟩ : ∃ X1, I (r0 ^^^ q) = X1 := ⟨_, rfl⟩
      obtain ⟨J1, hJ1⟩ : ∃ J1, I ((r0 ^^^ q) &&& 15#32) = J1 := ⟨_, rfl⟩
      obtain ⟨T1, hT1⟩ : ∃ T1, I (nib4 ((r0 ^^^ q) &&& 15#32)) = T1 := ⟨_, rfl⟩
      rw [hX1] at e1 e2 e3 z1
      rw [hJ1] at e2 d1 p1
      rw [hT1] at d1 e3
      have HF := Aside0.mk hF
      have HS := Aside0.mk hsn
      obtain ⟨R0, hR0⟩ : ∃ R0, I r0 = R0 := ⟨_, rfl⟩
      rw [hR0] at e1 ⊢
      clear hsn hF hX2 hJ2 hT2 hX1 hJ1 hT1 hR0 hxi c1 c2 b1 b2
      obtain ⟨p1a, p1b⟩ := p1
      obtain ⟨p2a, p2b⟩ := p2
      go_wp2
      go_round
      case rel => exact ⟨k + 1, by omega, by go_num, by rw [HS.out, HF.out]⟩
      case measure => simp [intOf]; omega
    · obtain rfl : k = l1.length := by omega
      have hd : decide (((l1.length : Nat) : Int) < (l1.length : Int)) = false := decide_eq_false (by omega)
      rw [List.take_length]
      go_wp2
      go_ret
      exact ⟨rfl, HBE.out⟩
end Go.Proofs.Ytkepimkabfoapaa.XCrc
