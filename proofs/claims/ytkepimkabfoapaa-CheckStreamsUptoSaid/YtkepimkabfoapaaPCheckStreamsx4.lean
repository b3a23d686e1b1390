-- Written by xprint.py, this session's own program over the kit's print; Lean checks it.
import Derived.Test.YtkepimkabfoapaaPCheckStreamsx0
import Derived.Test.YtkepimkabfoapaaPCheckStreamsx3
namespace Go.Proofs.Ytkepimkabfoapaa.PCheckStreams
open Go.RowKit Go.Proofs.YtkepimkabfoapaaW.PrintWords Go.Proofs.YtkepimkabfoapaaW.PrintLast Go.Proofs.YtkepimkabfoapaaW.PrintMore
attribute [local go_sem] max2_int min2_int max_two min_two max_three min_three max_four min_four   -- for this text's walks alone
set_option linter.unusedVariables false
set_option linter.unusedSimpArgs false

/-! ### colonnadelaw06_CheckStreams: function 14 -/
def colonnadelaw06_CheckStreams.crc (l : List Int) : Int := XCrc.I (XCrc.overB 4294967295#32 l ^^^ 4294967295#32)
theorem colonnadelaw06_CheckStreams.crc_nil : colonnadelaw06_CheckStreams.crc [] = 0 := by decide +kernel
theorem colonnadelaw06_CheckStreams.ofInt_I (B : BitVec 32) : BitVec.ofInt 32 (XCrc.I B) = B := by
  unfold XCrc.I
  rw [BitVec.ofInt_natCast, BitVec.ofNat_toNat, BitVec.setWidth_eq]
theorem colonnadelaw06_CheckStreams.xor_front (B : BitVec 32) : Go.bits .xor .u32 4294967295 (XCrc.I B) = XCrc.I (B ^^^ 4294967295#32) := by rw [BitVec.xor_comm]; exact XCrc.I_xor 4294967295#32 B
theorem colonnadelaw06_CheckStreams.more_crc (a b : List Int) (hb : ∀ x ∈ b, 0 ≤ x ∧ x < 256) : check_More.f (colonnadelaw06_CheckStreams.crc a) b = some (colonnadelaw06_CheckStreams.crc (a ++ b)) := by
  unfold check_More.f colonnadelaw06_CheckStreams.crc
  rw [colonnadelaw06_CheckStreams.xor_front, BitVec.xor_assoc, BitVec.xor_self, BitVec.xor_zero]
  unfold check_over.f
  have hr := XCrc.I_lt (XCrc.overB 4294967295#32 a)
  rw [if_pos ⟨hr.1, hr.2, hb⟩, Option.bind_some, colonnadelaw06_CheckStreams.ofInt_I, colonnadelaw06_CheckStreams.xor_front]
  unfold XCrc.overB
  rw [List.foldl_append]
def colonnadelaw06_CheckStreams.upd {α : Type} (f : Nat → α) (k : Nat) (v : α) (j : Nat) : α := if j = k then v else f j
def colonnadelaw06_CheckStreams.arr8 (b : Nat → List Int) : Array Value := #[.int .u32 (colonnadelaw06_CheckStreams.crc (b 0)), .int .u64 ((b 0).length : Int), .int .u32 (colonnadelaw06_CheckStreams.crc (b 1)), .int .u64 ((b 1).length : Int), .int .u32 (colonnadelaw06_CheckStreams.crc (b 2)), .int .u64 ((b 2).length : Int), .int .u32 (colonnadelaw06_CheckStreams.crc (b 3)), .int .u64 ((b 3).length : Int)]
def colonnadelaw06_CheckStreams.arr4 (A : Nat → Option Addr) (c : Nat → Nat) (b : Nat → List Int) : Array Value := #[.slice (A 0) (b 0).length (c 0), .slice (A 1) (b 1).length (c 1), .slice (A 2) (b 2).length (c 2), .slice (A 3) (b 3).length (c 3)]
theorem colonnadelaw06_CheckStreams.upd_le (f : Nat → List Int) (k : Nat) (v : List Int) (n : Nat) (h : ∀ j, j < 4 → (f j).length ≤ n) (hv : v.length ≤ n) : ∀ j, j < 4 → (colonnadelaw06_CheckStreams.upd f k v j).length ≤ n := fun j hj => by
  unfold colonnadelaw06_CheckStreams.upd
  split
  · exact hv
  · exact h j hj
theorem colonnadelaw06_CheckStreams.arr8_set (b : Nat → List Int) (k : Nat) (hk : k < 4) (v : List Int) : ((colonnadelaw06_CheckStreams.arr8 b).setIfInBounds (k * 2) (.int .u32 (colonnadelaw06_CheckStreams.crc v))).setIfInBounds (k * 2 + 1) (.int .u64 (v.length : Int)) = colonnadelaw06_CheckStreams.arr8 (colonnadelaw06_CheckStreams.upd b k v) := by
  match k, hk with
  | 0, _ | 1, _ | 2, _ | 3, _ => rfl
theorem colonnadelaw06_CheckStreams.arr8_at (b : Nat → List Int) (k : Nat) (hk : k < 4) : (colonnadelaw06_CheckStreams.arr8 b)[k * 2]? = some (.int .u32 (colonnadelaw06_CheckStreams.crc (b k))) ∧ (colonnadelaw06_CheckStreams.arr8 b)[k * 2 + 1]? = some (.int .u64 ((b k).length : Int)) := by
  match k, hk with
  | 0, _ | 1, _ | 2, _ | 3, _ => exact ⟨rfl, rfl⟩
theorem colonnadelaw06_CheckStreams.arr4_set (A : Nat → Option Addr) (c : Nat → Nat) (b : Nat → List Int) (k : Nat) (hk : k < 4) (A' : Option Addr) (c' : Nat) (v : List Int) : (colonnadelaw06_CheckStreams.arr4 A c b).setIfInBounds k (.slice A' v.length c') = colonnadelaw06_CheckStreams.arr4 (colonnadelaw06_CheckStreams.upd A k A') (colonnadelaw06_CheckStreams.upd c k c') (colonnadelaw06_CheckStreams.upd b k v) := by
  match k, hk with
  | 0, _ | 1, _ | 2, _ | 3, _ => rfl
theorem colonnadelaw06_CheckStreams.arr4_at (A : Nat → Option Addr) (c : Nat → Nat) (b : Nat → List Int) (k : Nat) (hk : k < 4) : (colonnadelaw06_CheckStreams.arr4 A c b)[k]? = some (.slice (A k) (b k).length (c k)) := by
  match k, hk with
  | 0, _ | 1, _ | 2, _ | 3, _ => rfl
def colonnadelaw06_CheckStreams.bytes (l : List Int) : Prop := ∀ x ∈ l, 0 ≤ x ∧ x < 256
/-- the four streams and the four texts that they should have seen -/
structure colonnadelaw06_CheckStreams.St (w W : World) (gs gw : Nat) (bs bw : Nat → List Int) (A : Nat → Option Addr) (c : Nat → Nat) : Prop where
  s : W.heap[gs]? = some (.cells (colonnadelaw06_CheckStreams.arr8 bs) 56 (0, 0))
  t : W.heap[gw]? = some (.cells (colonnadelaw06_CheckStreams.arr4 A c bw) 59 (0, 0))
  rd : ∀ j, j < 4 → (bw j).length ≤ c j ∧ Kd.C (Kd.int .u8) W (A j) (bw j).length (bw j) ∧ ∀ ad, A j = some ad → 0 < (bw j).length → ad.block ≠ gs ∧ ad.block ≠ gw
  by_ : ∀ j, j < 4 → colonnadelaw06_CheckStreams.bytes (bs j) ∧ colonnadelaw06_CheckStreams.bytes (bw j)
  below : Below w.heap.size w W
  hs : w.heap.size ≤ gs
  hw : w.heap.size ≤ gw
  ne : gs ≠ gw
theorem colonnadelaw06_CheckStreams.St.then_ {w W W' : World} {gs gw : Nat} {bs bw : Nat → List Int} {A : Nat → Option Addr} {c : Nat → Nat} (h : colonnadelaw06_CheckStreams.St w W gs gw bs bw A c) (hb : Below W.heap.size W W') : colonnadelaw06_CheckStreams.St w W' gs gw bs bw A c :=
  ⟨blk_below h.s hb, blk_below h.t hb, fun j hj => ⟨(h.rd j hj).1, Kd.C_below (h.rd j hj).2.1 hb, (h.rd j hj).2.2⟩, h.by_, below_then h.below h.below.size hb, h.hs, h.hw, h.ne⟩
theorem colonnadelaw06_CheckStreams.St.cell {w W : World} {gs gw : Nat} {bs bw : Nat → List Int} {A : Nat → Option Addr} {c : Nat → Nat} (h : colonnadelaw06_CheckStreams.St w W gs gw bs bw A c) {k : Nat} (hk : k < 4) :
    W.cell? ⟨gs, k * 2, none⟩ = some (.int .u32 (colonnadelaw06_CheckStreams.crc (bs k))) ∧ W.cell? ⟨gs, k * 2 + 1, none⟩ = some (.int .u64 ((bs k).length : Int)) ∧ W.frozen? ⟨gs, k * 2, none⟩ = false ∧ W.frozen? ⟨gs, k * 2 + 1, none⟩ = false ∧
      W.cell? ⟨gw, k, none⟩ = some (.slice (A k) (bw k).length (c k)) ∧ W.frozen? ⟨gw, k, none⟩ = false :=
  ⟨(blk_cell h.s _).trans (colonnadelaw06_CheckStreams.arr8_at bs k hk).1, (blk_cell h.s _).trans (colonnadelaw06_CheckStreams.arr8_at bs k hk).2, blk_frozen h.s _, blk_frozen h.s _, (blk_cell h.t _).trans (colonnadelaw06_CheckStreams.arr4_at A c bw k hk), blk_frozen h.t _⟩
/-- two cells of the streams' block are written -/
theorem colonnadelaw06_CheckStreams.St.setS {w W : World} {gs gw : Nat} {bs bw : Nat → List Int} {A : Nat → Option Addr} {c : Nat → Nat} (h : colonnadelaw06_CheckStreams.St w W gs gw bs bw A c) {k : Nat} (hk : k < 4) (v : List Int) (hv : colonnadelaw06_CheckStreams.bytes v) :
    colonnadelaw06_CheckStreams.St w ((W.setCell ⟨gs, k * 2, none⟩ (.int .u32 (colonnadelaw06_CheckStreams.crc v))).setCell ⟨gs, k * 2 + 1, none⟩ (.int .u64 (v.length : Int))) gs gw (colonnadelaw06_CheckStreams.upd bs k v) bw A c := by
  have hkeep : KeepBut W ((W.setCell ⟨gs, k * 2, none⟩ (.int .u32 (colonnadelaw06_CheckStreams.crc v))).setCell ⟨gs, k * 2 + 1, none⟩ (.int .u64 (v.length : Int))) gs none :=
    ⟨by simp, fun i _ hi _ => (Below.heap_setCell _ ⟨gs, k * 2 + 1, none⟩ _ i hi).trans (Below.heap_setCell W ⟨gs, k * 2, none⟩ _ i hi)⟩
  refine ⟨?_, ?_, fun j hj => ⟨(h.rd j hj).1, Kd.C_foot_ne (fun h => h) (h.rd j hj).2.1 (fun ad e1 e2 => ((h.rd j hj).2.2 ad e1 e2).1) _ hkeep, (h.rd j hj).2.2⟩, fun j hj => ⟨?_, (h.by_ j hj).2⟩, (h.below.setCell h.hs _).setCell h.hs _, h.hs, h.hw, h.ne⟩
  · rw [← colonnadelaw06_CheckStreams.arr8_set bs k hk v]
    exact blk_set (blk_set h.s _ _) _ _
  · exact (hkeep.2 gw (blk_lt h.t) (fun e => h.ne e.symm) (by simp)).trans h.t
  · unfold colonnadelaw06_CheckStreams.upd
    split
    · exact hv
    · exact (h.by_ j hj).1
/-- a cell of the texts' block is written -/
theorem colonnadelaw06_CheckStreams.St.setW {w W : World} {gs gw : Nat} {bs bw : Nat → List Int} {A : Nat → Option Addr} {c : Nat → Nat} (h : colonnadelaw06_CheckStreams.St w W gs gw bs bw A c) {k : Nat} (hk : k < 4) (A' : Option Addr) (c' : Nat) (v : List Int) (hv : colonnadelaw06_CheckStreams.bytes v)
    (hc : v.length ≤ c') (hC : Kd.C (Kd.int .u8) W A' v.length v) (hf : ∀ ad, A' = some ad → 0 < v.length → ad.block ≠ gs ∧ ad.block ≠ gw) :
    colonnadelaw06_CheckStreams.St w (W.setCell ⟨gw, k, none⟩ (.slice A' v.length c')) gs gw bs (colonnadelaw06_CheckStreams.upd bw k v) (colonnadelaw06_CheckStreams.upd A k A') (colonnadelaw06_CheckStreams.upd c k c') := by
  have hkeep : KeepBut W (W.setCell ⟨gw, k, none⟩ (.slice A' v.length c')) gw none := ⟨by simp, fun i _ hi _ => Below.heap_setCell W ⟨gw, k, none⟩ _ i hi⟩
  refine ⟨(hkeep.2 gs (blk_lt h.s) h.ne (by simp)).trans h.s, ?_, fun j hj => ?_, fun j hj => ⟨(h.by_ j hj).1, ?_⟩, h.below.setCell h.hw _, h.hs, h.hw, h.ne⟩
  · rw [← colonnadelaw06_CheckStreams.arr4_set A c bw k hk A' c' v]
    exact blk_set h.t _ _
  · unfold colonnadelaw06_CheckStreams.upd
    split
    · exact ⟨hc, Kd.C_foot_ne (fun h => h) hC (fun ad e1 e2 => (hf ad e1 e2).2) _ hkeep, hf⟩
    · exact ⟨(h.rd j hj).1, Kd.C_foot_ne (fun h => h) (h.rd j hj).2.1 (fun ad e1 e2 => ((h.rd j hj).2.2 ad e1 e2).2) _ hkeep, (h.rd j hj).2.2⟩
  · unfold colonnadelaw06_CheckStreams.upd
    split
    · exact hv
    · exact (h.by_ j hj).2
set_option maxHeartbeats 1000000 in
theorem colonnadelaw06_CheckStreams.swrite (g o : Nat) (s n r : Int) (A : Option Addr) (c : Nat) (X : List Int) (W : World) (h0 : W.cell? ⟨g, o, none⟩ = some (.int .u32 s)) (h1 : W.cell? ⟨g, o + 1, none⟩ = some (.int .u64 n)) (f0 : W.frozen? ⟨g, o, none⟩ = false) (f1 : W.frozen? ⟨g, o + 1, none⟩ = false)
    (hC : Kd.C (Kd.int .u8) W A X.length X) (hc : X.length ≤ c) (hm : check_More.f s X = some r) :
    Calls Try.prog 28 #[.pointer (some ⟨g, o, none⟩), .slice A X.length c] W fun e W' => e = .returned (.tuple #[]) ∧ ∃ W1, Below W.heap.size W W1 ∧ W' = (W1.setCell ⟨g, o, none⟩ (.int .u32 r)).setCell ⟨g, o + 1, none⟩ (.int .u64 (IntKind.u64.wrap (n + IntKind.u64.wrap (X.length : Int)))) := by
  have HC := Aside0.mk hC
  have HM := Aside0.mk hm
  have hlt := World.block_lt_of_cell? W _ h0
  clear hC hm
  go_enter Try.func28, Try.ntmps28
  go_wp2_with fail
  refine (check_More.calls s A c X r _ HC.out hc HM.out).mono ?_
  rintro e w1 ⟨rfl, hb⟩
  have k0 := (hb.cell (p := ⟨g, o, none⟩) hlt).trans h0
  have k1 := (hb.cell (p := ⟨g, o + 1, none⟩) hlt).trans h1
  have k2 := (hb.frozen (p := ⟨g, o, none⟩) hlt).trans f0
  have k3 := (hb.frozen (p := ⟨g, o + 1, none⟩) hlt).trans f1
  have HB := Aside0.mk hb
  clear hb h0 h1 f0 f1
  go_wp2_with fail
  go_end0
  exact ⟨rfl, w1, HB.out, rfl⟩
set_option maxHeartbeats 1000000 in
theorem colonnadelaw06_CheckStreams.ssum (g o : Nat) (s n : Int) (W : World) (h0 : W.cell? ⟨g, o, none⟩ = some (.int .u32 s)) :
    Calls Try.prog 29 #[.pointer (some ⟨g, o, none⟩)] W fun e W' => e = .returned (.int .u32 s) ∧ W' = W := by
  go_enter Try.func29, Try.ntmps29
  go_wp2_with fail
  go_ret
  exact ⟨rfl, rfl⟩
set_option maxHeartbeats 1000000 in
theorem colonnadelaw06_CheckStreams.slen (g o : Nat) (n : Int) (W : World) (h0 : W.cell? ⟨g, o + 1, none⟩ = some (.int .u64 n)) :
    Calls Try.prog 31 #[.pointer (some ⟨g, o, none⟩)] W fun e W' => e = .returned (.int .u64 n) ∧ W' = W := by
  go_enter Try.func31, Try.ntmps31
  go_wp2_with fail
  go_ret
  exact ⟨rfl, rfl⟩
set_option maxHeartbeats 1000000 in
theorem colonnadelaw06_CheckStreams.sreset (g o : Nat) (s n : Int) (W : World) (h0 : W.cell? ⟨g, o, none⟩ = some (.int .u32 s)) (h1 : W.cell? ⟨g, o + 1, none⟩ = some (.int .u64 n)) (f0 : W.frozen? ⟨g, o, none⟩ = false) (f1 : W.frozen? ⟨g, o + 1, none⟩ = false) :
    Calls Try.prog 32 #[.pointer (some ⟨g, o, none⟩)] W fun e W' => e = .returned (.tuple #[]) ∧ W' = (W.setCell ⟨g, o, none⟩ (.int .u32 0)).setCell ⟨g, o + 1, none⟩ (.int .u64 0) := by
  have hu45 := Try.underlying45
  go_enter Try.func32, Try.ntmps32
  go_wp2_with fail
  go_end0
  exact ⟨rfl, rfl⟩
set_option maxHeartbeats 1000000 in
theorem colonnadelaw06_CheckStreams.nwrite (v : Value) (W : World) : Calls Try.prog 28 #[.pointer none, v] W fun e W' => e = .returned (.tuple #[]) ∧ W' = W := by
  go_enter Try.func28, Try.ntmps28
  go_wp2_with fail
  refine bodyPost_ret (results_none rfl _ _ _) rfl ?_
  exact ⟨rfl, rfl⟩
theorem colonnadelaw06_CheckStreams.nreset (W : World) : Calls Try.prog 32 #[.pointer none] W fun e W' => e = .returned (.tuple #[]) ∧ W' = W := by
  go_enter Try.func32, Try.ntmps32
  go_wp2_with fail
  go_end0
  exact ⟨rfl, rfl⟩
theorem colonnadelaw06_CheckStreams.nsum (W : World) : Calls Try.prog 29 #[.pointer none] W fun e W' => e = .returned (.int .u32 0) ∧ W' = W := by
  go_enter Try.func29, Try.ntmps29
  go_wp2_with fail
  go_ret
  exact ⟨rfl, rfl⟩
theorem colonnadelaw06_CheckStreams.nlen (W : World) : Calls Try.prog 31 #[.pointer none] W fun e W' => e = .returned (.int .u64 0) ∧ W' = W := by
  go_enter Try.func31, Try.ntmps31
  go_wp2_with fail
  go_ret
  exact ⟨rfl, rfl⟩
set_option maxHeartbeats 1000000 in
theorem colonnadelaw06_CheckStreams.no (v : Value) (W : World) :
    Calls Try.prog 35 #[v] W fun e W' => e = .returned (.bool true) ∧ W' = W := by
  go_enter Try.func35, Try.ntmps35
  go_wp2_with (first
    | (go_at_call 28; refine (colonnadelaw06_CheckStreams.nwrite _ _).mono ?_; rintro e w' ⟨rfl, rfl⟩)
    | (go_at_call 32; refine (colonnadelaw06_CheckStreams.nreset _).mono ?_; rintro e w' ⟨rfl, rfl⟩)
    | (go_at_call 29; refine (colonnadelaw06_CheckStreams.nsum _).mono ?_; rintro e w' ⟨rfl, rfl⟩)
    | (go_at_call 31; refine (colonnadelaw06_CheckStreams.nlen _).mono ?_; rintro e w' ⟨rfl, rfl⟩))
  go_ret
  exact ⟨rfl, rfl⟩
def colonnadelaw06_CheckStreams.at4 (n : Int) : Nat := (n % 4).toNat
theorem colonnadelaw06_CheckStreams.at4_eq (n : Int) : (wrap64 (n.tmod 4 + 4)).tmod 4 = (colonnadelaw06_CheckStreams.at4 n : Int) := by
  have h1 : n.tmod 4 = n - 4 * n.tdiv 4 := by have := Int.mul_tdiv_add_tmod n 4; omega
  have h2 : -4 < n.tmod 4 ∧ n.tmod 4 < 4 := ⟨by have := Int.lt_tmod_of_pos n (b := 4) (by decide); omega, Int.tmod_lt_of_pos n (by decide)⟩
  have h3 : wrap64 (n.tmod 4 + 4) = n.tmod 4 + 4 := by unfold wrap64; omega
  rw [h3, Int.tmod_eq_emod_of_nonneg (by omega)]
  unfold colonnadelaw06_CheckStreams.at4
  omega
theorem colonnadelaw06_CheckStreams.at4_lt (n : Int) : colonnadelaw06_CheckStreams.at4 n < 4 := by unfold colonnadelaw06_CheckStreams.at4; omega
set_option maxHeartbeats 1000000 in
theorem colonnadelaw06_CheckStreams.four (n : Int) (W : World) :
    Calls Try.prog 33 #[.int .i64 n] W fun e W' => e = .returned (.int .i64 (colonnadelaw06_CheckStreams.at4 n : Int)) ∧ W' = W := by
  go_enter Try.func33, Try.ntmps33
  go_wp2_with fail
  go_ret
  exact ⟨by show Ending.returned (.int .i64 ((wrap64 (n.tmod 4 + 4)).tmod 4)) = _; rw [colonnadelaw06_CheckStreams.at4_eq], rfl⟩
def colonnadelaw06_CheckStreams.tot (l : List S61) : Nat := (l.map (fun x => x.f3.length)).sum
theorem colonnadelaw06_CheckStreams.St.far {w W W' : World} {gs gw : Nat} {bs bw : Nat → List Int} {A : Nat → Option Addr} {c : Nat → Nat} (h : colonnadelaw06_CheckStreams.St w W gs gw bs bw A c) {N : Nat} (h1 : gs < N) (h2 : gw < N) (hN : N ≤ W.heap.size) (hA : ∀ j, j < 4 → ∀ ad, A j = some ad → 0 < (bw j).length → ad.block < N) (hb : Below N W W') (hw : w.heap.size ≤ N) : colonnadelaw06_CheckStreams.St w W' gs gw bs bw A c :=
  ⟨(hb.block gs h1).trans h.s, (hb.block gw h2).trans h.t, fun j hj => ⟨(h.rd j hj).1, Kd.C_foot_neS (S := fun k => N ≤ k) (fun h => h) (h.rd j hj).2.1 (fun ad e1 e2 => Nat.not_le.mpr (hA j hj ad e1 e2)) _ ⟨hb.size, fun i _ hS => hb.block i (Nat.lt_of_not_le hS)⟩, (h.rd j hj).2.2⟩, h.by_, h.below.trans ⟨hb.os, hb.tape, hb.output, hb.size, fun k hk => hb.block k (Nat.lt_of_lt_of_le hk hw)⟩, h.hs, h.hw, h.ne⟩
theorem colonnadelaw06_CheckStreams.St.lim {w W : World} {gs gw : Nat} {bs bw : Nat → List Int} {A : Nat → Option Addr} {c : Nat → Nat} (h : colonnadelaw06_CheckStreams.St w W gs gw bs bw A c) : gs < W.heap.size ∧ gw < W.heap.size ∧ ∀ j, j < 4 → ∀ ad, A j = some ad → 0 < (bw j).length → ad.block < W.heap.size := by
  refine ⟨blk_lt h.s, blk_lt h.t, fun j hj ad e1 e2 => ?_⟩
  by_cases hl : ad.block < W.heap.size
  · exact hl
  · exact absurd rfl (Kd.far_C (0 : Int) (h.rd j hj).2.1 (Nat.le_of_not_lt hl) ad e1 e2)
theorem colonnadelaw06_CheckStreams.start (w : World) : colonnadelaw06_CheckStreams.St w ((w.alloc (.cells #[.int .u32 0, .int .u64 0, .int .u32 0, .int .u64 0, .int .u32 0, .int .u64 0, .int .u32 0, .int .u64 0] 56)).alloc (.cells #[.slice none 0 0, .slice none 0 0, .slice none 0 0, .slice none 0 0] 59)) w.heap.size (w.heap.size + 1) (fun _ => []) (fun _ => []) (fun _ => none) (fun _ => 0) := by
  have e : colonnadelaw06_CheckStreams.arr8 (fun _ => []) = #[.int .u32 0, .int .u64 0, .int .u32 0, .int .u64 0, .int .u32 0, .int .u64 0, .int .u32 0, .int .u64 0] := by unfold colonnadelaw06_CheckStreams.arr8; rw [colonnadelaw06_CheckStreams.crc_nil]; rfl
  have h1 := below_alloc (Below.refl w.heap.size w) (.cells #[.int .u32 0, .int .u64 0, .int .u32 0, .int .u64 0, .int .u32 0, .int .u64 0, .int .u32 0, .int .u64 0] 56)
  refine ⟨?_, ?_, fun j hj => ⟨Nat.le_refl _, Kd.C_nil _ _, fun ad h => by cases h⟩, fun j hj => ⟨fun x hx => (by cases hx), fun x hx => (by cases hx)⟩, below_alloc h1 _, Nat.le_refl _, Nat.le_succ _, by omega⟩
  · rw [e]
    exact blk_below (heap_alloc_new w _) (below_alloc (Below.refl _ _) _)
  · have h := heap_alloc_new (w.alloc (.cells #[.int .u32 0, .int .u64 0, .int .u32 0, .int .u64 0, .int .u32 0, .int .u64 0, .int .u32 0, .int .u64 0] 56)) (.cells #[.slice none 0 0, .slice none 0 0, .slice none 0 0, .slice none 0 0] 59)
    rw [World.size_alloc] at h
    exact h
set_option maxHeartbeats 4000000 in
set_option maxRecDepth 100000 in
theorem colonnadelaw06_CheckStreams.ck (A0 : Option Addr) (c0 : Nat) (l0 : List S61) (w : World) (hr0 : Kd.C k61 w A0 l0.length l0) (hc0 : l0.length ≤ c0) (hb0 : ∀ x ∈ l0, colonnadelaw06_CheckStreams.bytes x.f3) (hl0 : l0.length ≤ 1048576)
    (K : Nat) (hK : ∀ b, colonnadelaw06_CheckStreams.bytes b → b.length ≤ 1048576 → colonnaderef06_Sum.f K b = some (colonnadelaw06_CheckStreams.crc b)) (ht0 : ∀ i, colonnadelaw06_CheckStreams.tot (l0.take i) ≤ 1048576) :
    Calls Try.prog 14 #[.slice A0 l0.length c0] w fun e w' => e = .returned (.bool true) ∧ Below w.heap.size w w' := by
  have HR0 := Aside0.mk hr0
  clear hr0
  go_enter Try.func14, Try.ntmps14
  go_wp2_with fail
  have HS0 := Aside0.mk (colonnadelaw06_CheckStreams.start w)
  generalize ((w.alloc (.cells #[.int .u32 0, .int .u64 0, .int .u32 0, .int .u64 0, .int .u32 0, .int .u64 0, .int .u32 0, .int .u64 0] 56)).alloc (.cells #[.slice none 0 0, .slice none 0 0, .slice none 0 0, .slice none 0 0] 59)) = W0 at HS0 ⊢
  have HG : Aside0 (w.heap.size + 1 ≠ w.heap.size) := ⟨by omega⟩
  (try simp only [add_plain])
  go_loopg [5] (l0.length + 1) (fun kq v5 w' => ∃ (i : Nat) (b : Nat → List Int) (A : Nat → Option Addr) (c : Nat → Nat), i ≤ l0.length ∧ Aside0 (kq + i = l0.length + 1) ∧ v5 = .int .i64 (i : Int) ∧ Aside0 (colonnadelaw06_CheckStreams.St w w' w.heap.size (w.heap.size + 1) b b A c) ∧ Aside0 (∀ j, j < 4 → (b j).length ≤ colonnadelaw06_CheckStreams.tot (l0.take i)))
  case atStart => exact ⟨0, _, _, _, Nat.zero_le _, ⟨by omega⟩, rfl, HS0, ⟨fun j hj => Nat.zero_le _⟩⟩
  case round =>
    clear HS0
    obtain ⟨i, b, A, c, hi, HKq, rfl, HS, HT⟩ := hrel
    by_cases hlt : i < l0.length
    · have hd : decide ((i : Int) < (l0.length : Int)) = true := decide_eq_true (by omega)
      obtain ⟨k1, rfl⟩ : ∃ k1, gk = k1 + 1 := ⟨gk - 1, by have := HKq.out; omega⟩
      obtain ⟨ad, Ap, cp, e0, hx0, hx1, hx2, hx3, hcp, hp⟩ := at_T61 HR0.out (i : Int) (by omega) (by omega)
      cases e0
      rw [Int.toNat_natCast] at hx0 hx1 hx2 hx3
      have hrd : rd_T61 l0 (i : Int) = l0[i] := by unfold rd_T61; simp [hlt]
      rw [hrd] at hx0 hx1 hx2 hx3 hcp hp
      have hmem := hb0 _ (List.getElem_mem hlt)
      have hnx : colonnadelaw06_CheckStreams.tot (l0.take (i + 1)) = colonnadelaw06_CheckStreams.tot (l0.take i) + l0[i].f3.length := by unfold colonnadelaw06_CheckStreams.tot; rw [List.take_succ_eq_append_getElem hlt, List.map_append, List.sum_append]; rfl
      have hT := ht0 (i + 1)
      generalize hpi : l0[i] = p at hx0 hx1 hx2 hx3 hcp hp hmem hnx
      obtain ⟨kind, at_, to_, X⟩ := p
      dsimp only at hx0 hx1 hx2 hx3 hcp hp hmem hnx
      have HP := Aside0.mk hp
      have HX : Aside0 _ := ⟨And.intro hx0 (And.intro hx1 (And.intro hx2 hx3))⟩
      have g0 := (HS.out.below.cell (World.block_lt_of_cell? w _ hx0)).trans hx0
      have g1 := (HS.out.below.cell (World.block_lt_of_cell? w _ hx1)).trans hx1
      have g2 := (HS.out.below.cell (World.block_lt_of_cell? w _ hx2)).trans hx2
      have g3 := (HS.out.below.cell (World.block_lt_of_cell? w _ hx3)).trans hx3
      clear hx0 hx1 hx2 hx3 hp
      have HB0 : Aside0 (Below wr.heap.size wr (wr.alloc (.cells #[.int .i64 kind, .int .i64 at_, .int .i64 to_, .slice Ap X.length cp] 61))) := ⟨below_alloc (Below.refl _ _) _⟩
      have HBX : Aside0 ((wr.alloc (.cells #[.int .i64 kind, .int .i64 at_, .int .i64 to_, .slice Ap X.length cp] 61)).heap[wr.heap.size]? = some (.cells #[.int .i64 kind, .int .i64 at_, .int .i64 to_, .slice Ap X.length cp] 61 (0, 0))) := ⟨heap_alloc_new wr _⟩
      have HS1 := Aside0.mk (HS.out.then_ HB0.out)
      have HBW := Aside0.mk HS1.out.below
      go_wp2_with fail
      refine (colonnadelaw06_CheckStreams.four _ _).mono ?_
      rintro e wx ⟨rfl, rfl⟩
      have hk := colonnadelaw06_CheckStreams.at4_lt at_
      generalize hkk : colonnadelaw06_CheckStreams.at4 at_ = k at hk ⊢
      generalize wr.alloc (.cells #[.int .i64 kind, .int .i64 at_, .int .i64 to_, .slice Ap X.length cp] 61) = wx at HBX HS1 HBW ⊢
      have HWL := Aside0.mk (blk_lt HBX.out)
      have HL := Aside0.mk HS1.out.lim
      have HXW := Aside0.mk (Kd.C_below HP.out HBW.out)
      have HBG : Aside0 (w.heap.size < wr.heap.size ∧ w.heap.size + 1 < wr.heap.size) := ⟨HS.out.lim.1, HS.out.lim.2.1⟩
      clear HB0 HS g0 g1 g2 g3
      generalize wr.heap.size = bx at HBX HWL HBG ⊢
      have g0 := blk_cell HBX.out 0
      have g1 := blk_cell HBX.out 1
      have g2 := blk_cell HBX.out 2
      have g3 := blk_cell HBX.out 3
      simp only [List.getElem?_toArray, List.getElem?_cons_zero, List.getElem?_cons_succ] at g0 g1 g2 g3
      by_cases h0 : kind = 0
      · have d0 : (kind == 0) = true := by rw [h0]; rfl
        go_wp2_with fail
        refine (colonnadelaw06_twin.calls Ap cp X X wx HXW.out hcp (by unfold colonnadelaw06_twin.f; rw [if_pos (by rw [List.length_nil]; omega), List.nil_append])).mono ?_
        rintro e w2 ⟨v2, rfl, hR, hb⟩
        obtain ⟨Ao, co, rfl⟩ := Kd.R_slice hR
        have HR2 := Aside0.mk hR
        have HB2 := Aside0.mk hb
        have HS2 := Aside0.mk (HS1.out.then_ hb)
        obtain ⟨q0, q1, q2, q3, q4, q5⟩ := HS2.out.cell hk
        clear hR hb
        have hbk := (HS2.out.by_ k hk).1
        have hlk := HT.out k hk
        go_wp2_with fail
        refine (colonnadelaw06_CheckStreams.swrite w.heap.size (k * 2) (colonnadelaw06_CheckStreams.crc (b k)) ((b k).length : Int) (colonnadelaw06_CheckStreams.crc (b k ++ X)) Ao co X w2 q0 q1 q2 q3 (Kd.R_reads' HR2.out).2.2 (Kd.R_reads' HR2.out).2.1 (colonnadelaw06_CheckStreams.more_crc _ _ hmem)).mono ?_
        rintro e w3 ⟨rfl, w2', hb, rfl⟩
        have hw3 : IntKind.u64.wrap (((b k).length : Int) + IntKind.u64.wrap (X.length : Int)) = ((b k ++ X).length : Int) := by
          rw [IntKind.wrap_u64, IntKind.wrap_u64, List.length_append]
          omega
        rw [hw3]
        have hbX : colonnadelaw06_CheckStreams.bytes (b k ++ X) := fun x hx => (List.mem_append.mp hx).elim (hbk x) (hmem x)
        have HS3 := Aside0.mk ((HS2.out.then_ hb).setS hk (b k ++ X) hbX)
        have hgs : w.heap.size < wx.heap.size := HL.out.1
        have HB3 : Aside0 (Below wx.heap.size wx w2 ∧ ((w2'.setCell ⟨w.heap.size, k * 2, none⟩ (.int .u32 (colonnadelaw06_CheckStreams.crc (b k ++ X)))).setCell ⟨w.heap.size, k * 2 + 1, none⟩ (.int .u64 ((b k ++ X).length : Int))).heap[bx]? = some (.cells #[.int .i64 0, .int .i64 at_, .int .i64 to_, .slice Ap X.length cp] 61 (0, 0))) := ⟨HB2.out, by
          rw [h0] at HBX
          exact (Below.heap_setCell _ ⟨w.heap.size, k * 2 + 1, none⟩ _ bx (by have := HBG.out; show bx ≠ w.heap.size; omega)).trans ((Below.heap_setCell _ ⟨w.heap.size, k * 2, none⟩ _ bx (by have := HBG.out; show bx ≠ w.heap.size; omega)).trans ((hb.block bx (Nat.lt_of_lt_of_le HWL.out HB2.out.size)).trans ((HB2.out.block bx HWL.out).trans HBX.out)))⟩
        have HR3 : Aside0 (Kd.R (Kd.int .u8) 5 ((w2'.setCell ⟨w.heap.size, k * 2, none⟩ (.int .u32 (colonnadelaw06_CheckStreams.crc (b k ++ X)))).setCell ⟨w.heap.size, k * 2 + 1, none⟩ (.int .u64 ((b k ++ X).length : Int))) wx.heap.size (fun _ => True) (.slice Ao X.length co) X) := ⟨Kd.R_mono (ok' := fun _ => True) (Kd.R_far (Kd.R_far (ok := fun k => k ≠ w.heap.size) (Kd.R_mono (Kd.R_bound (Kd.R_below HR2.out hb)) (fun k hk => by have h1 := hk.2.1; show k ≠ w.heap.size; omega)) (fun k hk => hk) _) (fun k hk => hk) _) (fun _ _ => trivial)⟩
        have HN3 : Aside0 (wx.heap.size ≤ ((w2'.setCell ⟨w.heap.size, k * 2, none⟩ (.int .u32 (colonnadelaw06_CheckStreams.crc (b k ++ X)))).setCell ⟨w.heap.size, k * 2 + 1, none⟩ (.int .u64 ((b k ++ X).length : Int))).heap.size) := ⟨by have h1 := hb.size; have h2 := HB2.out.size; simp; omega⟩
        generalize (w2'.setCell ⟨w.heap.size, k * 2, none⟩ (.int .u32 (colonnadelaw06_CheckStreams.crc (b k ++ X)))).setCell ⟨w.heap.size, k * 2 + 1, none⟩ (.int .u64 ((b k ++ X).length : Int)) = w3 at HS3 HB3 HR3 HN3 ⊢
        clear q0 q1 q2 q3 q4 q5 hb HS2 HB2
        go_wp2_with fail
        (try simp only [add_plain])
        go_loopg [9] (X.length + 1) (fun kq v9 w' => ∃ (j : Nat) (lb : List Int), j ≤ X.length ∧ lb.length = X.length ∧ Aside0 (kq + j = X.length + 1) ∧ v9 = .int .i64 (j : Int) ∧ Aside0 (Below wx.heap.size w3 w') ∧ Aside0 (Kd.R (Kd.int .u8) 5 w' wx.heap.size (fun _ => True) (.slice Ao lb.length co) lb))
        case atStart => exact ⟨0, X, Nat.zero_le _, rfl, ⟨by omega⟩, rfl, ⟨Below.refl _ _⟩, HR3⟩
        case round =>
          clear HR3
          obtain ⟨j, lb, hj, hlb, HKj, rfl, HBj, HRj⟩ := hrel
          by_cases hjl : j < X.length
          · have hdj : decide ((j : Int) < (X.length : Int)) = true := decide_eq_true (by omega)
            obtain ⟨k2, rfl⟩ : ∃ k2, gk = k2 + 1 := ⟨gk - 1, by have := HKj.out; omega⟩
            obtain ⟨g, cg, hfe, hbg, hlg, _, _⟩ := Kd.R_form HRj.out (by omega)
            cases hfe
            obtain ⟨hx, hf⟩ := Kd.R_cell (0 : Int) HRj.out (j : Int) (by omega) (by omega)
            rw [Int.toNat_natCast] at hx hf
            go_wp2_with fail
            have hwj : IntKind.i64.wrap ((j : Int) + 1) = ((j + 1 : Nat) : Int) := by rw [i64_w]; unfold wrap64; omega
            go_roundg k2
            case measure => have := HKj.out; omega
            case rel =>
              have h := Kd.R_put HRj.out (j : Int) (Go.bits .xor .u8 (rdOf 0 lb (j : Int)) 85)
              rw [Int.toNat_natCast] at h
              exact ⟨j + 1, lb.set j (Go.bits .xor .u8 (rdOf 0 lb (j : Int)) 85), by omega, by rw [List.length_set, hlb], ⟨by have := HKj.out; omega⟩, congrArg (Value.int .i64) (by omega), ⟨HBj.out.setCell hbg _⟩, ⟨by rw [List.length_set]; exact h.1⟩⟩
          · obtain rfl : j = X.length := by omega
            have hdj : decide ((X.length : Int) < (X.length : Int)) = false := decide_eq_false (by omega)
            have HS4 := Aside0.mk (HS3.out.far HL.out.1 HL.out.2.1 HN3.out HL.out.2.2 HBj.out (by have := HS1.out.hs; omega))
            have HX4 : Aside0 (wr.heap[bx]? = some (.cells #[.int .i64 0, .int .i64 at_, .int .i64 to_, .slice Ap X.length cp] 61 (0, 0))) := ⟨(HBj.out.block bx HWL.out).trans HB3.out.2⟩
            have HXW4 := Aside0.mk (Kd.C_below HP.out HS4.out.below)
            obtain ⟨q0, q1, q2, q3, q4, q5⟩ := HS4.out.cell hk
            have r0 := blk_cell HX4.out 0
            have r1 := blk_cell HX4.out 1
            have r2 := blk_cell HX4.out 2
            have r3 := blk_cell HX4.out 3
            simp only [List.getElem?_toArray, List.getElem?_cons_zero, List.getElem?_cons_succ] at r0 r1 r2 r3
            clear HS3 HB3 HBj HRj g0 g1 g2 g3
            go_wp2_with fail
            have HCA := Aside0.mk (HS4.out.rd k hk)
            have hbX2 : colonnadelaw06_CheckStreams.bytes (b k ++ X) := hbX
            go_region_with (go_at_call 34; refine (colonnaderef06_Stream_Write.calls (A k) (c k) (b k) Ap cp X (b k ++ X) _ (Kd.C_below HCA.out.2.1 (below_drew1 (Below.refl _ _))) HCA.out.1 (Kd.C_below HXW4.out (below_drew1 (Below.refl _ _))) hcp (by unfold colonnaderef06_Stream_Write.f; rw [if_pos (by rw [List.length_nil]; omega), Option.bind_some, if_pos (by rw [List.nil_append]; omega), List.nil_append])).mono ?_; rintro e w5 ⟨v5, rfl, hR5, hb5⟩; obtain ⟨A5, c5, rfl⟩ := Kd.R_slice hR5; have q6 := (hb5.cell (p := ⟨w.heap.size + 1, k, none⟩) (World.block_lt_of_cell? _ _ q4)).trans q4; have q7 := (hb5.frozen (p := ⟨w.heap.size + 1, k, none⟩) (World.block_lt_of_cell? _ _ q4)).trans q5)
            all_goals (
              have HS5 := (HS4.out.then_ (below_drew1 (Below.refl _ _))).then_ hb5
              have hlen : (b k).length + X.length = (b k ++ X).length := List.length_append.symm
              have hfar : ∀ ad', A5 = some ad' → 0 < (b k ++ X).length → ad'.block ≠ w.heap.size ∧ ad'.block ≠ w.heap.size + 1 := by
                intro ad' e1 e2
                obtain ⟨g, cg, hfe, hbg, _⟩ := Kd.R_form hR5 e2
                rw [e1] at hfe
                injection hfe with hfe
                injection hfe with hfe
                rw [hfe]
                have h1 : w.heap.size < wr.heap.size := HS4.out.lim.1
                have h2 : w.heap.size + 1 < wr.heap.size := HS4.out.lim.2.1
                have h3 : wr.heap.size ≤ g := hbg
                constructor <;> (show g ≠ _; omega)
              have HS6 : Aside0 (colonnadelaw06_CheckStreams.St w (w5.setCell ⟨w.heap.size + 1, k, none⟩ (.slice A5 ((b k).length + X.length) c5)) w.heap.size (w.heap.size + 1) (colonnadelaw06_CheckStreams.upd b k (b k ++ X)) (colonnadelaw06_CheckStreams.upd b k (b k ++ X)) (colonnadelaw06_CheckStreams.upd A k A5) (colonnadelaw06_CheckStreams.upd c k c5)) := ⟨by rw [hlen]; exact HS5.setW hk A5 c5 (b k ++ X) hbX (Kd.R_reads' hR5).2.1 (Kd.R_reads' hR5).2.2 hfar⟩
              clear HS5 hR5 hb5 hlen hfar q0 q1 q2 q3 q4 q5 q6 q7 r0 r1 r2 r3
              have hwi : IntKind.i64.wrap ((i : Int) + 1) = ((i + 1 : Nat) : Int) := by rw [i64_w]; unfold wrap64; omega
              go_wp2_with fail
              go_roundg k1
              case measure => have := HKq.out; omega
              case rel => exact ⟨i + 1, colonnadelaw06_CheckStreams.upd b k (b k ++ X), colonnadelaw06_CheckStreams.upd A k A5, colonnadelaw06_CheckStreams.upd c k c5, by omega, ⟨by have := HKq.out; omega⟩, congrArg (Value.int .i64) (by omega), HS6, ⟨colonnadelaw06_CheckStreams.upd_le b k (b k ++ X) _ (fun j hj => by have := HT.out j hj; omega) (by rw [List.length_append]; omega)⟩⟩)
      · have d0 : (kind == 0) = false := beq_eq_false_iff_ne.mpr h0
        by_cases h1 : kind = 1
        · have d1 : (kind == 1) = true := by rw [h1]; rfl
          obtain ⟨q0, q1, q2, q3, q4, q5⟩ := HS1.out.cell hk
          have hbk := (HS1.out.by_ k hk).1
          have hlk := HT.out k hk
          have hT0 := ht0 i
          have HCA := Aside0.mk (HS1.out.rd k hk)
          have hne : (colonnadelaw06_CheckStreams.crc (b k) != colonnadelaw06_CheckStreams.crc (b k)) = false := bne_self_eq_false _
          go_wp2_with fail
          go_region_with (first
            | (go_at_call 29; refine (colonnadelaw06_CheckStreams.ssum w.heap.size (k * 2) (colonnadelaw06_CheckStreams.crc (b k)) 0 _ (by first | exact q0 | exact q8)).mono ?_; rintro e wy ⟨rfl, rfl⟩)
            | (go_at_call 15; refine (colonnaderef06_Sum.calls K (A k) (c k) (b k) _ _ (Kd.C_below HCA.out.2.1 (below_drew1 (Below.refl _ _))) HCA.out.1 (hK _ hbk (by omega))).mono ?_; rintro e w5 ⟨rfl, hb5⟩; have q8 := (hb5.cell (p := ⟨w.heap.size, k * 2, none⟩) (World.block_lt_of_cell? _ _ q0)).trans q0; have HB5 := Aside0.mk hb5; clear hb5))
          all_goals (
            simp only [Act.put, List.getElem_toArray, List.getElem_cons_succ, List.getElem_cons_zero, List.setIfInBounds_toArray, List.set_cons_zero, List.set_cons_succ]
            have HS6 := Aside0.mk ((HS1.out.then_ (below_drew1 (Below.refl _ _))).then_ HB5.out)
            clear q0 q1 q2 q3 q4 q5 HS1 HB5
            (try clear q8)
            have hwi : IntKind.i64.wrap ((i : Int) + 1) = ((i + 1 : Nat) : Int) := by rw [i64_w]; unfold wrap64; omega
            go_wp2_with fail
            go_roundg k1
            case measure => have := HKq.out; omega
            case rel => exact ⟨i + 1, b, A, c, by omega, ⟨by have := HKq.out; omega⟩, congrArg (Value.int .i64) (by omega), HS6, ⟨fun j hj => by have := HT.out j hj; omega⟩⟩)
        · have d1 : (kind == 1) = false := beq_eq_false_iff_ne.mpr h1
          by_cases h2 : kind = 2
          · have d2 : (kind == 2) = true := by rw [h2]; rfl
            obtain ⟨q0, q1, q2, q3, q4, q5⟩ := HS1.out.cell hk
            have hlk := HT.out k hk
            have hT0 := ht0 i
            have hw : IntKind.u64.wrap ((b k).length : Int) = ((b k).length : Int) := by rw [IntKind.wrap_u64]; omega
            have hne : (((b k).length : Int) != ((b k).length : Int)) = false := bne_self_eq_false _
            go_wp2_with fail
            go_region_with (go_at_call 31; refine (colonnadelaw06_CheckStreams.slen w.heap.size (k * 2) ((b k).length : Int) _ (by exact q1)).mono ?_; rintro e wy ⟨rfl, rfl⟩)
            all_goals (
              simp only [Act.put, List.getElem_toArray, List.getElem_cons_succ, List.getElem_cons_zero, List.setIfInBounds_toArray, List.set_cons_zero, List.set_cons_succ]
              have HS6 := Aside0.mk (HS1.out.then_ (below_drew1 (Below.refl _ _)))
              clear q0 q1 q2 q3 q4 q5 HS1
              have hwi : IntKind.i64.wrap ((i : Int) + 1) = ((i + 1 : Nat) : Int) := by rw [i64_w]; unfold wrap64; omega
              go_wp2_with fail
              go_roundg k1
              case measure => have := HKq.out; omega
              case rel => exact ⟨i + 1, b, A, c, by omega, ⟨by have := HKq.out; omega⟩, congrArg (Value.int .i64) (by omega), HS6, ⟨fun j hj => by have := HT.out j hj; omega⟩⟩)
          · have d2 : (kind == 2) = false := beq_eq_false_iff_ne.mpr h2
            by_cases h3 : kind = 3
            · have d3 : (kind == 3) = true := by rw [h3]; rfl
              obtain ⟨q0, q1, q2, q3, q4, q5⟩ := HS1.out.cell hk
              have hu58 := Try.underlying58
              have HS2 : Aside0 (colonnadelaw06_CheckStreams.St w ((wx.setCell ⟨w.heap.size, k * 2, none⟩ (.int .u32 0)).setCell ⟨w.heap.size, k * 2 + 1, none⟩ (.int .u64 0)) w.heap.size (w.heap.size + 1) (colonnadelaw06_CheckStreams.upd b k []) b A c) := ⟨by
                have h := HS1.out.setS hk [] (fun x hx => by cases hx)
                rw [colonnadelaw06_CheckStreams.crc_nil] at h
                exact h⟩
              obtain ⟨s0, s1, s2, s3, s4, s5⟩ := HS2.out.cell hk
              have HS3 := Aside0.mk (HS2.out.setW hk none 0 [] (fun x hx => by cases hx) (Nat.le_refl _) (Kd.C_nil _ _) (fun ad h => by cases h))
              go_wp2_with fail
              refine (colonnadelaw06_CheckStreams.sreset w.heap.size (k * 2) (colonnadelaw06_CheckStreams.crc (b k)) ((b k).length : Int) _ q0 q1 q2 q3).mono ?_
              rintro e w2 ⟨rfl, rfl⟩
              clear q0 q1 q2 q3 q4 q5
              go_wp2_with fail
              have hwi : IntKind.i64.wrap ((i : Int) + 1) = ((i + 1 : Nat) : Int) := by rw [i64_w]; unfold wrap64; omega
              go_roundg k1
              case measure => have := HKq.out; omega
              case rel => exact ⟨i + 1, colonnadelaw06_CheckStreams.upd b k [], colonnadelaw06_CheckStreams.upd A k none, colonnadelaw06_CheckStreams.upd c k 0, by omega, ⟨by have := HKq.out; omega⟩, congrArg (Value.int .i64) (by omega), HS3, ⟨colonnadelaw06_CheckStreams.upd_le b k [] _ (fun j hj => by have := HT.out j hj; omega) (Nat.zero_le _)⟩⟩
            · have d3 : (kind == 3) = false := beq_eq_false_iff_ne.mpr h3
              by_cases h4 : kind = 4
              · have d4 : (kind == 4) = true := by rw [h4]; rfl
                have ht := colonnadelaw06_CheckStreams.at4_lt to_
                have hfour : ∀ W, Calls Try.prog 33 #[.int .i64 to_] W fun e W' => e = .returned (.int .i64 (colonnadelaw06_CheckStreams.at4 to_ : Int)) ∧ W' = W := colonnadelaw06_CheckStreams.four to_
                generalize colonnadelaw06_CheckStreams.at4 to_ = t at ht hfour
                obtain ⟨q0, q1, q2, q3, q4, q5⟩ := HS1.out.cell hk
                obtain ⟨s0, s1, s2, s3, s4, s5⟩ := HS1.out.cell ht
                have hbk := (HS1.out.by_ k hk).1
                have HCA := Aside0.mk (HS1.out.rd k hk)
                have hlk := HT.out k hk
                go_wp2_with fail
                have HBX4 := HBX
                rw [h4] at HBX4
                go_cut [7] from 11 to 110 (fun s7 wq => s7 = .int .i64 (k : Int) ∧ Aside0 (colonnadelaw06_CheckStreams.St w wq w.heap.size (w.heap.size + 1) (colonnadelaw06_CheckStreams.upd b t (b k)) b A c) ∧ Aside0 (wq.heap[bx]? = some (.cells #[.int .i64 4, .int .i64 at_, .int .i64 to_, .slice Ap X.length cp] 61 (0, 0))))
                case first =>
                  go_region_with (go_at_call 33; refine (hfour _).mono ?_; rintro e wy ⟨rfl, rfl⟩)
                  all_goals (
                    go_wp2_with fail
                    go_meet
                    exact ⟨rfl, ⟨(HS1.out.then_ (below_drew1 (Below.refl _ _))).setS ht (b k) hbk⟩, ⟨(Below.heap_setCell _ ⟨w.heap.size, t * 2 + 1, none⟩ _ bx (by have := HBG.out; show bx ≠ w.heap.size; omega)).trans ((Below.heap_setCell _ ⟨w.heap.size, t * 2, none⟩ _ bx (by have := HBG.out; show bx ≠ w.heap.size; omega)).trans HBX4.out)⟩⟩)
                case rest =>
                  obtain ⟨rfl, HS2, HX2⟩ := hcut
                  clear q0 q1 q2 q3 q4 q5 s0 s1 s2 s3 s4 s5 g0 g1 g2 g3 HS1
                  obtain ⟨q0, q1, q2, q3, q4, q5⟩ := HS2.out.cell hk
                  obtain ⟨s0, s1, s2, s3, s4, s5⟩ := HS2.out.cell ht
                  have HCA2 := Aside0.mk (HS2.out.rd k hk)
                  have hbk2 := (HS2.out.by_ k hk).2
                  have r0 := blk_cell HX2.out 0
                  have r1 := blk_cell HX2.out 1
                  have r2 := blk_cell HX2.out 2
                  have r3 := blk_cell HX2.out 3
                  simp only [List.getElem?_toArray, List.getElem?_cons_zero, List.getElem?_cons_succ] at r0 r1 r2 r3
                  go_wp2_with fail
                  go_region_with (go_at_call 33; refine (hfour _).mono ?_; rintro e wy ⟨rfl, rfl⟩)
                  all_goals (
                    have HS3 := Aside0.mk ((HS2.out.then_ (below_drew1 (Below.refl _ _))).setW ht (A k) (c k) (b k) hbk2 HCA2.out.1 (Kd.C_below HCA2.out.2.1 (below_drew1 (Below.refl _ _))) HCA2.out.2.2)
                    clear q0 q1 q2 q3 q4 q5 s0 s1 s2 s3 s4 s5 r0 r1 r2 r3 HS2
                    have hwi : IntKind.i64.wrap ((i : Int) + 1) = ((i + 1 : Nat) : Int) := by rw [i64_w]; unfold wrap64; omega
                    go_wp2_with fail
                    go_roundg k1
                    case measure => have := HKq.out; omega
                    case rel => exact ⟨i + 1, colonnadelaw06_CheckStreams.upd b t (b k), colonnadelaw06_CheckStreams.upd A t (A k), colonnadelaw06_CheckStreams.upd c t (c k), by omega, ⟨by have := HKq.out; omega⟩, congrArg (Value.int .i64) (by omega), HS3, ⟨colonnadelaw06_CheckStreams.upd_le b t (b k) _ (fun j hj => by have := HT.out j hj; omega) (by omega)⟩⟩)
              · have d4 : (kind == 4) = false := beq_eq_false_iff_ne.mpr h4
                by_cases h5 : kind = 5
                · have d5 : (kind == 5) = true := by rw [h5]; rfl
                  go_wp2_with fail
                  refine (colonnadelaw06_twin.calls Ap cp X X wx HXW.out hcp (by unfold colonnadelaw06_twin.f; rw [if_pos (by rw [List.length_nil]; omega), List.nil_append])).mono ?_
                  rintro e w2 ⟨v2, rfl, hR, hb⟩
                  have HS2 := Aside0.mk (HS1.out.then_ hb)
                  clear hR hb HS1
                  go_wp2_with fail
                  refine (colonnadelaw06_CheckStreams.no v2 _).mono ?_
                  rintro e w3 ⟨rfl, rfl⟩
                  go_wp2_with fail
                  have hwi : IntKind.i64.wrap ((i : Int) + 1) = ((i + 1 : Nat) : Int) := by rw [i64_w]; unfold wrap64; omega
                  go_roundg k1
                  case measure => have := HKq.out; omega
                  case rel => exact ⟨i + 1, b, A, c, by omega, ⟨by have := HKq.out; omega⟩, congrArg (Value.int .i64) (by omega), HS2, ⟨fun j hj => by have := HT.out j hj; omega⟩⟩
                · have d5 : (kind == 5) = false := beq_eq_false_iff_ne.mpr h5
                  go_wp2_with fail
                  have hwi : IntKind.i64.wrap ((i : Int) + 1) = ((i + 1 : Nat) : Int) := by rw [i64_w]; unfold wrap64; omega
                  go_roundg k1
                  case measure => have := HKq.out; omega
                  case rel => exact ⟨i + 1, b, A, c, by omega, ⟨by have := HKq.out; omega⟩, congrArg (Value.int .i64) (by omega), HS1, ⟨fun j hj => by have := HT.out j hj; omega⟩⟩
    · obtain rfl : i = l0.length := by omega
      have hd : decide ((l0.length : Int) < (l0.length : Int)) = false := decide_eq_false (by omega)
      have hT0 := ht0 l0.length
      go_wp2_with fail
      (try simp only [add_plain])
      go_loopg [10] 5 (fun kq v10 w' => ∃ k : Nat, k ≤ 4 ∧ Aside0 (kq + k = 5) ∧ v10 = .int .i64 (k : Int) ∧ Aside0 (colonnadelaw06_CheckStreams.St w w' w.heap.size (w.heap.size + 1) b b A c))
      case atStart => exact ⟨0, Nat.zero_le _, ⟨rfl⟩, rfl, HS⟩
      case round =>
        clear HS
        obtain ⟨k, hk4, HK4, rfl, HS⟩ := hrel
        by_cases hk : k < 4
        · have hdk : decide ((k : Int) < 4) = true := decide_eq_true (by omega)
          have hk0 : (0 : Int) ≤ (k : Int) := by omega
          have hk1 : (k : Int) < 4 := by omega
          obtain ⟨k2, rfl⟩ : ∃ k2, gk = k2 + 1 := ⟨gk - 1, by have := HK4.out; omega⟩
          obtain ⟨q0, q1, q2, q3, q4, q5⟩ := HS.out.cell hk
          have hbk := (HS.out.by_ k hk).1
          have hlk := HT.out k hk
          have HCA := Aside0.mk (HS.out.rd k hk)
          have hne : (colonnadelaw06_CheckStreams.crc (b k) != colonnadelaw06_CheckStreams.crc (b k)) = false := bne_self_eq_false _
          have hw : IntKind.u64.wrap ((b k).length : Int) = ((b k).length : Int) := by rw [IntKind.wrap_u64]; omega
          have hnl : (((b k).length : Int) != ((b k).length : Int)) = false := bne_self_eq_false _
          go_wp2_with fail
          go_region_held3 (fun w' => w'.cell? ⟨w.heap.size, k * 2, none⟩ = some (.int .u32 (colonnadelaw06_CheckStreams.crc (b k))) ∧ w'.cell? ⟨w.heap.size, k * 2 + 1, none⟩ = some (.int .u64 ((b k).length : Int)) ∧ w'.cell? ⟨w.heap.size + 1, k, none⟩ = some (.slice (A k) (b k).length (c k))) (first | exact ⟨q0, q1, q4⟩ | exact ⟨q6, q8, q9⟩ | go_keep)
            (first
              | (go_at_call 29; refine (colonnadelaw06_CheckStreams.ssum w.heap.size (k * 2) (colonnadelaw06_CheckStreams.crc (b k)) 0 _ (by exact q0)).mono ?_; rintro e wy ⟨rfl, rfl⟩)
              | (go_at_call 31; refine (colonnadelaw06_CheckStreams.slen w.heap.size (k * 2) ((b k).length : Int) _ (by exact q8)).mono ?_; rintro e wy ⟨rfl, rfl⟩)
              | (go_at_call 15; refine (colonnaderef06_Sum.calls K (A k) (c k) (b k) _ _ (Kd.C_below HCA.out.2.1 (below_drew1 (Below.refl _ _))) HCA.out.1 (hK _ hbk (by omega))).mono ?_; rintro e w5 ⟨rfl, hb5⟩; have q6 := (hb5.cell (p := ⟨w.heap.size, k * 2, none⟩) (World.block_lt_of_cell? _ _ q0)).trans q0; have q8 := (hb5.cell (p := ⟨w.heap.size, k * 2 + 1, none⟩) (World.block_lt_of_cell? _ _ q1)).trans q1; have q9 := (hb5.cell (p := ⟨w.heap.size + 1, k, none⟩) (World.block_lt_of_cell? _ _ q4)).trans q4; have HB5 := Aside0.mk hb5; clear hb5))
          all_goals (
            have HS6 := Aside0.mk ((HS.out.then_ (below_drew1 (Below.refl _ _))).then_ HB5.out)
            clear q0 q1 q2 q3 q4 q5 q6 q8 q9 HS HB5
            have hwi : IntKind.i64.wrap ((k : Int) + 1) = ((k + 1 : Nat) : Int) := by rw [i64_w]; unfold wrap64; omega
            go_wp2_with fail
            go_roundg k2
            case measure => have := HK4.out; omega
            case rel => exact ⟨k + 1, by omega, ⟨by have := HK4.out; omega⟩, congrArg (Value.int .i64) (by omega), HS6⟩)
        · obtain rfl : k = 4 := by omega
          have hdk : decide (((4 : Nat) : Int) < 4) = false := decide_eq_false (by omega)
          go_wp2_with fail
          refine (colonnadelaw06_known.calls true _ rfl).mono ?_
          rintro e w7 ⟨rfl, hb⟩
          have HB7 := Aside0.mk ((HS.out.then_ hb).below)
          clear hb
          go_wp2_with fail
          go_ret
          exact ⟨rfl, HB7.out⟩
theorem colonnadelaw06_CheckStreams.tot_take (l : List S61) (i : Nat) : colonnadelaw06_CheckStreams.tot (l.take i) ≤ colonnadelaw06_CheckStreams.tot l := by
  have e : colonnadelaw06_CheckStreams.tot l = colonnadelaw06_CheckStreams.tot (l.take i) + colonnadelaw06_CheckStreams.tot (l.drop i) := by unfold colonnadelaw06_CheckStreams.tot; rw [← List.sum_append, ← List.map_append, List.take_append_drop]
  omega
open Classical in
noncomputable def colonnadelaw06_CheckStreams.f (K : Nat) (l0 : List S61) : Option (Bool) := if (∀ x ∈ l0, colonnadelaw06_CheckStreams.bytes x.f3) ∧ l0.length ≤ 1048576 ∧ colonnadelaw06_CheckStreams.tot l0 ≤ 1048576 ∧ (∀ b, colonnadelaw06_CheckStreams.bytes b → b.length ≤ 1048576 → colonnaderef06_Sum.f K b = some (colonnadelaw06_CheckStreams.crc b)) then some true else none
theorem colonnadelaw06_CheckStreams.calls (K : Nat) (A0 : Option Addr) (c0 : Nat) (l0 : List S61) (r : Bool) (w : World) (hr0 : Kd.C k61 w A0 l0.length l0) (hc0 : l0.length ≤ c0) (h : colonnadelaw06_CheckStreams.f K l0 = some r) :
    Calls Try.prog 14 #[.slice A0 l0.length c0] w fun e w' => e = .returned (.bool r) ∧ Below w.heap.size w w' := by
  unfold colonnadelaw06_CheckStreams.f at h
  by_cases hc : (∀ x ∈ l0, colonnadelaw06_CheckStreams.bytes x.f3) ∧ l0.length ≤ 1048576 ∧ colonnadelaw06_CheckStreams.tot l0 ≤ 1048576 ∧ (∀ b, colonnadelaw06_CheckStreams.bytes b → b.length ≤ 1048576 → colonnaderef06_Sum.f K b = some (colonnadelaw06_CheckStreams.crc b))
  · rw [if_pos hc] at h
    obtain rfl := Option.some.inj h
    exact colonnadelaw06_CheckStreams.ck A0 c0 l0 w hr0 hc0 hc.1 hc.2.1 K hc.2.2.2 (fun i => Nat.le_trans (colonnadelaw06_CheckStreams.tot_take l0 i) hc.2.2.1)
  · rw [if_neg hc] at h
    cases h

end Go.Proofs.Ytkepimkabfoapaa.PCheckStreams
