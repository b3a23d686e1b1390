/- Chapter 8's writers: the walks of plain.put (into a part of a row of one's own) and of plain.PutInts, each for every input. -/
import Derived.Test.YtlpllhpnnhablaaProg
import Derived.Test.YtlpllhpnnhablaaSDictLimitsWMore
import Derived.Test.YtlpllhpnnhablaaSDictLimitsWLast
import Derived.Test.YtlpllhpnnhablaaSDictLimitsWQPut
import Derived.Deep.LoopGhost
import Derived.KernelRfl
import Derived.IntWalk
import Derived.Laws.CopyOwn
import Derived.Lib.BufferWrite
import Derived.OwnWalk
import Derived.Lib.AppendStr
namespace Go.Proofs.Ytlpllhpnnhablaa.XPlain
open Go.RowKit Go.Proofs.YtlpllhpnnhablaaW.PrintWords Go.Proofs.YtlpllhpnnhablaaW.PrintLast Go.Proofs.YtlpllhpnnhablaaW.PrintMore

/-- a cut with the capacity that it is long -/
theorem print_mid3_of {α : Type} {P : Program} (enc : α → Value) (d : α) (t e : TypeId) (kl kh : IntKind) {i : TypeInfo} (ht : P.underlying t = some (.slice e)) (hi : P.info? e = some i) (hsz : i.size = 1) (A : Option Addr) (c : Nat) (xs : List α) (a b : Int) (h0 : 0 ≤ a) (h1 : a ≤ b) (hm : b ≤ xs.length) (hc : xs.length ≤ c) :
    ∃ A' : Option Addr, (∀ W : World, (Instr.slice t (.slice A xs.length c) (some (.int kl a)) (some (.int kh b)) (some (.int kh b))).run P W = .ok (.slice A' ((xs.take b.toNat).drop a.toNat).length (b.toNat - a.toNat)) W) ∧
      (∀ w : World, ReadsOf enc d w A xs.length xs → ReadsOf enc d w A' ((xs.take b.toNat).drop a.toNat).length ((xs.take b.toNat).drop a.toNat)) ∧ ((xs.take b.toNat).drop a.toNat).length ≤ b.toNat - a.toNat := by
  have hlt : (xs.take b.toNat).length = b.toNat := by rw [List.length_take]; omega
  have hl : ((xs.take b.toNat).drop a.toNat).length = b.toNat - a.toNat := by rw [List.length_drop, hlt]
  refine ⟨if b.toNat = a.toNat then A else A.map (·.add a.toNat), fun W => ?_, fun w h => ?_, by rw [hl]; omega⟩
  · have hel : P.elem t = e := by simp [Program.elem, ht]
    have hu : P.underlying t = some (.slice (P.elem t)) := by rw [hel]; exact ht
    rw [run_slice_lhm W t A xs.length c hu kl kh kh a b b h0 h1 (by omega) (by omega), hel, hl]
    simp [sizeOf, typeInfo, hi, hsz, sliced, Result.andThen]
  · have h2 := (h.take_ b.toNat (by omega)).drop_ (c := b.toNat) a.toNat (by omega) (by omega)
    rw [hl]
    exact h2

/-- n bytes of v, the lowest first, from place off on -/
def putL (L : List Int) (off : Nat) (v : Int) : Nat → List Int
  | 0 => L
  | n + 1 => (putL L off v n).set (off + n) (v / 2 ^ (8 * n) % 256)
theorem putL_length (L : List Int) (off : Nat) (v : Int) : ∀ n, (putL L off v n).length = L.length
  | 0 => rfl
  | n + 1 => by rw [putL, List.length_set, putL_length L off v n]

set_option maxHeartbeats 4000000 in
set_option maxRecDepth 100000 in
theorem put_seg (L : List Int) (v : Int) (g off n c cap : Nat) (P0 : Nat → Prop) (w0 w : World) (hv : 0 ≤ v ∧ v < 18446744073709551616) (hn : n ≤ 8) (hf : off + n ≤ L.length) (hL : L.length ≤ 9223372036854775807)
    (hB : Below w0.heap.size w0 w) (hg0 : w0.heap.size ≤ g) (ho : Kd.R (Kd.int .u8) 5 w w0.heap.size P0 (.slice (some ⟨g, 0, none⟩) L.length cap) L) :
    Calls Try.prog 104 #[.slice (some ⟨g, off, none⟩) n c, .int .u64 v] w fun e w' => e = .returned (.tuple #[]) ∧ Kd.R (Kd.int .u8) 5 w' w0.heap.size P0 (.slice (some ⟨g, 0, none⟩) L.length cap) (putL L off v n) ∧ Below w0.heap.size w0 w' := by
  have HO := Aside0.mk ho
  have HB := Aside0.mk hB
  have HV := Aside0.mk hv
  clear ho hB hv
  go_enter Try.func104, Try.ntmps104
  go_wp2
  go_loopg [7] (n + 1) (fun kq v7 w' => ∃ i : Nat, i ≤ n ∧ Aside0 (kq + i = n + 1) ∧ v7 = .int .i64 (i : Int) ∧ Aside0 (Kd.R (Kd.int .u8) 5 w' w0.heap.size P0 (.slice (some ⟨g, 0, none⟩) L.length cap) (putL L off v i)) ∧ Aside0 (Below w0.heap.size w0 w'))
  case atStart => exact ⟨0, by omega, ⟨by omega⟩, rfl, HO, HB⟩
  case round =>
    clear HO HB
    obtain ⟨i, hi, HK, rfl, HO, HB⟩ := hrel
    have hlp := putL_length L off v i
    by_cases hlt : i < n
    · have hd : decide ((i : Int) < (n : Int)) = true := decide_eq_true (by omega)
      obtain ⟨k1, rfl⟩ : ∃ k1, gk = k1 + 1 := ⟨gk - 1, by have := HK.out; omega⟩
      have hmul : IntKind.i64.wrap (8 * (i : Int)) = 8 * (i : Int) := by rw [i64_w]; unfold wrap64; omega
      obtain ⟨b, hb⟩ : ∃ b, v / 2 ^ (8 * i) % 256 = b := ⟨_, rfl⟩
      have hadd : (⟨g, off, none⟩ : Addr).add i = ⟨g, off + i, none⟩ := by unfold Addr.add; split <;> simp_all
      obtain ⟨hx, hfz⟩ := Kd.R_celln 0 HO.out ((off + i : Nat) : Int) (by omega) (by omega)
      have HP := Kd.R_putg HO.out ((off + i : Nat) : Int) b
      rw [Int.toNat_natCast] at hx hfz HP
      have HB1 := Aside0.mk (below_set (j := off + i) (v := .int .u8 b) HB.out hg0)
      have HO1 := Aside0.mk HP.1
      have hs : (putL L off v i).set (off + i) b = putL L off v (i + 1) := by rw [putL, hb]
      rw [hs] at HO1
      clear HP hs
      go_wp2
      rw [hb]
      go_roundg k1
      case measure => have := HK.out; omega
      case rel => exact ⟨i + 1, by omega, ⟨by have := HK.out; omega⟩, congrArg (Value.int .i64) (by omega), HO1, HB1⟩
    · obtain rfl : i = n := by omega
      have hd : decide ((i : Int) < (i : Int)) = false := decide_eq_false (by omega)
      go_wp2
      first | go_end0 | ((try simp only [Exit.inBlock, Exit.then]); refine bodyPost_ret (results_none rfl _ _ _) rfl ?_)
      exact ⟨rfl, HO.out, HB.out⟩

theorem made_form {α : Type} {d : Kd α} {e : Nat} {w : World} {base : Nat} {ok : Nat → Prop} {v : Value} {xs : List α} (h : d.R e w base ok v xs) {b : Nat} (hb : v.ownBlock = some b) : ∃ g cap, v = .slice (some ⟨g, 0, none⟩) xs.length cap ∧ base ≤ g ∧ xs.length ≤ 9223372036854775807 := by
  obtain ⟨inner, ho⟩ := Kd.R_own h
  rcases ho.2 with ⟨rfl, _⟩ | ⟨g, cap, cur, rfl, hg, _, h1, h2, _⟩
  · simp [Value.ownBlock] at hb
  · exact ⟨g, cap, rfl, hg, Nat.le_trans h1 h2⟩
theorem info_u8 : (Try.prog.info? 5).map (fun i => (i.zero, i.size, i.bytes)) = some (some (.int .u8 0), 1, 1) := by kernel_rfl

/-- n bytes of v, the lowest first -/
def bytesN (v : Int) : Nat → List Int
  | 0 => []
  | n + 1 => bytesN v n ++ [v / 2 ^ (8 * n) % 256]
theorem bytesN_length (v : Int) : ∀ n, (bytesN v n).length = n
  | 0 => rfl
  | n + 1 => by rw [bytesN, List.length_append, bytesN_length v n]; rfl
theorem putL_seg (X Z : List Int) (v : Int) (off : Nat) (ho : off = X.length) : ∀ n, n ≤ Z.length → putL (X ++ Z) off v n = X ++ (bytesN v n ++ Z.drop n)
  | 0, _ => by simp [putL, bytesN]
  | n + 1, h => by
    have e : ∀ (A B : List Int) (b : Int) (m k : Nat), m = A.length + k → (A ++ B).set m b = A ++ B.set k b := by
      intro A B b m k hm
      subst hm
      rw [List.set_append_right _ _ (by omega), Nat.add_sub_cancel_left]
    rw [putL, putL_seg X Z v off ho n (by omega), e X _ _ _ n (by omega), e (bytesN v n) _ _ _ 0 (by rw [bytesN_length]; rfl),
      List.drop_eq_getElem_cons (by omega : n < Z.length), List.set_cons_zero, bytesN, List.append_assoc]
    rfl
def longs (l : List Int) : List Int := l.flatMap fun x => bytesN (x % 18446744073709551616) 8
theorem longs_length (l : List Int) : (longs l).length = 8 * l.length := by
  induction l with
  | nil => rfl
  | cons a l ih => unfold longs at ih ⊢; rw [List.flatMap_cons, List.length_append, ih, bytesN_length, List.length_cons]; omega
theorem longs_snoc (l : List Int) (x : Int) : longs (l ++ [x]) = longs l ++ bytesN (x % 18446744073709551616) 8 := by
  unfold longs; rw [List.flatMap_append]; simp

set_option maxHeartbeats 4000000 in
set_option maxRecDepth 100000 in
theorem putInts_calls (A0 : Option Addr) (c0 : Nat) (l : List Int) (w : World) (hr : Kd.C (Kd.int .i64) w A0 l.length l) (hl : 8 * l.length ≤ 281474976710656) :
    Calls Try.prog 62 #[.slice A0 l.length c0] w fun e w' => ∃ v0_ : Value, e = .returned v0_ ∧ Kd.R (Kd.int .u8) 5 w' w.heap.size (fun _ => True) v0_ (longs l) ∧ Below w.heap.size w w' := by
  have HR := Aside0.mk hr
  have hmax := Kd.C_max hr
  clear hr
  have hmul : IntKind.i64.wrap (8 * (l.length : Int)) = 8 * (l.length : Int) := by rw [i64_w]; unfold wrap64; omega
  go_enter Try.func62, Try.ntmps62
  go_wp2_with (first | ((with_reducible refine gate_dst (N := 9) rfl ?_); refine Kd.R_make (Kd.int .u8) _ 5 rfl (N := 9) rfl 46 _ _ rfl (8 * (l.length : Int)) rfl rfl Try.underlying46 (.int .u8 0) 1 info_u8 rfl (by decide) (by omega) 0 (ok := fun _ => True) (okp := fun _ => True) rfl (fun _ hk => hk) trivial (by omega) (by omega) (Below.refl _ _) (Nat.le_refl _) ?_; intro v1 w1 ho hb hg_ hnew; obtain ⟨b0, hb0, _⟩ := hnew; obtain ⟨g, cap, rfl, hg, hgl⟩ := made_form ho hb0; have hle := (Kd.R_reads' ho).2.1; rw [List.length_replicate, show (8 * (l.length : Int)).toNat = 8 * l.length from by omega] at ho hgl hle ⊢; have HO := Aside0.mk ho; have HB := Aside0.mk hb; clear ho hb hg_ hb0))
  go_loopg [12] (l.length + 1) (fun kq v12 w' => ∃ i : Nat, i ≤ l.length ∧ Aside0 (kq + i = l.length + 1) ∧ v12 = .int .i64 (i : Int) ∧ Aside0 (Kd.R (Kd.int .u8) 5 w' w.heap.size (fun _ => True) (.slice (some ⟨g, 0, none⟩) (8 * l.length) cap) (longs (l.take i) ++ List.replicate (8 * (l.length - i)) 0)) ∧ Aside0 (Below w.heap.size w w'))
  case atStart => exact ⟨0, by omega, ⟨by omega⟩, rfl, ⟨by rw [List.take_zero, Nat.sub_zero]; exact HO.out⟩, HB⟩
  case round =>
    clear HO HB
    obtain ⟨i, hi, HK, rfl, HO, HB⟩ := hrel
    by_cases hlt : i < l.length
    · have hd : decide ((i : Int) < (l.length : Int)) = true := decide_eq_true (by omega)
      obtain ⟨k1, rfl⟩ : ∃ k1, gk = k1 + 1 := ⟨gk - 1, by have := HK.out; omega⟩
      have hC := Kd.C_below HR.out HB.out
      obtain ⟨ad, e0, hx0⟩ := Kd.at_int hC (i : Int) (by omega) (by omega)
      cases e0
      rw [Int.toNat_natCast] at hx0
      have hm1 : IntKind.i64.wrap (8 * (i : Int)) = 8 * (i : Int) := by rw [i64_w]; unfold wrap64; omega
      have hm2 : IntKind.i64.wrap (8 * ((i : Int) + 1)) = 8 * ((i : Int) + 1) := by rw [i64_w]; unfold wrap64; omega
      obtain ⟨m, hm⟩ : ∃ m, l.length - i = m + 1 := ⟨l.length - i - 1, by omega⟩
      have hrow : longs (l.take i) ++ List.replicate (8 * (l.length - i)) 0 = longs (l.take i) ++ List.replicate (8 * m + 8) 0 := by rw [hm]; rfl
      have hln : (longs (l.take i)).length = 8 * i := by rw [longs_length, List.length_take]; omega
      have hlen : (longs (l.take i) ++ List.replicate (8 * m + 8) 0).length = 8 * l.length := by rw [List.length_append, hln, List.length_replicate]; omega
      have hnext : putL (longs (l.take i) ++ List.replicate (8 * m + 8) 0) (8 * i) (rd l i % 18446744073709551616) 8 = longs (l.take (i + 1)) ++ List.replicate (8 * (l.length - (i + 1))) 0 := by
        rw [putL_seg _ _ _ _ hln.symm 8 (by rw [List.length_replicate]; omega), List.take_succ_eq_append_getElem hlt, longs_snoc, List.drop_replicate, List.append_assoc]
        rw [show rd l i = l[i] from by simp [rd, hlt], show 8 * m + 8 - 8 = 8 * (l.length - (i + 1)) from by omega]
      have hO := HO.out
      rw [hrow] at hO
      have hu : IntKind.u64.wrap (rd l ↑i) = rd l ↑i % 18446744073709551616 := by rfl
      have hcall := put_seg (longs (l.take i) ++ List.replicate (8 * m + 8) 0) (rd l i % 18446744073709551616) g (8 * i) 8 (cap - 8 * i) cap _ w wr (by omega) (by omega) (by omega) (by omega) HB.out hg (by rw [hlen]; exact hO)
      rw [hnext, hlen] at hcall
      have HN := Aside0.mk hcall
      clear hC hO hrow hln hlen hnext hm hcall
      go_wp2_with fail
      (try rw [hu])
      rw [show 8 * (i + 1) - 8 * i = 8 from by omega]
      refine HN.out.mono ?_
      rintro e w2 ⟨rfl, ho2, hb2⟩
      have HO2 := Aside0.mk ho2
      have HB2 := Aside0.mk hb2
      clear HO HB HN ho2 hb2
      go_wp2
      go_roundg k1
      case measure => have := HK.out; omega
      case rel => exact ⟨i + 1, by omega, ⟨by have := HK.out; omega⟩, congrArg (Value.int .i64) (by omega), HO2, HB2⟩
    · obtain rfl : i = l.length := by omega
      have hd : decide ((l.length : Int) < (l.length : Int)) = false := decide_eq_false (by omega)
      have HO2 := HO.out
      rw [List.take_length, Nat.sub_self, Nat.mul_zero, List.replicate_zero, List.append_nil] at HO2
      have HO3 := Aside0.mk HO2
      clear HO2
      go_wp2
      go_ret
      exact ⟨_, rfl, HO3.out, HB.out⟩



/-- the texts' sizes, added up -/
def total : List ByteArray → Nat
  | [] => 0
  | s :: r => s.size + total r
def ends : Nat → List ByteArray → List Int
  | _, [] => []
  | n, s :: r => bytesN ((n + s.size : Nat) : Int) 4 ++ ends (n + s.size) r
def heap (l : List ByteArray) : List Int := l.flatMap bytesOf

/-- the bytes when i texts were put -/
def row (l : List ByteArray) (i : Nat) : List Int := (bytesN 0 4 ++ ends 0 (l.take i)) ++ (List.replicate (4 * (l.length - i)) 0 ++ (heap (l.take i) ++ List.replicate (total (l.drop i)) 0))

section
variable {P : Program} {ops : Array Oper} {Q : Exit → Act → World → Prop} {o : Oper} {rest : List Oper} {a : Act}
end
end Go.Proofs.Ytlpllhpnnhablaa.XPlain
