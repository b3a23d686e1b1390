/- Chapter 8's writers: the walks of plain.put (into a part of a row of one's own) and of plain.PutInts, each for every input. -/
import Derived.Test.YtlpllhpnnhablaaGreatProg
import Derived.Test.YtlpllhpnnhablaaGreatSDictTextsOwnWMore
import Derived.Test.YtlpllhpnnhablaaGreatSDictTextsOwnWLast
import Derived.Test.YtlpllhpnnhablaaGreatSDictTextsOwnWQPut
import Derived.Deep.LoopGhost
import Derived.KernelRfl
import Derived.IntWalk
import Derived.Laws.CopyOwn
import Derived.Lib.BufferWrite
import Derived.OwnWalk
import Derived.Lib.AppendStr
namespace Go.Proofs.YtlpllhpnnhablaaGreat.XPlain
open Go.RowKit Go.Proofs.YtlpllhpnnhablaaGreatW.PrintWords Go.Proofs.YtlpllhpnnhablaaGreatW.PrintLast Go.Proofs.YtlpllhpnnhablaaGreatW.PrintMore

/-- a cut with the capacity that it is long -/
theorem print_mid3_of {α : Type} {P : Program} (enc : α → Value) (d : α) (t e : TypeId) (kl kh : IntKind) {i : TypeInfo} (ht : P.underlying t = some (.slice e)) (hi : P.info? e = some i) (hsz : i.size = 1) (A : Option Addr) (c : Nat) (xs : List α) (a b : Int) (h0 : 0 ≤ a) (h1 : a ≤ b) (hm : b ≤ xs.length) (hc : xs.length ≤ c) :
    ∃ A' : Option Addr, (∀ W : World, (Instr.slice t (.slice A xs.length c) (some (.int kl a)) (some (.int kh b)) (some (.int kh b))).run P W = .ok (.slice A' ((xs.take b.toNat).drop a.toNat).length (b.toNat - a.toNat)) W) ∧
      (∀ w : World, ReadsOf enc d w A xs.length xs → ReadsOf enc d w A' ((xs.take b.toNat).drop a.toNat).length ((xs.take b.toNat).drop a.toNat)) ∧ ((xs.take b.toNat).drop a.toNat).length ≤ b.toNat - a.toNat := by
  have hlt : (xs.take b.toNat).length = b.toNat := by rw [List.length_take]; omega
  have hl : ((xs.take b.toNat).drop a.toNat).length = b.toNat - a.toNat := by rw [List.length_drop, hlt]
  refine ⟨if b.toNat = a.toNat then A else A.map (·.add a.toNat), fun W => ?_, fun w h => ?_, by rw [hl]; omega⟩
  · have hel : P.elem t = e := by simp [Program.elem, ht]
    have hu : P.underlying t = some (.slice (P.elem t)) := by rw [hel]; exact ht
    rw [run_slice_lhm W t A xs.length c hu kl kh kh a b b h0 h1 (by omega) (by omega), hel, hl]
    simp [sizeOf, typeInfo, hi, hsz, sliced, Result.andThen]
  · have h2 := (h.take_ b.toNat (by omega)).drop_ (c := b.toNat) a.toNat (by omega) (by omega)
    rw [hl]
    exact h2

/-- n bytes of v, the lowest first, from place off on -/
def putL (L : List Int) (off : Nat) (v : Int) : Nat → List Int
  | 0 => L
  | n + 1 => (putL L off v n).set (off + n) (v / 2 ^ (8 * n) % 256)
theorem putL_length (L : List Int) (off : Nat) (v : Int) : ∀ n, (putL L off v n).length = L.length
  | 0 => rfl
  | n + 1 => by rw [putL, List.length_set, putL_length L off v n]

set_option maxHeartbeats 4000000 in
set_option maxRecDepth 100000 in
theorem put_seg (L : List Int) (v : Int) (g off n c cap : Nat) (P0 : Nat → Prop) (w0 w : World) (hv : 0 ≤ v ∧ v < 18446744073709551616) (hn : n ≤ 8) (hf : off + n ≤ L.length) (hL : L.length ≤ 9223372036854775807)
    (hB : Below w0.heap.size w0 w) (hg0 : w0.heap.size ≤ g) (ho : Kd.R (Kd.int .u8) 5 w w0.heap.size P0 (.slice (some ⟨g, 0, none⟩) L.length cap) L) :
    Calls Tryz.prog 54 #[.slice (some ⟨g, off, none⟩) n c, .int .u64 v] w fun e w' => e = .returned (.tuple #[]) ∧ Kd.R (Kd.int .u8) 5 w' w0.heap.size P0 (.slice (some ⟨g, 0, none⟩) L.length cap) (putL L off v n) ∧ Below w0.heap.size w0 w' := by
  have HO := Aside0.mk ho
  have HB := Aside0.mk hB
  have HV := Aside0.mk hv
  clear ho hB hv
  go_enter Tryz.func54, Tryz.ntmps54
  go_wp2
  go_loopg [7] (n + 1) (fun kq v7 w' => ∃ i : Nat, i ≤ n ∧ Aside0 (kq + i = n + 1) ∧ v7 = .int .i64 (i : Int) ∧ Aside0 (Kd.R (Kd.int .u8) 5 w' w0.heap.size P0 (.slice (some ⟨g, 0, none⟩) L.length cap) (putL L off v i)) ∧ Aside0 (Below w0.heap.size w0 w'))
  case atStart => exact ⟨0, by omega, ⟨by omega⟩, rfl, HO, HB⟩
  case round =>
    clear HO HB
    obtain ⟨i, hi, HK, rfl, HO, HB⟩ := hrel
    have hlp := putL_length L off v i
    by_cases hlt : i < n
    · have hd : decide ((i : Int) < (n : Int)) = true := decide_eq_true (by omega)
      obtain ⟨k1, rfl⟩ : ∃ k1, gk = k1 + 1 := ⟨gk - 1, by have := HK.out; omega⟩
      have hmul : IntKind.i64.wrap (8 * (i : Int)) = 8 * (i : Int) := by rw [i64_w]; unfold wrap64; omega
      obtain ⟨b, hb⟩ : ∃ b, v / 2 ^ (8 * i) % 256 = b := ⟨_, rfl⟩
      have hadd : (⟨g, off, none⟩ : Addr).add i = ⟨g, off + i, none⟩ := by unfold Addr.add; split <;> simp_all
      obtain ⟨hx, hfz⟩ := Kd.R_celln 0 HO.out ((off + i : Nat) : Int) (by omega) (by omega)
      have HP := Kd.R_putg HO.out ((off + i : Nat) : Int) b
      rw [Int.toNat_natCast] at hx hfz HP
      have HB1 := Aside0.mk (below_set (j := off + i) (v := .int .u8 b) HB.out hg0)
      have HO1 := Aside0.mk HP.1
      have hs : (putL L off v i).set (off + i) b = putL L off v (i + 1) := by rw [putL, hb]
      rw [hs] at HO1
      clear HP hs
      go_wp2
      rw [hb]
      go_roundg k1
      case measure => have := HK.out; omega
      case rel => exact ⟨i + 1, by omega, ⟨by have := HK.out; omega⟩, congrArg (Value.int .i64) (by omega), HO1, HB1⟩
    · obtain rfl : i = n := by omega
      have hd : decide ((i : Int) < (i : Int)) = false := decide_eq_false (by omega)
      go_wp2
      first | go_end0 | ((try simp only [Exit.inBlock, Exit.then]); refine bodyPost_ret (results_none rfl _ _ _) rfl ?_)
      exact ⟨rfl, HO.out, HB.out⟩

theorem made_form {α : Type} {d : Kd α} {e : Nat} {w : World} {base : Nat} {ok : Nat → Prop} {v : Value} {xs : List α} (h : d.R e w base ok v xs) {b : Nat} (hb : v.ownBlock = some b) : ∃ g cap, v = .slice (some ⟨g, 0, none⟩) xs.length cap ∧ base ≤ g ∧ xs.length ≤ 9223372036854775807 := by
  obtain ⟨inner, ho⟩ := Kd.R_own h
  rcases ho.2 with ⟨rfl, _⟩ | ⟨g, cap, cur, rfl, hg, _, h1, h2, _⟩
  · simp [Value.ownBlock] at hb
  · exact ⟨g, cap, rfl, hg, Nat.le_trans h1 h2⟩
theorem info_u8 : (Tryz.prog.info? 5).map (fun i => (i.zero, i.size, i.bytes)) = some (some (.int .u8 0), 1, 1) := by kernel_rfl

/-- n bytes of v, the lowest first -/
def bytesN (v : Int) : Nat → List Int
  | 0 => []
  | n + 1 => bytesN v n ++ [v / 2 ^ (8 * n) % 256]
theorem bytesN_length (v : Int) : ∀ n, (bytesN v n).length = n
  | 0 => rfl
  | n + 1 => by rw [bytesN, List.length_append, bytesN_length v n]; rfl
theorem putL_seg (X Z : List Int) (v : Int) (off : Nat) (ho : off = X.length) : ∀ n, n ≤ Z.length → putL (X ++ Z) off v n = X ++ (bytesN v n ++ Z.drop n)
  | 0, _ => by simp [putL, bytesN]
  | n + 1, h => by
    have e : ∀ (A B : List Int) (b : Int) (m k : Nat), m = A.length + k → (A ++ B).set m b = A ++ B.set k b := by
      intro A B b m k hm
      subst hm
      rw [List.set_append_right _ _ (by omega), Nat.add_sub_cancel_left]
    rw [putL, putL_seg X Z v off ho n (by omega), e X _ _ _ n (by omega), e (bytesN v n) _ _ _ 0 (by rw [bytesN_length]; rfl),
      List.drop_eq_getElem_cons (by omega : n < Z.length), List.set_cons_zero, bytesN, List.append_assoc]
    rfl
def longs (l : List Int) : List Int := l.flatMap fun x => bytesN (x % 18446744073709551616) 8
theorem longs_length (l : List Int) : (longs l).length = 8 * l.length := by
  induction l with
  | nil => rfl
  | cons a l ih => unfold longs at ih ⊢; rw [List.flatMap_cons, List.length_append, ih, bytesN_length, List.length_cons]; omega
theorem longs_snoc (l : List Int) (x : Int) : longs (l ++ [x]) = longs l ++ bytesN (x % 18446744073709551616) 8 := by
  unfold longs; rw [List.flatMap_append]; simp

set_option maxHeartbeats 4000000 in
set_option maxRecDepth 100000 in
theorem putInts_calls (A0 : Option Addr) (c0 : Nat) (l : List Int) (w : World) (hr : Kd.C (Kd.int .i64) w A0 l.length l) (hl : 8 * l.length ≤ 281474976710656) :
    Calls Tryz.prog 26 #[.slice A0 l.length c0] w fun e w' => ∃ v0_ : Value, e = .returned v0_ ∧ Kd.R (Kd.int .u8) 5 w' w.heap.size (fun _ => True) v0_ (longs l) ∧ Below w.heap.size w w' := by
  have HR := Aside0.mk hr
  have hmax := Kd.C_max hr
  clear hr
  have hmul : IntKind.i64.wrap (8 * (l.length : Int)) = 8 * (l.length : Int) := by rw [i64_w]; unfold wrap64; omega
  go_enter Tryz.func26, Tryz.ntmps26
  go_wp2_with (first | ((with_reducible refine gate_dst (N := 9) rfl ?_); refine Kd.R_make (Kd.int .u8) _ 5 rfl (N := 9) rfl 26 _ _ rfl (8 * (l.length : Int)) rfl rfl Tryz.underlying26 (.int .u8 0) 1 info_u8 rfl (by decide) (by omega) 0 (ok := fun _ => True) (okp := fun _ => True) rfl (fun _ hk => hk) trivial (by omega) (by omega) (Below.refl _ _) (Nat.le_refl _) ?_; intro v1 w1 ho hb hg_ hnew; obtain ⟨b0, hb0, _⟩ := hnew; obtain ⟨g, cap, rfl, hg, hgl⟩ := made_form ho hb0; have hle := (Kd.R_reads' ho).2.1; rw [List.length_replicate, show (8 * (l.length : Int)).toNat = 8 * l.length from by omega] at ho hgl hle ⊢; have HO := Aside0.mk ho; have HB := Aside0.mk hb; clear ho hb hg_ hb0))
  go_loopg [12] (l.length + 1) (fun kq v12 w' => ∃ i : Nat, i ≤ l.length ∧ Aside0 (kq + i = l.length + 1) ∧ v12 = .int .i64 (i : Int) ∧ Aside0 (Kd.R (Kd.int .u8) 5 w' w.heap.size (fun _ => True) (.slice (some ⟨g, 0, none⟩) (8 * l.length) cap) (longs (l.take i) ++ List.replicate (8 * (l.length - i)) 0)) ∧ Aside0 (Below w.heap.size w w'))
  case atStart => exact ⟨0, by omega, ⟨by omega⟩, rfl, ⟨by rw [List.take_zero, Nat.sub_zero]; exact HO.out⟩, HB⟩
  case round =>
    clear HO HB
    obtain ⟨i, hi, HK, rfl, HO, HB⟩ := hrel
    by_cases hlt : i < l.length
    · have hd : decide ((i : Int) < (l.length : Int)) = true := decide_eq_true (by omega)
      obtain ⟨k1, rfl⟩ : ∃ k1, gk = k1 + 1 := ⟨gk - 1, by have := HK.out; omega⟩
      have hC := Kd.C_below HR.out HB.out
      obtain ⟨ad, e0, hx0⟩ := Kd.at_int hC (i : Int) (by omega) (by omega)
      cases e0
      rw [Int.toNat_natCast] at hx0
      have hm1 : IntKind.i64.wrap (8 * (i : Int)) = 8 * (i : Int) := by rw [i64_w]; unfold wrap64; omega
      have hm2 : IntKind.i64.wrap (8 * ((i : Int) + 1)) = 8 * ((i : Int) + 1) := by rw [i64_w]; unfold wrap64; omega
      obtain ⟨m, hm⟩ : ∃ m, l.length - i = m + 1 := ⟨l.length - i - 1, by omega⟩
      have hrow : longs (l.take i) ++ List.replicate (8 * (l.length - i)) 0 = longs (l.take i) ++ List.replicate (8 * m + 8) 0 := by rw [hm]; rfl
      have hln : (longs (l.take i)).length = 8 * i := by rw [longs_length, List.length_take]; omega
      have hlen : (longs (l.take i) ++ List.replicate (8 * m + 8) 0).length = 8 * l.length := by rw [List.length_append, hln, List.length_replicate]; omega
      have hnext : putL (longs (l.take i) ++ List.replicate (8 * m + 8) 0) (8 * i) (rd l i % 18446744073709551616) 8 = longs (l.take (i + 1)) ++ List.replicate (8 * (l.length - (i + 1))) 0 := by
        rw [putL_seg _ _ _ _ hln.symm 8 (by rw [List.length_replicate]; omega), List.take_succ_eq_append_getElem hlt, longs_snoc, List.drop_replicate, List.append_assoc]
        rw [show rd l i = l[i] from by simp [rd, hlt], show 8 * m + 8 - 8 = 8 * (l.length - (i + 1)) from by omega]
      have hO := HO.out
      rw [hrow] at hO
      have hu : IntKind.u64.wrap (rd l ↑i) = rd l ↑i % 18446744073709551616 := by rfl
      have hcall := put_seg (longs (l.take i) ++ List.replicate (8 * m + 8) 0) (rd l i % 18446744073709551616) g (8 * i) 8 (cap - 8 * i) cap _ w wr (by omega) (by omega) (by omega) (by omega) HB.out hg (by rw [hlen]; exact hO)
      rw [hnext, hlen] at hcall
      have HN := Aside0.mk hcall
      clear hC hO hrow hln hlen hnext hm hcall
      go_wp2_with fail
      (try rw [hu])
      rw [show 8 * (i + 1) - 8 * i = 8 from by omega]
      refine HN.out.mono ?_
      rintro e w2 ⟨rfl, ho2, hb2⟩
      have HO2 := Aside0.mk ho2
      have HB2 := Aside0.mk hb2
      clear HO HB HN ho2 hb2
      go_wp2
      go_roundg k1
      case measure => have := HK.out; omega
      case rel => exact ⟨i + 1, by omega, ⟨by have := HK.out; omega⟩, congrArg (Value.int .i64) (by omega), HO2, HB2⟩
    · obtain rfl : i = l.length := by omega
      have hd : decide ((l.length : Int) < (l.length : Int)) = false := decide_eq_false (by omega)
      have HO2 := HO.out
      rw [List.take_length, Nat.sub_self, Nat.mul_zero, List.replicate_zero, List.append_nil] at HO2
      have HO3 := Aside0.mk HO2
      clear HO2
      go_wp2
      go_ret
      exact ⟨_, rfl, HO3.out, HB.out⟩

theorem copy_str (W W0 : World) (base : Nat) (ok : Nat → Prop) (dp : Option Addr) (g off dLen dCap cap : Nat) (s : ByteArray) (L : List Int) (hle : s.size ≤ dLen) (hfit : off + s.size ≤ L.length)
    (hdp : 0 < s.size → dp = some ⟨g, off, none⟩) (ho : Kd.R (Kd.int .u8) 5 W base ok (.slice (some ⟨g, 0, none⟩) L.length cap) L) (hB : Below base W0 W) :
    ∃ W' : World, (∀ ty, (Builtin.copy_ #[26, 9] ty #[.slice dp dLen dCap, .string s]).run Tryz.prog W = .ok (goInt s.size) W') ∧
      Kd.R (Kd.int .u8) 5 W' base ok (.slice (some ⟨g, 0, none⟩) L.length cap) (L.take off ++ (bytesOf s ++ L.drop (off + s.size))) ∧ Below base W0 W' := by
  have hinfo : (Tryz.prog.info? 5).map (·.size) = some 1 := by kernel_rfl
  by_cases h0 : s.size = 0
  · refine ⟨W, fun ty => ?_, ?_, hB⟩
    · rw [h0]; exact Lib.run_copy_empty_string W 26 9 ty 5 dp dLen dCap s Tryz.underlying26 (by rw [hinfo]; rfl) h0
    · have hb : bytesOf s = [] := List.eq_nil_of_length_eq_zero (by rw [bytesOf_length, h0])
      rw [hb, h0, Nat.add_zero, List.nil_append, List.take_append_drop]
      exact ho
  · obtain rfl := hdp (by omega)
    have hown := Kd.own_of_R ho
    rcases hown.2 with ⟨h, _⟩ | ⟨g', cap', cur, he, hb, hh, hnc, hcm, hcs, htake⟩
    · cases h
    · injection he with ea _ ec
      injection ea with ea
      injection ea with eg
      subst eg ec
      rw [Nat.mul_one] at hcs htake
      have hr := fun ty => Lib.run_copy_row_string (P := Tryz.prog) W 26 9 ty 5 g off dLen dCap s cur 5 Tryz.underlying26 hinfo hh hle (by omega)
      refine ⟨_, hr, Kd.R_of_own ?_ ho.1, below_setRow hB hb _⟩
      have hbl : (Lib.byteCells s.data.toList).length = s.size := by rw [Lib.byteCells_length, data_length]
      have hcl : cur.toList.length = cap := by rw [Array.length_toList, hcs]
      have hn : (L.take off ++ (bytesOf s ++ L.drop (off + s.size))).length = L.length := by
        rw [List.length_append, List.length_append, List.length_take, List.length_drop, bytesOf_length]; omega
      rw [hn]
      refine ⟨by rw [encs_length, hn, Nat.mul_one], .inr ⟨g, cap, _, rfl, hb, setRow_heap _ _ _ _ _ _ hh, hnc, hcm, ?_, ?_⟩⟩
      · rw [List.size_toArray, List.length_append, List.length_append, List.length_take, List.length_drop, hbl, hcl]; omega
      · have e1 : cur.toList.take off = encs (Value.int .u8) (L.take off) := by
          have : (cur.toList.take L.length).take off = (encs (Value.int .u8) L).take off := by rw [htake]
          rw [List.take_take, Nat.min_eq_left (by omega)] at this
          rw [this]; simp [encs, List.map_take]
        have e2 : (cur.toList.drop (off + s.size)).take (L.length - (off + s.size)) = encs (Value.int .u8) (L.drop (off + s.size)) := by
          have : (cur.toList.take L.length).drop (off + s.size) = (encs (Value.int .u8) L).drop (off + s.size) := by rw [htake]
          rw [List.drop_take] at this
          rw [this]; simp [encs, List.map_drop]
        have e3 : Lib.byteCells s.data.toList = encs (Value.int .u8) (bytesOf s) := by simp [Lib.byteCells, encs, bytesOf]
        have e4 : ∀ (A B C : List Value) (n k : Nat), n = A.length + B.length + k → (A ++ B ++ C).take n = A ++ B ++ C.take k := by
          intro A B C n k hn
          subst hn
          rw [List.take_append, List.take_of_length_le (by rw [List.length_append]; omega), List.length_append, Nat.add_sub_cancel_left]
        rw [Nat.mul_one, List.toList_toArray, e4 _ _ _ _ (L.length - (off + s.size)) (by rw [List.length_take, hcl, hbl]; omega), e1, e2, e3]
        simp [encs]

theorem wp_copy_str {ops : Array Oper} {rest : List Oper} {o : Oper} {a : Act} {Q : Exit → Act → World → Prop} {W W0 : World} (hgd : o.guard = none) (s x : Operand)
    (hop : o.op = .call { callee := .builtin .copy, args := #[s, x], argTypes := #[26, 9] }) (dp : Option Addr) (dLen dCap : Nat) (str : ByteArray) (hs : a.eval s = .slice dp dLen dCap) (hx : a.eval x = .string str)
    (base g off cap : Nat) (ok : Nat → Prop) (L : List Int) (N : Nat) (hN : N = L.length) (hle : str.size ≤ dLen) (hfit : off + str.size ≤ L.length) (hdp : 0 < str.size → dp = some ⟨g, off, none⟩)
    (ho : Kd.R (Kd.int .u8) 5 W base ok (.slice (some ⟨g, 0, none⟩) N cap) L) (hB : Below base W0 W)
    (h : ∀ W', Kd.R (Kd.int .u8) 5 W' base ok (.slice (some ⟨g, 0, none⟩) N cap) (L.take off ++ (bytesOf str ++ L.drop (off + str.size))) → Below base W0 W' → wpList Tryz.prog ops Q rest (a.put o.dst (.int .i64 (str.size : Int))) W') :
    wpList Tryz.prog ops Q (o :: rest) a W := by
  subst hN
  obtain ⟨W', hr, h1, h2⟩ := copy_str W W0 base ok dp g off dLen dCap cap str L hle hfit hdp ho hB
  refine wpList_plain hgd fun K hK => ?_
  unfold Oper.wp execOp
  simp only [hop, resolve, invoke, builtin, Sem.run_bind, Sem.run_pure, Result.andThen_ok, List.map_toArray, List.map_cons, List.map_nil, hs, hx, hr]
  exact hK _ _ (h W' h1 h2)

/-- the texts' sizes, added up -/
def total : List ByteArray → Nat
  | [] => 0
  | s :: r => s.size + total r
theorem total_append : ∀ (a b : List ByteArray), total (a ++ b) = total a + total b
  | [], b => by simp [total]
  | s :: a, b => by rw [List.cons_append, total, total, total_append a b, Nat.add_assoc]
def tooLong : Nat → List ByteArray → Bool
  | _, [] => false
  | n, s :: r => decide (s.size > 65535) || decide (n + s.size > 4294967295) || tooLong (n + s.size) r
def ends : Nat → List ByteArray → List Int
  | _, [] => []
  | n, s :: r => bytesN ((n + s.size : Nat) : Int) 4 ++ ends (n + s.size) r
theorem ends_length : ∀ (n : Nat) (l : List ByteArray), (ends n l).length = 4 * l.length
  | _, [] => rfl
  | n, s :: r => by rw [ends, List.length_append, bytesN_length, ends_length _ r, List.length_cons]; omega
theorem ends_snoc : ∀ (n : Nat) (l : List ByteArray) (s : ByteArray), ends n (l ++ [s]) = ends n l ++ bytesN ((n + total l + s.size : Nat) : Int) 4
  | n, [], s => by simp [ends, total]
  | n, x :: l, s => by rw [List.cons_append, ends, ends_snoc _ l s, ends, total, List.append_assoc, show n + x.size + total l + s.size = n + (x.size + total l) + s.size from by omega]
def heap (l : List ByteArray) : List Int := l.flatMap bytesOf
theorem heap_length : ∀ l : List ByteArray, (heap l).length = total l
  | [] => rfl
  | s :: l => by rw [heap, List.flatMap_cons, List.length_append, bytesOf_length, total, ← heap_length l]; rfl
theorem heap_snoc (l : List ByteArray) (s : ByteArray) : heap (l ++ [s]) = heap l ++ bytesOf s := by simp [heap]
def putTexts (l : List ByteArray) : List Int × Int := if l.length > 16777216 then ([], 3) else if tooLong 0 l = true then ([], 3) else (bytesN 0 4 ++ (ends 0 l ++ heap l), 0)

/-- the bytes when i texts were put -/
def row (l : List ByteArray) (i : Nat) : List Int := (bytesN 0 4 ++ ends 0 (l.take i)) ++ (List.replicate (4 * (l.length - i)) 0 ++ (heap (l.take i) ++ List.replicate (total (l.drop i)) 0))
theorem row_zero (l : List ByteArray) : row l 0 = List.replicate (4 * (l.length + 1) + total l) 0 := by
  rw [row, List.take_zero, List.drop_zero, Nat.sub_zero, show ends 0 [] = [] from rfl, show heap [] = [] from rfl, List.append_nil, List.nil_append, show bytesN 0 4 = List.replicate 4 (0 : Int) from by decide,
    List.replicate_append_replicate, List.replicate_append_replicate]
  congr 1; omega
theorem row_length (l : List ByteArray) (i : Nat) (hi : i ≤ l.length) : (row l i).length = 4 * (l.length + 1) + total l := by
  have h : total (l.take i) + total (l.drop i) = total l := by rw [← total_append, List.take_append_drop]
  rw [row, List.length_append, List.length_append, List.length_append, List.length_append, bytesN_length, ends_length, List.length_replicate, List.length_replicate, heap_length, List.length_take]; omega
def mid (l : List ByteArray) (i : Nat) : List Int := (bytesN 0 4 ++ ends 0 (l.take i)) ++ (List.replicate (4 * (l.length - i)) 0 ++ (heap (l.take (i + 1)) ++ List.replicate (total (l.drop (i + 1))) 0))
theorem row_copy (l : List ByteArray) (i : Nat) (hi : i < l.length) (off : Nat) (ho : off = 4 * (l.length + 1) + total (l.take i)) : (row l i).take off ++ (bytesOf l[i] ++ (row l i).drop (off + (l[i]).size)) = mid l i := by
  have e : row l i = ((bytesN 0 4 ++ ends 0 (l.take i)) ++ (List.replicate (4 * (l.length - i)) 0 ++ heap (l.take i))) ++ List.replicate (total (l.drop i)) 0 := by simp only [row, List.append_assoc]
  have hl : ((bytesN 0 4 ++ ends 0 (l.take i)) ++ (List.replicate (4 * (l.length - i)) (0 : Int) ++ heap (l.take i))).length = off := by
    rw [List.length_append, List.length_append, List.length_append, bytesN_length, ends_length, List.length_replicate, heap_length, List.length_take]; omega
  have ht : total (l.drop i) = (l[i]).size + total (l.drop (i + 1)) := by rw [List.drop_eq_getElem_cons hi, total]
  rw [e, List.take_left' hl, ← hl, List.drop_append, List.drop_eq_nil_of_le (by omega), List.nil_append, Nat.add_sub_cancel_left, List.drop_replicate, ht, Nat.add_sub_cancel_left, mid, List.take_succ_eq_append_getElem hi, heap_snoc]
  simp only [List.append_assoc]
theorem row_put (l : List ByteArray) (i : Nat) (hi : i < l.length) (off : Nat) (ho : off = 4 * (i + 1)) : putL (mid l i) off ((total (l.take i) + (l[i]).size : Nat) : Int) 4 = row l (i + 1) := by
  have hl : (bytesN 0 4 ++ ends 0 (l.take i)).length = off := by rw [List.length_append, bytesN_length, ends_length, List.length_take]; omega
  rw [mid, putL_seg _ _ _ _ hl.symm 4 (by rw [List.length_append, List.length_replicate]; omega), List.drop_append_of_le_length (by rw [List.length_replicate]; omega), List.drop_replicate, row,
    show ends 0 (l.take (i + 1)) = ends 0 (l.take i) ++ bytesN ((total (l.take i) + (l[i]).size : Nat) : Int) 4 from by rw [List.take_succ_eq_append_getElem hi, ends_snoc, Nat.zero_add], show 4 * (l.length - i) - 4 = 4 * (l.length - (i + 1)) from by omega]
  simp only [List.append_assoc]
theorem mid_length (l : List ByteArray) (i : Nat) (hi : i < l.length) : (mid l i).length = 4 * (l.length + 1) + total l := by
  rw [← row_length l (i + 1) hi, ← row_put l i hi _ rfl, putL_length]

set_option maxHeartbeats 4000000 in
set_option maxRecDepth 100000 in
theorem putTexts_calls (A0 : Option Addr) (c0 : Nat) (l : List ByteArray) (w : World) (hr : Kd.C Kd.string w A0 l.length l) :
    Calls Tryz.prog 38 #[.slice A0 l.length c0] w fun e w' => ∃ v0_ : Value, e = .returned (.tuple #[v0_, .int .i64 (putTexts l).2]) ∧ Kd.R (Kd.int .u8) 5 w' w.heap.size (fun _ => True) v0_ (putTexts l).1 ∧ Below w.heap.size w w' := by
  have HR := Aside0.mk hr
  have hmax := Kd.C_max hr
  clear hr
  obtain ⟨p, hp⟩ : ∃ p, putTexts l = p := ⟨_, rfl⟩
  rw [hp]
  have HP := Aside0.mk hp
  clear hp
  by_cases hlen : l.length > 16777216
  · have hd : decide ((l.length : Int) > 16777216) = true := decide_eq_true (by omega)
    have e : p = ([], 3) := by rw [← HP.out, putTexts, if_pos hlen]
    subst e
    clear HP
    go_enter Tryz.func38, Tryz.ntmps38
    go_wp2
    go_ret2
    exact ⟨_, rfl, Kd.R_nil _ _ _ _ _, by (try apply pw_below_drewN); exact Below.refl _ _⟩
  · have hd : decide ((l.length : Int) > 16777216) = false := decide_eq_false (by omega)
    have hp : (if tooLong 0 l = true then ([], 3) else (bytesN 0 4 ++ (ends 0 l ++ heap l), 0)) = p := by rw [← HP.out, putTexts, if_neg hlen]
    have HP := Aside0.mk hp
    clear hp
    go_enter Tryz.func38, Tryz.ntmps38
    go_wp2
    go_loopg [4, 17] (l.length + 1) (fun kq v4 v17 w' => ∃ i : Nat, i ≤ l.length ∧ Aside0 (kq + i = l.length + 1) ∧ v17 = .int .i64 (i : Int) ∧ v4 = .int .i64 (total (l.take i) : Nat) ∧ total (l.take i) ≤ 4294967295 ∧ Aside0 (tooLong 0 l = tooLong (total (l.take i)) (l.drop i)) ∧ Aside0 (Below w.heap.size w w'))
    case atStart => exact ⟨0, by omega, ⟨by omega⟩, rfl, rfl, by simp [total], ⟨rfl⟩, ⟨by (try apply pw_below_drewN); exact Below.refl _ _⟩⟩
    case round =>
      obtain ⟨i, hi, HK, rfl, rfl, ht, HT, HB⟩ := hrel
      by_cases hlt : i < l.length
      · have hd1 : decide ((i : Int) < (l.length : Int)) = true := decide_eq_true (by omega)
        obtain ⟨k1, rfl⟩ : ∃ k1, gk = k1 + 1 := ⟨gk - 1, by have := HK.out; omega⟩
        have hC := Kd.C_below HR.out HB.out
        obtain ⟨ad, e0, hx0⟩ := Kd.at_string hC (i : Int) (by omega) (by omega)
        cases e0
        rw [Int.toNat_natCast] at hx0
        have hs : rdOf ByteArray.empty l (i : Int) = l[i] := by simp [rdOf, hlt]
        rw [hs] at hx0
        have htk : total (l.take (i + 1)) = total (l.take i) + (l[i]).size := by rw [List.take_succ_eq_append_getElem hlt, total_append]; rfl
        have HT2 := HT.out
        rw [List.drop_eq_getElem_cons hlt, tooLong] at HT2
        obtain ⟨s, hs'⟩ : ∃ s, l[i] = s := ⟨_, rfl⟩
        rw [hs'] at hx0 htk HT2
        clear hC hs hs' HT
        obtain ⟨T, hT⟩ : ∃ T, total (l.take i) = T := ⟨_, rfl⟩
        rw [hT] at htk HT2 ht ⊢
        by_cases c1 : s.size > 65535
        · have hd2 : decide ((s.size : Int) > 65535) = true := decide_eq_true (by omega)
          have hl : tooLong 0 l = true := by rw [HT2]; simp [c1]
          have e : p = ([], 3) := by rw [← HP.out, if_pos hl]
          subst e
          clear HP HT2 hl
          go_wp2
          go_ret2
          exact ⟨_, rfl, Kd.R_nil _ _ _ _ _, HB.out⟩
        · have hd2 : decide ((s.size : Int) > 65535) = false := decide_eq_false (by omega)
          have hw : IntKind.i64.wrap ((T : Int) + (s.size : Int)) = (T : Int) + (s.size : Int) := by rw [i64_w]; unfold wrap64; omega
          by_cases c2 : T + s.size > 4294967295
          · have hd3 : decide ((T : Int) + (s.size : Int) > 4294967295) = true := decide_eq_true (by omega)
            have hl : tooLong 0 l = true := by rw [HT2]; simp [c2]
            have e : p = ([], 3) := by rw [← HP.out, if_pos hl]
            subst e
            clear HP HT2 hl
            go_wp2
            go_ret2
            exact ⟨_, rfl, Kd.R_nil _ _ _ _ _, HB.out⟩
          · have hd3 : decide ((T : Int) + (s.size : Int) > 4294967295) = false := decide_eq_false (by omega)
            have hl : tooLong 0 l = tooLong (total (l.take (i + 1))) (l.drop (i + 1)) := by rw [HT2, htk]; simp [c1, c2]
            have HT3 := Aside0.mk hl
            clear HT2 hl
            go_wp2
            go_roundg k1
            case measure => have := HK.out; omega
            case rel => exact ⟨i + 1, by omega, ⟨by have := HK.out; omega⟩, congrArg (Value.int .i64) (by omega), congrArg (Value.int .i64) (by rw [htk]; omega), by rw [htk]; omega, HT3, HB⟩
      · obtain rfl : i = l.length := by omega
        have hd1 : decide ((l.length : Int) < (l.length : Int)) = false := decide_eq_false (by omega)
        have hl : tooLong 0 l = false := by rw [HT.out, List.drop_length, tooLong]
        have e : p = (bytesN 0 4 ++ (ends 0 l ++ heap l), 0) := by rw [← HP.out, hl]; rfl
        subst e
        clear HP HT hl
        rw [List.take_length] at ht ⊢
        obtain ⟨T, hT⟩ : ∃ T, total l = T := ⟨_, rfl⟩
        rw [hT] at ht ⊢
        have HTT := Aside0.mk hT
        clear hT
        have hm1 : IntKind.i64.wrap (4 * ((l.length : Int) + 1)) = 4 * ((l.length : Int) + 1) := by rw [i64_w]; unfold wrap64; omega
        have hm2 : IntKind.i64.wrap (4 * ((l.length : Int) + 1) + (T : Int)) = 4 * ((l.length : Int) + 1) + (T : Int) := by rw [i64_w]; unfold wrap64; omega
        go_wp2_with (first | ((with_reducible refine gate_dst (N := 39) rfl ?_); refine Kd.R_make (Kd.int .u8) _ 5 rfl (N := 39) rfl 26 _ _ rfl (4 * ((l.length : Int) + 1) + (T : Int)) rfl rfl Tryz.underlying26 (.int .u8 0) 1 info_u8 rfl (by decide) (by omega) 0 (ok := fun _ => True) (okp := fun _ => True) rfl (fun _ hk => hk) trivial (by omega) (by omega) (Below.refl _ _) (Nat.le_refl _) ?_; intro v1 w1 ho hb hg_ hnew; obtain ⟨b0, hb0, _⟩ := hnew; obtain ⟨g, cap, rfl, hg, hgl⟩ := made_form ho hb0; have hle := (Kd.R_reads' ho).2.1; rw [List.length_replicate, show (4 * ((l.length : Int) + 1) + (T : Int)).toNat = 4 * (l.length + 1) + T from by omega] at ho hgl hle ⊢; have HO := Aside0.mk (Kd.R_lower ho HB.out.size); have HB2 := Aside0.mk (below_step HB.out hb); have hg2 : w.heap.size ≤ g := Nat.le_trans HB.out.size hg; clear ho hb hg_ hb0 HB hg))
        all_goals
          go_loopg [9, 48] (l.length + 1) (fun kq v9 v48 w' => ∃ i : Nat, i ≤ l.length ∧ Aside0 (kq + i = l.length + 1) ∧ v48 = .int .i64 (i : Int) ∧ v9 = .int .i64 (total (l.take i) : Nat) ∧ Aside0 (Kd.R (Kd.int .u8) 5 w' w.heap.size (fun _ => True) (.slice (some ⟨g, 0, none⟩) (4 * (l.length + 1) + T) cap) (row l i)) ∧ Aside0 (Below w.heap.size w w'))
          case atStart => exact ⟨0, by omega, ⟨by omega⟩, rfl, rfl, ⟨by rw [row_zero, HTT.out]; exact HO.out⟩, HB2⟩
          case round =>
            clear HO HB2
            obtain ⟨i, hi, HK, rfl, rfl, HO, HB⟩ := hrel
            by_cases hlt : i < l.length
            · have hd1 : decide ((i : Int) < (l.length : Int)) = true := decide_eq_true (by omega)
              obtain ⟨k1, rfl⟩ : ∃ k1, gk = k1 + 1 := ⟨gk - 1, by have := HK.out; omega⟩
              have hC := Kd.C_below HR.out HB.out
              obtain ⟨ad, e0, hx0⟩ := Kd.at_string hC (i : Int) (by omega) (by omega)
              cases e0
              rw [Int.toNat_natCast] at hx0
              have hs : rdOf ByteArray.empty l (i : Int) = l[i] := by simp [rdOf, hlt]
              rw [hs] at hx0
              have htk : total (l.take (i + 1)) = total (l.take i) + (l[i]).size := by rw [List.take_succ_eq_append_getElem hlt, total_append]; rfl
              have hTT : total (l.take i) + (l[i]).size ≤ T := by
                rw [← htk, ← HTT.out, ← List.take_append_drop (i + 1) l, total_append, List.take_append_drop]; omega
              have hrl := row_length l i (by omega)
              rw [HTT.out] at hrl
              have hml := mid_length l i hlt
              rw [HTT.out] at hml
              have HRC := Aside0.mk (row_copy l i hlt _ rfl)
              have HRP := Aside0.mk (row_put l i hlt _ rfl)
              obtain ⟨s, hs'⟩ : ∃ s, l[i] = s := ⟨_, rfl⟩
              rw [hs'] at hx0 htk hTT HRC HRP
              clear hC hs hs'
              obtain ⟨T0, hT0⟩ : ∃ T0, total (l.take i) = T0 := ⟨_, rfl⟩
              rw [hT0] at htk hTT HRC HRP ⊢
              have hm1 : IntKind.i64.wrap (4 * ((i : Int) + 1)) = 4 * ((i : Int) + 1) := by rw [i64_w]; unfold wrap64; omega
              have hm2 : IntKind.i64.wrap (4 * ((i : Int) + 2)) = 4 * ((i : Int) + 2) := by rw [i64_w]; unfold wrap64; omega
              have hw : IntKind.i64.wrap ((T0 : Int) + (s.size : Int)) = ((T0 + s.size : Nat) : Int) := by rw [i64_w]; unfold wrap64; omega
              go_wp2_with (first | ((with_reducible refine gate_dst (N := 58) rfl ?_); refine wp_copy_str rfl _ _ rfl _ _ _ _ rfl rfl w.heap.size g (4 * (l.length + 1) + T0) cap _ (row l i) _ hrl.symm (by omega) (by omega) (by intro h_; first | rfl | (exfalso; omega) | (rw [if_neg (by omega)])) HO.out HB.out ?_; intro W2 ho2 hb2; rw [HRC.out] at ho2; have HO2 := Aside0.mk ho2; have HB2 := Aside0.mk hb2; clear HO HB ho2 hb2))
              all_goals
                (try rw [show 4 * (i + 2) - 4 * (i + 1) = 4 from by omega])
                rw [show ((T0 : Int) + (s.size : Int)) = ((T0 + s.size : Nat) : Int) from by omega]
                refine (put_seg (mid l i) ((T0 + s.size : Nat) : Int) g (4 * (i + 1)) 4 _ cap (fun _ => True) w W2 (by omega) (by omega) (by omega) (by omega) HB2.out hg2 (by rw [hml]; exact HO2.out)).mono ?_
                rintro e w3 ⟨rfl, ho3, hb3⟩
                rw [HRP.out, hml] at ho3
                have HO3 := Aside0.mk ho3
                have HB3 := Aside0.mk hb3
                clear HO2 HB2 ho3 hb3
                go_wp2
                (try rw [show (Value.slice (some ⟨g, 4 * (l.length + 1), none⟩) T T0) = Value.slice (some ⟨g, 4 * (l.length + 1), none⟩) T (cap - 4 * (l.length + 1)) from congrArg (Value.slice _ T) (by omega)])
                go_roundg k1
                case measure => have := HK.out; omega
                case rel => exact ⟨i + 1, by omega, ⟨by have := HK.out; omega⟩, congrArg (Value.int .i64) (by omega), congrArg (Value.int .i64) (by omega), HO3, HB3⟩
            · obtain rfl : i = l.length := by omega
              have hd1 : decide ((l.length : Int) < (l.length : Int)) = false := decide_eq_false (by omega)
              have ho3 := HO.out
              rw [row, List.take_length, Nat.sub_self, Nat.mul_zero, List.drop_length, show total [] = 0 from rfl, List.replicate_zero, List.nil_append, List.append_nil, List.append_assoc] at ho3
              have HO3 := Aside0.mk ho3
              clear ho3
              go_wp2
              go_ret2
              exact ⟨_, rfl, (by first | exact HO3.out | (have h_ := HO3.out; rw [show cap = 4 * (l.length + 1) from by omega] at h_; exact h_)), HB.out⟩
section
variable {P : Program} {ops : Array Oper} {Q : Exit → Act → World → Prop} {o : Oper} {rest : List Oper} {a : Act}
end
end Go.Proofs.YtlpllhpnnhablaaGreat.XPlain
