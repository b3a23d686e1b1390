/- Floats of 64 bits as a kind of their own: the bits, looked at by the model's own order alone. -/
import Derived.Test.YthikgpfehebkgaaWMore
import Derived.Laws.Cover2
import Derived.Laws.Externs
import Derived.Test.YthikgpfehebkgaaProg
import Derived.KernelRfl
namespace Go.Proofs.YthikgpfehebkgaaW.PrintWords
open Go.RowKit
namespace Kd
def f64 : Kd Nat := scalar (Value.float .f64) (fun _ => rfl)
theorem heap_f64 : Heap Kd.f64 := ⟨fun _ h => h⟩
theorem at_f64 {w : World} {A : Option Addr} {n : Nat} {xs : List Nat} (h : Kd.f64.C w A n xs) (i : Int) (h0 : 0 ≤ i) (h1 : i < n) : ∃ ad, A = some ad ∧ w.cell? (ad.add i.toNat) = some (.float .f64 (rdOf (0 : Nat) xs i)) :=
  ReadsOf.at_ (reads_of_C (enc := Value.float .f64) (d := (0 : Nat)) (h1 := fun _ => rfl) h) i h0 h1
theorem foot_f64 {w : World} {ad : Addr} {n : Nat} {l : List Nat} (h : Kd.f64.C w (some ad) n l) (i : Int) (h0 : 0 ≤ i) (h1 : i < n) : w.cell? (ad.add i.toNat) = some (.float .f64 (rdOf (0 : Nat) l i)) := by
  obtain ⟨ad', he, hc⟩ := at_f64 h i h0 h1
  injection he with he
  subst he
  exact hc
end Kd
end Go.Proofs.YthikgpfehebkgaaW.PrintWords
namespace Go.Proofs.Ythikgpfehebkgaa.XFloat
open Go.RowKit
/-- a float stored in a cell, as the other scalars are -/
theorem run_store_float {P : Program} {w : World} {a : Addr} {m : Mode} (k : FloatKind) (b : Nat) : (store a (.float k b) m).run P w = stored P w a (.float k b) m := run_store P w a _ m rfl
theorem feq {P : Program} (d : Nat) (a b : Nat) (w : World) {t : TypeId} (ht : P.underlying t = some (.float .f64)) :
    (Op.equalIn (d + 1) t (.float .f64 a) (.float .f64 b)).run P w = .ok (FloatKind.f64.format.order a b == some .eq) w := by
  simp only [Op.equalIn, Sem.run_bind, run_underlying ht, Result.andThen_ok]
  simp [Op.floatEq]
theorem fbits (b : Nat) (W : World) : (callFunc 35 #[.float .f64 b]).run Try.prog W = .ok (.value (.int .u64 (b : Int))) W :=
  (run_callFunc_extern Try.func35 (by kernel_rfl) (by kernel_rfl) (by kernel_rfl) (e := Extern.MathFloatBits.float64bits) (by kernel_rfl) #[.float .f64 b] W).trans rfl
theorem ffrom (n : Int) (W : World) : (callFunc 50 #[.int .u64 n]).run Try.prog W = .ok (.value (.float .f64 n.toNat)) W :=
  (run_callFunc_extern Try.func50 (by kernel_rfl) (by kernel_rfl) (by kernel_rfl) (e := Extern.MathFloatBits.float64frombits) (by kernel_rfl) #[.int .u64 n] W).trans rfl
theorem cmps (a b : ByteArray) (W : World) : (callFunc 61 #[.string a, .string b]).run Try.prog W = .ok (.value (.int .i64 (Extern.BytealgCompare.cmp a b))) W :=
  (run_callFunc_extern Try.func61 (by kernel_rfl) (by kernel_rfl) (by kernel_rfl) (e := Extern.BytealgCompare.compare) (by kernel_rfl) #[.string a, .string b] W).trans rfl
end Go.Proofs.Ythikgpfehebkgaa.XFloat
