/- Floats of 64 bits as a kind of their own: the bits, looked at by the model's own order alone. -/
import Derived.Test.YtlpllhpnnhablaaWMore
import Derived.Laws.Cover2
import Derived.Laws.Externs
import Derived.Test.YtlpllhpnnhablaaProg
import Derived.KernelRfl
namespace Go.Proofs.YtlpllhpnnhablaaW.PrintWords
open Go.RowKit
namespace Kd
def f64 : Kd Nat := scalar (Value.float .f64) (fun _ => rfl)
theorem heap_f64 : Heap Kd.f64 := ⟨fun _ h => h⟩
theorem at_f64 {w : World} {A : Option Addr} {n : Nat} {xs : List Nat} (h : Kd.f64.C w A n xs) (i : Int) (h0 : 0 ≤ i) (h1 : i < n) : ∃ ad, A = some ad ∧ w.cell? (ad.add i.toNat) = some (.float .f64 (rdOf (0 : Nat) xs i)) :=
  ReadsOf.at_ (reads_of_C (enc := Value.float .f64) (d := (0 : Nat)) (h1 := fun _ => rfl) h) i h0 h1
theorem foot_f64 {w : World} {ad : Addr} {n : Nat} {l : List Nat} (h : Kd.f64.C w (some ad) n l) (i : Int) (h0 : 0 ≤ i) (h1 : i < n) : w.cell? (ad.add i.toNat) = some (.float .f64 (rdOf (0 : Nat) l i)) := by
  obtain ⟨ad', he, hc⟩ := at_f64 h i h0 h1
  injection he with he
  subst he
  exact hc
end Kd
end Go.Proofs.YtlpllhpnnhablaaW.PrintWords
namespace Go.Proofs.Ytlpllhpnnhablaa.XFloat
open Go.RowKit
/-- a float stored in a cell, as the other scalars are -/
theorem run_store_float {P : Program} {w : World} {a : Addr} {m : Mode} (k : FloatKind) (b : Nat) : (store a (.float k b) m).run P w = stored P w a (.float k b) m := run_store P w a _ m rfl
theorem feq {P : Program} (d : Nat) (a b : Nat) (w : World) {t : TypeId} (ht : P.underlying t = some (.float .f64)) :
    (Op.equalIn (d + 1) t (.float .f64 a) (.float .f64 b)).run P w = .ok (FloatKind.f64.format.order a b == some .eq) w := by
  simp only [Op.equalIn, Sem.run_bind, run_underlying ht, Result.andThen_ok]
  simp [Op.floatEq]
end Go.Proofs.Ytlpllhpnnhablaa.XFloat
