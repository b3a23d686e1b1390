/- The law of chapter 25's names, walked: images that are not there have no columns. -/
import Derived.Test.YtikmddobpakmnaaGreatProg
import Derived.WalkKit
import Derived.Below
import Derived.WalkSpells
import Derived.WalkLawsBesides
import Derived.KernelRfl
import Derived.Laws.Rows
import Derived.Lib.Hide
namespace Go.Proofs.YtikmddobpakmnaaGreat.XNames
open Go.RowKit
theorem two_allocs (w : World) (o1 o2 : Obj) : Below w.heap.size w ((w.alloc o1).alloc o2) := ((Below.refl _ _).alloc (Nat.le_refl _) _).alloc (by simp) _
set_option maxHeartbeats 1000000 in
set_option maxRecDepth 100000 in
theorem none_ (w : World) : Calls Tryz.prog 4 #[.pointer none, .int .i64 0, .agg #[.int .i64 0, .string ⟨#[]⟩, .int .i64 0, .int .i64 0, .int .i64 0, .float .f64 0, .string ⟨#[]⟩, .slice none 0 0, .slice none 0 0]] w
    fun e w' => e = .returned (.tuple #[.pointer none, .pointer none, .slice none 0 0, .int .i64 1]) ∧ Below w.heap.size w w' := by
  have hsn : ∀ W : World, (binOp .eql 22 (.slice none 0 0) (.slice none 0 0)).run Tryz.prog W = .ok (.bool true) W := fun W => by rfl
  go_enter Tryz.func4, Tryz.ntmps4
  go_wp2_with go_in
  exact bodyPost_ret (v := .tuple #[.pointer none, .pointer none, .slice none 0 0, .int .i64 1]) (by simp [results, Tryz.results4, go_sem]) rfl ⟨rfl, two_allocs _ _ _⟩
set_option maxHeartbeats 1000000 in
set_option maxRecDepth 100000 in
theorem zero_ (w : World) (g : Nat) (hc : w.cell? ⟨g, 0, none⟩ = some (.slice none 0 0)) : Calls Tryz.prog 4 #[.pointer (some ⟨g, 0, none⟩), .int .i64 0, .agg #[.int .i64 99, .string ⟨#[]⟩, .int .i64 0, .int .i64 0, .int .i64 0, .float .f64 0, .string ⟨#[]⟩, .slice none 0 0, .slice none 0 0]] w
    fun e w' => e = .returned (.tuple #[.pointer none, .pointer none, .slice none 0 0, .int .i64 1]) ∧ Below w.heap.size w w' := by
  have hlt : g < w.heap.size := World.block_lt_of_cell? w _ hc
  have hc1 : ∀ o, (w.alloc o).cell? ⟨g, 0, none⟩ = some (.slice none 0 0) := fun o => (Below.cell (B := w.heap.size) ((Below.refl _ _).alloc (Nat.le_refl _) o) hlt).trans hc
  have hsn : ∀ W : World, (binOp .eql 22 (.slice none 0 0) (.slice none 0 0)).run Tryz.prog W = .ok (.bool true) W := fun W => by rfl
  go_enter Tryz.func4, Tryz.ntmps4
  go_wp2_with go_in
  exact bodyPost_ret (v := .tuple #[.pointer none, .pointer none, .slice none 0 0, .int .i64 1]) (by simp [results, Tryz.results4, go_sem]) rfl ⟨rfl, two_allocs _ _ _⟩
set_option maxHeartbeats 1000000 in
set_option maxRecDepth 100000 in
theorem walk (w : World) : Calls Tryz.prog 3 #[] w fun e w' => e = .returned (.bool true) ∧ Below w.heap.size w w' := by
  go_enter Tryz.func3, Tryz.ntmps3
  go_wp2_with fail
  refine (none_ _).mono ?_
  rintro e w1 ⟨rfl, hb⟩
  have hbl := hb.block w.heap.size (by simp)
  have hz : w1.cell? ⟨w.heap.size, 0, none⟩ = some (.slice none 0 0) := (World.cell?_of_block (a := ⟨w.heap.size, 0, none⟩) hbl).trans ((cell_of_row _ w.heap.size 0 _ _ _ (heap_alloc_new w _)).trans rfl)
  have hB1 : Below w.heap.size w w1 := ((Below.refl _ _).alloc (Nat.le_refl _) _).trans (hb.mono (by simp))
  have HB := Lib.hid hB1
  have HZ := Lib.hid hz
  clear hb hbl hz hB1
  go_wp2_with fail
  refine (zero_ w1 w.heap.size HZ.out).mono ?_
  rintro e w2 ⟨rfl, hb⟩
  have hB2 := HB.out.trans (hb.mono HB.out.size)
  have HB2 := Lib.hid hB2
  clear HB HZ hb hB2
  go_wp2_with fail
  go_ret
  exact ⟨rfl, HB2.out⟩
end Go.Proofs.YtikmddobpakmnaaGreat.XNames
