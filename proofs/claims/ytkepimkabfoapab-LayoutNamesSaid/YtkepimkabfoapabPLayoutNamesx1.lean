-- PRINTED BY print.sh 35421559b90ae4d0a3588c463048766b98c2df88dd9212a6774a882060cdf62d: not written by this session
import Derived.Test.YtkepimkabfoapabPLayoutNamesx0
namespace Go.Proofs.Ytkepimkabfoapab.PLayoutNames
open Go.RowKit Go.Proofs.YtkepimkabfoapabW.PrintWords Go.Proofs.YtkepimkabfoapabW.PrintLast Go.Proofs.YtkepimkabfoapabW.PrintMore
attribute [local go_sem] max2_int min2_int max_two min_two max_three min_three max_four min_four   -- for this text's walks alone
set_option linter.unusedVariables false
set_option linter.unusedSimpArgs false

/-! ### colonnadelaw16_LayoutNames: function 10 -/
def colonnadelaw16_LayoutNames.f  : Option (Bool) := some true
set_option maxHeartbeats 8000000 in
set_option maxRecDepth 100000 in
theorem colonnadelaw16_LayoutNames.calls  (r : Bool) (w : World) (h : colonnadelaw16_LayoutNames.f  = some r) :
    Calls Try.prog 10 #[] w fun e w' => e = .returned (.bool r) ∧ Drawn0 w w' := by
  have H : (some true) = some r := h
  clear h
  obtain rfl := Option.some.inj H
  go_enter Try.func10, Try.ntmps10
  go_wp2
  go_ret
  exact ⟨by first | rfl | (simp; done) | (simp [*]; done), by repeat (first | exact Drawn0.refl _ | apply Drawn0.step)⟩

/-- THE ONE PURE STATEMENT of colonnadelaw16_LayoutNames: yours. -/
def colonnadelaw16_LayoutNames.Pure : Prop := colonnadelaw16_LayoutNames.f  = some true
theorem colonnadelaw16_LayoutNames.walk (P : colonnadelaw16_LayoutNames.Pure)  (w : World)  :
    Calls Try.prog 10 #[] w fun e w' => e = .returned (.bool true) ∧ Below w.heap.size w w' := by
  have h := P  
  refine (colonnadelaw16_LayoutNames.calls  true w h).mono ?_
  rintro e w' ⟨rfl, hd⟩
  exact ⟨rfl, hd.below⟩

end Go.Proofs.Ytkepimkabfoapab.PLayoutNames
