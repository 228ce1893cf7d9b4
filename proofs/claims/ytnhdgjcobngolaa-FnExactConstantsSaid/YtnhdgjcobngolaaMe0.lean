/-
  The walk of the law on constants: each constant is compared with its number.
-/
import Derived.Test.YtnhdgjcobngolaaRows
import Derived.Test.YtnhdgjcobngolaaLib
namespace Go.Proofs.Ytnhdgjcobngolaa
open Go.RowKit
theorem lawConstants (w : World) : Calls Try.prog 3 #[] w fun e w' => e = .returned (.bool true) ∧ Below w.heap.size w w' := by
  go_enter Try.func3, Try.ntmps3
  go_wp2
  go_ret
  exact ⟨rfl, by repeat (first | exact Below.refl _ _ | refine bl_alloc ?_ _ | refine bl_drew ?_ | refine bl_drewN ?_ _ | refine bl_set ?_ (by simp) _ | refine bl_trans ?_ (by assumption))⟩
end Go.Proofs.Ytnhdgjcobngolaa
