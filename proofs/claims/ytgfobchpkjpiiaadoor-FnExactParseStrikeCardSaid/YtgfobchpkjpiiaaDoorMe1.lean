/-
  Contracts of the functions on alloys and blends (no closure among them).
-/
import Derived.Test.YtgfobchpkjpiiaaDoorNum
namespace Go.Proofs.YtgfobchpkjpiiaaDoor
open Go.RowKit
set_option linter.unusedVariables false

def blendB (a b c d : Int) : Bool := inB a 0 1000 && inB b a 1000 && inB c 0 1000 && inB d c 1000
def shareB (a b : Int) : Bool := decide (0 ≤ a) && decide (a ≤ b) && decide (b ≤ 1000)
theorem blend_eq (a b c d : Int) : (shareB a b && shareB c d) = blendB a b c d := by
  rw [Bool.eq_iff_iff]
  simp [blendB, inB, shareB]
  omega
def meltB (l t a : Int) : Bool := inB l 0 1000000 && inB t 0 1000000 && inB a 0 1000000

end Go.Proofs.YtgfobchpkjpiiaaDoor
