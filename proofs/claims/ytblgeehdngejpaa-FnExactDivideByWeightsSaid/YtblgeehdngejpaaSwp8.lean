/-
  The order TT is strict and total.
-/
import Derived.Test.YtblgeehdngejpaaSwp3
namespace Go.Proofs.Ytblgeehdngejpaa
open Go.RowKit Go.Lib Go.Sort Go.Shelf
set_option linter.unusedVariables false

theorem TT.irrefl {lt : Int → Int → Bool} (hS : SWO lt) (x : Int) : TT lt x x = false := by
  unfold TT
  rw [hS.irrefl, decide_eq_false (by omega)]; rfl
theorem TT.total {lt : Int → Int → Bool} {x y : Int} (h : TT lt x y = false) : x = y ∨ TT lt y x = true := by
  cases h1 : lt y x with
  | true => exact .inr (TT.of_lt h1)
  | false =>
    cases h2 : lt x y with
    | true => rw [TT.of_lt h2] at h; cases h
    | false =>
      rcases Int.lt_trichotomy x y with h3 | h3 | h3
      · rw [TT.of_not h1 h3] at h; cases h
      · exact .inl h3
      · exact .inr (TT.of_not h2 h3)
theorem TT.swo {lt : Int → Int → Bool} (hS : SWO lt) : SWO (TT lt) := by
  refine ⟨TT.irrefl hS, fun x y z h1 h2 => TT.trans hS h1 h2, fun x y z h1 h2 => ?_⟩
  rcases TT.total h1 with rfl | h1
  · exact h2
  · rcases TT.total h2 with rfl | h2
    · cases h : TT lt x y with
      | false => rfl
      | true => have := TT.trans hS h1 h; rw [TT.irrefl hS] at this; cases this
    · cases h : TT lt x z with
      | false => rfl
      | true => have := TT.trans hS h (TT.trans hS h2 h1); rw [TT.irrefl hS] at this; cases this
end Go.Proofs.Ytblgeehdngejpaa
