/-
  The insertion of an element whose place at the start lies behind all before it: lt and TT do the same.
-/
import Derived.Test.YtblgeehdngejpaaSwp8
namespace Go.Proofs.Ytblgeehdngejpaa
open Go.RowKit Go.Lib Go.Sort Go.Shelf
set_option linter.unusedVariables false

theorem TT.back {lt : Int → Int → Bool} {x y : Int} (h : y < x) : TT lt x y = lt x y := by
  unfold TT
  rw [decide_eq_false (show ¬ x < y by omega)]
  simp
theorem ins_same {lt : Int → Int → Bool} {a : Nat} : ∀ (j : Nat) (d : Array Int), j < d.size → (∀ k, a ≤ k → k < j → d[k]! < d[j]!) → insInner lt a j d = insInner (TT lt) a j d
  | 0, d, _, _ => rfl
  | j + 1, d, hj, h => by
    by_cases ha : a < j + 1
    · have e : TT lt d[j + 1]! d[j]! = lt d[j + 1]! d[j]! := TT.back (h j (by omega) (by omega))
      unfold insInner
      rw [e]
      have ih := ins_same (lt := lt) (a := a) j (swp d (j + 1) j) (by rw [size_swp]; omega) (fun k h1 h2 => by
        rw [swp_other _ _ _ _ (by omega) (by omega), swp_right _ _ _ (by omega)]
        exact h k h1 (by omega))
      rw [ih]
    · rw [insInner_stop lt a (j + 1) d (.inl (by omega)), insInner_stop (TT lt) a (j + 1) d (.inl (by omega))]
end Go.Proofs.Ytblgeehdngejpaa
