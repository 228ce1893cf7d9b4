/-
  MostCastings, plain: the time grows with the order; both sides give the same.
-/
import Derived.Test.YtabmhmbmdegoaaaCs11
namespace Go.Proofs.Ytabmhmbmdegoaaa
open Go.RowKit
set_option linter.unusedVariables false

theorem csTo_app (h c a : Int) (xs : List Cst) (L : List Int) (i : Int) : ∀ k, k ≤ L.length → csTo h c xs (L ++ [i]) a k = csTo h c xs L a k
  | 0, _ => rfl
  | k + 1, hk => by
    have ih := csTo_app h c a xs L i k (by omega)
    have he : (L ++ [i])[k]? = L[k]? := List.getElem?_append_left (by omega)
    rw [csTo, csTo, he, ih]
theorem csStep_mono {h c : Int} {x : Cst} {s : CsSt} (h0 : 0 ≤ c) (h1 : 0 ≤ ctV h x.n) : s.t ≤ (csStep h c x s).t := by
  unfold csStep
  split <;> (dsimp only; omega)
theorem tmV_mono {a h c : Int} {xs : List Cst} (hm : machB a h c = true) (hx : castsB xs = true) (L : List Int) (i : Int) : tmV a h c xs L ≤ tmV a h c xs (L ++ [i]) := by
  obtain ⟨_, ⟨h0, h1⟩, ⟨c0, _⟩⟩ := mach_iff.1 hm
  unfold tmV
  rw [List.length_append, List.length_singleton, csTo, csTo_app _ _ _ _ _ _ _ (Nat.le_refl _)]
  split
  · split
    · rename_i x hxx
      exact csStep_mono c0 (ctV_bd h0 h1 (casts_each hx x (List.mem_of_getElem? hxx))).1
    · exact Int.le_refl _
  · exact Int.le_refl _
theorem tmV_nil (a h c : Int) (xs : List Cst) : tmV a h c xs [] = 0 := rfl
theorem most_same {a h c : Int} {xs : List Cst} {mins : Int} (hm : machB a h c = true) (hx : castsB xs = true) (h0 : 0 ≤ mins) (n : Nat) : ms n (tmV a h c xs) mins n [] [] = eo n (moStep a h c xs mins) n [] [] :=
  ms_eo (tmV_mono hm hx) n [] [] (by simp) (by rw [tmV_nil]; exact h0)
end Go.Proofs.Ytabmhmbmdegoaaa
