/-
  MostCastings, plain: csMost, with what it leaves out, finds what all orders give.
-/
import Derived.Test.YtabmhmbmdegoaaaCs10
namespace Go.Proofs.Ytabmhmbmdegoaaa
open Go.RowKit
set_option linter.unusedVariables false

def msStep (n : Nat) (t : List Int → Int) (mins : Int) (go : List Int → List Int → List Int) (L s : List Int) (j : Nat) : List Int :=
  if s.length = n then s else if hasI L (j : Int) = false ∧ t (L ++ [(j : Int)]) ≤ mins then go (L ++ [(j : Int)]) s else s
def msFirst (L best : List Int) : List Int := if best.length < L.length then L else best
def ms (n : Nat) (t : List Int → Int) (mins : Int) : Nat → List Int → List Int → List Int
  | 0, L, best => msFirst L best
  | f + 1, L, best => (List.range n).foldl (msStep n t mins (ms n t mins f) L) (msFirst L best)
def msK (n : Nat) (t : List Int → Int) (mins : Int) (f : Nat) (L best : List Int) (k : Nat) : List Int := match f with
  | 0 => msFirst L best
  | g + 1 => (List.range k).foldl (msStep n t mins (ms n t mins g) L) (msFirst L best)
theorem msK_zero (n : Nat) (t : List Int → Int) (mins : Int) (f : Nat) (L best : List Int) : msK n t mins f L best 0 = msFirst L best := by cases f <;> rfl
theorem msK_end (n : Nat) (t : List Int → Int) (mins : Int) (f : Nat) (L best : List Int) : msK n t mins f L best n = ms n t mins f L best := by cases f <;> rfl
theorem msK_skip {n : Nat} {t : List Int → Int} {mins : Int} {f : Nat} {L best : List Int} {k : Nat} (h : hasI L (k : Int) = true ∨ ¬ t (L ++ [(k : Int)]) ≤ mins) : msK n t mins f L best (k + 1) = msK n t mins f L best k := by
  cases f
  · rfl
  · simp only [msK]
    rw [List.range_succ, List.foldl_append]
    simp only [List.foldl_cons, List.foldl_nil]
    rw [msStep]
    split
    · rfl
    · rw [if_neg]
      rintro ⟨h1, h2⟩
      rcases h with h | h
      · rw [h1] at h; cases h
      · exact h h2
theorem msK_full {n : Nat} {t : List Int → Int} {mins : Int} {f : Nat} {L best : List Int} {k : Nat} (h : (msK n t mins f L best k).length = n) : ∀ i, msK n t mins f L best (k + i) = msK n t mins f L best k
  | 0 => rfl
  | i + 1 => by
    have ih := msK_full h i
    cases f
    · rfl
    · rename_i g
      show msK n t mins (g + 1) L best (k + i + 1) = _
      simp only [msK] at ih h ⊢
      rw [List.range_succ, List.foldl_append, ih]
      simp only [List.foldl_cons, List.foldl_nil]
      rw [msStep, if_pos h]
theorem msK_go {n : Nat} {t : List Int → Int} {mins : Int} {f : Nat} {L best : List Int} {k : Nat} (hf : 0 < f) (hl : (msK n t mins f L best k).length ≠ n) (h : hasI L (k : Int) = false) (ht : t (L ++ [(k : Int)]) ≤ mins) : msK n t mins f L best (k + 1) = ms n t mins (f - 1) (L ++ [(k : Int)]) (msK n t mins f L best k) := by
  cases f
  · omega
  · simp only [msK] at hl ⊢
    rw [List.range_succ, List.foldl_append]
    simp only [List.foldl_cons, List.foldl_nil]
    rw [msStep, if_neg hl, if_pos ⟨h, ht⟩]
    rfl
/-! ### the two give the same -/
section
variable {n : Nat} {t : List Int → Int} {mins : Int}
def mo (t : List Int → Int) (mins : Int) (best L : List Int) : List Int := if best.length < L.length ∧ t L ≤ mins then L else best
/-- an order that is too late: nothing behind it is in time -/
theorem eo_late (ht : ∀ L i, t L ≤ t (L ++ [i])) : ∀ (f : Nat) (L s : List Int), mins < t L → eo n (mo t mins) f L s = s
  | 0, L, s, h => by
    show mo t mins s L = s
    unfold mo; rw [if_neg]; rintro ⟨_, h2⟩; omega
  | f + 1, L, s, h => by
    rw [eo_succ]
    have : ∀ k, eoAt n (mo t mins) f L s k = s := fun k => by
      induction k with
      | zero => rw [eoAt_zero]; unfold mo; rw [if_neg]; rintro ⟨_, h2⟩; omega
      | succ k ih =>
        rcases hh : hasI L (k : Int) with _ | _
        · rw [eoAt_new hh, ih]
          exact eo_late ht f _ _ (by have := ht L (k : Int); omega)
        · rw [eoAt_has hh, ih]
    exact this n
/-- all castings are there: nothing is longer -/
theorem eo_full : ∀ (f : Nat) (L s : List Int), L.length + f = n → s.length = n → eo n (mo t mins) f L s = s
  | 0, L, s, hL, h => by
    show mo t mins s L = s
    unfold mo; rw [if_neg]; rintro ⟨h2, _⟩; omega
  | f + 1, L, s, hL, h => by
    rw [eo_succ]
    have : ∀ k, eoAt n (mo t mins) f L s k = s := fun k => by
      induction k with
      | zero => rw [eoAt_zero]; unfold mo; rw [if_neg]; rintro ⟨h2, _⟩; omega
      | succ k ih =>
        rcases hh : hasI L (k : Int) with _ | _
        · rw [eoAt_new hh, ih]
          exact eo_full f _ _ (by rw [List.length_append, List.length_singleton]; omega) h
        · rw [eoAt_has hh, ih]
    exact this n
theorem ms_eo (ht : ∀ L i, t L ≤ t (L ++ [i])) : ∀ (f : Nat) (L s : List Int), L.length + f = n → t L ≤ mins → ms n t mins f L s = eo n (mo t mins) f L s
  | 0, L, s, hL, h => by
    show msFirst L s = mo t mins s L
    unfold msFirst mo; simp [h]
  | f + 1, L, s, hL, h => by
    rw [eo_succ, ← msK_end]
    have h0 : msFirst L s = mo t mins s L := by unfold msFirst mo; simp [h]
    have : ∀ k, msK n t mins (f + 1) L s k = eoAt n (mo t mins) f L s k := fun k => by
      induction k with
      | zero => rw [msK_zero, eoAt_zero, h0]
      | succ k ih =>
        by_cases hfull : (msK n t mins (f + 1) L s k).length = n
        · rw [msK_full hfull 1, ih]
          rw [ih] at hfull
          rcases hh : hasI L (k : Int) with _ | _
          · rw [eoAt_new hh]
            exact (eo_full f _ _ (by rw [List.length_append, List.length_singleton]; omega) hfull).symm
          · rw [eoAt_has hh]
        · rcases hh : hasI L (k : Int) with _ | _
          · by_cases hl : t (L ++ [(k : Int)]) ≤ mins
            · rw [msK_go (by omega) hfull hh hl, eoAt_new hh, ih]
              exact ms_eo ht f _ _ (by rw [List.length_append, List.length_singleton]; omega) hl
            · rw [msK_skip (.inr hl), eoAt_new hh, ih]
              exact (eo_late ht f _ _ (by omega)).symm
          · rw [msK_skip (.inl hh), eoAt_has hh, ih]
    exact this n
end
end Go.Proofs.Ytabmhmbmdegoaaa
