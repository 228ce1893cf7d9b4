/-
  The first element of a list that a test takes: plain lemmas.
-/
import Derived.Test.YtfehdpaoboiodaaCom
namespace Go.Proofs.Ytfehdpaoboiodaa
open Go.RowKit
set_option linter.unusedVariables false

/-! ### the first element that a test takes -/
def findI {α : Type} (p : α → Bool) (xs : List α) : Int := match xs.findIdx? p with | some i => (i : Int) | none => -1
theorem find_hit {α : Type} {p : α → Bool} {xs : List α} {k : Nat} {x : α} (h : xs[k]? = some x) (hp : p x = true) (hn : (xs.take k).all (fun y => !p y) = true) : findI p xs = (k : Int) := by
  have hk := (List.getElem?_eq_some_iff.1 h).1
  have : xs.findIdx? p = some k := by
    rw [List.findIdx?_eq_some_iff_getElem]
    refine ⟨hk, ?_, fun j hj => ?_⟩
    · rw [(List.getElem?_eq_some_iff.1 h).2]; exact hp
    · have := List.all_eq_true.1 hn (xs[j]'(by omega)) (List.mem_of_getElem? (i := j) (by rw [List.getElem?_take_of_lt hj, List.getElem?_eq_getElem]))
      simpa using this
  rw [findI, this]
theorem find_none {α : Type} {p : α → Bool} {xs : List α} {k : Nat} (hk : xs.length ≤ k) (hn : (xs.take k).all (fun y => !p y) = true) : findI p xs = -1 := by
  rw [List.take_of_length_le hk] at hn
  have : xs.findIdx? p = none := by
    rw [List.findIdx?_eq_none_iff]
    intro x hx
    have := List.all_eq_true.1 hn x hx
    simpa using this
  rw [findI, this]
theorem find_cases {α : Type} (p : α → Bool) (xs : List α) : findI p xs = -1 ∨ ∃ (k : Nat) (x : α), findI p xs = (k : Int) ∧ k < xs.length ∧ xs[k]? = some x ∧ p x = true := by
  unfold findI
  rcases h : xs.findIdx? p with _ | k
  · exact .inl rfl
  · obtain ⟨hk, hp, _⟩ := List.findIdx?_eq_some_iff_getElem.1 h
    exact .inr ⟨k, xs[k], rfl, hk, List.getElem?_eq_getElem hk, hp⟩
end Go.Proofs.Ytfehdpaoboiodaa
