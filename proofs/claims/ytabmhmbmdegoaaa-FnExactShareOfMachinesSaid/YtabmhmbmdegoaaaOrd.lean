/-
  All orders, plain: how eachOrder goes through them; what the first order with the most castings is; what the best order is.
-/
import Derived.Test.YtabmhmbmdegoaaaCs7
namespace Go.Proofs.Ytabmhmbmdegoaaa
open Go.RowKit
set_option linter.unusedVariables false

theorem pig : ∀ (n : Nat) (L : List Int), L.Nodup → (∀ x ∈ L, 0 ≤ x ∧ x < (n : Int)) → L.length ≤ n
  | 0, L, _, h => by
    rcases L with _ | ⟨x, L⟩
    · exact Nat.le_refl _
    · have := h x (List.mem_cons_self ..); omega
  | n + 1, L, hn, h => by
    have ih := pig n (L.erase (n : Int)) (hn.erase _) (fun x hx => by
      obtain ⟨h1, h2⟩ := hn.mem_erase_iff.1 hx
      have := h x h2
      omega)
    rw [List.length_erase] at ih
    split at ih <;> omega
theorem hasI_iff {L : List Int} {x : Int} : hasI L x = true ↔ x ∈ L := by simp [hasI]
theorem newTo_at {L : List Int} {m : Int} : ∀ {k : Nat}, newTo L m k = true → ∀ j, j < k → newAt L m j = true := by
  intro k h j hj
  unfold newTo at h
  exact List.all_eq_true.1 h j (by simpa using hj)
theorem newTo_all {L : List Int} {m : Int} {k : Nat} (h : ∀ j, j < k → newAt L m j = true) : newTo L m k = true := by
  unfold newTo
  rw [List.all_eq_true]
  intro j hj
  exact h j (by simpa using hj)
theorem diff_nodup {L : List Int} {m : Int} (h : diffB L m = true) : L.Nodup := by
  rw [List.nodup_iff_pairwise_ne, List.pairwise_iff_getElem]
  intro i j hi hj hij he
  have h1 := newTo_at h j hj
  rw [newAt_eq (List.getElem?_eq_getElem hj)] at h1
  simp only [Bool.and_eq_true, Bool.not_eq_true'] at h1
  have h2 : hasI (L.take j) L[j] = true := by
    rw [hasI_iff, ← he]
    rw [List.mem_take_iff_getElem]
    exact ⟨i, by omega, rfl⟩
  rw [h1.2] at h2
  cases h2
theorem diff_len {L : List Int} {n : Nat} (h : diffB L (n : Int) = true) : L.length ≤ n :=
  pig n L (diff_nodup h) (fun x hx => by
    obtain ⟨k, hk⟩ := List.mem_iff_getElem?.1 hx
    exact diff_in h hk)
theorem diff_snoc {L : List Int} {n : Nat} {i : Int} (h : diffB L (n : Int) = true) (h0 : 0 ≤ i) (h1 : i < (n : Int)) (hh : hasI L i = false) : diffB (L ++ [i]) (n : Int) = true := by
  unfold diffB
  refine newTo_all fun j hj => ?_
  rw [List.length_append, List.length_singleton] at hj
  by_cases hjl : j < L.length
  · have h2 := newTo_at h j hjl
    unfold newAt at h2 ⊢
    rw [List.getElem?_append_left hjl, List.take_append_of_le_length (by omega)]
    exact h2
  · obtain rfl : j = L.length := by omega
    rw [newAt_eq (x := i) (by simp), List.take_left' rfl, hh]
    simp [inB]
    omega
theorem has_full {L : List Int} {n : Nat} (h : diffB L (n : Int) = true) (hl : n ≤ L.length) {i : Int} (h0 : 0 ≤ i) (h1 : i < (n : Int)) : hasI L i = true := by
  rcases hh : hasI L i with _ | _
  · have := diff_len (diff_snoc h h0 h1 hh)
    rw [List.length_append, List.length_singleton] at this
    omega
  · rfl
/-! ### all orders -/
section
variable {σ : Type}
def eoStep (n : Nat) (go : List Int → σ → σ) (L : List Int) (s : σ) (k : Nat) : σ := if hasI L (k : Int) = true then s else go (L ++ [(k : Int)]) s
def eo (n : Nat) (stp : σ → List Int → σ) : Nat → List Int → σ → σ
  | 0, L, s => stp s L
  | f + 1, L, s => (List.range n).foldl (eoStep n (eo n stp f) L) (stp s L)
def eoAt (n : Nat) (stp : σ → List Int → σ) (f : Nat) (L : List Int) (s : σ) (k : Nat) : σ := (List.range k).foldl (eoStep n (eo n stp f) L) (stp s L)
theorem eoAt_zero (n : Nat) (stp : σ → List Int → σ) (f : Nat) (L : List Int) (s : σ) : eoAt n stp f L s 0 = stp s L := rfl
theorem eoAt_has {n : Nat} {stp : σ → List Int → σ} {f : Nat} {L : List Int} {s : σ} {k : Nat} (h : hasI L (k : Int) = true) : eoAt n stp f L s (k + 1) = eoAt n stp f L s k := by
  unfold eoAt
  rw [List.range_succ, List.foldl_append]
  simp [eoStep, h]
theorem eoAt_new {n : Nat} {stp : σ → List Int → σ} {f : Nat} {L : List Int} {s : σ} {k : Nat} (h : hasI L (k : Int) = false) : eoAt n stp f L s (k + 1) = eo n stp f (L ++ [(k : Int)]) (eoAt n stp f L s k) := by
  unfold eoAt
  rw [List.range_succ, List.foldl_append]
  simp [eoStep, h]
theorem eo_succ (n : Nat) (stp : σ → List Int → σ) (f : Nat) (L : List Int) (s : σ) : eo n stp (f + 1) L s = eoAt n stp f L s n := rfl
end
end Go.Proofs.Ytabmhmbmdegoaaa
