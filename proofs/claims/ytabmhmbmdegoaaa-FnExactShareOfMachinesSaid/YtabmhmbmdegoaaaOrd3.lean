/-
  BestCastOrder, plain: csBest, with what it leaves out, finds what all orders give.
-/
import Derived.Test.YtabmhmbmdegoaaaCs12
namespace Go.Proofs.Ytabmhmbmdegoaaa
open Go.RowKit
set_option linter.unusedVariables false

def bStep (n : Nat) (t : List Int → Int) (s : List Int × Int) (L : List Int) : List Int × Int := if L.length < n then s else if s.2 < 0 ∨ t L < s.2 then (L, t L) else s
def bsFull (n : Nat) (t : List Int → Int) (L : List Int) (s : List Int × Int) : List Int × Int := if s.1.length < n ∨ t L < s.2 then (L, t L) else s
def bsCut (n : Nat) (t : List Int → Int) (L : List Int) (s : List Int × Int) : Prop := s.1.length = n ∧ 0 < L.length ∧ s.2 ≤ t L
instance (n : Nat) (t : List Int → Int) (L : List Int) (s : List Int × Int) : Decidable (bsCut n t L s) := by unfold bsCut; infer_instance
def bsStep (go : List Int → List Int × Int → List Int × Int) (L : List Int) (s : List Int × Int) (k : Nat) : List Int × Int := if hasI L (k : Int) = true then s else go (L ++ [(k : Int)]) s
def bs (n : Nat) (t : List Int → Int) : Nat → List Int → List Int × Int → List Int × Int
  | 0, L, s => bsFull n t L s
  | f + 1, L, s => if bsCut n t L s then s else (List.range n).foldl (bsStep (bs n t f) L) s
def bsK (n : Nat) (t : List Int → Int) (g : Nat) (L : List Int) (s : List Int × Int) (k : Nat) : List Int × Int := (List.range k).foldl (bsStep (bs n t g) L) s
theorem bsK_zero (n : Nat) (t : List Int → Int) (g : Nat) (L : List Int) (s : List Int × Int) : bsK n t g L s 0 = s := rfl
theorem bsK_has {n : Nat} {t : List Int → Int} {g : Nat} {L : List Int} {s : List Int × Int} {k : Nat} (h : hasI L (k : Int) = true) : bsK n t g L s (k + 1) = bsK n t g L s k := by
  unfold bsK; rw [List.range_succ, List.foldl_append]; simp [bsStep, h]
theorem bsK_new {n : Nat} {t : List Int → Int} {g : Nat} {L : List Int} {s : List Int × Int} {k : Nat} (h : hasI L (k : Int) = false) : bsK n t g L s (k + 1) = bs n t g (L ++ [(k : Int)]) (bsK n t g L s k) := by
  unfold bsK; rw [List.range_succ, List.foldl_append]; simp [bsStep, h]
theorem bs_cut {n : Nat} {t : List Int → Int} {f : Nat} {L : List Int} {s : List Int × Int} (h : bsCut n t L s) : bs n t (f + 1) L s = s := by rw [bs, if_pos h]
theorem bs_go {n : Nat} {t : List Int → Int} {f : Nat} {L : List Int} {s : List Int × Int} (h : ¬ bsCut n t L s) : bs n t (f + 1) L s = bsK n t f L s n := by rw [bs, if_neg h]; rfl
theorem sub_len : ∀ (A L : List Int), A.Nodup → (∀ x ∈ A, x ∈ L) → A.length ≤ L.length
  | [], L, _, _ => Nat.zero_le _
  | x :: A, L, hn, h => by
    rw [List.nodup_cons] at hn
    have ih := sub_len A (L.erase x) hn.2 (fun y hy => by
      have hne : y ≠ x := fun e => hn.1 (e ▸ hy)
      exact (List.mem_erase_of_ne hne).2 (h y (List.mem_cons_of_mem _ hy)))
    have hm := h x (List.mem_cons_self ..)
    rw [List.length_erase_of_mem hm] at ih
    have := List.length_pos_of_mem hm
    rw [List.length_cons]
    omega
theorem miss_one {L : List Int} {n : Nat} (h : L.length < n) : ∃ j, j < n ∧ hasI L (j : Int) = false := by
  refine Classical.byContradiction fun hc => ?_
  have : ∀ j, j < n → hasI L (j : Int) = true := fun j hj => by
    rcases hh : hasI L (j : Int) with _ | _
    · exact absurd ⟨j, hj, hh⟩ hc
    · rfl
  have hs := sub_len ((List.range n).map (fun j : Nat => (j : Int))) L (by
    rw [List.nodup_iff_pairwise_ne, List.pairwise_map]
    exact (List.nodup_iff_pairwise_ne.1 List.nodup_range).imp fun hab => by omega) (fun x hx => by
      obtain ⟨j, hj, rfl⟩ := List.mem_map.1 hx
      exact hasI_iff.1 (this j (List.mem_range.1 hj)))
  simp at hs
  omega
section
variable {n : Nat} {t : List Int → Int}
theorem eoB_late (ht : ∀ L i, t L ≤ t (L ++ [i])) : ∀ (f : Nat) (L : List Int) (u : List Int × Int), 0 ≤ u.2 → u.2 ≤ t L → eo n (bStep n t) f L u = u
  | 0, L, u, h0, h => by
    show bStep n t u L = u
    unfold bStep; split
    · rfl
    · rw [if_neg]; omega
  | f + 1, L, u, h0, h => by
    rw [eo_succ]
    have : ∀ k, eoAt n (bStep n t) f L u k = u := fun k => by
      induction k with
      | zero =>
        rw [eoAt_zero]; unfold bStep; split
        · rfl
        · rw [if_neg]; omega
      | succ k ih =>
        rcases hh : hasI L (k : Int) with _ | _
        · rw [eoAt_new hh, ih]
          exact eoB_late ht f _ _ h0 (by have := ht L (k : Int); omega)
        · rw [eoAt_has hh, ih]
    exact this n
def bR (n : Nat) (s u : List Int × Int) : Prop := s.1 = u.1 ∧ (s.1.length = n → s.2 = u.2 ∧ 0 ≤ u.2) ∧ (s.1.length ≠ n → s.1.length < n ∧ u.2 < 0)
theorem bs_eo (ht : ∀ L i, t L ≤ t (L ++ [i])) (h0 : ∀ L, 0 ≤ t L) : ∀ (f : Nat) (L : List Int) (s u : List Int × Int), L.length + f = n → bR n s u → bR n (bs n t f L s) (eo n (bStep n t) f L u)
  | 0, L, s, u, hL, ⟨r1, r2, r3⟩ => by
    show bR n (bsFull n t L s) (bStep n t u L)
    unfold bsFull bStep
    rw [if_neg (show ¬ L.length < n by omega)]
    have hnew : bR n (L, t L) (L, t L) := ⟨rfl, fun _ => ⟨rfl, h0 L⟩, fun h => absurd (show L.length = n by omega) h⟩
    by_cases hf : s.1.length = n
    · obtain ⟨e1, e2⟩ := r2 hf
      by_cases hl : t L < s.2
      · rw [if_pos (.inr hl), if_pos (.inr (by omega))]; exact hnew
      · rw [if_neg (by omega), if_neg (by omega)]; exact ⟨r1, r2, r3⟩
    · obtain ⟨e1, e2⟩ := r3 hf
      rw [if_pos (.inl e1), if_pos (.inl e2)]; exact hnew
  | f + 1, L, s, u, hL, hR => by
    have hst : bStep n t u L = u := by unfold bStep; rw [if_pos (by omega)]
    by_cases hc : bsCut n t L s
    · rw [bs_cut hc]
      obtain ⟨c1, c2, c3⟩ := hc
      obtain ⟨e1, e2⟩ := hR.2.1 c1
      rw [eoB_late ht (f + 1) L u e2 (by omega)]
      exact hR
    · rw [bs_go hc, eo_succ]
      have : ∀ k, bR n (bsK n t f L s k) (eoAt n (bStep n t) f L u k) := fun k => by
        induction k with
        | zero => rw [bsK_zero, eoAt_zero, hst]; exact hR
        | succ k ih =>
          rcases hh : hasI L (k : Int) with _ | _
          · rw [bsK_new hh, eoAt_new hh]
            exact bs_eo ht h0 f _ _ _ (by rw [List.length_append, List.length_singleton]; omega) ih
          · rw [bsK_has hh, eoAt_has hh]; exact ih
      exact this n
/-- there always comes an order of all -/
theorem bs_all : ∀ (f : Nat) (L : List Int) (s : List Int × Int), L.length + f = n → s.1.length ≤ n → (bs n t f L s).1.length = n
  | 0, L, s, hL, hs => by
    show (bsFull n t L s).1.length = n
    unfold bsFull
    split
    · show L.length = n; omega
    · omega
  | f + 1, L, s, hL, hs => by
    by_cases hc : bsCut n t L s
    · rw [bs_cut hc]; exact hc.1
    · rw [bs_go hc]
      have : ∀ k, (bsK n t f L s k).1.length ≤ n ∧ ((∃ j, j < k ∧ hasI L (j : Int) = false) → (bsK n t f L s k).1.length = n) := fun k => by
        induction k with
        | zero => exact ⟨by rw [bsK_zero]; exact hs, fun ⟨j, hj, _⟩ => absurd hj (by omega)⟩
        | succ k ih =>
          rcases hh : hasI L (k : Int) with _ | _
          · rw [bsK_new hh]
            have := bs_all f (L ++ [(k : Int)]) (bsK n t f L s k) (by rw [List.length_append, List.length_singleton]; omega) ih.1
            exact ⟨by omega, fun _ => this⟩
          · rw [bsK_has hh]
            refine ⟨ih.1, fun ⟨j, hj, hjf⟩ => ih.2 ⟨j, ?_, hjf⟩⟩
            rcases Nat.lt_or_ge j k with h | h
            · exact h
            · obtain rfl : j = k := by omega
              rw [hh] at hjf; cases hjf
      exact (this n).2 (miss_one (by omega))
end
end Go.Proofs.Ytabmhmbmdegoaaa
