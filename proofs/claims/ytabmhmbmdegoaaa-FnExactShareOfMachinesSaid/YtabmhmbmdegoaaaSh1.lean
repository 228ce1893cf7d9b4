/-
  ShareOfMachines, plain: counting the codes gives the same as parting at each place.
-/
import Derived.Test.YtabmhmbmdegoaaaCs20
namespace Go.Proofs.Ytabmhmbmdegoaaa
open Go.RowKit
set_option linter.unusedVariables false

def shStep (t : List Int → Int) (s : List Int × Int) (L : List Int) : List Int × Int := if s.2 < 0 ∨ t L < s.2 then (L, t L) else s
theorem shStep_new {t : List Int → Int} {s : List Int × Int} {L : List Int} (h : s.2 < 0 ∨ t L < s.2) : shStep t s L = (L, t L) := by unfold shStep; rw [if_pos h]
theorem shStep_old {t : List Int → Int} {s : List Int × Int} {L : List Int} (h : ¬ (s.2 < 0 ∨ t L < s.2)) : shStep t s L = s := by unfold shStep; rw [if_neg h]
def sh (t : List Int → Int) : Nat → List Int → List Int × Int → List Int × Int
  | 0, L, s => shStep t s L
  | f + 1, L, s => sh t f (L ++ [1]) (sh t f (L ++ [0]) s)
/-- the digits of a code, the highest of n first -/
def bitsL (n code : Nat) : List Int := (List.range n).map (fun i => ((code / 2 ^ (n - 1 - i) % 2 : Nat) : Int))
theorem bitsL_len (n code : Nat) : (bitsL n code).length = n := by simp [bitsL]
theorem bitsL_snoc (m c b : Nat) (hb : b < 2) : bitsL (m + 1) (2 * c + b) = bitsL m c ++ [(b : Int)] := by
  unfold bitsL
  rw [List.range_succ, List.map_append]
  congr 1
  · refine List.map_congr_left fun i hi => ?_
    have hi := List.mem_range.1 hi
    have e : m + 1 - 1 - i = (m - 1 - i) + 1 := by omega
    rw [e, Nat.pow_succ', ← Nat.div_div_eq_div_mul]
    have : (2 * c + b) / 2 = c := by omega
    rw [this]
  · simp
    omega
def shC (t : List Int → Int) (n : Nat) (s : List Int × Int) (k : Nat) : List Int × Int := (List.range k).foldl (fun u c => shStep t u (bitsL n c)) s
theorem shC_zero (t : List Int → Int) (n : Nat) (s : List Int × Int) : shC t n s 0 = s := rfl
theorem shC_succ (t : List Int → Int) (n : Nat) (s : List Int × Int) (k : Nat) : shC t n s (k + 1) = shStep t (shC t n s k) (bitsL n k) := by
  unfold shC; rw [List.range_succ, List.foldl_append]; rfl
theorem sh_codes (t : List Int → Int) : ∀ (f m c : Nat) (s : List Int × Int), sh t f (bitsL m c) s = (List.range (2 ^ f)).foldl (fun u r => shStep t u (bitsL (m + f) (c * 2 ^ f + r))) s
  | 0, m, c, s => by simp [sh, List.range_succ]
  | f + 1, m, c, s => by
    have h0 : bitsL m c ++ [0] = bitsL (m + 1) (2 * c) := (bitsL_snoc m c 0 (by omega)).symm
    have h1 : bitsL m c ++ [1] = bitsL (m + 1) (2 * c + 1) := (bitsL_snoc m c 1 (by omega)).symm
    rw [sh, h0, h1, sh_codes t f (m + 1) (2 * c), sh_codes t f (m + 1) (2 * c + 1)]
    have e : 2 ^ (f + 1) = 2 ^ f + 2 ^ f := by rw [Nat.pow_succ]; omega
    rw [e, List.range_add, List.foldl_append, List.foldl_map]
    have e1 : ∀ r, 2 * c * 2 ^ f + r = c * (2 ^ f + 2 ^ f) + r := fun r => by rw [Nat.mul_add, Nat.mul_assoc, Nat.two_mul]
    have e2 : ∀ r, (2 * c + 1) * 2 ^ f + r = c * (2 ^ f + 2 ^ f) + (2 ^ f + r) := fun r => by rw [Nat.add_mul, Nat.mul_add, Nat.mul_assoc, Nat.two_mul]; omega
    have e3 : m + 1 + f = m + (f + 1) := by omega
    simp only [e1, e2, e3]
theorem sh_all (t : List Int → Int) (n : Nat) (s : List Int × Int) : sh t n [] s = shC t n s (2 ^ n) := by
  have := sh_codes t n 0 0 s
  have e : bitsL 0 0 = [] := rfl
  rw [e] at this
  rw [this]
  unfold shC
  simp
theorem sh_len (t : List Int → Int) (n : Nat) : ∀ (f : Nat) (L : List Int) (s : List Int × Int), L.length + f = n → s.1.length ≤ n → (sh t f L s).1.length ≤ n
  | 0, L, s, h, hs => by
    show (shStep t s L).1.length ≤ n
    unfold shStep; split
    · show L.length ≤ n; omega
    · exact hs
  | f + 1, L, s, h, hs => sh_len t n f _ _ (by rw [List.length_append, List.length_singleton]; omega) (sh_len t n f _ _ (by rw [List.length_append, List.length_singleton]; omega) hs)
/-- the places of a share that say 0 (b = true) or another (b = false), up to the k-th -/
def pk (L : List Int) (b : Bool) : Nat → List Int
  | 0 => []
  | k + 1 => match L[k]? with
    | some x => if decide (x = 0) = b then pk L b k ++ [(k : Int)] else pk L b k
    | none => pk L b k
theorem pk_yes {L : List Int} {b : Bool} {k : Nat} {x : Int} (h : L[k]? = some x) (hx : decide (x = 0) = b) : pk L b (k + 1) = pk L b k ++ [(k : Int)] := by rw [pk, h]; exact if_pos hx
theorem pk_no {L : List Int} {b : Bool} {k : Nat} {x : Int} (h : L[k]? = some x) (hx : ¬ decide (x = 0) = b) : pk L b (k + 1) = pk L b k := by rw [pk, h]; exact if_neg hx
theorem pk_none {L : List Int} {b : Bool} {k : Nat} (h : L[k]? = none) : pk L b (k + 1) = pk L b k := by rw [pk, h]
theorem pk_lt (L : List Int) (b : Bool) : ∀ k, ∀ x ∈ pk L b k, 0 ≤ x ∧ x < (k : Int)
  | 0, x, h => by simp [pk] at h
  | k + 1, x, h => by
    rcases hx : L[k]? with _ | y
    · rw [pk_none hx] at h
      have := pk_lt L b k x h
      omega
    · by_cases hy : decide (y = 0) = b
      · rw [pk_yes hx hy, List.mem_append, List.mem_singleton] at h
        rcases h with h | h
        · have := pk_lt L b k x h
          omega
        · omega
      · rw [pk_no hx hy] at h
        have := pk_lt L b k x h
        omega
theorem pk_diff (L : List Int) (b : Bool) (n : Nat) : ∀ k, k ≤ n → diffB (pk L b k) (n : Int) = true
  | 0, _ => rfl
  | k + 1, hk => by
    have ih := pk_diff L b n k (by omega)
    rcases hx : L[k]? with _ | y
    · rw [pk_none hx]; exact ih
    · by_cases hy : decide (y = 0) = b
      · rw [pk_yes hx hy]
        refine diff_snoc ih (by omega) (by omega) ?_
        rcases hh : hasI (pk L b k) (k : Int) with _ | _
        · rfl
        · have := (pk_lt L b k _ (hasI_iff.1 hh)).2
          omega
      · rw [pk_no hx hy]; exact ih
theorem pk_len (L : List Int) (b : Bool) : ∀ k, (pk L b k).length ≤ k
  | 0 => Nat.le_refl _
  | k + 1 => by
    have ih := pk_len L b k
    rcases hx : L[k]? with _ | y
    · rw [pk_none hx]; omega
    · by_cases hy : decide (y = 0) = b
      · rw [pk_yes hx hy, List.length_append, List.length_singleton]; omega
      · rw [pk_no hx hy]; omega
/-- the later end of two machines that do their own castings -/
def shT (a h c a' h' c' : Int) (xs : List Cst) (L : List Int) : Int := max (tmV a h c xs (pk L true L.length)) (tmV a' h' c' xs (pk L false L.length))
end Go.Proofs.Ytabmhmbmdegoaaa
