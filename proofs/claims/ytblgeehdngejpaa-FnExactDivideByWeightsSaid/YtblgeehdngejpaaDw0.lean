/-
  DivideByWeights, plain: shares, remainders, the order of the remainders, the greedy choice.
-/
import Derived.Test.YtblgeehdngejpaaSwp10
namespace Go.Proofs.Ytblgeehdngejpaa
open Go.RowKit Go.Lib Go.Sort Go.Shelf
set_option linter.unusedVariables false

def sumTo (xs : List Int) (k : Nat) : Int := (xs.take k).foldl (· + ·) 0
def sumL (xs : List Int) : Int := sumTo xs xs.length
theorem sumTo_snoc {xs : List Int} {k : Nat} {x : Int} (h : xs[k]? = some x) : sumTo xs (k + 1) = sumTo xs k + x := by
  unfold sumTo
  rw [take_snoc h, List.foldl_append]
  rfl
theorem sumTo_bd {M : Int} {xs : List Int} (h : ∀ x ∈ xs, 0 ≤ x ∧ x ≤ M) : ∀ k, k ≤ xs.length → 0 ≤ sumTo xs k ∧ sumTo xs k ≤ M * (k : Int)
  | 0, _ => by simp [sumTo]
  | k + 1, hk => by
    have h1 := sumTo_bd h k (by omega)
    have hx : xs[k]? = some (xs[k]'(by omega)) := List.getElem?_eq_getElem _
    have h2 := h _ (List.mem_of_getElem? hx)
    rw [sumTo_snoc hx]
    have e : M * ((k + 1 : Nat) : Int) = M * (k : Int) + M := by rw [Int.natCast_succ, Int.mul_add, Int.mul_one]
    omega
/-! shares and remainders -/
def rmW (xs : List Int) (T S : Int) (i : Nat) : Int := T * xs.getD i 0 % S
def bsW (xs : List Int) (T S : Int) : List Int := xs.map (fun x => T * x / S)
def leftW (xs : List Int) (T S : Int) : Int := T - sumL (bsW xs T S)
theorem bsW_len (xs : List Int) (T S : Int) : (bsW xs T S).length = xs.length := by simp [bsW]
theorem bsW_at {xs : List Int} {T S x : Int} {k : Nat} (h : xs[k]? = some x) : (bsW xs T S)[k]? = some (T * x / S) := by simp [bsW, h]
theorem rmW_at {xs : List Int} {T S x : Int} {k : Nat} (h : xs[k]? = some x) : rmW xs T S k = T * x % S := by simp [rmW, h]
theorem bs_sum {xs : List Int} {T S : Int} (hS : 0 < S) : ∀ k, k ≤ xs.length → S * sumTo (bsW xs T S) k ≤ T * sumTo xs k ∧ T * sumTo xs k ≤ S * sumTo (bsW xs T S) k + (k : Int) * (S - 1)
  | 0, _ => by simp [sumTo]
  | k + 1, hk => by
    obtain ⟨h1, h2⟩ := bs_sum (xs := xs) (T := T) hS k (by omega)
    have hx : xs[k]? = some (xs[k]'(by omega)) := List.getElem?_eq_getElem _
    rw [sumTo_snoc hx, sumTo_snoc (bsW_at hx), Int.mul_add, Int.mul_add]
    obtain ⟨x, e⟩ : ∃ x, x = xs[k]'(by omega) := ⟨_, rfl⟩
    rw [← e]
    have d1 := Int.mul_ediv_add_emod (T * x) S
    have d2 := Int.emod_nonneg (T * x) (show S ≠ 0 by omega)
    have d3 := Int.emod_lt_of_pos (T * x) hS
    have e2 : ((k + 1 : Nat) : Int) * (S - 1) = (k : Int) * (S - 1) + (S - 1) := by rw [Int.natCast_succ, Int.add_mul, Int.one_mul]
    rw [e2]
    generalize S * (T * x / S) = u at *
    generalize T * sumTo xs k = v at *
    generalize S * sumTo (bsW xs T S) k = z at *
    generalize (k : Int) * (S - 1) = y at *
    generalize T * x % S = r at *
    generalize T * x = q at *
    omega
theorem left_bd {xs : List Int} {T S : Int} (hS : 0 < S) (he : sumL xs = S) (hn : 0 < xs.length) : 0 ≤ leftW xs T S ∧ leftW xs T S < (xs.length : Int) := by
  obtain ⟨h1, h2⟩ := bs_sum (xs := xs) (T := T) hS xs.length (Nat.le_refl _)
  rw [show sumTo xs xs.length = S from he] at h1 h2
  unfold leftW sumL
  rw [bsW_len]
  generalize sumTo (bsW xs T S) xs.length = B at *
  rw [Int.mul_comm T S] at h1 h2
  constructor
  · have := Int.le_of_mul_le_mul_left h1 hS
    omega
  · have e : S * (T - B) < S * (xs.length : Int) := by
      rw [Int.mul_sub]
      have e2 : (xs.length : Int) * (S - 1) = S * (xs.length : Int) - (xs.length : Int) := by rw [Int.mul_sub, Int.mul_one, Int.mul_comm]
      omega
    exact Int.lt_of_mul_lt_mul_left e (Int.le_of_lt hS)
/-! the order of the remainders -/
def ltW (xs : List Int) (T S : Int) (n : Nat) (x y : Int) : Bool := decide (rmW xs T S (y % (n : Int)).toNat < rmW xs T S (x % (n : Int)).toNat)
theorem ltW_swo (xs : List Int) (T S : Int) (n : Nat) : SWO (ltW xs T S n) := by
  refine ⟨fun x => ?_, fun x y z h1 h2 => ?_, fun x y z h1 h2 => ?_⟩
  · unfold ltW; exact decide_eq_false (by omega)
  · unfold ltW at *; rw [decide_eq_true_iff] at *; omega
  · unfold ltW at *; rw [decide_eq_false_iff_not] at *; omega
structure OrdOk (f : Nat → Int) (n : Nat) (o : Nat → Nat) : Prop where
  lt : ∀ r, r < n → o r < n
  rise : ∀ i j, i < j → j < n → f (o j) < f (o i) ∨ (f (o i) = f (o j) ∧ o i < o j)
def rngA (n : Nat) : Array Int := ((List.range n).map (fun i : Nat => (i : Int))).toArray
theorem rngA_size (n : Nat) : (rngA n).size = n := by simp [rngA]
theorem rngA_at {n k : Nat} (h : k < n) : (rngA n)[k]! = (k : Int) := by
  rw [getElem!_pos (rngA n) k (by rw [rngA_size]; exact h)]
  simp [rngA]
theorem rngA_rise (n : Nat) : ∀ p q, p < q → q < n → (rngA n)[p]! < (rngA n)[q]! := fun p q h1 h2 => by
  rw [rngA_at (by omega), rngA_at h2]; omega
theorem ord_in {xs : List Int} {T S : Int} {n : Nat} {O : Array Int} (h : MgR (ltW xs T S n) 0 n (rngA n) O) {r : Nat} (hr : r < n) : ∃ k : Nat, k < n ∧ O[r]! = (k : Int) := by
  obtain ⟨k, _, h2, h3⟩ := h.2.2.2 r (Nat.zero_le _) hr
  exact ⟨k, h2, by rw [h3, rngA_at h2]⟩
theorem ord_ok {xs : List Int} {T S : Int} {n : Nat} {O : Array Int} (h : MgR (ltW xs T S n) 0 n (rngA n) O) : OrdOk (rmW xs T S) n (fun r => O[r]!.toNat) := by
  refine ⟨fun r hr => ?_, fun i j h1 h2 => ?_⟩
  · obtain ⟨k, hk, e⟩ := ord_in h hr
    rw [e]; simpa using hk
  · have hT := h.2.2.1 i j (Nat.zero_le _) h1 h2
    obtain ⟨a, ha, ea⟩ := ord_in h (show i < n by omega)
    obtain ⟨b, hb, eb⟩ := ord_in h h2
    rw [ea, eb] at hT ⊢
    have ma : ((a : Int) % (n : Int)).toNat = a := by rw [Int.emod_eq_of_lt (by omega) (by omega)]; simp
    have mb : ((b : Int) % (n : Int)).toNat = b := by rw [Int.emod_eq_of_lt (by omega) (by omega)]; simp
    unfold TT ltW at hT
    rw [ma, mb] at hT
    simp only [Bool.or_eq_true, Bool.and_eq_true, Bool.not_eq_true', decide_eq_true_iff, decide_eq_false_iff_not] at hT
    simp only [Int.toNat_natCast]
    omega
/-! the greedy choice -/
def bsT (f : Nat → Int) (g : Nat → Bool) : Nat → Int
  | 0 => -1
  | k + 1 => if (!g k && (decide (bsT f g k < 0) || decide (f (bsT f g k).toNat < f k))) = true then (k : Int) else bsT f g k
theorem bsT_cases (f : Nat → Int) (g : Nat → Bool) : ∀ k, (bsT f g k = -1 ∧ ∀ i, i < k → g i = true) ∨ ∃ p : Nat, p < k ∧ bsT f g k = (p : Int) ∧ g p = false ∧ ∀ i, i < k → g i = false → i ≠ p → f i < f p ∨ (f i = f p ∧ p < i)
  | 0 => .inl ⟨rfl, fun i h => by omega⟩
  | k + 1 => by
    rcases bsT_cases f g k with ⟨h1, h2⟩ | ⟨p, hp, h1, h2, h3⟩
    · rcases hg : g k with _ | _
      · refine .inr ⟨k, by omega, ?_, hg, fun i hi hgi hne => ?_⟩
        · rw [bsT, h1, hg, if_pos (by simp)]
        · have := h2 i (by omega); rw [hgi] at this; cases this
      · refine .inl ⟨by rw [bsT, hg, if_neg (by simp)]; exact h1, fun i hi => ?_⟩
        by_cases e : i = k
        · rw [e]; exact hg
        · exact h2 i (by omega)
    · by_cases hc : g k = false ∧ f p < f k
      · refine .inr ⟨k, by omega, ?_, hc.1, fun i hi hgi hne => ?_⟩
        · rw [bsT, h1, hc.1, if_pos (by simp [hc.2])]
        · by_cases e : i = p
          · rw [e]; exact .inl hc.2
          · have := h3 i (by omega) hgi e
            have := hc.2
            omega
      · refine .inr ⟨p, by omega, ?_, h2, fun i hi hgi hne => ?_⟩
        · rw [bsT, h1, if_neg]
          intro h
          simp only [Bool.and_eq_true, Bool.or_eq_true, Bool.not_eq_true', decide_eq_true_iff, Int.toNat_natCast] at h
          exact hc ⟨h.1, by omega⟩
        · by_cases e : i = k
          · subst e
            have : ¬ f p < f i := fun hh => hc ⟨hgi, hh⟩
            omega
          · exact h3 i (by omega) hgi hne
def gO (o : Nat → Nat) : Nat → Nat → Bool
  | 0, _ => false
  | r + 1, i => gO o r i || i == o r
theorem gO_iff {o : Nat → Nat} : ∀ {r i : Nat}, gO o r i = true ↔ ∃ k, k < r ∧ o k = i
  | 0, i => by simp [gO]
  | r + 1, i => by
    rw [gO, Bool.or_eq_true, gO_iff, beq_iff_eq]
    constructor
    · rintro (⟨k, h1, h2⟩ | h)
      · exact ⟨k, by omega, h2⟩
      · exact ⟨r, by omega, h.symm⟩
    · rintro ⟨k, h1, h2⟩
      by_cases e : k = r
      · subst e; exact .inr h2.symm
      · exact .inl ⟨k, by omega, h2⟩
theorem gO_congr {o o' : Nat → Nat} : ∀ {r : Nat}, (∀ k, k < r → o k = o' k) → gO o r = gO o' r
  | 0, _ => rfl
  | r + 1, h => by
    funext i
    rw [gO, gO, gO_congr (fun k hk => h k (by omega)), h r (by omega)]
section
variable {f : Nat → Int} {n : Nat} {o o' : Nat → Nat}
theorem OrdOk.ne (h : OrdOk f n o) {i j : Nat} (hij : i < j) (hj : j < n) : o i ≠ o j := fun e => by
  have := h.rise i j hij hj
  rw [e] at this
  omega
theorem OrdOk.surj (h : OrdOk f n o) {i : Nat} (hi : i < n) : ∃ r, r < n ∧ o r = i := by
  refine Classical.byContradiction fun hc => ?_
  have hN : ((List.range n).map o).Nodup := by
    rw [List.Nodup, List.pairwise_map, List.pairwise_iff_getElem]
    intro a b ha hb hab
    simp only [List.length_range] at ha hb
    simp only [List.getElem_range]
    exact h.ne hab hb
  have hN2 : (i :: (List.range n).map o).Nodup := by
    rw [List.nodup_cons]
    refine ⟨fun hm => ?_, hN⟩
    obtain ⟨r, hr, e⟩ := List.mem_map.1 hm
    exact hc ⟨r, List.mem_range.1 hr, e⟩
  have := List.Nodup.length_le_of_subset (l₂ := List.range n) hN2 (fun x hx => by
    rw [List.mem_range]
    rcases List.mem_cons.1 hx with rfl | hx
    · exact hi
    · obtain ⟨r, hr, e⟩ := List.mem_map.1 hx
      rw [← e]; exact h.lt r (List.mem_range.1 hr))
  simp at this
  omega
theorem OrdOk.fresh (h : OrdOk f n o) {r : Nat} (hr : r < n) : gO o r (o r) = false := by
  rcases hg : gO o r (o r) with _ | _
  · rfl
  · obtain ⟨k, h1, h2⟩ := gO_iff.1 hg
    exact absurd h2 (h.ne h1 hr)
theorem OrdOk.pick (h : OrdOk f n o) {r : Nat} (hr : r < n) : bsT f (gO o r) n = (o r : Int) := by
  have hf := h.fresh hr
  rcases bsT_cases f (gO o r) n with ⟨h1, h2⟩ | ⟨p, hp, h1, h2, h3⟩
  · have := h2 (o r) (h.lt r hr); rw [hf] at this; cases this
  · rw [h1]
    by_cases e : p = o r
    · rw [e]
    · exfalso
      obtain ⟨k, hk, ek⟩ := h.surj hp
      have hkr : ¬ k < r := fun hh => by
        have := gO_iff.2 ⟨k, hh, ek⟩
        rw [h2] at this; cases this
      have hkr2 : k ≠ r := fun hh => e (by rw [← ek, hh])
      have a1 := h.rise r k (by omega) hk
      have a2 := h3 (o r) (h.lt r hr) hf (fun hh => e hh.symm)
      rw [ek] at a1
      omega
theorem OrdOk.uniq (h : OrdOk f n o) (h' : OrdOk f n o') : ∀ r, r < n → o r = o' r := by
  intro r
  induction r using Nat.strongRecOn with
  | _ r ih =>
    intro hr
    have e := h.pick hr
    rw [gO_congr (fun k hk => ih k hk (by omega)), h'.pick hr] at e
    omega
end
/-- the shares of which r in the order have got one more -/
def addO (o : Nat → Nat) (b : List Int) : Nat → List Int
  | 0 => b
  | r + 1 => (addO o b r).set (o r) ((addO o b r).getD (o r) 0 + 1)
theorem addO_congr {o o' : Nat → Nat} {b : List Int} : ∀ {r : Nat}, (∀ k, k < r → o k = o' k) → addO o b r = addO o' b r
  | 0, _ => rfl
  | r + 1, h => by rw [addO, addO, addO_congr (fun k hk => h k (by omega)), h r (by omega)]
theorem addO_len (o : Nat → Nat) (b : List Int) : ∀ r, (addO o b r).length = b.length
  | 0 => rfl
  | r + 1 => by rw [addO, List.length_set, addO_len o b r]
theorem addO_bd {M : Int} {o : Nat → Nat} {b : List Int} (hM : 0 ≤ M) (h : ∀ x ∈ b, 0 ≤ x ∧ x ≤ M) : ∀ r, ∀ x ∈ addO o b r, 0 ≤ x ∧ x ≤ M + r
  | 0, x, hx => by have := h x hx; omega
  | r + 1, x, hx => by
    have ih := addO_bd (o := o) hM h r
    rw [addO] at hx
    rcases List.mem_or_eq_of_mem_set hx with hx | rfl
    · have := ih x hx; omega
    · rw [List.getD_eq_getElem?_getD]
      rcases he : (addO o b r)[o r]? with _ | y
      · simp; omega
      · have := ih y (List.mem_of_getElem? he)
        simp; omega
/-! what both give -/
def oW (xs : List Int) (T S : Int) (n : Nat) (r : Nat) : Nat := (insertionSort (ltW xs T S n) (rngA n) 0 n)[r]!.toNat
theorem oW_ok (xs : List Int) (T S : Int) (n : Nat) : OrdOk (rmW xs T S) n (oW xs T S n) :=
  ord_ok (ins_all (ltW_swo xs T S n) (Nat.zero_le _) (by rw [rngA_size]; exact Nat.le_refl _) (fun p q _ h2 h3 => rngA_rise n p q h2 h3))
def dvB (xs : List Int) (T : Int) : Bool := inB (xs.length : Int) 1 32 && (allIn xs 0 1000000 && (inB T 0 100000 && !(sumL xs == 0)))
def dvL (xs : List Int) (T : Int) : List Int := if dvB xs T = true then addO (oW xs T (sumL xs) xs.length) (bsW xs T (sumL xs)) (leftW xs T (sumL xs)).toNat else []
theorem dvL_no {xs : List Int} {T : Int} (h : dvB xs T = false) : dvL xs T = [] := by simp [dvL, h]
theorem dvL_yes {xs : List Int} {T : Int} (h : dvB xs T = true) : dvL xs T = addO (oW xs T (sumL xs) xs.length) (bsW xs T (sumL xs)) (leftW xs T (sumL xs)).toNat := by simp [dvL, h]
theorem dvL_len {xs : List Int} {T : Int} : (dvL xs T).length ≤ 32 := by
  rcases h : dvB xs T with _ | _
  · rw [dvL_no h]; simp
  · rw [dvL_yes h, addO_len, bsW_len]
    unfold dvB at h
    simp only [Bool.and_eq_true, inB_iff] at h
    omega
theorem bsW_bd {xs : List Int} {T S : Int} (hT : 0 ≤ T ∧ T ≤ 100000) (hS : 0 < S) (h : ∀ x ∈ xs, 0 ≤ x ∧ x ≤ 1000000) : ∀ y ∈ bsW xs T S, 0 ≤ y ∧ y ≤ 100000000000 := by
  intro y hy
  unfold bsW at hy
  obtain ⟨x, hx, rfl⟩ := List.mem_map.1 hy
  have hx2 := h x hx
  have h0 : 0 ≤ T * x := Int.mul_nonneg hT.1 hx2.1
  have h1 : T * x ≤ 100000 * 1000000 := Int.mul_le_mul hT.2 hx2.2 hx2.1 (by omega)
  refine ⟨Int.ediv_nonneg h0 (by omega), Int.le_trans (Int.ediv_le_self S h0) (by omega)⟩
end Go.Proofs.Ytblgeehdngejpaa
