/-
  Plain lemmas: the least number n in 0..1000000 with k ≤ d * n (no program in sight).
-/
import Derived.Test.YtnhdgjcobngolaaLib
namespace Go.Proofs.Ytnhdgjcobngolaa

def upV (a b : Int) : Int := max 0 ((a + b - 1) / b)
def nB (k d : Int) : Bool := decide (k ≤ 0) || (decide (d ≠ 0) && decide (upV k d ≤ 1000000))
def nV (k d : Int) : Int := if k ≤ 0 then 0 else if nB k d then upV k d else 0
theorem up_spec {k d : Int} (hk : 0 < k) (hd : 0 < d) : 0 ≤ upV k d ∧ k ≤ d * upV k d ∧ d * (upV k d - 1) < k := by
  have h0 : 0 ≤ (k + d - 1) / d := Int.ediv_nonneg (by omega) (by omega)
  have hu : upV k d = (k + d - 1) / d := by unfold upV; omega
  rw [hu]
  have h1 : (k + d - 1) / d * d ≤ k + d - 1 := Int.ediv_mul_le _ (by omega)
  have h2 : k + d - 1 < (k + d - 1) / d * d + d := Int.lt_ediv_add_one_mul_self _ hd |> fun h => by rw [Int.add_mul, Int.one_mul] at h; exact h
  have h3 : d * ((k + d - 1) / d) = (k + d - 1) / d * d := Int.mul_comm _ _
  refine ⟨h0, by omega, ?_⟩
  rw [Int.mul_sub, Int.mul_one]
  omega
theorem n_yes {k d : Int} (hd : 0 ≤ d) (h : nB k d = true) : 0 ≤ nV k d ∧ nV k d ≤ 1000000 ∧ k ≤ d * nV k d ∧ ∀ j, 0 ≤ j → j < nV k d → ¬ k ≤ d * j := by
  unfold nV
  by_cases hk : k ≤ 0
  · rw [if_pos hk]
    exact ⟨by omega, by omega, by simpa using hk, fun j h0 h1 => by omega⟩
  · rw [if_neg hk, if_pos h]
    simp [nB] at h
    have hd' : d ≠ 0 ∧ upV k d ≤ 1000000 := by
      rcases h with h | h
      · omega
      · exact h
    obtain ⟨u0, u1, u2⟩ := up_spec (k := k) (d := d) (by omega) (by omega)
    refine ⟨u0, hd'.2, u1, fun j h0 h1 hj => ?_⟩
    have : d * j ≤ d * (upV k d - 1) := Int.mul_le_mul_of_nonneg_left (by omega) hd
    omega
theorem n_no {k d : Int} (hd : 0 ≤ d) (h : nB k d = false) : (∀ j, 0 ≤ j → j ≤ 1000000 → ¬ k ≤ d * j) ∧ nV k d = 0 := by
  simp only [nB, Bool.or_eq_false_iff, decide_eq_false_iff_not, Bool.and_eq_false_iff] at h
  obtain ⟨h1, h2⟩ := h
  have hz : nV k d = 0 := by
    unfold nV nB
    rw [if_neg h1]
    simp only [h1, decide_false, Bool.false_or]
    rw [if_neg]
    intro hc
    simp at hc
    rcases h2 with h2 | h2
    · simp at h2; exact hc.1 h2
    · exact h2 hc.2
  refine ⟨fun j j0 j1 hj => ?_, hz⟩
  rcases h2 with h2 | h2
  · have hd0 : d = 0 := by simpa using h2
    subst hd0
    simp at hj
    omega
  · by_cases hd0 : d = 0
    · subst hd0
      simp at hj
      omega
    · obtain ⟨u0, u1, u2⟩ := up_spec (k := k) (d := d) (by omega) (by omega)
      have : d * j ≤ d * (upV k d - 1) := Int.mul_le_mul_of_nonneg_left (by omega) hd
      omega
/-- r is the least number from 0 on with so -/
def Least (so : Int → Bool) (r : Int) : Prop := 0 ≤ r ∧ r ≤ 1000000 ∧ so r = true ∧ ∀ j, 0 ≤ j → j < r → so j = false
theorem least_one {so : Int → Bool} {r s : Int} (h : Least so r) (k : Least so s) : r = s := by
  obtain ⟨a1, a2, a3, a4⟩ := h
  obtain ⟨b1, b2, b3, b4⟩ := k
  rcases Int.lt_trichotomy r s with hl | hl | hl
  · rw [b4 r a1 hl] at a3; cases a3
  · exact hl
  · rw [a4 s b1 hl] at b3; cases b3
theorem n_least {k d : Int} (hd : 0 ≤ d) (h : nB k d = true) {so : Int → Bool} (hso : ∀ n, 0 ≤ n → n ≤ 1000000 → (so n = true ↔ k ≤ d * n)) : Least so (nV k d) := by
  obtain ⟨h0, h1, h2, h3⟩ := n_yes hd h
  refine ⟨h0, h1, (hso _ h0 h1).2 h2, fun j j0 j1 => ?_⟩
  rw [Bool.eq_false_iff]
  intro hj
  exact h3 j j0 j1 ((hso j j0 (by omega)).1 hj)
/-- the end of the search: the value and whether there is one -/
def sV (b : Bool) (x : Int) : Int := if b then x else 0
theorem one_end {k d : Int} (hd : 0 ≤ d) {so : Int → Bool} (hso : ∀ n, 0 ≤ n → n ≤ 1000000 → (so n = true ↔ k ≤ d * n)) :
    (so 1000000 = false → nB k d = false ∧ nV k d = 0) ∧ (∀ r, so 1000000 = true → Least so r → nB k d = true ∧ nV k d = r) := by
  refine ⟨fun h => ?_, fun r h hr => ?_⟩
  · rcases hb : nB k d with _ | _
    · exact ⟨rfl, (n_no hd hb).2⟩
    · exfalso
      obtain ⟨h0, h1, h2, _⟩ := n_yes hd hb
      have : d * nV k d ≤ d * 1000000 := Int.mul_le_mul_of_nonneg_left h1 hd
      have := (hso 1000000 (by omega) (by omega)).2 (by omega)
      rw [h] at this
      cases this
  · rcases hb : nB k d with _ | _
    · exact absurd ((hso 1000000 (by omega) (by omega)).1 h) ((n_no hd hb).1 _ (by omega) (by omega))
    · exact ⟨rfl, least_one (n_least hd hb hso) hr⟩
def twoB (k1 d1 k2 d2 : Int) : Bool := nB k1 d1 && nB k2 d2
def twoV (k1 d1 k2 d2 : Int) : Int := if twoB k1 d1 k2 d2 then max (nV k1 d1) (nV k2 d2) else 0
theorem two_end {k1 d1 k2 d2 : Int} (hd1 : 0 ≤ d1) (hd2 : 0 ≤ d2) {so : Int → Bool} (hso : ∀ n, 0 ≤ n → n ≤ 1000000 → (so n = true ↔ k1 ≤ d1 * n ∧ k2 ≤ d2 * n)) :
    (so 1000000 = false → twoB k1 d1 k2 d2 = false ∧ twoV k1 d1 k2 d2 = 0) ∧ (∀ r, so 1000000 = true → Least so r → twoB k1 d1 k2 d2 = true ∧ twoV k1 d1 k2 d2 = r) := by
  refine ⟨fun h => ?_, fun r h hr => ?_⟩
  · have hb : twoB k1 d1 k2 d2 = false := by
      rcases hb1 : nB k1 d1 with _ | _
      · simp [twoB, hb1]
      · rcases hb2 : nB k2 d2 with _ | _
        · simp [twoB, hb2]
        · exfalso
          obtain ⟨_, h1, h2, _⟩ := n_yes hd1 hb1
          obtain ⟨_, h1', h2', _⟩ := n_yes hd2 hb2
          have e1 : d1 * nV k1 d1 ≤ d1 * 1000000 := Int.mul_le_mul_of_nonneg_left h1 hd1
          have e2 : d2 * nV k2 d2 ≤ d2 * 1000000 := Int.mul_le_mul_of_nonneg_left h1' hd2
          have := (hso 1000000 (by omega) (by omega)).2 ⟨by omega, by omega⟩
          rw [h] at this
          cases this
    exact ⟨hb, by simp [twoV, hb]⟩
  · obtain ⟨m1, m2⟩ := (hso 1000000 (by omega) (by omega)).1 h
    have hb1 : nB k1 d1 = true := by
      rcases hb : nB k1 d1 with _ | _
      · exact absurd m1 ((n_no hd1 hb).1 _ (by omega) (by omega))
      · rfl
    have hb2 : nB k2 d2 = true := by
      rcases hb : nB k2 d2 with _ | _
      · exact absurd m2 ((n_no hd2 hb).1 _ (by omega) (by omega))
      · rfl
    have hb : twoB k1 d1 k2 d2 = true := by simp [twoB, hb1, hb2]
    refine ⟨hb, ?_⟩
    rw [twoV, if_pos hb]
    refine least_one (so := so) ?_ hr
    obtain ⟨a1, a2, a3, a4⟩ := n_yes hd1 hb1
    obtain ⟨b1, b2, b3, b4⟩ := n_yes hd2 hb2
    have g1 : d1 * nV k1 d1 ≤ d1 * max (nV k1 d1) (nV k2 d2) := Int.mul_le_mul_of_nonneg_left (by omega) hd1
    have g2 : d2 * nV k2 d2 ≤ d2 * max (nV k1 d1) (nV k2 d2) := Int.mul_le_mul_of_nonneg_left (by omega) hd2
    refine ⟨by omega, by omega, (hso _ (by omega) (by omega)).2 ⟨by omega, by omega⟩, fun j j0 j1 => ?_⟩
    rw [Bool.eq_false_iff]
    intro hj
    obtain ⟨c1, c2⟩ := (hso j j0 (by omega)).1 hj
    rcases Int.lt_or_le j (nV k1 d1) with hl | hl
    · exact a4 j j0 hl c1
    · exact b4 j j0 (by omega) c2
end Go.Proofs.Ytnhdgjcobngolaa
