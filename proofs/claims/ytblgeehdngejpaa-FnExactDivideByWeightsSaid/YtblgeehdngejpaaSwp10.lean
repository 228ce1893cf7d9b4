/-
  The insertion sort on elements that rise: what it leaves is strictly rising by TT.
-/
import Derived.Test.YtblgeehdngejpaaSwp9
namespace Go.Proofs.Ytblgeehdngejpaa
open Go.RowKit Go.Lib Go.Sort Go.Shelf
set_option linter.unusedVariables false

theorem ins_mem {lt : Int → Int → Bool} {a : Nat} : ∀ (j : Nat) (d : Array Int), j < d.size → a ≤ j → (insInner lt a j d).size = d.size ∧ (∀ k, k < a ∨ j < k → (insInner lt a j d)[k]! = d[k]!) ∧ ∀ k, a ≤ k → k ≤ j → ∃ k', a ≤ k' ∧ k' ≤ j ∧ (insInner lt a j d)[k]! = d[k']!
  | 0, d, _, _ => ⟨rfl, fun _ _ => rfl, fun k h1 h2 => ⟨k, h1, h2, rfl⟩⟩
  | j + 1, d, hj, ha => by
    by_cases hc : a < j + 1 ∧ lt d[j + 1]! d[j]! = true
    · obtain ⟨hc1, hc2⟩ := hc
      rw [insInner_go lt a (j + 1) d hc1 hc2, show j + 1 - 1 = j from rfl]
      obtain ⟨i1, i2, i3⟩ := ins_mem (lt := lt) (a := a) j (swp d (j + 1) j) (by rw [size_swp]; omega) (by omega)
      refine ⟨by rw [i1, size_swp], fun k hk => ?_, fun k h1 h2 => ?_⟩
      · rw [i2 k (by omega), swp_other _ _ _ _ (by omega) (by omega)]
      · have tl : ∀ k', a ≤ k' → k' ≤ j + 1 → ∃ k2, a ≤ k2 ∧ k2 ≤ j + 1 ∧ (swp d (j + 1) j)[k']! = d[k2]! := fun k' q1 q2 => by
          by_cases e1 : k' = j + 1
          · subst e1; exact ⟨j, by omega, by omega, swp_left _ _ _ hj (by omega)⟩
          · by_cases e2 : k' = j
            · subst e2; exact ⟨k' + 1, by omega, by omega, swp_right _ _ _ (by omega)⟩
            · exact ⟨k', q1, q2, swp_other _ _ _ _ e1 e2⟩
        by_cases e : k ≤ j
        · obtain ⟨k', q1, q2, q3⟩ := i3 k h1 e
          obtain ⟨k2, r1, r2, r3⟩ := tl k' q1 (by omega)
          exact ⟨k2, r1, r2, by rw [q3, r3]⟩
        · obtain ⟨k2, r1, r2, r3⟩ := tl k h1 h2
          exact ⟨k2, r1, r2, by rw [i2 k (by omega), r3]⟩
    · have hs : j + 1 ≤ a ∨ lt d[j + 1]! d[j]! = false := by
        by_cases h1 : a < j + 1
        · refine .inr ?_
          cases h2 : lt d[j + 1]! d[j]! with
          | false => rfl
          | true => exact absurd ⟨h1, h2⟩ hc
        · exact .inl (by omega)
      rw [insInner_stop lt a (j + 1) d hs]
      exact ⟨rfl, fun _ _ => rfl, fun k h1 h2 => ⟨k, h1, h2, rfl⟩⟩
/-- the places from i on lie behind all from a on -/
def Bhd (a b i : Nat) (d : Array Int) : Prop := ∀ p q, a ≤ p → p < q → i ≤ q → q < b → d[p]! < d[q]!
theorem out_same {lt : Int → Int → Bool} {a b : Nat} : ∀ (n i : Nat) (d : Array Int), b - i = n → a < i → b ≤ d.size → Bhd a b i d → insOuter lt a b i d = insOuter (TT lt) a b i d
  | 0, i, d, hn, _, _, _ => by rw [insOuter_stop lt a b i d (by omega), insOuter_stop (TT lt) a b i d (by omega)]
  | n + 1, i, d, hn, ha, hb, h => by
    rw [insOuter_go lt a b i d (by omega), insOuter_go (TT lt) a b i d (by omega), ins_same (lt := lt) (a := a) i d (by omega) (fun k h1 h2 => h k i h1 h2 (Nat.le_refl _) (by omega))]
    obtain ⟨m1, m2, m3⟩ := ins_mem (lt := TT lt) (a := a) i d (by omega) (by omega)
    refine out_same n (i + 1) _ (by omega) (by omega) (by rw [m1]; exact hb) (fun p q h1 h2 h3 h4 => ?_)
    rw [m2 q (by omega)]
    by_cases e : p ≤ i
    · obtain ⟨p', q1, q2, q3⟩ := m3 p h1 e
      rw [q3]; exact h p' q q1 (by omega) (by omega) h4
    · rw [m2 p (by omega)]; exact h p q h1 h2 (by omega) h4
theorem sort_same {lt : Int → Int → Bool} {a b : Nat} {d : Array Int} (hb : b ≤ d.size) (h : ∀ p q, a ≤ p → p < q → q < b → d[p]! < d[q]!) : insertionSort lt d a b = insertionSort (TT lt) d a b := by
  unfold insertionSort
  exact out_same (b - (a + 1)) (a + 1) d rfl (by omega) hb (fun p q h1 h2 _ h4 => h p q h1 h2 h4)
theorem ext_nodup {a b : Nat} {d : Array Int} (hb : b ≤ d.size) (h : ∀ p q, a ≤ p → p < q → q < b → d[p]! ≠ d[q]!) : (d.extract a b).toList.Nodup := by
  rw [List.Nodup, List.pairwise_iff_getElem]
  intro i j hi hj hij
  simp only [Array.toList_extract, List.extract_eq_take_drop, List.length_take, List.length_drop, Array.length_toList] at hi hj
  have e := h (a + i) (a + j) (by omega) (by omega) (by omega)
  rw [getElem!_pos d (a + i) (by omega), getElem!_pos d (a + j) (by omega)] at e
  simpa using e
theorem nodup_ne {a b : Nat} {d : Array Int} (hb : b ≤ d.size) (h : (d.extract a b).toList.Nodup) {p q : Nat} (h1 : a ≤ p) (h2 : p < q) (h3 : q < b) : d[p]! ≠ d[q]! := by
  rw [List.Nodup, List.pairwise_iff_getElem] at h
  have e := h (p - a) (q - a) (by simp; omega) (by simp; omega) (by omega)
  rw [getElem!_pos d p (by omega), getElem!_pos d q (by omega)]
  simp only [Array.getElem_toList, Array.getElem_extract, show a + (p - a) = p by omega, show a + (q - a) = q by omega] at e
  exact e
theorem ins_all {lt : Int → Int → Bool} (hS : SWO lt) {a b : Nat} {d : Array Int} (hab : a ≤ b) (hb : b ≤ d.size) (h : ∀ p q, a ≤ p → p < q → q < b → d[p]! < d[q]!) : MgR lt a b d (insertionSort lt d a b) := by
  rw [sort_same hb h]
  obtain ⟨hp, hs⟩ := insertionSort_holds (TT.swo hS) d a b hab hb
  have hsz := hp.1
  have hN := ext_nodup hb (fun p q h1 h2 h3 => Int.ne_of_lt (h p q h1 h2 h3))
  have hN2 := hp.2.2.nodup_iff.mpr hN
  refine ⟨hsz, hp.2.1, fun i j h1 h2 h3 => ?_, fun k h1 h2 => ?_⟩
  · rcases TT.total (hs i j h1 h2 h3) with e | e
    · exact absurd e.symm (nodup_ne (by rw [hsz]; exact hb) hN2 h1 h2 h3)
    · exact e
  · exact permIn_all d _ a b (fun x => ∃ k', a ≤ k' ∧ k' < b ∧ x = d[k']!) hb hp (fun i q1 q2 => ⟨i, q1, q2, rfl⟩) k h1 h2
theorem MgR.sd {lt : Int → Int → Bool} {a b : Nat} {d e : Array Int} (h : MgR lt a b d e) : Sd lt a b e := h.2.2.1
/-- two parts sorted each by itself: what symMerge asks -/
theorem two_parts {lt : Int → Int → Bool} (hS : SWO lt) {m b : Nat} {d e f : Array Int} (hm : m ≤ b) (hb : b ≤ d.size) (h : ∀ p q, p < q → q < b → d[p]! < d[q]!) (h1 : MgR lt 0 m d e) (h2 : MgR lt m b e f) :
    Mg lt 0 m b f ∧ ∀ k, k < b → ∃ k', k' < b ∧ f[k]! = d[k']! := by
  obtain ⟨s1, o1, d1, r1⟩ := h1
  obtain ⟨s2, o2, d2, r2⟩ := h2
  refine ⟨⟨fun i j q1 q2 q3 => ?_, d2, fun i j q1 q2 q3 q4 => ?_⟩, fun k hk => ?_⟩
  · rw [o2 i (by omega), o2 j (by omega)]; exact d1 i j q1 q2 q3
  · rw [o2 i (by omega)]
    obtain ⟨j', x1, x2, x3⟩ := r2 j q3 q4
    obtain ⟨i', y1, y2, y3⟩ := r1 i q1 q2
    rw [x3, y3, o1 j' (by omega)]
    exact h i' j' (by omega) (by omega)
  · by_cases e1 : k < m
    · obtain ⟨k', y1, y2, y3⟩ := r1 k (Nat.zero_le _) e1
      exact ⟨k', by omega, by rw [o2 k (by omega), y3]⟩
    · obtain ⟨k', x1, x2, x3⟩ := r2 k (by omega) hk
      exact ⟨k', x2, by rw [x3, o1 k' (by omega)]⟩
end Go.Proofs.Ytblgeehdngejpaa
