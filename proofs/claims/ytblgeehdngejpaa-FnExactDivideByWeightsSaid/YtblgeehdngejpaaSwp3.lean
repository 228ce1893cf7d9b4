/-
  symMerge, plain.
-/
import Derived.Test.YtblgeehdngejpaaSwp2
namespace Go.Proofs.Ytblgeehdngejpaa
open Go.RowKit Go.Lib Go.Sort Go.Shelf
set_option linter.unusedVariables false

/-- the order with the place at the start as the last word -/
def TT (lt : Int → Int → Bool) (x y : Int) : Bool := lt x y || (!lt y x && decide (x < y))
theorem TT.of_lt {lt : Int → Int → Bool} {x y : Int} (h : lt x y = true) : TT lt x y = true := by unfold TT; rw [h]; rfl
theorem TT.of_not {lt : Int → Int → Bool} {x y : Int} (h : lt y x = false) (hx : x < y) : TT lt x y = true := by unfold TT; rw [h, decide_eq_true hx]; simp
theorem TT.trans {lt : Int → Int → Bool} (hS : SWO lt) {x y z : Int} (h1 : TT lt x y = true) (h2 : TT lt y z = true) : TT lt x z = true := by
  unfold TT at h1 h2 ⊢
  rw [Bool.or_eq_true, Bool.and_eq_true, Bool.not_eq_true', decide_eq_true_iff] at h1 h2 ⊢
  rcases h1 with h1 | ⟨h1, h1'⟩
  · refine .inl ?_
    rcases h2 with h2 | ⟨h2, _⟩
    · exact hS.trans _ _ _ h1 h2
    · cases h : lt x z with
      | true => rfl
      | false => have := hS.ntrans x z y h h2; rw [h1] at this; cases this
  · rcases h2 with h2 | ⟨h2, h2'⟩
    · refine .inl ?_
      cases h : lt x z with
      | true => rfl
      | false => have := hS.ntrans y x z h1 h; rw [h2] at this; cases this
    · exact .inr ⟨hS.ntrans z y x h2 h1, by omega⟩
section
variable {lt : Int → Int → Bool}
/-- strictly rising from a to b -/
def Sd (lt : Int → Int → Bool) (a b : Nat) (d : Array Int) : Prop := ∀ i j, a ≤ i → i < j → j < b → TT lt d[i]! d[j]! = true
def Crs (a m b : Nat) (d : Array Int) : Prop := ∀ i j, a ≤ i → i < m → m ≤ j → j < b → d[i]! < d[j]!
def Mg (lt : Int → Int → Bool) (a m b : Nat) (d : Array Int) : Prop := Sd lt a m d ∧ Sd lt m b d ∧ Crs a m b d
def MgR (lt : Int → Int → Bool) (a b : Nat) (d d' : Array Int) : Prop := d'.size = d.size ∧ (∀ k, k < a ∨ b ≤ k → d'[k]! = d[k]!) ∧ Sd lt a b d' ∧ ∀ k, a ≤ k → k < b → ∃ k', a ≤ k' ∧ k' < b ∧ d'[k]! = d[k']!
theorem MgR.refl {a b : Nat} {d : Array Int} (h : Sd lt a b d) : MgR lt a b d d := ⟨rfl, fun k _ => rfl, h, fun k h1 h2 => ⟨k, h1, h2, rfl⟩⟩
theorem Sd.le (hS : SWO lt) {a b i j : Nat} {d : Array Int} {x : Int} (h : Sd lt a b d) (h1 : a ≤ i) (h2 : i ≤ j) (h3 : j < b) (hx : TT lt d[j]! x = true) : TT lt d[i]! x = true := by
  rcases Nat.lt_or_ge i j with h4 | h4
  · exact TT.trans hS (h i j h1 h4 h3) hx
  · obtain rfl : i = j := by omega
    exact hx
theorem Sd.ge (hS : SWO lt) {a b i j : Nat} {d : Array Int} {x : Int} (h : Sd lt a b d) (h1 : a ≤ i) (h2 : i ≤ j) (h3 : j < b) (hx : TT lt x d[i]! = true) : TT lt x d[j]! = true := by
  rcases Nat.lt_or_ge i j with h4 | h4
  · exact TT.trans hS hx (h i j h1 h4 h3)
  · obtain rfl : i = j := by omega
    exact hx
/-! one element on the left -/
def ShR (a k : Nat) (d c : Array Int) : Prop := c.size = d.size ∧ ∀ x, c[x]! = if a ≤ x ∧ x < k then d[x + 1]! else if x = k then d[a]! else d[x]!
theorem ShR.zero (a : Nat) (d : Array Int) : ShR a a d d := ⟨rfl, fun x => by
  rw [if_neg (by omega)]
  by_cases h : x = a
  · rw [if_pos h, h]
  · rw [if_neg h]⟩
theorem ShR.succ {a k : Nat} {d c : Array Int} (h : ShR a k d c) (ha : a ≤ k) (hk : k + 1 < d.size) : ShR a (k + 1) d (swp c k (k + 1)) := by
  obtain ⟨hs, hc⟩ := h
  refine ⟨by rw [size_swp, hs], fun x => ?_⟩
  by_cases h1 : x = k
  · subst h1
    rw [swp_left _ _ _ (by omega) (by omega), hc, if_neg (by omega), if_neg (by omega), if_pos (by omega)]
  · by_cases h2 : x = k + 1
    · subst h2
      rw [swp_right _ _ _ (by omega), hc, if_neg (by omega), if_pos rfl, if_neg (by omega), if_pos rfl]
    · rw [swp_other _ _ _ _ h1 h2, hc]
      by_cases h3 : a ≤ x ∧ x < k
      · rw [if_pos h3, if_pos (by omega)]
      · rw [if_neg h3, if_neg h1, if_neg (by omega), if_neg h2]
theorem one_left (hS : SWO lt) {a b i : Nat} {d c : Array Int} (hd : Sd lt (a + 1) b d) (hi : a + 1 ≤ i) (hib : i ≤ b) (h1 : ∀ k, a + 1 ≤ k → k < i → TT lt d[k]! d[a]! = true) (h2 : ∀ k, i ≤ k → k < b → TT lt d[a]! d[k]! = true) (h : ShR a (i - 1) d c) : MgR lt a b d c := by
  obtain ⟨hs, hc⟩ := h
  have lo : ∀ x, a ≤ x → x < i - 1 → c[x]! = d[x + 1]! := fun x h3 h4 => by rw [hc, if_pos ⟨h3, h4⟩]
  have mi : c[i - 1]! = d[a]! := by rw [hc, if_neg (by omega), if_pos rfl]
  have hi' : ∀ x, x < a ∨ i ≤ x → c[x]! = d[x]! := fun x h3 => by rw [hc, if_neg (by omega), if_neg (by omega)]
  refine ⟨hs, fun k hk => hi' k (by omega), fun x y hx hxy hy => ?_, fun k hk1 hk2 => ?_⟩
  · by_cases e1 : x < i - 1
    · rw [lo x hx e1]
      by_cases e2 : y < i - 1
      · rw [lo y (by omega) e2]; exact hd _ _ (by omega) (by omega) (by omega)
      · by_cases e3 : y = i - 1
        · subst e3; rw [mi]; exact h1 _ (by omega) (by omega)
        · rw [hi' y (by omega)]; exact hd _ _ (by omega) (by omega) (by omega)
    · by_cases e2 : x = i - 1
      · subst e2; rw [mi, hi' y (by omega)]; exact h2 _ (by omega) hy
      · rw [hi' x (by omega), hi' y (by omega)]; exact hd _ _ (by omega) (by omega) (by omega)
  · by_cases e1 : k < i - 1
    · exact ⟨k + 1, by omega, by omega, lo k hk1 e1⟩
    · by_cases e2 : k = i - 1
      · subst e2; exact ⟨a, by omega, by omega, mi⟩
      · exact ⟨k, hk1, hk2, hi' k (by omega)⟩
/-! one element on the right -/
def ShL (m k : Nat) (d c : Array Int) : Prop := c.size = d.size ∧ ∀ x, c[x]! = if x = k then d[m]! else if k < x ∧ x ≤ m then d[x - 1]! else d[x]!
theorem ShL.zero (m : Nat) (d : Array Int) : ShL m m d d := ⟨rfl, fun x => by
  by_cases h : x = m
  · rw [if_pos h, h]
  · rw [if_neg h, if_neg (by omega)]⟩
theorem ShL.succ {m k : Nat} {d c : Array Int} (h : ShL m k d c) (hk0 : 0 < k) (hk : k ≤ m) (hm : m < d.size) : ShL m (k - 1) d (swp c k (k - 1)) := by
  obtain ⟨hs, hc⟩ := h
  refine ⟨by rw [size_swp, hs], fun x => ?_⟩
  by_cases h1 : x = k
  · subst h1
    rw [swp_left _ _ _ (by omega) (by omega), hc, if_neg (by omega), if_neg (by omega), if_neg (by omega), if_pos (by omega)]
  · by_cases h2 : x = k - 1
    · subst h2
      rw [swp_right _ _ _ (by omega), hc, if_pos rfl, if_pos rfl]
    · rw [swp_other _ _ _ _ h1 h2, hc, if_neg h1, if_neg h2]
      by_cases h3 : k < x ∧ x ≤ m
      · rw [if_pos h3, if_pos (by omega)]
      · rw [if_neg h3, if_neg (by omega)]
theorem one_right (hS : SWO lt) {a m i : Nat} {d c : Array Int} (hd : Sd lt a m d) (hi : a ≤ i) (him : i ≤ m) (h1 : ∀ k, a ≤ k → k < i → TT lt d[k]! d[m]! = true) (h2 : ∀ k, i ≤ k → k < m → TT lt d[m]! d[k]! = true) (h : ShL m i d c) : MgR lt a (m + 1) d c := by
  obtain ⟨hs, hc⟩ := h
  have mi : c[i]! = d[m]! := by rw [hc, if_pos rfl]
  have hi' : ∀ x, i < x → x ≤ m → c[x]! = d[x - 1]! := fun x h3 h4 => by rw [hc, if_neg (by omega), if_pos ⟨h3, h4⟩]
  have ou : ∀ x, x < i ∨ m < x → c[x]! = d[x]! := fun x h3 => by rw [hc, if_neg (by omega), if_neg (by omega)]
  refine ⟨hs, fun k hk => ou k (by omega), fun x y hx hxy hy => ?_, fun k hk1 hk2 => ?_⟩
  · by_cases e1 : x < i
    · rw [ou x (by omega)]
      by_cases e2 : y < i
      · rw [ou y (by omega)]; exact hd _ _ (by omega) (by omega) (by omega)
      · by_cases e3 : y = i
        · subst e3; rw [mi]; exact h1 _ hx e1
        · rw [hi' y (by omega) (by omega)]; exact hd _ _ (by omega) (by omega) (by omega)
    · by_cases e2 : x = i
      · subst e2; rw [mi, hi' y (by omega) (by omega)]; exact h2 _ (by omega) (by omega)
      · rw [hi' x (by omega) (by omega), hi' y (by omega) (by omega)]; exact hd _ _ (by omega) (by omega) (by omega)
  · by_cases e1 : k < i
    · exact ⟨k, hk1, hk2, ou k (by omega)⟩
    · by_cases e2 : k = i
      · subst e2; exact ⟨m, by omega, by omega, mi⟩
      · exact ⟨k - 1, by omega, by omega, hi' k (by omega) (by omega)⟩
/-! both long -/
theorem RotR.same {s m e : Nat} (d : Array Int) (hs : s ≤ m) (he : m ≤ e) (h : s = m ∨ e = m) : RotR s m e d d := by
  refine ⟨rfl, fun k => ?_⟩
  by_cases h1 : s ≤ k ∧ k < s + (e - m)
  · rw [if_pos h1]; exact ix (by omega)
  · rw [if_neg h1]
    by_cases h2 : s + (e - m) ≤ k ∧ k < e
    · rw [if_pos h2]; exact ix (by omega)
    · rw [if_neg h2]
/-- what the search of symMerge finds: 'start' between lo and hi -/
structure Fnd (lt : Int → Int → Bool) (a m b mid s : Nat) (d : Array Int) : Prop where
  hs : a ≤ s
  hm : s ≤ m
  he : m ≤ mid + m - s
  hb : mid + m - s ≤ b
  hmid : s ≤ mid
  l : (a < s → mid + m - s < b → TT lt d[s - 1]! d[mid + m - s]! = true)
  r : (m < mid + m - s → s < m → TT lt d[mid + m - s - 1]! d[s]! = true)
section
variable {a m b mid s : Nat} {d e : Array Int}
theorem rot_parts (hF : Fnd lt a m b mid s d) (hR : RotR s m (mid + m - s) d e) :
    (∀ k, k < s → e[k]! = d[k]!) ∧ (∀ k, s ≤ k → k < mid → e[k]! = d[k + (m - s)]!) ∧ (∀ k, mid ≤ k → k < mid + m - s → e[k]! = d[k - (mid - s)]!) ∧ (∀ k, mid + m - s ≤ k → e[k]! = d[k]!) := by
  have := hF.hs; have := hF.hm; have := hF.he; have := hF.hb; have := hF.hmid
  refine ⟨fun k h => hR.out (by omega) (by omega), fun k h1 h2 => hR.lo (by omega) (by omega), fun k h1 h2 => ?_, fun k h => hR.out (by omega) (by omega)⟩
  rw [hR.hi (by omega) (by omega)]
  exact ix (by omega)
theorem merge_split (hS : SWO lt) (hM : Mg lt a m b d) (hF : Fnd lt a m b mid s d) (hR : RotR s m (mid + m - s) d e) :
    Mg lt a s mid e ∧ Mg lt mid (mid + m - s) b e ∧ (∀ i j, a ≤ i → i < mid → mid ≤ j → j < b → TT lt e[i]! e[j]! = true) ∧ (∀ k, k < a ∨ b ≤ k → e[k]! = d[k]!) ∧ ∀ k, a ≤ k → k < b → ∃ k', a ≤ k' ∧ k' < b ∧ e[k]! = d[k']! := by
  obtain ⟨p1, p2, p3, p4⟩ := rot_parts hF hR
  obtain ⟨hL, hRr, hC⟩ := hM
  obtain ⟨f1, f2, f3, f4, f5, fl, fr⟩ := hF
  refine ⟨⟨?_, ?_, ?_⟩, ⟨?_, ?_, ?_⟩, ?_, ?_, ?_⟩
  · intro i j h1 h2 h3
    rw [p1 i (by omega), p1 j (by omega)]; exact hL _ _ (by omega) (by omega) (by omega)
  · intro i j h1 h2 h3
    rw [p2 i (by omega) (by omega), p2 j (by omega) (by omega)]; exact hRr _ _ (by omega) (by omega) (by omega)
  · intro i j h1 h2 h3 h4
    rw [p1 i (by omega), p2 j (by omega) (by omega)]; exact hC _ _ (by omega) (by omega) (by omega) (by omega)
  · intro i j h1 h2 h3
    rw [p3 i (by omega) (by omega), p3 j (by omega) (by omega)]; exact hL _ _ (by omega) (by omega) (by omega)
  · intro i j h1 h2 h3
    rw [p4 i (by omega), p4 j (by omega)]; exact hRr _ _ (by omega) (by omega) (by omega)
  · intro i j h1 h2 h3 h4
    rw [p3 i (by omega) (by omega), p4 j (by omega)]; exact hC _ _ (by omega) (by omega) (by omega) (by omega)
  · intro i j h1 h2 h3 h4
    by_cases e1 : i < s
    · rw [p1 i e1]
      by_cases e2 : j < mid + m - s
      · rw [p3 j (by omega) e2]; exact hL _ _ (by omega) (by omega) (by omega)
      · rw [p4 j (by omega)]
        have x := fl (by omega) (by omega)
        exact hL.le hS (j := s - 1) (by omega) (by omega) (by omega) (hRr.ge hS (i := mid + m - s) (by omega) (by omega) (by omega) x)
    · rw [p2 i (by omega) (by omega)]
      by_cases e2 : j < mid + m - s
      · rw [p3 j (by omega) e2]
        have x := fr (by omega) (by omega)
        exact hRr.le hS (j := mid + m - s - 1) (by omega) (by omega) (by omega) (hL.ge hS (i := s) (by omega) (by omega) (by omega) x)
      · rw [p4 j (by omega)]; exact hRr _ _ (by omega) (by omega) (by omega)
  · intro k hk
    by_cases e1 : k < a
    · exact p1 k (by omega)
    · exact p4 k (by omega)
  · intro k h1 h2
    by_cases e1 : k < s
    · exact ⟨k, by omega, by omega, p1 k e1⟩
    · by_cases e2 : k < mid
      · exact ⟨_, by omega, by omega, p2 k (by omega) e2⟩
      · by_cases e3 : k < mid + m - s
        · exact ⟨_, by omega, by omega, p3 k (by omega) e3⟩
        · exact ⟨k, by omega, by omega, p4 k (by omega)⟩
theorem merge_join (hS : SWO lt) {e1 e2 : Array Int} (hsz : e.size = d.size) (ham : a ≤ mid) (hmb : mid ≤ b) (hX : ∀ i j, a ≤ i → i < mid → mid ≤ j → j < b → TT lt e[i]! e[j]! = true) (hO : ∀ k, k < a ∨ b ≤ k → e[k]! = d[k]!) (hFr : ∀ k, a ≤ k → k < b → ∃ k', a ≤ k' ∧ k' < b ∧ e[k]! = d[k']!) (h1 : MgR lt a mid e e1) (h2 : MgR lt mid b e1 e2) : MgR lt a b d e2 := by
  obtain ⟨s1, o1, d1, r1⟩ := h1
  obtain ⟨s2, o2, d2, r2⟩ := h2
  have lo : ∀ k, a ≤ k → k < mid → ∃ k', a ≤ k' ∧ k' < mid ∧ e2[k]! = e[k']! := fun k hk1 hk2 => by
    obtain ⟨k', q1, q2, q3⟩ := r1 k hk1 hk2
    exact ⟨k', q1, q2, by rw [o2 k (by omega), q3]⟩
  have hi : ∀ k, mid ≤ k → k < b → ∃ k', mid ≤ k' ∧ k' < b ∧ e2[k]! = e[k']! := fun k hk1 hk2 => by
    obtain ⟨k', q1, q2, q3⟩ := r2 k hk1 hk2
    exact ⟨k', q1, q2, by rw [q3, o1 k' (by omega)]⟩
  refine ⟨by rw [s2, s1, hsz], fun k hk => by rw [o2 k (by omega), o1 k (by omega), hO k hk], fun i j hi1 hij hj => ?_, fun k hk1 hk2 => ?_⟩
  · by_cases q1 : j < mid
    · rw [o2 i (by omega), o2 j (by omega)]; exact d1 i j hi1 hij q1
    · by_cases q2 : i < mid
      · obtain ⟨i', x1, x2, x3⟩ := lo i hi1 q2
        obtain ⟨j', y1, y2, y3⟩ := hi j (by omega) hj
        rw [x3, y3]; exact hX i' j' x1 x2 y1 y2
      · exact d2 i j (by omega) hij hj
  · by_cases q : k < mid
    · obtain ⟨k', x1, x2, x3⟩ := lo k hk1 q
      obtain ⟨k2, y1, y2, y3⟩ := hFr k' x1 (by omega)
      exact ⟨k2, y1, y2, by rw [x3, y3]⟩
    · obtain ⟨k', x1, x2, x3⟩ := hi k (by omega) hk2
      obtain ⟨k2, y1, y2, y3⟩ := hFr k' (by omega) x2
      exact ⟨k2, y1, y2, by rw [x3, y3]⟩
end
end
end Go.Proofs.Ytblgeehdngejpaa
