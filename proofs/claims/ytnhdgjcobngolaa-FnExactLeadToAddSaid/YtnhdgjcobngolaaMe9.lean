/-
  TinToAdd, AntimonyToAdd, LeadToAdd: contracts and the laws' walks.
-/
import Derived.Test.YtnhdgjcobngolaaMe8
namespace Go.Proofs.Ytnhdgjcobngolaa
open Go.RowKit
set_option linter.unusedVariables false
attribute [local go_sem ↓] Go.wp_at_zero Go.wp_at_succ

set_option maxHeartbeats 400000 in
theorem l1Most_any (a b : Int) (w : World) : Calls Try.prog 60 #[.int .i64 a, .int .i64 b] w fun e w' => e = .returned (.int .i64 (max a b)) ∧ w = w' := by
  by_cases h : b < a
  · go_enter Try.func60, Try.ntmps60
    go_wp2
    go_ret
    exact ⟨ret_int (show a = max a b by omega), rfl⟩
  · go_enter Try.func60, Try.ntmps60
    go_wp2
    go_ret
    exact ⟨ret_int (show b = max a b by omega), rfl⟩
set_option maxHeartbeats 400000 in
theorem meUp_any (a b : Int) (w : World) (a0 : 0 ≤ a) (a1 : a ≤ 10000000000) (b0 : 1 ≤ b) (b1 : b ≤ 10000) : Calls Try.prog 47 #[.int .i64 a, .int .i64 b] w fun e w' => e = .returned (.int .i64 (upV a b)) ∧ w = w' := by
  have hq : 0 ≤ (a + b - 1) / b ∧ (a + b - 1) / b ≤ a + b - 1 := ⟨Int.ediv_nonneg (by omega) (by omega), Int.ediv_le_self _ (by omega)⟩
  obtain ⟨q0, q1⟩ := hq
  go_enter Try.func47, Try.ntmps47
  go_wp2_with (go_at_call 60; refine (l1Most_any _ _ _).mono ?_; rintro e w' ⟨rfl, rfl⟩)
  go_ret
  exact ⟨rfl, rfl⟩
/-- a pair of a number and whether there is one -/
def PairIs (x : Int) (b : Bool) (w : World) (e : Ending) (w' : World) : Prop := e = .returned (.tuple #[.int .i64 x, .bool b]) ∧ w = w'
theorem pair_is {x y : Int} {b c : Bool} {w : World} (h : x = y) (h' : b = c) : PairIs y c w (.returned (.tuple #[.int .i64 x, .bool b])) w := by subst h; subst h'; exact ⟨rfl, rfl⟩
theorem up_bd {a b : Int} (a0 : 0 ≤ a) (a1 : a ≤ 10000000000) (b0 : 1 ≤ b) (b1 : b ≤ 10000) : 0 ≤ upV a b ∧ upV a b ≤ 10000010000 := by
  have q0 : 0 ≤ (a + b - 1) / b := Int.ediv_nonneg (by omega) (by omega)
  have q1 : (a + b - 1) / b ≤ a + b - 1 := Int.ediv_le_self _ (by omega)
  unfold upV
  omega
set_option maxHeartbeats 1000000 in
theorem meAdd_any (g all s : Int) (w : World) (g0 : 0 ≤ g) (g1 : g ≤ 1000000) (a0 : 0 ≤ all) (a1 : all ≤ 3000000) (s0 : 0 ≤ s) (s1 : s ≤ 1000) :
    Calls Try.prog 55 #[.int .i64 g, .int .i64 all, .int .i64 s] w (PairIs (nV (s * all - 1000 * g) (1000 - s)) (nB (s * all - 1000 * g) (1000 - s)) w) := by
  obtain ⟨u1, u2⟩ := prod_bd (p := s) (g := all) s0 s1 a0 a1
  by_cases hk : s * all - 1000 * g ≤ 0
  · have hv : nV (s * all - 1000 * g) (1000 - s) = 0 ∧ nB (s * all - 1000 * g) (1000 - s) = true := by simp only [nV, nB, hk, if_true, decide_true, Bool.true_or, and_self]
    rw [hv.1, hv.2]
    clear hv
    go_enter Try.func55, Try.ntmps55
    go_wp2
    go_ret2
    exact ⟨rfl, rfl⟩
  · by_cases hs : s = 1000
    · have hd : (1000 : Int) - s = 0 := by omega
      have hb : nB (s * all - 1000 * g) (1000 - s) = false := by unfold nB; rw [decide_eq_false hk, hd]; rfl
      have hv : nV (s * all - 1000 * g) (1000 - s) = 0 := by unfold nV; rw [if_neg hk, hb]; rfl
      rw [hv, hb]
      clear hv hb hd
      have hsb : (s == 1000) = true := by simpa using hs
      clear hs
      go_enter Try.func55, Try.ntmps55
      go_wp2
      go_ret2
      exact ⟨rfl, rfl⟩
    · obtain ⟨v0, v1⟩ := up_bd (a := s * all - 1000 * g) (b := 1000 - s) (by omega) (by omega) (by omega) (by omega)
      have hsb : (s == 1000) = false := by simpa using hs
      by_cases hu : 1000000 < upV (s * all - 1000 * g) (1000 - s)
      · have hb : nB (s * all - 1000 * g) (1000 - s) = false := by unfold nB; rw [decide_eq_false hk, decide_eq_false (p := upV _ _ ≤ 1000000) (by omega)]; simp
        have hv : nV (s * all - 1000 * g) (1000 - s) = 0 := by unfold nV; rw [if_neg hk, hb]; rfl
        rw [hv, hb]
        clear hv hb
        go_enter Try.func55, Try.ntmps55
        go_wp2_with (go_at_call 47; refine (meUp_any _ _ _ (by omega) (by omega) (by omega) (by omega)).mono ?_; rintro e w' ⟨rfl, rfl⟩)
        go_ret2
        exact ⟨rfl, rfl⟩
      · have hb : nB (s * all - 1000 * g) (1000 - s) = true := by unfold nB; rw [decide_eq_false hk, decide_eq_true (p := upV _ _ ≤ 1000000) (by omega), decide_eq_true (p := (1000 : Int) - s ≠ 0) (by omega)]; rfl
        have hv : nV (s * all - 1000 * g) (1000 - s) = upV (s * all - 1000 * g) (1000 - s) := by unfold nV; rw [if_neg hk, hb]; rfl
        rw [hv, hb]
        clear hv hb
        go_enter Try.func55, Try.ntmps55
        go_wp2_with (go_at_call 47; refine (meUp_any _ _ _ (by omega) (by omega) (by omega) (by omega)).mono ?_; rintro e w' ⟨rfl, rfl⟩)
        go_ret2
        exact ⟨rfl, rfl⟩
set_option maxHeartbeats 1000000 in
theorem meThin_any (g all s : Int) (w : World) (g0 : 0 ≤ g) (g1 : g ≤ 1000000) (a0 : 0 ≤ all) (a1 : all ≤ 3000000) (s0 : 0 ≤ s) (s1 : s ≤ 1000) :
    Calls Try.prog 59 #[.int .i64 g, .int .i64 all, .int .i64 s] w (PairIs (nV (1000 * g - s * all) s) (nB (1000 * g - s * all) s) w) := by
  obtain ⟨u1, u2⟩ := prod_bd (p := s) (g := all) s0 s1 a0 a1
  by_cases hk : 1000 * g - s * all ≤ 0
  · have hv : nV (1000 * g - s * all) s = 0 ∧ nB (1000 * g - s * all) s = true := by simp only [nV, nB, hk, if_true, decide_true, Bool.true_or, and_self]
    rw [hv.1, hv.2]
    clear hv
    go_enter Try.func59, Try.ntmps59
    go_wp2
    go_ret2
    exact ⟨rfl, rfl⟩
  · by_cases hs : s = 0
    · subst hs
      have hb : nB (1000 * g - 0 * all) 0 = false := by unfold nB; rw [decide_eq_false hk]; rfl
      have hv : nV (1000 * g - 0 * all) 0 = 0 := by unfold nV; rw [if_neg hk, hb]; rfl
      rw [hv, hb]
      clear hv hb
      simp only [Int.zero_mul, Int.sub_zero] at hk u1 u2
      have hz : (0 : Int) * all = 0 := by simp
      go_enter Try.func59, Try.ntmps59
      go_wp2
      go_ret2
      exact ⟨rfl, rfl⟩
    · obtain ⟨v0, v1⟩ := up_bd (a := 1000 * g - s * all) (b := s) (by omega) (by omega) (by omega) (by omega)
      have hsb : (s == 0) = false := by simpa using hs
      by_cases hu : 1000000 < upV (1000 * g - s * all) s
      · have hb : nB (1000 * g - s * all) s = false := by unfold nB; rw [decide_eq_false hk, decide_eq_false (p := upV _ _ ≤ 1000000) (by omega)]; simp
        have hv : nV (1000 * g - s * all) s = 0 := by unfold nV; rw [if_neg hk, hb]; rfl
        rw [hv, hb]
        clear hv hb
        go_enter Try.func59, Try.ntmps59
        go_wp2_with (go_at_call 47; refine (meUp_any _ _ _ (by omega) (by omega) (by omega) (by omega)).mono ?_; rintro e w' ⟨rfl, rfl⟩)
        go_ret2
        exact ⟨rfl, rfl⟩
      · have hb : nB (1000 * g - s * all) s = true := by unfold nB; rw [decide_eq_false hk, decide_eq_true (p := upV _ _ ≤ 1000000) (by omega), decide_eq_true (p := s ≠ 0) hs]; rfl
        have hv : nV (1000 * g - s * all) s = upV (1000 * g - s * all) s := by unfold nV; rw [if_neg hk, hb]; rfl
        rw [hv, hb]
        clear hv hb
        go_enter Try.func59, Try.ntmps59
        go_wp2_with (go_at_call 47; refine (meUp_any _ _ _ (by omega) (by omega) (by omega) (by omega)).mono ?_; rintro e w' ⟨rfl, rfl⟩)
        go_ret2
        exact ⟨rfl, rfl⟩
end Go.Proofs.Ytnhdgjcobngolaa
