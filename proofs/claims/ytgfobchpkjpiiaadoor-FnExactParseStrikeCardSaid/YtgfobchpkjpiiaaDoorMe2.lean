/-
  Contracts of the functions on alloys: validity, grams, fits.
-/
import Derived.Test.YtgfobchpkjpiiaaDoorMe1
namespace Go.Proofs.YtgfobchpkjpiiaaDoor
open Go.RowKit
set_option linter.unusedVariables false

theorem melt_iff {l t a : Int} : meltB l t a = true ↔ (0 ≤ l ∧ l ≤ 1000000) ∧ (0 ≤ t ∧ t ≤ 1000000) ∧ (0 ≤ a ∧ a ≤ 1000000) := by
  simp [meltB, inB]
  omega
theorem melt_all (l t a : Int) : allIn [l, t, a] 0 1000000 = meltB l t a := by simp [allIn, meltB, Bool.and_assoc]
set_option maxHeartbeats 400000 in
theorem meParts_any (a b c : Int) (w : World) :
    Calls Tryd.prog 71 #[.agg #[.int .i64 a, .int .i64 b, .int .i64 c]] w fun e w' => e = .returned (.slice (some ⟨w.heap.size + 1, 0, none⟩) 3 3) ∧ (w.alloc (.cells #[.int .i64 a, .int .i64 b, .int .i64 c] 26)).alloc (.cells #[.int .i64 a, .int .i64 b, .int .i64 c] 3) = w' := by
  go_enter Tryd.func71, Tryd.ntmps71
  go_wp2
  go_ret
  exact ⟨rfl, rfl⟩
theorem rd3 (w : World) (a b c : Int) (t : TypeId) (g : Nat) (hg : g = w.heap.size) : Rd cI 1 (w.alloc (.cells #[.int .i64 a, .int .i64 b, .int .i64 c] t)) (g + 1) (some ⟨g, 0, none⟩) 3 [a, b, c] := by
  subst hg
  refine ⟨rfl, fun _ => ⟨_, 0, rfl, by omega, fun i x hx j hj => ?_⟩⟩
  obtain rfl : j = 0 := by omega
  match i, hx with
  | 0, hx => simp at hx; subst hx; simp [cI]
  | 1, hx => simp at hx; subst hx; simp [cI]
  | 2, hx => simp at hx; subst hx; simp [cI]
set_option maxHeartbeats 400000 in
theorem meGood_any (a b c : Int) (w : World) : Calls Tryd.prog 36 #[.agg #[.int .i64 a, .int .i64 b, .int .i64 c]] w fun e w' => e = .returned (.bool (meltB a b c)) ∧ Below w.heap.size w w' := by
  have H := Lib.hid (melt_all a b c)
  go_enter Tryd.func36, Tryd.ntmps36
  go_wp2_with (first | (go_at_call 71; refine (meParts_any _ _ _ _).mono ?_; rintro e w' ⟨rfl, rfl⟩) | (go_at_call 70; refine (l1All_any _ _ _ _ [a, b, c] _ _ _ (rd3 _ a b c _ _ (by simp)) (by simp [maxLen])).mono ?_; rintro e w' ⟨rfl, rfl⟩))
  go_ret
  exact ⟨ret_bool H.out, by repeat (first | (with_reducible exact Below.refl _ _) | (with_reducible assumption) | (with_reducible refine bl_alloc ?_ _) | (with_reducible refine bl_drew ?_) | (with_reducible refine bl_drewN ?_ _) | ((with_reducible refine bl_set ?_ ?hb _); (case hb => first | (simp; done) | omega | (simp; omega))) | (with_reducible refine bl_trans ?_ (by assumption)))⟩
theorem isGrams_any (a : Int) (w : World) : Calls Tryd.prog 72 #[.int .i64 a] w fun e w' => e = .returned (.bool (inB a 0 1000000)) ∧ w = w' := by
  go_enter Tryd.func72, Tryd.ntmps72
  go_wp2_with (go_at_call 74; refine (within_any _ _ _ _).mono ?_; rintro e w' ⟨rfl, rfl⟩)
  go_ret
  exact ⟨rfl, rfl⟩
set_option maxHeartbeats 400000 in
theorem implIsMelt_any (a b c : Int) (w : World) : Calls Tryd.prog 38 #[.agg #[.int .i64 a, .int .i64 b, .int .i64 c]] w fun e w' => e = .returned (.bool (meltB a b c)) ∧ Below w.heap.size w w' := by
  go_enter Tryd.func38, Tryd.ntmps38
  go_wp2_with (go_at_call 72; refine (isGrams_any _ _).mono ?_; rintro e w' ⟨rfl, rfl⟩)
  all_goals go_ret
  all_goals exact ⟨ret_bool (by simp [meltB, *]), by repeat (first | (with_reducible exact Below.refl _ _) | (with_reducible assumption) | (with_reducible refine bl_alloc ?_ _) | (with_reducible refine bl_drew ?_) | (with_reducible refine bl_drewN ?_ _) | ((with_reducible refine bl_set ?_ ?hb _); (case hb => first | (simp; done) | omega | (simp; omega))) | (with_reducible refine bl_trans ?_ (by assumption)))⟩
set_option maxHeartbeats 400000 in
theorem toMelt_any (a b c : Int) (w : World) : Calls Tryd.prog 11 #[.agg #[.int .i64 a, .int .i64 b, .int .i64 c]] w fun e w' => e = .returned (.agg #[.int .i64 a, .int .i64 b, .int .i64 c]) ∧ Below w.heap.size w w' := by
  go_enter Tryd.func11, Tryd.ntmps11
  go_wp2
  exact bodyPost_ret (v := .agg #[.int .i64 a, .int .i64 b, .int .i64 c]) (by simp [results, Tryd.results11, go_sem]) rfl ⟨rfl, by repeat (first | (with_reducible exact Below.refl _ _) | (with_reducible assumption) | (with_reducible refine bl_alloc ?_ _) | (with_reducible refine bl_drew ?_) | (with_reducible refine bl_drewN ?_ _) | ((with_reducible refine bl_set ?_ ?hb _); (case hb => first | (simp; done) | omega | (simp; omega))) | (with_reducible refine bl_trans ?_ (by assumption)))⟩
/-! ### grams -/
def gramsV (a b c : Int) : Int := if meltB a b c then a + b + c else 0
end Go.Proofs.YtgfobchpkjpiiaaDoor
