/-
  Sorts and fonts: contracts; the laws' walks of IsSort and IsFont.
-/
import Derived.Test.YtgfobchpkjpiiaaDoorSrt
import Derived.Deep.RegionWith
namespace Go.Proofs.YtgfobchpkjpiiaaDoor
open Go.RowKit
set_option linter.unusedVariables false
attribute [local go_sem ↓] Go.wp_at_zero Go.wp_at_succ

def sortB (x : Srt) : Bool := lettersB x.code 1 3 && inB x.set 1 54
set_option maxHeartbeats 400000 in
theorem tySort_any (x : Srt) (w : World) (hs : x.code.size ≤ maxLen) : Calls Tryd.prog 75 #[.agg #[.string x.code, .int .i64 x.set]] w fun e w' => e = .returned (.bool (sortB x)) ∧ Below w.heap.size w w' := by
  go_enter Tryd.func75, Tryd.ntmps75
  go_wp2_with (first | (go_at_call 88; refine (tyLetters_any _ _ _ hs).mono ?_; rintro e w' ⟨rfl, rfl⟩) | (go_at_call 76; refine (l1In_any _ _ _ _).mono ?_; rintro e w' ⟨rfl, rfl⟩))
  all_goals go_ret
  all_goals exact ⟨ret_bool (by simp [sortB, *]), by repeat (first | (with_reducible exact Below.refl _ _) | (with_reducible assumption) | (with_reducible refine bl_alloc ?_ _) | (with_reducible refine bl_drew ?_) | (with_reducible refine bl_drewN ?_ _) | ((with_reducible refine bl_set ?_ ?hb _); (case hb => first | (simp; done) | omega | (simp; omega))) | (with_reducible refine bl_trans ?_ (by assumption)))⟩
set_option maxHeartbeats 400000 in
theorem implIsSort_any (x : Srt) (w : World) (hs : x.code.size ≤ maxLen) : Calls Tryd.prog 77 #[.agg #[.string x.code, .int .i64 x.set]] w fun e w' => e = .returned (.bool (sortB x)) ∧ Below w.heap.size w w' := by
  go_enter Tryd.func77, Tryd.ntmps77
  go_wp2_with (first | (go_at_call 89; refine (isCode_any _ _ hs).mono ?_; rintro e w' ⟨rfl, rfl⟩) | (go_at_call 74; refine (within_any _ _ _ _).mono ?_; rintro e w' ⟨rfl, rfl⟩))
  all_goals go_ret
  all_goals exact ⟨ret_bool (by simp [sortB, *]), by repeat (first | (with_reducible exact Below.refl _ _) | (with_reducible assumption) | (with_reducible refine bl_alloc ?_ _) | (with_reducible refine bl_drew ?_) | (with_reducible refine bl_drewN ?_ _) | ((with_reducible refine bl_set ?_ ?hb _); (case hb => first | (simp; done) | omega | (simp; omega))) | (with_reducible refine bl_trans ?_ (by assumption)))⟩
end Go.Proofs.YtgfobchpkjpiiaaDoor
