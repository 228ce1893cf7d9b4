/-
  Contracts of the functions on alloys and blends (no closure among them).
-/
import Derived.Test.YtnhdgjcobngolaaNum
namespace Go.Proofs.Ytnhdgjcobngolaa
open Go.RowKit
set_option linter.unusedVariables false

def blendB (a b c d : Int) : Bool := inB a 0 1000 && inB b a 1000 && inB c 0 1000 && inB d c 1000
def shareB (a b : Int) : Bool := decide (0 ≤ a) && decide (a ≤ b) && decide (b ≤ 1000)
theorem blend_eq (a b c d : Int) : (shareB a b && shareB c d) = blendB a b c d := by
  rw [Bool.eq_iff_iff]
  simp [blendB, inB, shareB]
  omega
def meltB (l t a : Int) : Bool := inB l 0 1000000 && inB t 0 1000000 && inB a 0 1000000

set_option maxHeartbeats 400000 in
theorem meBlend_any (a b c d : Int) (w : World) : Calls Try.prog 40 #[.agg #[.int .i64 a, .int .i64 b, .int .i64 c, .int .i64 d]] w fun e w' => e = .returned (.bool (blendB a b c d)) ∧ Below w.heap.size w w' := by
  go_enter Try.func40, Try.ntmps40
  go_wp2_with (go_at_call 46; refine (l1In_any _ _ _ _).mono ?_; rintro e w' ⟨rfl, rfl⟩)
  all_goals go_ret
  all_goals exact ⟨ret_bool (by simp [blendB, *]), by repeat (first | (with_reducible exact Below.refl _ _) | (with_reducible assumption) | (with_reducible refine bl_alloc ?_ _) | (with_reducible refine bl_drew ?_) | (with_reducible refine bl_drewN ?_ _) | ((with_reducible refine bl_set ?_ ?hb _); (case hb => first | (simp; done) | omega | (simp; omega))) | (with_reducible refine bl_trans ?_ (by assumption)))⟩
theorem specIsBlend_any (a b c d : Int) (w : World) : Calls Try.prog 14 #[.agg #[.int .i64 a, .int .i64 b, .int .i64 c, .int .i64 d]] w fun e w' => e = .returned (.bool (blendB a b c d)) ∧ Below w.heap.size w w' := by
  go_enter Try.func14, Try.ntmps14
  go_wp2_with (go_at_call 40; refine (meBlend_any _ _ _ _ _).mono ?_; rintro e w' ⟨rfl, hb1⟩)
  go_ret
  exact ⟨rfl, by repeat (first | (with_reducible exact Below.refl _ _) | (with_reducible assumption) | (with_reducible refine bl_alloc ?_ _) | (with_reducible refine bl_drew ?_) | (with_reducible refine bl_drewN ?_ _) | ((with_reducible refine bl_set ?_ ?hb _); (case hb => first | (simp; done) | omega | (simp; omega))) | (with_reducible refine bl_trans ?_ (by assumption)))⟩
set_option maxHeartbeats 400000 in
theorem areShares_any (a b : Int) (w : World) : Calls Try.prog 41 #[.int .i64 a, .int .i64 b] w fun e w' => e = .returned (.bool (shareB a b)) ∧ w = w' := by
  by_cases h1 : 0 ≤ a <;> by_cases h2 : a ≤ b <;> by_cases h3 : b ≤ 1000
  all_goals
    go_enter Try.func41, Try.ntmps41
    go_wp2
    go_ret
    exact ⟨by simp [shareB, h1, h2, h3], rfl⟩
set_option maxHeartbeats 400000 in
theorem implIsBlend_any (a b c d : Int) (w : World) : Calls Try.prog 16 #[.agg #[.int .i64 a, .int .i64 b, .int .i64 c, .int .i64 d]] w fun e w' => e = .returned (.bool (blendB a b c d)) ∧ Below w.heap.size w w' := by
  have H := Lib.hid (blend_eq a b c d)
  go_enter Try.func16, Try.ntmps16
  go_wp2_with (go_at_call 41; refine (areShares_any _ _ _).mono ?_; rintro e w' ⟨rfl, rfl⟩)
  all_goals go_ret
  all_goals exact ⟨ret_bool (by rw [← H.out]; simp [*]), by repeat (first | (with_reducible exact Below.refl _ _) | (with_reducible assumption) | (with_reducible refine bl_alloc ?_ _) | (with_reducible refine bl_drew ?_) | (with_reducible refine bl_drewN ?_ _) | ((with_reducible refine bl_set ?_ ?hb _); (case hb => first | (simp; done) | omega | (simp; omega))) | (with_reducible refine bl_trans ?_ (by assumption)))⟩
set_option maxHeartbeats 400000 in
theorem toBlend_any (a b c d : Int) (w : World) : Calls Try.prog 15 #[.agg #[.int .i64 a, .int .i64 b, .int .i64 c, .int .i64 d]] w fun e w' => e = .returned (.agg #[.int .i64 a, .int .i64 b, .int .i64 c, .int .i64 d]) ∧ Below w.heap.size w w' := by
  go_enter Try.func15, Try.ntmps15
  go_wp2
  exact bodyPost_ret (v := .agg #[.int .i64 a, .int .i64 b, .int .i64 c, .int .i64 d]) (by simp [results, Try.results15, go_sem]) rfl ⟨rfl, by repeat (first | (with_reducible exact Below.refl _ _) | (with_reducible assumption) | (with_reducible refine bl_alloc ?_ _) | (with_reducible refine bl_drew ?_) | (with_reducible refine bl_drewN ?_ _) | ((with_reducible refine bl_set ?_ ?hb _); (case hb => first | (simp; done) | omega | (simp; omega))) | (with_reducible refine bl_trans ?_ (by assumption)))⟩
set_option maxHeartbeats 400000 in
theorem lawIsBlend (a b c d : Int) (w : World) (_ : I64 a) (_ : I64 b) (_ : I64 c) (_ : I64 d) : Calls Try.prog 4 #[.agg #[.int .i64 a, .int .i64 b, .int .i64 c, .int .i64 d]] w fun e w' => e = .returned (.bool true) ∧ Below w.heap.size w w' := by
  go_enter Try.func4, Try.ntmps4
  go_wp2_with (first
    | (go_at_call 15; refine (toBlend_any _ _ _ _ _).mono ?_; rintro e w' ⟨rfl, hb⟩; obtain ⟨hc0, hf0, hz0⟩ := bl_at hb (k := w.heap.size) (by first | assumption | (simp; done) | (simp; omega)))
    | (go_at_call 14; refine (specIsBlend_any _ _ _ _ _).mono ?_; rintro e w' ⟨rfl, hb⟩; obtain ⟨hc0, hf0, hz0⟩ := bl_at hb (k := w.heap.size) (by first | assumption | (simp; done) | (simp; omega)))
    | (go_at_call 16; refine (implIsBlend_any _ _ _ _ _).mono ?_; rintro e w' ⟨rfl, hb⟩; obtain ⟨hc0, hf0, hz0⟩ := bl_at hb (k := w.heap.size) (by first | assumption | (simp; done) | (simp; omega))))
  go_ret
  exact ⟨rfl, by repeat (first | (with_reducible exact Below.refl _ _) | (with_reducible assumption) | (with_reducible refine bl_alloc ?_ _) | (with_reducible refine bl_drew ?_) | (with_reducible refine bl_drewN ?_ _) | ((with_reducible refine bl_set ?_ ?hb _); (case hb => first | (simp; done) | omega | (simp; omega))) | (with_reducible refine bl_trans ?_ (by assumption)))⟩
end Go.Proofs.Ytnhdgjcobngolaa
