/-
  The walk of the law on DoesFit.
-/
import Derived.Test.YtnhdgjcobngolaaMe3
namespace Go.Proofs.Ytnhdgjcobngolaa
open Go.RowKit
set_option linter.unusedVariables false
attribute [local go_sem ↓] Go.wp_at_zero Go.wp_at_succ
set_option maxHeartbeats 1000000 in
theorem lawDoesFit (l t a p q r s : Int) (w : World) (_ : I64 l) (_ : I64 t) (_ : I64 a) (_ : I64 p) (_ : I64 q) (_ : I64 r) (_ : I64 s) : Calls Try.prog 8 #[.agg #[.int .i64 l, .int .i64 t, .int .i64 a], .agg #[.int .i64 p, .int .i64 q, .int .i64 r, .int .i64 s]] w fun e w' => e = .returned (.bool (true)) ∧ Below w.heap.size w w' := by
  go_enter Try.func8, Try.ntmps8
  go_wp2_with fail
  go_region_held3 (fun w' => w'.cell? ⟨w.heap.size, 0, none⟩ = some (.int .i64 l) ∧ w'.cell? ⟨w.heap.size, 1, none⟩ = some (.int .i64 t) ∧ w'.cell? ⟨w.heap.size, 2, none⟩ = some (.int .i64 a) ∧ w'.cell? ⟨w.heap.size + 1, 0, none⟩ = some (.int .i64 p) ∧ w'.cell? ⟨w.heap.size + 1, 1, none⟩ = some (.int .i64 q) ∧ w'.cell? ⟨w.heap.size + 1, 2, none⟩ = some (.int .i64 r) ∧ w'.cell? ⟨w.heap.size + 1, 3, none⟩ = some (.int .i64 s)) (go_keep) (first | (go_at_call 18; refine (toMelt_any _ _ _ _).mono ?_; rintro e w' ⟨rfl, hb⟩; obtain ⟨hc0, hf0, hz0⟩ := bl_at hb (k := w.heap.size) (by first | assumption | (simp; done) | (simp; omega)); obtain ⟨hc1, hf1, hz1⟩ := bl_at hb (k := w.heap.size + 1) (by first | assumption | (simp; done) | (simp; omega))) | (go_at_call 15; refine (toBlend_any _ _ _ _ _).mono ?_; rintro e w' ⟨rfl, hb⟩; obtain ⟨hc0, hf0, hz0⟩ := bl_at hb (k := w.heap.size) (by first | assumption | (simp; done) | (simp; omega)); obtain ⟨hc1, hf1, hz1⟩ := bl_at hb (k := w.heap.size + 1) (by first | assumption | (simp; done) | (simp; omega))) | (go_at_call 25; refine (specDoesFit_any _ _ _ _ _ _ _ _).mono ?_; rintro e w' ⟨rfl, hb⟩; obtain ⟨hc0, hf0, hz0⟩ := bl_at hb (k := w.heap.size) (by first | assumption | (simp; done) | (simp; omega)); obtain ⟨hc1, hf1, hz1⟩ := bl_at hb (k := w.heap.size + 1) (by first | assumption | (simp; done) | (simp; omega))))
  go_wp2_with fail
  go_region_held3 (fun w' => w'.cell? ⟨w.heap.size, 0, none⟩ = some (.int .i64 l) ∧ w'.cell? ⟨w.heap.size, 1, none⟩ = some (.int .i64 t) ∧ w'.cell? ⟨w.heap.size, 2, none⟩ = some (.int .i64 a) ∧ w'.cell? ⟨w.heap.size + 1, 0, none⟩ = some (.int .i64 p) ∧ w'.cell? ⟨w.heap.size + 1, 1, none⟩ = some (.int .i64 q) ∧ w'.cell? ⟨w.heap.size + 1, 2, none⟩ = some (.int .i64 r) ∧ w'.cell? ⟨w.heap.size + 1, 3, none⟩ = some (.int .i64 s)) (go_keep) (first | (go_at_call 18; refine (toMelt_any _ _ _ _).mono ?_; rintro e w' ⟨rfl, hb⟩; obtain ⟨hc0, hf0, hz0⟩ := bl_at hb (k := w.heap.size) (by first | assumption | (simp; done) | (simp; omega)); obtain ⟨hc1, hf1, hz1⟩ := bl_at hb (k := w.heap.size + 1) (by first | assumption | (simp; done) | (simp; omega))) | (go_at_call 15; refine (toBlend_any _ _ _ _ _).mono ?_; rintro e w' ⟨rfl, hb⟩; obtain ⟨hc0, hf0, hz0⟩ := bl_at hb (k := w.heap.size) (by first | assumption | (simp; done) | (simp; omega)); obtain ⟨hc1, hf1, hz1⟩ := bl_at hb (k := w.heap.size + 1) (by first | assumption | (simp; done) | (simp; omega))) | (go_at_call 26; refine (implDoesFit_any _ _ _ _ _ _ _ _).mono ?_; rintro e w' ⟨rfl, hb⟩; obtain ⟨hc0, hf0, hz0⟩ := bl_at hb (k := w.heap.size) (by first | assumption | (simp; done) | (simp; omega)); obtain ⟨hc1, hf1, hz1⟩ := bl_at hb (k := w.heap.size + 1) (by first | assumption | (simp; done) | (simp; omega))))
  go_wp2
  go_ret
  exact ⟨rfl, by repeat (first | exact Below.refl _ _ | refine bl_alloc ?_ _ | refine bl_drew ?_ | refine bl_drewN ?_ _ | refine bl_set ?_ (by simp) _ | refine bl_trans ?_ (by assumption))⟩
end Go.Proofs.Ytnhdgjcobngolaa
