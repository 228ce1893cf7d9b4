/-
  The least filed strike: the law's walk.
-/
import Derived.Test.YtbklljbjggoiaaaMa11
namespace Go.Proofs.Ytbklljbjggoiaaa
open Go.RowKit
set_option linter.unusedVariables false
attribute [local go_sem ↓] Go.wp_at_zero Go.wp_at_succ

set_option maxHeartbeats 2000000 in
theorem lawLeastY (A : Option Addr) (n c : Nat) (xs : List Stk) (y : Stk) (w : World) (hr : Rd cStk 5 w w.heap.size A n xs) (hn : n ≤ maxLen) : Calls Try.prog 12 #[.slice A n c, .agg #[.int .i64 y.a, .int .i64 y.b, .int .i64 y.c, .int .i64 y.d, .int .i64 y.f]] w fun e w' => e = .returned (.bool (true)) ∧ Below w.heap.size w w' := by
  have hn' := hn
  unfold maxLen at hn'
  have HN := Lib.hid hn
  clear hn
  by_cases hsz : (1048576 : Int) - n < 0
  · have E := Lib.hid (szV_neg hsz)
    go_enter Try.func12, Try.ntmps12
    go_wp2_with (go_at_call 35; refine (szStk_any _ _ _ _ _ HN.out (by omega) (by omega)).mono ?_; rw [E.out]; rintro e w' ⟨rfl, rfl⟩)
    go_ret
    exact ⟨rfl, by repeat (first | (with_reducible exact Below.refl _ _) | (with_reducible assumption) | (with_reducible refine bl_alloc ?_ _) | (with_reducible refine bl_drew ?_) | (with_reducible refine bl_drewN ?_ _) | ((with_reducible refine bl_set ?_ ?hb _); (case hb => first | (simp; done) | omega | (simp; omega))) | (with_reducible refine bl_trans ?_ (by assumption)))⟩
  · have E := Lib.hid (szV_pos hsz)
    have hn2 : n ≤ 1048576 := by omega
    have HT := Lib.hid (fun (W : World) (h : Below w.heap.size w W) => toStkS_any A n c _ xs W (hr.below h) h.size hn2)
    go_enter Try.func12, Try.ntmps12
    go_wp2_with (go_at_call 35; refine (szStk_any _ _ _ _ _ HN.out (by omega) (by omega)).mono ?_; rw [E.out]; rintro e w' ⟨rfl, rfl⟩)
    go_region_held3 (fun w' => w'.cell? ⟨w.heap.size, 0, none⟩ = some (.int .i64 y.a) ∧ w'.cell? ⟨w.heap.size, 1, none⟩ = some (.int .i64 y.b) ∧ w'.cell? ⟨w.heap.size, 2, none⟩ = some (.int .i64 y.c) ∧ w'.cell? ⟨w.heap.size, 3, none⟩ = some (.int .i64 y.d) ∧ w'.cell? ⟨w.heap.size, 4, none⟩ = some (.int .i64 y.f)) (go_keep) (first | (go_at_call 37; refine (HT.out _ ?_).mono ?_; exact (by repeat (first | (with_reducible exact Below.refl _ _) | (with_reducible assumption) | (with_reducible refine bl_alloc ?_ _) | (with_reducible refine bl_drew ?_) | (with_reducible refine bl_drewN ?_ _) | ((with_reducible refine bl_set ?_ ?hb _); (case hb => first | (simp; done) | omega | (simp; omega))) | (with_reducible refine bl_trans ?_ (by assumption)))); rintro e w1 ⟨A1, c1, rfl, h1, hb⟩; obtain ⟨hc0, hf0, hz0⟩ := bl_at hb (k := w.heap.size) (by first | assumption | (simp; done) | (simp; omega))) | (go_at_call 15; refine (toStrike_any _ _ _ _ _ _).mono ?_; rintro e w2 ⟨rfl, hb⟩; obtain ⟨hc0, hf0, hz0⟩ := bl_at hb (k := w.heap.size) (by first | assumption | (simp; done) | (simp; omega))) | (go_at_call 40; refine (specLeast_any _ _ _ _ xs y _ (h1.below hb).rd (Nat.le_refl _) hn2).mono ?_; rintro e w3 ⟨rfl, hb⟩; obtain ⟨hc0, hf0, hz0⟩ := bl_at hb (k := w.heap.size) (by first | assumption | (simp; done) | (simp; omega))))
    clear h1
    go_wp2_with fail
    refine (HT.out _ ?_).mono ?_
    · exact (by repeat (first | (with_reducible exact Below.refl _ _) | (with_reducible assumption) | (with_reducible refine bl_alloc ?_ _) | (with_reducible refine bl_drew ?_) | (with_reducible refine bl_drewN ?_ _) | ((with_reducible refine bl_set ?_ ?hb _); (case hb => first | (simp; done) | omega | (simp; omega))) | (with_reducible refine bl_trans ?_ (by assumption))))
    rintro e w4 ⟨A4, c4, rfl, h4, hb⟩
    obtain ⟨hc0, hf0, hz0⟩ := bl_at hb (k := w.heap.size) (by first | assumption | (simp; done) | (simp; omega))
    go_wp2_with (go_at_call 15; refine (toStrike_any _ _ _ _ _ _).mono ?_; rintro e w5 ⟨rfl, hb⟩; obtain ⟨hc0, hf0, hz0⟩ := bl_at hb (k := w.heap.size) (by first | assumption | (simp; done) | (simp; omega)))
    refine (implLeast_any _ _ _ _ xs y _ (h4.below hb).rd (Nat.le_refl _) hn2).mono ?_
    rintro e w6 ⟨rfl, hb6⟩
    have h6 := (h4.below hb).below hb6
    have hB6 : Below w.heap.size w w6 := by repeat (first | (with_reducible exact Below.refl _ _) | (with_reducible assumption) | (with_reducible refine bl_alloc ?_ _) | (with_reducible refine bl_drew ?_) | (with_reducible refine bl_drewN ?_ _) | ((with_reducible refine bl_set ?_ ?hb _); (case hb => first | (simp; done) | omega | (simp; omega))) | (with_reducible refine bl_trans ?_ (by assumption)))
    have HB6 := Lib.hid hB6
    clear hB6
    go_wp2_with fail
    refine (HT.out _ HB6.out).mono ?_
    rintro e w7 ⟨A7, c7, rfl, h7, hb7⟩
    go_wp2_with fail
    refine (eqStkS_same _ _ _ _ _ _ _ xs _ (h6.below hb7).rd h7.rd (Nat.le_refl _) (Nat.le_refl _) HN.out).mono ?_
    rintro e w8 ⟨rfl, hb8⟩
    go_wp2
    go_ret
    exact ⟨rfl, bl_trans HB6.out (bl_trans hb7 hb8)⟩
theorem lawLeastFiled (A : Option Addr) (n c : Nat) (xs : List Stk) (a b c' d f : Int) (w : World) (hr : Rd cStk 5 w w.heap.size A n xs) (hn : n ≤ maxLen) (_ : ∀ x ∈ xs, okStk x) (_ : I64 a) (_ : I64 b) (_ : I64 c') (_ : I64 d) (_ : I64 f) : Calls Try.prog 12 #[.slice A n c, .agg #[.int .i64 a, .int .i64 b, .int .i64 c', .int .i64 d, .int .i64 f]] w fun e w' => e = .returned (.bool (true)) ∧ Below w.heap.size w w' :=
  lawLeastY A n c xs ⟨a, b, c', d, f⟩ w hr hn
end Go.Proofs.Ytbklljbjggoiaaa
