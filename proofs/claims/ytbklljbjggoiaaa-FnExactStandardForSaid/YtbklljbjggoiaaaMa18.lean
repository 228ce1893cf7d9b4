/-
  The standard for strikes: the law's walk.
-/
import Derived.Test.YtbklljbjggoiaaaMa17
namespace Go.Proofs.Ytbklljbjggoiaaa
open Go.RowKit
set_option linter.unusedVariables false
attribute [local go_sem ↓] Go.wp_at_zero Go.wp_at_succ

set_option maxHeartbeats 2000000 in
theorem lawStandardFor (A : Option Addr) (n c : Nat) (xs : List Stk) (w : World) (hr : Rd cStk 5 w w.heap.size A n xs) (hn : n ≤ maxLen) (_ : ∀ x ∈ xs, okStk x) : Calls Try.prog 11 #[.slice A n c] w fun e w' => e = .returned (.bool (true)) ∧ Below w.heap.size w w' := by
  have hn' := hn
  unfold maxLen at hn'
  have HN := Lib.hid hn
  clear hn
  by_cases hsz : (1048576 : Int) - n < 0
  · have E := Lib.hid (szV_neg hsz)
    go_enter Try.func11, Try.ntmps11
    go_wp2_with (go_at_call 35; refine (szStk_any _ _ _ _ _ HN.out (by omega) (by omega)).mono ?_; rw [E.out]; rintro e w' ⟨rfl, rfl⟩)
    go_ret
    exact ⟨rfl, by repeat (first | (with_reducible exact Below.refl _ _) | (with_reducible assumption) | (with_reducible refine bl_alloc ?_ _) | (with_reducible refine bl_drew ?_) | (with_reducible refine bl_drewN ?_ _) | ((with_reducible refine bl_set ?_ ?hb _); (case hb => first | (simp; done) | omega | (simp; omega))) | (with_reducible refine bl_trans ?_ (by assumption)))⟩
  · have E := Lib.hid (szV_pos hsz)
    have hn2 : n ≤ 1048576 := by omega
    have HT := Lib.hid (fun (W : World) (h : Below w.heap.size w W) => toStkS_any A n c _ xs W (hr.below h) h.size hn2)
    have H1 := Lib.hid (fun A1 c1 W (h1 : Rd cStk 5 W W.heap.size A1 n xs) => specStd_any A1 n c1 _ xs W h1 (Nat.le_refl _) hn2)
    have H2 := Lib.hid (fun A1 c1 W (h1 : Rd cStk 5 W W.heap.size A1 n xs) => implStd_any A1 n c1 _ xs W h1 (Nat.le_refl _) hn2)
    obtain ⟨y, v, hv⟩ : ∃ (y : Stk) (v : Bool), stdOut xs = .tuple #[.agg #[.int .i64 y.a, .int .i64 y.b, .int .i64 y.c, .int .i64 y.d, .int .i64 y.f], .bool v] := ⟨_, _, rfl⟩
    rw [hv] at H1 H2
    clear hv
    go_enter Try.func11, Try.ntmps11
    go_wp2_with (go_at_call 35; refine (szStk_any _ _ _ _ _ HN.out (by omega) (by omega)).mono ?_; rw [E.out]; rintro e w' ⟨rfl, rfl⟩)
    refine (HT.out _ (by repeat (first | (with_reducible exact Below.refl _ _) | (with_reducible assumption) | (with_reducible refine bl_alloc ?_ _) | (with_reducible refine bl_drew ?_) | (with_reducible refine bl_drewN ?_ _) | ((with_reducible refine bl_set ?_ ?hb _); (case hb => first | (simp; done) | omega | (simp; omega))) | (with_reducible refine bl_trans ?_ (by assumption))))).mono ?_
    rintro e w1 ⟨A1, c1, rfl, h1, hb⟩
    have HB1 := Lib.hid hb
    clear hb
    go_wp2_with fail
    refine (H1.out _ _ _ h1.rd).mono ?_
    rintro e w2 ⟨rfl, hb⟩
    have HB2 := Lib.hid (bl_trans HB1.out hb)
    clear hb h1
    go_wp2_with fail
    refine (HT.out _ (bl_trans HB2.out (by repeat (first | (with_reducible exact Below.refl _ _) | (with_reducible assumption) | (with_reducible refine bl_alloc ?_ _) | (with_reducible refine bl_drew ?_) | (with_reducible refine bl_drewN ?_ _) | ((with_reducible refine bl_set ?_ ?hb _); (case hb => first | (simp; done) | omega | (simp; omega))) | (with_reducible refine bl_trans ?_ (by assumption)))))).mono ?_
    rintro e w3 ⟨A3, c3, rfl, h3, hb⟩
    obtain ⟨hc1, hf1, hz1⟩ := bl_at hb (k := w2.heap.size) (by first | assumption | (simp; done) | (simp; omega))
    have HB3 := Lib.hid (show Below w.heap.size w w3 from bl_trans HB2.out (bl_trans (bl_alloc (Below.refl _ _) _) hb))
    have H3 := Lib.hid h3
    clear hb h3
    go_wp2_with fail
    refine (H2.out _ _ _ H3.out.rd).mono ?_
    rintro e w4 ⟨rfl, hb⟩
    obtain ⟨hc1, hf1, hz1⟩ := bl_at hb (k := w2.heap.size) (by first | assumption | (simp; done) | (simp; omega))
    have HB4 := Lib.hid (bl_trans HB3.out hb)
    have H34 := Lib.hid (H3.out.below hb)
    clear hb
    go_wp2_with fail
    refine (eqStk_same y _).mono ?_
    rintro e w5 ⟨rfl, hb⟩
    have HB5 := Lib.hid (bl_trans HB4.out (bl_trans (bl_alloc (Below.refl _ _) _) hb))
    have H35 := Lib.hid (H34.out.below (bl_trans (bl_alloc (Below.refl _ _) _) hb))
    clear hb
    go_wp2_with fail
    refine (HT.out _ HB5.out).mono ?_
    rintro e w6 ⟨A6, c6, rfl, h6, hb⟩
    have HB6 := Lib.hid (bl_trans HB5.out hb)
    have H36 := Lib.hid (H35.out.below hb)
    clear hb
    go_wp2_with fail
    refine (eqStkS_same _ _ _ _ _ _ _ xs _ H36.out.rd h6.rd (Nat.le_refl _) (Nat.le_refl _) HN.out).mono ?_
    rintro e w7 ⟨rfl, hb7⟩
    go_wp2
    go_ret
    exact ⟨rfl, bl_trans HB6.out hb7⟩
end Go.Proofs.Ytbklljbjggoiaaa
