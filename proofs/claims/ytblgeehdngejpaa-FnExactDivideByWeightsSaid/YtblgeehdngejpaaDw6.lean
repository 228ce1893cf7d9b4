/-
  impl.DivideByWeights: the contract; spec.DivideByWeights: where it says no.
-/
import Derived.Test.YtblgeehdngejpaaDw5
namespace Go.Proofs.Ytblgeehdngejpaa
open Go.RowKit
set_option linter.unusedVariables false

theorem implDW_any (A : Option Addr) (n cp : Nat) (xs : List Int) (T : Int) (w : World) (hr : Rd cI 1 w w.heap.size A n xs) (hn : n ≤ 1048576) :
    Calls Try.prog 6 #[.slice A n cp, .int .i64 T] w (RetS (dvL xs T) (dvB xs T) w) := by
  rcases hB : dvB xs T with _ | _
  · rw [← hB]; exact implDW_bad A n cp xs T w hr hn hB
  · rw [← hB]; exact implDW_good A n cp xs T w hr hn hB
theorem dv_parts2 (xs : List Int) (T : Int) : (inB (xs.length : Int) 1 32 = false ∧ dvB xs T = false) ∨ (inB (xs.length : Int) 1 32 = true ∧ allIn xs 0 1000000 = false ∧ dvB xs T = false) ∨ (inB (xs.length : Int) 1 32 = true ∧ allIn xs 0 1000000 = true ∧ inB T 0 100000 = false ∧ dvB xs T = false) ∨
    (inB (xs.length : Int) 1 32 = true ∧ allIn xs 0 1000000 = true ∧ inB T 0 100000 = true ∧ dvB xs T = !(sumL xs == 0)) := by
  unfold dvB
  rcases allIn xs 0 1000000 with _ | _ <;> rcases inB (xs.length : Int) 1 32 with _ | _ <;> rcases inB T 0 100000 with _ | _ <;> simp
set_option maxHeartbeats 2000000 in
theorem specDW_no (A : Option Addr) (n cp : Nat) (xs : List Int) (T : Int) (w : World) (hr : Rd cI 1 w w.heap.size A n xs) (hn : n ≤ 1048576) (hB : dvB xs T = false) (hS : sumL xs ≠ 0 ∨ inB (xs.length : Int) 1 32 = false ∨ allIn xs 0 1000000 = false ∨ inB T 0 100000 = false) :
    Calls Try.prog 4 #[.slice A n cp, .int .i64 T] w (RetS (dvL xs T) (dvB xs T) w) := by
  have hl := hr.1
  rw [dvL_no hB, hB]
  have hm : n ≤ maxLen := by unfold maxLen; omega
  rcases dv_parts2 xs T with ⟨h1, _⟩ | ⟨h1, h2, _⟩ | ⟨h1, h2, h3, _⟩ | ⟨h1, h2, h3, h4⟩
  · rw [hl] at h1
    have H1 := Lib.hid h1
    clear hB hS h1
    go_enter Try.func4, Try.ntmps4
    go_wp2_with (go_at_call 10; refine (l1In_any _ _ _ _).mono ?_; rw [H1.out]; rintro e w' ⟨rfl, rfl⟩)
    go_ret2
    exact rets_nil rfl (by repeat (first | (with_reducible exact Below.refl _ _) | (with_reducible assumption) | (with_reducible refine bl_alloc ?_ _) | (with_reducible refine bl_drew ?_) | (with_reducible refine bl_drewN ?_ _) | ((with_reducible refine bl_set ?_ ?hb _); (case hb => first | (simp; done) | omega | (simp; omega))) | (with_reducible refine bl_trans ?_ (by assumption)))) _ _
  · rw [hl] at h1
    have H1 := Lib.hid h1
    have H2 := Lib.hid h2
    clear hB hS h1 h2
    go_enter Try.func4, Try.ntmps4
    go_wp2_with (first | (go_at_call 10; refine (l1In_any _ _ _ _).mono ?_; rw [H1.out]; rintro e w' ⟨rfl, rfl⟩) | (go_at_call 11; refine (l1All_any _ _ _ _ xs _ _ _ hr hm).mono ?_; rw [H2.out]; rintro e w' ⟨rfl, rfl⟩))
    go_ret2
    exact rets_nil rfl (by repeat (first | (with_reducible exact Below.refl _ _) | (with_reducible assumption) | (with_reducible refine bl_alloc ?_ _) | (with_reducible refine bl_drew ?_) | (with_reducible refine bl_drewN ?_ _) | ((with_reducible refine bl_set ?_ ?hb _); (case hb => first | (simp; done) | omega | (simp; omega))) | (with_reducible refine bl_trans ?_ (by assumption)))) _ _
  · rw [hl] at h1
    have H1 := Lib.hid h1
    have H2 := Lib.hid h2
    have H3 := Lib.hid h3
    clear hB hS h1 h2 h3
    go_enter Try.func4, Try.ntmps4
    go_wp2_with (first | (go_at_call 10; refine (l1In_any _ _ _ _).mono ?_; (first | rw [H1.out] | rw [H3.out]); rintro e w' ⟨rfl, rfl⟩) | (go_at_call 11; refine (l1All_any _ _ _ _ xs _ _ _ hr hm).mono ?_; rw [H2.out]; rintro e w' ⟨rfl, rfl⟩))
    go_ret2
    exact rets_nil rfl (by repeat (first | (with_reducible exact Below.refl _ _) | (with_reducible assumption) | (with_reducible refine bl_alloc ?_ _) | (with_reducible refine bl_drew ?_) | (with_reducible refine bl_drewN ?_ _) | ((with_reducible refine bl_set ?_ ?hb _); (case hb => first | (simp; done) | omega | (simp; omega))) | (with_reducible refine bl_trans ?_ (by assumption)))) _ _
  · rw [h1, h2, h3] at hS
    rw [h4] at hB
    rcases hS with hS | hS | hS | hS
    · simp at hB; exact absurd hB hS
    · cases hS
    · cases hS
    · cases hS
end Go.Proofs.Ytblgeehdngejpaa
